/- One part of the proofs on this program: functions of the program as plain functions, that the code comes to them, and facts on them. -/
import Derived.Test.YtkhiiiddbmgiaaaYD1
import Derived.Test.YtkhiiiddbmgiaaaYD4
import Derived.Test.YtkhiiiddbmgiaaaYWAuto
section
namespace Go.Proofs.Ytkhiiiddbmgiaaa.P
open Go.RowKit Go.Proofs.YtkhiiiddbmgiaaaW.PrintWords Go.Proofs.YtkhiiiddbmgiaaaW.PrintLast Go.Proofs.YtkhiiiddbmgiaaaW.PrintMore
attribute [local go_sem] jea jca jsa jra jR jQ jda jba jg
set_option linter.unusedVariables false
set_option linter.unusedSimpArgs false
def jna.f (k : Nat) (s0_0 : List Int) (s0_1 : Int) : Option ((List (S78)) × Int) := (jW.f k s0_0 s0_1).bind fun bt619 => ((jf.f k s0_0 bt619.2 (bt619.1.length : Int)).bind fun bt624 => ((jf.f k s0_0 bt624.2 24).bind fun bt626 => (if bt626.1 = 0 then ((jcb.f k s0_0 bt626.2 (([(⟨#[]⟩ : ByteArray), (⟨#[97, 110, 121]⟩ : ByteArray), (⟨#[65]⟩ : ByteArray), (⟨#[116, 111, 111, 108, 111, 110, 103]⟩ : ByteArray)] : List ByteArray))).bind fun bt631 => (if 0 ≤ bt624.1 then (if bt624.1 < (bt619.1.length : Int) then (some ((bt619.1.set (bt624.1 : Int).toNat (⟨bt631.1, (jaa bt619.1 bt624.1).f1⟩ : S78)), bt631.2)) else (none)) else (none))) else (if bt626.1 = 1 then ((jh.f k s0_0 bt626.2 (([bt624.1, (-1), 8, (-2)] : List Int))).bind fun bt637 => (if 0 ≤ bt624.1 then (if bt624.1 < (bt619.1.length : Int) then (some ((bt619.1.set (bt624.1 : Int).toNat (⟨(jaa bt619.1 bt624.1).f0, bt637.1⟩ : S78)), bt637.2)) else (none)) else (none))) else (if bt626.1 = 2 then (some (([] : List (S78)), bt626.2)) else (some (bt619.1, bt626.2)))))))
def jna.T5 : Bool × List (List Nat × List Nat) := (true, [([], []), ([0], [0]), ([], []), ([], []), ([], []), ([3, 4], [3, 4]), ([1, 2, 0, 1, 2, 3, 4, 5], [1, 2]), ([6, 0, 1, 2, 3, 4, 5], [6]), ([7, 5, 5, 0, 1, 2, 3, 4, 5], [5, 7])])
def jna.B5 : List Nat := [0, 1, 0, 0, 0, 24, 63, 127, 255]
theorem jna.tab5 : rtab .any (opsOf Try.f74 5) = jna.T5 := by kernel_rfl
theorem jna.bits5 : jCc jna.T5.2 jna.B5 = true := by kernel_rfl
def jna.T7 : Bool × List (List Nat × List Nat) := (true, [([], []), ([0], [0]), ([], []), ([], []), ([], []), ([4], [4]), ([3, 5], [3, 5]), ([1, 2, 0, 1, 2, 3, 4, 5, 6], [1, 2]), ([7, 0, 1, 2, 3, 4, 5, 6], [7]), ([8, 6, 6, 0, 1, 2, 3, 4, 5, 6], [6, 8])])
def jna.B7 : List Nat := [0, 1, 0, 0, 0, 16, 56, 127, 255, 511]
theorem jna.tab7 : rtab .any (opsOf Try.f74 7) = jna.T7 := by kernel_rfl
theorem jna.bits7 : jCc jna.T7.2 jna.B7 = true := by kernel_rfl
set_option maxHeartbeats 8000000 in
set_option maxRecDepth 100000 in
theorem jna.calls (k : Nat) (g : Nat) (s0_0 : List Int) (s0_1 : Int) (r1 : List (S78)) (r2 : Int) (w0 w : World) (hI : je w0 w g s0_0 s0_1) (hB : Below w0.heap.size w0 w) (h : jna.f k s0_0 s0_1 = some (r1, r2)) :
  Calls Try.prog 74 #[.pointer (some ⟨g,0,none⟩)] w fun e w'=>∃ v0_:Value,e=.returned (.agg #[v0_])∧Kd.R k78 78 w' w.heap.size (fun _=>True) v0_ r1∧je w0 w' g s0_0 r2∧Below w0.heap.size w0 w'∧jb w w' g none:=by
 have hu32:=Try.underlying32
 have HI0:=am hI
 have HK:=am (jb.refl w g none)
 have HL:=am hB.size
 clear hI
 have HW0:=am hB.size
 have HB:=am hB
 clear hB
 have H:((jW.f k s0_0 s0_1).bind fun bt619=>((jf.f k s0_0 bt619.2 (bt619.1.length:Int)).bind fun bt624=>((jf.f k s0_0 bt624.2 24).bind fun bt626=>(if bt626.1=0 then ((jcb.f k s0_0 bt626.2 (([(⟨#[]⟩:ByteArray),(⟨#[97,110,121]⟩:ByteArray),(⟨#[65]⟩:ByteArray),(⟨#[116,111,111,108,111,110,103]⟩:ByteArray)]:List ByteArray))).bind fun bt631=>(if 0≤bt624.1 then (if bt624.1<(bt619.1.length:Int) then (some ((bt619.1.set (bt624.1:Int).toNat (⟨bt631.1,(jaa bt619.1 bt624.1).f1⟩:S78)),bt631.2)) else (none)) else (none))) else (if bt626.1=1 then ((jh.f k s0_0 bt626.2 (([bt624.1,(-1),8,(-2)]:List Int))).bind fun bt637=>(if 0≤bt624.1 then (if bt624.1<(bt619.1.length:Int) then (some ((bt619.1.set (bt624.1:Int).toNat (⟨(jaa bt619.1 bt624.1).f0,bt637.1⟩:S78)),bt637.2)) else (none)) else (none))) else (if bt626.1=2 then (some (([]:List (S78)),bt626.2)) else (some (bt619.1,bt626.2))))))))=some (r1,r2):=h
 clear h
 replace H:=bzS H
 obtain ⟨⟨t619,t622⟩,A20,H⟩:=H
 replace H:((jf.f k s0_0 t622 (t619.length:Int)).bind fun bt624=>((jf.f k s0_0 bt624.2 24).bind fun bt626=>(if bt626.1=0 then ((jcb.f k s0_0 bt626.2 (([(⟨#[]⟩:ByteArray),(⟨#[97,110,121]⟩:ByteArray),(⟨#[65]⟩:ByteArray),(⟨#[116,111,111,108,111,110,103]⟩:ByteArray)]:List ByteArray))).bind fun bt631=>(if 0≤bt624.1 then (if bt624.1<(t619.length:Int) then (some ((t619.set (bt624.1:Int).toNat (⟨bt631.1,(jaa t619 bt624.1).f1⟩:S78)),bt631.2)) else (none)) else (none))) else (if bt626.1=1 then ((jh.f k s0_0 bt626.2 (([bt624.1,(-1),8,(-2)]:List Int))).bind fun bt637=>(if 0≤bt624.1 then (if bt624.1<(t619.length:Int) then (some ((t619.set (bt624.1:Int).toNat (⟨(jaa t619 bt624.1).f0,bt637.1⟩:S78)),bt637.2)) else (none)) else (none))) else (if bt626.1=2 then (some (([]:List (S78)),bt626.2)) else (some (t619,bt626.2)))))))=some (r1,r2):=H
 have A2:=am A20
 clear A20
 replace H:=bzS H
 obtain ⟨⟨t624,t625⟩,A30,H⟩:=H
 replace H:((jf.f k s0_0 t625 24).bind fun bt626=>(if bt626.1=0 then ((jcb.f k s0_0 bt626.2 (([(⟨#[]⟩:ByteArray),(⟨#[97,110,121]⟩:ByteArray),(⟨#[65]⟩:ByteArray),(⟨#[116,111,111,108,111,110,103]⟩:ByteArray)]:List ByteArray))).bind fun bt631=>(if 0≤t624 then (if t624<(t619.length:Int) then (some ((t619.set (t624:Int).toNat (⟨bt631.1,(jaa t619 t624).f1⟩:S78)),bt631.2)) else (none)) else (none))) else (if bt626.1=1 then ((jh.f k s0_0 bt626.2 (([t624,(-1),8,(-2)]:List Int))).bind fun bt637=>(if 0≤t624 then (if t624<(t619.length:Int) then (some ((t619.set (t624:Int).toNat (⟨(jaa t619 t624).f0,bt637.1⟩:S78)),bt637.2)) else (none)) else (none))) else (if bt626.1=2 then (some (([]:List (S78)),bt626.2)) else (some (t619,bt626.2))))))=some (r1,r2):=H
 have A3:=am A30
 clear A30
 replace H:=bzS H
 obtain ⟨⟨t626,t627⟩,A40,H⟩:=H
 replace H:(if t626=0 then ((jcb.f k s0_0 t627 (([(⟨#[]⟩:ByteArray),(⟨#[97,110,121]⟩:ByteArray),(⟨#[65]⟩:ByteArray),(⟨#[116,111,111,108,111,110,103]⟩:ByteArray)]:List ByteArray))).bind fun bt631=>(if 0≤t624 then (if t624<(t619.length:Int) then (some ((t619.set (t624:Int).toNat (⟨bt631.1,(jaa t619 t624).f1⟩:S78)),bt631.2)) else (none)) else (none))) else (if t626=1 then ((jh.f k s0_0 t627 (([t624,(-1),8,(-2)]:List Int))).bind fun bt637=>(if 0≤t624 then (if t624<(t619.length:Int) then (some ((t619.set (t624:Int).toNat (⟨(jaa t619 t624).f0,bt637.1⟩:S78)),bt637.2)) else (none)) else (none))) else (if t626=2 then (some (([]:List (S78)),t627)) else (some (t619,t627)))))=some (r1,r2):=H
 have A4:=am A40
 clear A40
 by_cases c5:t626=0
 ·rw [if_pos c5] at H
  have c5b0:(t626 == 0)=true:=beq_iff_eq.mpr c5
  have c5b1:(t626 != 0)=false:=bne_eq_false_iff_eq.mpr c5
  clear c5
  obtain ⟨y628,hy628⟩:∃ y_:List ByteArray,y_=(([(⟨#[]⟩:ByteArray),(⟨#[97,110,121]⟩:ByteArray),(⟨#[65]⟩:ByteArray),(⟨#[116,111,111,108,111,110,103]⟩:ByteArray)]:List ByteArray)):=⟨_,rfl⟩
  replace H:((jcb.f k s0_0 t627 y628).bind fun bt631=>(if 0≤t624 then (if t624<(t619.length:Int) then (some ((t619.set (t624:Int).toNat (⟨bt631.1,(jaa t619 t624).f1⟩:S78)),bt631.2)) else (none)) else (none)))=some (r1,r2):=by first |(rw [hy628];with_reducible exact H) |(have H2_:=(Option.bind_some _ _).symm.trans H;rw [hy628];with_reducible exact H2_) |(have H2_:=(Option.bind_some _ _).symm.trans H;with_reducible exact H2_) | with_reducible exact H |(rw [hy628];exact H) | exact H
  have Ny628:=am hy628
  clear hy628
  replace H:=bzS H
  obtain ⟨⟨t631,t632⟩,A60,H⟩:=H
  replace H:(if 0≤t624 then (if t624<(t619.length:Int) then (some ((t619.set (t624:Int).toNat (⟨t631,(jaa t619 t624).f1⟩:S78)),t632)) else (none)) else (none))=some (r1,r2):=H
  have A6:=am A60
  clear A60
  by_cases c7:0≤t624
  ·rw [if_pos c7] at H
   have c7b0:decide (0≤t624)=true:=dzT c7
   clear c7
   by_cases c8:t624<(t619.length:Int)
   ·rw [if_pos c8] at H
    have c8b0:decide (t624<(t619.length:Int))=true:=dzT c8
    clear c8
    obtain ⟨y633,hy633⟩:∃ y_:List (S78),y_=(t619.set (t624:Int).toNat (⟨t631,(jaa t619 t624).f1⟩:S78)):=⟨_,rfl⟩
    replace H:(some (y633,t632))=some (r1,r2):=by first |(rw [hy633];with_reducible exact H) |(have H2_:=(Option.bind_some _ _).symm.trans H;rw [hy633];with_reducible exact H2_) |(have H2_:=(Option.bind_some _ _).symm.trans H;with_reducible exact H2_) | with_reducible exact H |(rw [hy633];exact H) | exact H
    have Ny633:=am hy633
    clear hy633
    simp only [Option.some.injEq,Prod.mk.injEq] at H
    obtain ⟨rfl,rfl⟩:=H
    go_enter Try.func74,Try.ntmps74
    try go_wp2_with (first |((with_reducible refine jP (N:=2) rfl ?_);refine bE (N:=2) (cs:=#[.slice none 0 0]) (t:=32) ?_;intro gb618 hg w10 hbox hb;have BK618:=am (hbox);have GW618:=am ((Y12:w.heap.size≤gb618));have GE618:=am ((Nat.le_trans HW0.out (Y12:w.heap.size≤gb618):w0.heap.size≤gb618));have NB0_618:=am ((Y28:g≠gb618));have NB618_0:=am ((Y29:gb618≠g));replace HK:=am (jb.trans (Y16) (jb.of_below hb g none) (.inl rfl));replace HB:=am (ji (Y17) hb);replace HI0:=am (je.below (Y15) hb);clear hb hbox hg) |((with_reducible refine jd (f:=97) rfl ?_);refine gL (some 6) Try.func97 #[.pointer (some ⟨g,0,none⟩)] ?_;(with_reducible refine (jW.calls k g s0_0 s0_1 t619 t622 w0 _ ?side1 ?side2 A2.out).mono ?_);(case side1=>exact Y45);(case side2=>exact Y46);rintro e w11 ⟨v620,rfl,ho0,hi,hb,hk⟩;refine ⟨_,rfl,?_⟩;have HO621:=am (Kd.jfa ho0 (jL (w:=w) (g:=g) (row:=none) (Y35)));replace BK618:=am (jb.blk hk (g':=gb618) (o:=.cells #[.slice none 0 0] 32 (0,0)) (kq BK618.out) NB618_0.out (by simp));replace HK:=am (jb.trans (Y35) hk (.inl rfl));replace HB:=am (hb);replace HI0:=am (hi);(try clear hb);(try clear hb2);(try clear hk);(try clear hi);(try clear ho0)) |((with_reducible refine jP (N:=3) rfl ?_);refine bE (N:=3) (cs:=#[.slice none 0 0]) (t:=32) ?_;intro gb623 hg w12 hbox hb;have BK623:=am (hbox);have GW623:=am ((Y47:w.heap.size≤gb623));have GE623:=am ((Nat.le_trans HW0.out (Y47:w.heap.size≤gb623):w0.heap.size≤gb623));have NB618_623:=am ((Y67:gb618≠gb623));have NB623_618:=am ((Y68:gb623≠gb618));have NB0_623:=am ((Y69:g≠gb623));have NB623_0:=am ((Y70:gb623≠g));replace HO621:=am (Kd.jqa (rq HO621.out) hb);replace BK618:=am (jr (g:=gb618) (o:=.cells #[.slice none 0 0] 32 (0,0)) (kq BK618.out) hb);replace HK:=am (jb.trans (Y35) (jb.of_below hb g none) (.inl rfl));replace HB:=am (ji (Y46) hb);replace HI0:=am (je.below (Y45) hb);clear hb hbox hg;obtain ⟨Ao13,co13,eo13⟩:=Kd.jta HO621.out;subst eo13;have hnb14:=NB623_618.out;have hnc14:=NB618_623.out;have hnb15:=NB623_0.out;have hnc15:=NB0_623.out;have hcz16_0:=bc0 BK623.out;have hfz16_0:=ja BK623.out 0) |((with_reducible refine jd (f:=76) rfl ?_);refine gL (some 11) Try.func76 #[.pointer (some ⟨g,0,none⟩), .int .i64 (t619.length:Int)] ?_;(with_reducible refine (jf.calls k g s0_0 t622 (t619.length:Int) t624 t625 w0 _ ?side1 ?side2 A3.out).mono ?_);(case side1=>exact Y13);(case side2=>exact Y27);rintro e w17 ⟨rfl,hi,hb,hk⟩;refine ⟨_,rfl,?_⟩;replace BK618:=am (jb.blk hk (g':=gb618) (o:=.cells #[.slice none 0 0] 32 (0,0)) (Y71) NB618_0.out (by simp));replace HO621:=am (Kd.jG (Kd.jBa (je.apart (show je w0 _ g s0_0 t622 from Y13) (by (with_reducible repeat (first | apply Kd.jma | apply Kd.jla | apply Kd.jva));exact (Kd.jG (Kd.jLb (p:=⟨gb623,0,none⟩) (Kd.jQa HO621.out BK623.out (by decide)) (fun _ hk=>hk.2) (.slice Ao13 t619.length co13)) (fun _ h_=>h_.1))) (by decide)) hk (fun _ h=>h.2)) (fun _ h=>h.1));replace BK623:=am (jb.blk hk (g':=gb623) (o:=.cells #[.slice Ao13 t619.length co13] 32 (0,0)) (Y72) NB623_0.out (by simp));replace HK:=am (jb.trans (Y24) hk (.inl rfl));replace HB:=am (hb);replace HI0:=am (hi);(try clear hb);(try clear hb2);(try clear hk);(try clear hi)) |((with_reducible refine jd (f:=76) rfl ?_);refine gL (some 13) Try.func76 #[.pointer (some ⟨g,0,none⟩), .int .i64 24] ?_;(with_reducible refine (jf.calls k g s0_0 t625 24 t626 t627 w0 _ ?side1 ?side2 A4.out).mono ?_);(case side1=>exact Y13);(case side2=>exact Y27);rintro e w18 ⟨rfl,hi,hb,hk⟩;refine ⟨_,rfl,?_⟩;replace BK618:=am (jb.blk hk (g':=gb618) (o:=.cells #[.slice none 0 0] 32 (0,0)) (kq BK618.out) NB618_0.out (by simp));replace HO621:=am (Kd.jG (Kd.jBa (je.apart (show je w0 _ g s0_0 t625 from Y13) (rq HO621.out) (by decide)) hk (fun _ h=>h.2)) (fun _ h=>h.1));replace BK623:=am (jb.blk hk (g':=gb623) (o:=.cells #[.slice Ao13 t619.length co13] 32 (0,0)) (kq BK623.out) NB623_0.out (by simp));replace HK:=am (jb.trans (Y24) hk (.inl rfl));replace HB:=am (hb);replace HI0:=am (hi);(try clear hb);(try clear hb2);(try clear hk);(try clear hi)))
    replace HO621:=am (Kd.jva HO621.out)
    replace BK618:=am (jD BK618.out)
    replace BK623:=am (jD BK623.out)
    replace HI0:=am (je.drew HI0.out)
    replace HK:=am (jUa HK.out)
    replace HB:=am (jO HB.out)
    refine start_ (n:=9) (S:=fun w'=>w'.cell? ⟨gb623,0,none⟩=some (.slice Ao13 t619.length co13)) (ds:=[8]) #[false,false,false,false,false,false,false,false,false] (by kernel_rfl) rfl rfl ((jJ BK623.out 0).trans rfl) (fun hHeld=>?_);refine jFc jna.tab5 jna.bits5 (fun HT_ HW_=>?_)
    generalize w18.drew=w19 at HO621 BK618 BK623 HI0 HK HB hHeld ⊢
    refine pq (i:=0) (N:=some 16) #[true,false,false,false,false,false,false,false,false] ?_
    refine pq (i:=2) (N:=some 18) #[true,false,true,false,false,false,false,false,false] ?_
    refine pq (i:=3) (N:=some 19) #[true,false,true,true,false,false,false,false,false] ?_
    refine take_ (i:=1) (N:=some 17) (v:=?_) (a':=?_) #[true,true,true,true,false,false,false,false,false] rfl rfl (jdc HT_.out HW_.out (by kernel_rfl)) (fun _ _ _ h=>h) (Or.inl ⟨by rfl,?_⟩) hHeld ?_ ?_
    rotate_left
    ·intro w' s0
     go_simp
     with_reducible rfl
    rotate_left
    ·exact sa
    refine one_ (i:=4) (N:=some 20) #[true,true,true,true,true,false,false,false,false] rfl rfl (jXb HT_.out (by kernel_rfl)) (by decide) (fun K hK=>?_)
    refine Kd.jkc Kd.string _ 9 ?hg (N:=20) ?hd (xs:=([(⟨#[]⟩:ByteArray),(⟨#[97,110,121]⟩:ByteArray),(⟨#[65]⟩:ByteArray),(⟨#[116,111,111,108,111,110,103]⟩:ByteArray)]:List ByteArray)) (inner:=[.string (⟨#[]⟩:ByteArray), .string (⟨#[97,110,121]⟩:ByteArray), .string (⟨#[65]⟩:ByteArray), .string (⟨#[116,111,111,108,111,110,103]⟩:ByteArray)]) (ok:=fun _=>True) (okp:=fun _=>True) ?hr ?hp (fun _ hk=>hk) trivial (Below.refl _ _) (Nat.le_refl _) (by simp) ?_;(case hd=>rfl);(case hg=>rfl);(case hr=>exact Y8);(case hp=>exact (Reps.one (show Kd.M Kd.string _ _ _ (⟨#[]⟩:ByteArray) [.string (⟨#[]⟩:ByteArray)] from rfl) (Reps.one (show Kd.M Kd.string _ _ _ (⟨#[97,110,121]⟩:ByteArray) [.string (⟨#[97,110,121]⟩:ByteArray)] from rfl) (Reps.one (show Kd.M Kd.string _ _ _ (⟨#[65]⟩:ByteArray) [.string (⟨#[65]⟩:ByteArray)] from rfl) (Reps.one (show Kd.M Kd.string _ _ _ (⟨#[116,111,111,108,111,110,103]⟩:ByteArray) [.string (⟨#[116,111,111,108,111,110,103]⟩:ByteArray)] from rfl) (Reps.none _ _))))))
    intro v629 w20 ho21 hb hg_ hnew_
    clear hg_ hnew_
    (first | rw [← Ny628.out] at ho21 |(simp only [Int.reduceToNat] at ho21;rw [← Ny628.out] at ho21))
    have HO630:=am (Kd.jfa ho21 (jL (w:=w) (g:=g) (row:=none) (Y24)))
    replace HO621:=am (Kd.jqa (rq HO621.out) hb)
    replace BK618:=am (jr (g:=gb618) (o:=.cells #[.slice none 0 0] 32 (0,0)) (kq BK618.out) hb)
    replace BK623:=am (jr (g:=gb623) (o:=.cells #[.slice Ao13 t619.length co13] 32 (0,0)) (kq BK623.out) hb)
    replace HK:=am (jb.trans (Y24) (jb.of_below hb g none) (.inl rfl))
    replace HB:=am (ji (Y27) hb)
    replace HI0:=am (je.below (Y13) hb)
    clear hb ho21
    obtain ⟨Ao22,co22,eo22⟩:=Kd.jta HO630.out
    (first | subst eo22 |(injection eo22 with f1_ f2_ f3_;have f4_:=f1_.symm;have f5_:=f3_.symm;clear f1_ f2_ f3_;subst f4_;subst f5_))
    refine hK.out _ _ ((jJ BK623.out 0).trans rfl) (fun hHeld=>?_)
    clear hK K
    refine jfc (a':=?_) ?_ ?_
    rotate_left
    ·show Act.put _ (some 20) _=_
     simp only [Act.put,List.setIfInBounds_toArray,List.set_cons_zero,List.set_cons_succ,jkb,jnb]
     rfl
    refine one_ (i:=5) (N:=some 21) #[true,true,true,true,true,true,false,false,false] rfl rfl (jXb HT_.out (by kernel_rfl)) (by decide) (fun K hK=>?_)
    refine goes_ Try.func98 (by kernel_rfl) rfl #[.pointer (some ⟨g,0,none⟩), .slice Ao22 y628.length co22] (by rfl) rfl rfl (aq) ?_
    with_reducible refine (jcb.calls k g s0_0 t627 _ _ y628 t631 t632 w0 _ ?side1 ?side2 ?side3 ?side4 ?side5 A6.out).mono ?_
    (case side1=>exact Y13)
    (case side2=>exact Y27)
    (case side3=>exact cq (Kd.jC HO630.out).2.2)
    (case side4=>exact (Kd.jC HO630.out).2.1)
    (case side5=>exact jxb (je.own_ne HI0.out HO630.out (by decide)))
    rintro e w23 ⟨rfl,hi,hb,hk⟩
    refine ⟨_,rfl,?_⟩
    replace BK618:=am (jb.blk hk (g':=gb618) (o:=.cells #[.slice none 0 0] 32 (0,0)) (kq BK618.out) NB618_0.out (by simp))
    replace HO621:=am (Kd.jG (Kd.jBa (je.apart (show je w0 _ g s0_0 t627 from Y13) (rq HO621.out) (by decide)) hk (fun _ h=>h.2)) (fun _ h=>h.1))
    replace BK623:=am (jb.blk hk (g':=gb623) (o:=.cells #[.slice Ao13 t619.length co13] 32 (0,0)) (kq BK623.out) NB623_0.out (by simp))
    replace HO630:=am (Kd.jG (Kd.jBa (je.apart (show je w0 _ g s0_0 t627 from Y13) (rq HO630.out) (by decide)) hk (fun _ h=>h.2)) (fun _ h=>h.1))
    replace HK:=am (jb.trans (Y24) hk (.inl rfl))
    replace HB:=am (hb)
    replace HI0:=am (hi)
    (try clear hb)
    (try clear hb2)
    (try clear hk)
    (try clear hi)
    have p9:0≤(t624:Int):=ozD (uq)
    have q9:(t624:Int)<((t619.length:Int):Int):=ozD (uq)
    obtain ⟨go9,co9,eo9,gb9,gl9,cl9,HG9⟩:=Kd.R_form HO621.out (by omega)
    (first | cases eo9 |(injection eo9 with ea_ en_ ec_;(first | subst ea_ |(injection ea_ with ea_;subst ea_));subst ec_;clear en_))
    have GB9:=am gb9
    have GG9:=am HG9
    clear gb9 gl9 HG9
    obtain ⟨ce9,hcl9,hM9,hcc9,hfr9⟩:=Kd.R_elem HO621.out z78 (t624:Int) p9 q9
    obtain rfl:=k78_openM hM9
    have hx9_0:World.cell? _ ⟨go9,(t624:Int).toNat * 2,none⟩=some (.string ((jaa t619 t624).f0)):=hcc9 0 _ rfl
    have hx9_1:World.cell? _ ⟨go9,(t624:Int).toNat * 2+1,none⟩=some (.int .i64 ((jaa t619 t624).f1)):=hcc9 1 _ rfl
    have hf9_0:World.frozen? _ ⟨go9,(t624:Int).toNat * 2,none⟩=false:=hfr9 0
    have hf9_1:World.frozen? _ ⟨go9,(t624:Int).toNat * 2+1,none⟩=false:=hfr9 1
    clear hcl9 hcc9 hfr9 hM9
    replace p9:=ezT p9
    replace q9:=ezT q9
    have HN0_go9:=am (show g≠go9 from by have h_:=je.own_ne HI0.out HO621.out (by decide);intro e_;exact h_ (by rw [e_];rfl))
    obtain ⟨ce24,hcl24,hM24,hcc24,hfr24⟩:=Kd.R_elem HO621.out z78 (t624:Int) (ozD (uq)) (by have h_:(t624:Int)<((t619.length:Int):Int):=ozD (uq);first | exact h_ |(have e_:=(Kd.jC HO621.out).1;omega) | simpa using h_)
    obtain rfl:=k78_openM hM24
    have HP24:=(Kd.R_seg HO621.out (t624:Int) (ozD (uq)) (by have h_:(t624:Int)<((t619.length:Int):Int):=ozD (uq);first | exact h_ |(have e_:=(Kd.jC HO621.out).1;omega) | simpa using h_) (seg:=[.string t631]) (j:=0) hcl24 hcc24 (show 1≤2 from by decide) (x':=(⟨t631,(jaa t619 t624).f1⟩:S78)) (k78_mkM _ _ _ (⟨t631,(jaa t619 t624).f1⟩:S78) ) (fun _ hk=>hk)).1
    rw [← Ny633.out] at HP24
    have HQ24:=am HP24
    clear hcl24 hcc24 hfr24 hM24 HP24
    refine hK.out _ _ ((jJ BK623.out 0).trans rfl) (fun hHeld=>?_)
    clear hK K
    refine jfc (a':=?_) ?_ ?_
    rotate_left
    ·show Act.put _ (some 21) _=_
     simp only [Act.put,List.setIfInBounds_toArray,List.set_cons_zero,List.set_cons_succ,jkb,jnb]
     rfl
    refine pq (i:=6) (N:=some 22) #[true,true,true,true,true,true,true,false,false] ?_
    refine pq (i:=7) (N:=some 23) #[true,true,true,true,true,true,true,true,false] ?_
    refine last_ (i:=8) (N:=none) #[true,true,true,true,true,true,true,true,true] rfl rfl (jXb HT_.out (by kernel_rfl)) (by decide) (fun K hK=>?_)
    refine skip_ (w1:=?_) (by rfl) rfl ?_ ?_
    rotate_left
    ·go_simp
     rfl
    refine hK.out _ _ ?_
    clear hK K
    refine done_ (done_of HT_.out (by kernel_rfl)) ?_
    have n0_:jl (Kd.R k78 78 (w23.setCell ⟨go9,(t624:Int).toNat * 2,none⟩ (.string t631)) w.heap.size (fun _=>True) (.slice (some ⟨go9,0,none⟩) t619.length co13) y633):=⟨rq HQ24.out⟩
    have n1_:jl (Kd.R Kd.string 9 (w23.setCell ⟨go9,(t624:Int).toNat * 2,none⟩ (.string t631)) w.heap.size (fun _=>True) (.slice Ao22 y628.length co22) y628):=⟨by (with_reducible repeat (first | apply Kd.jma | apply Kd.jla | apply Kd.jva));exact Kd.jG (Kd.jLb (p:=⟨go9,(t624:Int).toNat * 2,none⟩) (Kd.jQa HO630.out GG9.out (by decide)) (fun _ hk=>hk.2) (.string t631)) (fun _ hk=>trivial)⟩
    have n2_:jl ((w23.setCell ⟨go9,(t624:Int).toNat * 2,none⟩ (.string t631)).heap[gb618]?=some (.cells #[.slice none 0 0] 32 (0,0))):=⟨by (with_reducible repeat (first | refine jv ?_ _ | refine jD ?_ | refine jA ?_ _));refine jib ?_ (by have h_:=Kd.R_ne HO621.out BK618.out (by decide);intro e_;exact h_ (by rw [e_];rfl)) _;(with_reducible repeat (first | refine jv ?_ _ | refine jD ?_ | refine jA ?_ _));exact BK618.out⟩
    have n3_:jl ((w23.setCell ⟨go9,(t624:Int).toNat * 2,none⟩ (.string t631)).heap[gb623]?=some (.cells #[.slice (some ⟨go9,0,none⟩) t619.length co13] 32 (0,0))):=⟨by (with_reducible repeat (first | refine jv ?_ _ | refine jD ?_ | refine jA ?_ _));refine jib ?_ (by have h_:=Kd.R_ne HO621.out BK623.out (by decide);intro e_;exact h_ (by rw [e_];rfl)) _;(with_reducible repeat (first | refine jv ?_ _ | refine jD ?_ | refine jA ?_ _));exact BK623.out⟩
    have n4_:jl (je w0 (w23.setCell ⟨go9,(t624:Int).toNat * 2,none⟩ (.string t631)) g s0_0 t632):=⟨by repeat (first |(with_reducible first | exact HI0.out | apply je.alloc | apply je.drewN | apply je.drew | apply je.joc | refine je.far ?_ HN0_go9.out _ | refine je.far ?_ NB0_618.out _ | refine je.far ?_ NB0_623.out _) | exact HI0.out)⟩
    have n5_:jl (jb w (w23.setCell ⟨go9,(t624:Int).toNat * 2,none⟩ (.string t631)) g none):=⟨by repeat (first |(with_reducible first | exact HK.out | apply jb.set_ | apply jZa | apply jUa | apply jab | refine jeb ?_ GB9.out _ | refine jeb ?_ GW618.out _ | refine jeb ?_ GW623.out _) | exact HK.out)⟩
    have n6_:jl (Below w0.heap.size w0 (w23.setCell ⟨go9,(t624:Int).toNat * 2,none⟩ (.string t631))):=⟨by repeat (first |(with_reducible first | exact HB.out | apply jN | apply jm | apply jO | refine jS ?_ (Nat.le_trans HL.out GB9.out) | refine jS ?_ (je.ge HI0.out) | refine jS ?_ GE618.out | refine jS ?_ GE623.out) | exact HB.out)⟩
    (try clear HO621)
    (try clear HO630)
    (try clear BK618)
    (try clear BK623)
    (try clear HI0)
    (try clear HK)
    (try clear HB)
    generalize (w23.setCell ⟨go9,(t624:Int).toNat * 2,none⟩ (.string t631))=w25 at n0_ n1_ n2_ n3_ n4_ n5_ n6_ ⊢
    have HO621:=n0_
    have HO630:=n1_
    have BK618:=n2_
    have BK623:=n3_
    have HI0:=n4_
    have HK:=n5_
    have HB:=n6_
    clear n0_ n1_ n2_ n3_ n4_ n5_ n6_
    have hcz26_0:=bc0 BK623.out
    have hfz26_0:=ja BK623.out 0
    have hnb27:=NB618_0.out
    have hnc27:=NB0_618.out
    have hcz28_0:=bc0 BK618.out
    have hfz28_0:=ja BK618.out 0
    try go_wp2
    refine bodyPost_ret (results_cell_row rfl _ _ gb618 32 #[.slice (some ⟨go9,0,none⟩) t619.length co13] (0,0) _ rfl (Y73) Try.underlying32 rfl (by kernel_rfl)) rfl ?_
    exact ⟨_,Y0,by (with_reducible repeat (first | apply Kd.jma | apply Kd.jla | apply Kd.jva));exact Kd.jG (Kd.jLb (p:=⟨gb618,0,none⟩) (Kd.jQa HO621.out BK618.out (by decide)) (fun _ hk=>hk.2) (.slice (some ⟨go9,0,none⟩) t619.length co13)) (fun _ hk=>trivial),Y13,Y27,Y24⟩
   ·rw [if_neg c8] at H
    exact absurd H (by simp)
  ·rw [if_neg c7] at H
   exact absurd H (by simp)
 ·rw [if_neg c5] at H
  have c5b0:(t626 == 0)=false:=beq_eq_false_iff_ne.mpr c5
  have c5b1:(t626 != 0)=true:=bne_iff_ne.mpr c5
  by_cases c29:t626=1
  ·rw [if_pos c29] at H
   have c29b0:(t626 == 1)=true:=beq_iff_eq.mpr c29
   have c29b1:(t626 != 1)=false:=bne_eq_false_iff_eq.mpr c29
   clear c29
   obtain ⟨y634,hy634⟩:∃ y_:List Int,y_=(([t624,(-1),8,(-2)]:List Int)):=⟨_,rfl⟩
   replace H:((jh.f k s0_0 t627 y634).bind fun bt637=>(if 0≤t624 then (if t624<(t619.length:Int) then (some ((t619.set (t624:Int).toNat (⟨(jaa t619 t624).f0,bt637.1⟩:S78)),bt637.2)) else (none)) else (none)))=some (r1,r2):=by first |(rw [hy634];with_reducible exact H) |(have H2_:=(Option.bind_some _ _).symm.trans H;rw [hy634];with_reducible exact H2_) |(have H2_:=(Option.bind_some _ _).symm.trans H;with_reducible exact H2_) | with_reducible exact H |(rw [hy634];exact H) | exact H
   have Ny634:=am hy634
   clear hy634
   replace H:=bzS H
   obtain ⟨⟨t637,t638⟩,A300,H⟩:=H
   replace H:(if 0≤t624 then (if t624<(t619.length:Int) then (some ((t619.set (t624:Int).toNat (⟨(jaa t619 t624).f0,t637⟩:S78)),t638)) else (none)) else (none))=some (r1,r2):=H
   have A30:=am A300
   clear A300
   by_cases c31:0≤t624
   ·rw [if_pos c31] at H
    have c31b0:decide (0≤t624)=true:=dzT c31
    clear c31
    by_cases c32:t624<(t619.length:Int)
    ·rw [if_pos c32] at H
     have c32b0:decide (t624<(t619.length:Int))=true:=dzT c32
     clear c32
     obtain ⟨y639,hy639⟩:∃ y_:List (S78),y_=(t619.set (t624:Int).toNat (⟨(jaa t619 t624).f0,t637⟩:S78)):=⟨_,rfl⟩
     replace H:(some (y639,t638))=some (r1,r2):=by first |(rw [hy639];with_reducible exact H) |(have H2_:=(Option.bind_some _ _).symm.trans H;rw [hy639];with_reducible exact H2_) |(have H2_:=(Option.bind_some _ _).symm.trans H;with_reducible exact H2_) | with_reducible exact H |(rw [hy639];exact H) | exact H
     have Ny639:=am hy639
     clear hy639
     simp only [Option.some.injEq,Prod.mk.injEq] at H
     obtain ⟨rfl,rfl⟩:=H
     go_enter Try.func74,Try.ntmps74
     try go_wp2_with (first |((with_reducible refine jP (N:=2) rfl ?_);refine bE (N:=2) (cs:=#[.slice none 0 0]) (t:=32) ?_;intro gb618 hg w34 hbox hb;have BK618:=am (hbox);have GW618:=am ((Y12:w.heap.size≤gb618));have GE618:=am ((Nat.le_trans HW0.out (Y12:w.heap.size≤gb618):w0.heap.size≤gb618));have NB0_618:=am ((Y28:g≠gb618));have NB618_0:=am ((Y29:gb618≠g));replace HK:=am (jb.trans (Y16) (jb.of_below hb g none) (.inl rfl));replace HB:=am (ji (Y17) hb);replace HI0:=am (je.below (Y15) hb);clear hb hbox hg) |((with_reducible refine jd (f:=97) rfl ?_);refine gL (some 6) Try.func97 #[.pointer (some ⟨g,0,none⟩)] ?_;(with_reducible refine (jW.calls k g s0_0 s0_1 t619 t622 w0 _ ?side1 ?side2 A2.out).mono ?_);(case side1=>exact Y45);(case side2=>exact Y46);rintro e w35 ⟨v620,rfl,ho0,hi,hb,hk⟩;refine ⟨_,rfl,?_⟩;have HO621:=am (Kd.jfa ho0 (jL (w:=w) (g:=g) (row:=none) (Y35)));replace BK618:=am (jb.blk hk (g':=gb618) (o:=.cells #[.slice none 0 0] 32 (0,0)) (kq BK618.out) NB618_0.out (by simp));replace HK:=am (jb.trans (Y35) hk (.inl rfl));replace HB:=am (hb);replace HI0:=am (hi);(try clear hb);(try clear hb2);(try clear hk);(try clear hi);(try clear ho0)) |((with_reducible refine jP (N:=3) rfl ?_);refine bE (N:=3) (cs:=#[.slice none 0 0]) (t:=32) ?_;intro gb623 hg w36 hbox hb;have BK623:=am (hbox);have GW623:=am ((Y47:w.heap.size≤gb623));have GE623:=am ((Nat.le_trans HW0.out (Y47:w.heap.size≤gb623):w0.heap.size≤gb623));have NB618_623:=am ((Y67:gb618≠gb623));have NB623_618:=am ((Y68:gb623≠gb618));have NB0_623:=am ((Y69:g≠gb623));have NB623_0:=am ((Y70:gb623≠g));replace HO621:=am (Kd.jqa (rq HO621.out) hb);replace BK618:=am (jr (g:=gb618) (o:=.cells #[.slice none 0 0] 32 (0,0)) (kq BK618.out) hb);replace HK:=am (jb.trans (Y35) (jb.of_below hb g none) (.inl rfl));replace HB:=am (ji (Y46) hb);replace HI0:=am (je.below (Y45) hb);clear hb hbox hg;obtain ⟨Ao37,co37,eo37⟩:=Kd.jta HO621.out;subst eo37;have hnb38:=NB623_618.out;have hnc38:=NB618_623.out;have hnb39:=NB623_0.out;have hnc39:=NB0_623.out;have hcz40_0:=bc0 BK623.out;have hfz40_0:=ja BK623.out 0) |((with_reducible refine jd (f:=76) rfl ?_);refine gL (some 11) Try.func76 #[.pointer (some ⟨g,0,none⟩), .int .i64 (t619.length:Int)] ?_;(with_reducible refine (jf.calls k g s0_0 t622 (t619.length:Int) t624 t625 w0 _ ?side1 ?side2 A3.out).mono ?_);(case side1=>exact Y13);(case side2=>exact Y27);rintro e w41 ⟨rfl,hi,hb,hk⟩;refine ⟨_,rfl,?_⟩;replace BK618:=am (jb.blk hk (g':=gb618) (o:=.cells #[.slice none 0 0] 32 (0,0)) (Y71) NB618_0.out (by simp));replace HO621:=am (Kd.jG (Kd.jBa (je.apart (show je w0 _ g s0_0 t622 from Y13) (by (with_reducible repeat (first | apply Kd.jma | apply Kd.jla | apply Kd.jva));exact (Kd.jG (Kd.jLb (p:=⟨gb623,0,none⟩) (Kd.jQa HO621.out BK623.out (by decide)) (fun _ hk=>hk.2) (.slice Ao37 t619.length co37)) (fun _ h_=>h_.1))) (by decide)) hk (fun _ h=>h.2)) (fun _ h=>h.1));replace BK623:=am (jb.blk hk (g':=gb623) (o:=.cells #[.slice Ao37 t619.length co37] 32 (0,0)) (Y72) NB623_0.out (by simp));replace HK:=am (jb.trans (Y24) hk (.inl rfl));replace HB:=am (hb);replace HI0:=am (hi);(try clear hb);(try clear hb2);(try clear hk);(try clear hi)) |((with_reducible refine jd (f:=76) rfl ?_);refine gL (some 13) Try.func76 #[.pointer (some ⟨g,0,none⟩), .int .i64 24] ?_;(with_reducible refine (jf.calls k g s0_0 t625 24 t626 t627 w0 _ ?side1 ?side2 A4.out).mono ?_);(case side1=>exact Y13);(case side2=>exact Y27);rintro e w42 ⟨rfl,hi,hb,hk⟩;refine ⟨_,rfl,?_⟩;replace BK618:=am (jb.blk hk (g':=gb618) (o:=.cells #[.slice none 0 0] 32 (0,0)) (kq BK618.out) NB618_0.out (by simp));replace HO621:=am (Kd.jG (Kd.jBa (je.apart (show je w0 _ g s0_0 t625 from Y13) (rq HO621.out) (by decide)) hk (fun _ h=>h.2)) (fun _ h=>h.1));replace BK623:=am (jb.blk hk (g':=gb623) (o:=.cells #[.slice Ao37 t619.length co37] 32 (0,0)) (kq BK623.out) NB623_0.out (by simp));replace HK:=am (jb.trans (Y24) hk (.inl rfl));replace HB:=am (hb);replace HI0:=am (hi);(try clear hb);(try clear hb2);(try clear hk);(try clear hi)))
     replace HO621:=am (Kd.jva HO621.out)
     replace BK618:=am (jD BK618.out)
     replace BK623:=am (jD BK623.out)
     replace HI0:=am (je.drew HI0.out)
     replace HK:=am (jUa HK.out)
     replace HB:=am (jO HB.out)
     refine start_ (n:=10) (S:=fun w'=>w'.cell? ⟨gb623,0,none⟩=some (.slice Ao37 t619.length co37)) (ds:=[9]) #[false,false,false,false,false,false,false,false,false,false] (by kernel_rfl) rfl rfl ((jJ BK623.out 0).trans rfl) (fun hHeld=>?_);refine jFc jna.tab7 jna.bits7 (fun HT_ HW_=>?_)
     generalize w42.drew=w43 at HO621 BK618 BK623 HI0 HK HB hHeld ⊢
     refine pq (i:=0) (N:=some 26) #[true,false,false,false,false,false,false,false,false,false] ?_
     refine pq (i:=2) (N:=some 28) #[true,false,true,false,false,false,false,false,false,false] ?_
     refine pq (i:=3) (N:=some 29) #[true,false,true,true,false,false,false,false,false,false] ?_
     refine pq (i:=4) (N:=some 30) #[true,false,true,true,true,false,false,false,false,false] ?_
     refine take_ (i:=1) (N:=some 27) (v:=?_) (a':=?_) #[true,true,true,true,true,false,false,false,false,false] rfl rfl (jdc HT_.out HW_.out (by kernel_rfl)) (fun _ _ _ h=>h) (Or.inl ⟨by rfl,?_⟩) hHeld ?_ ?_
     rotate_left
     ·intro w' s0
      go_simp
      with_reducible rfl
     rotate_left
     ·exact sa
     refine one_ (i:=5) (N:=some 31) #[true,true,true,true,true,true,false,false,false,false] rfl rfl (jXb HT_.out (by kernel_rfl)) (by decide) (fun K hK=>?_)
     refine Kd.jkc (Kd.int .i64) _ 3 ?hg (N:=31) ?hd (xs:=([t624,(-1),8,(-2)]:List Int)) (inner:=[.int .i64 t624, .int .i64 (-1), .int .i64 8, .int .i64 (-2)]) (ok:=fun _=>True) (okp:=fun _=>True) ?hr ?hp (fun _ hk=>hk) trivial (Below.refl _ _) (Nat.le_refl _) (by simp) ?_;(case hd=>rfl);(case hg=>rfl);(case hr=>exact Y8);(case hp=>exact (Reps.one (show Kd.M (Kd.int .i64) _ _ _ t624 [.int .i64 t624] from rfl) (Reps.one (show Kd.M (Kd.int .i64) _ _ _ (-1) [.int .i64 (-1)] from rfl) (Reps.one (show Kd.M (Kd.int .i64) _ _ _ 8 [.int .i64 8] from rfl) (Reps.one (show Kd.M (Kd.int .i64) _ _ _ (-2) [.int .i64 (-2)] from rfl) (Reps.none _ _))))))
     intro v635 w44 ho45 hb hg_ hnew_
     clear hg_ hnew_
     (first | rw [← Ny634.out] at ho45 |(simp only [Int.reduceToNat] at ho45;rw [← Ny634.out] at ho45))
     have HO636:=am (Kd.jfa ho45 (jL (w:=w) (g:=g) (row:=none) (Y24)))
     replace HO621:=am (Kd.jqa (rq HO621.out) hb)
     replace BK618:=am (jr (g:=gb618) (o:=.cells #[.slice none 0 0] 32 (0,0)) (kq BK618.out) hb)
     replace BK623:=am (jr (g:=gb623) (o:=.cells #[.slice Ao37 t619.length co37] 32 (0,0)) (kq BK623.out) hb)
     replace HK:=am (jb.trans (Y24) (jb.of_below hb g none) (.inl rfl))
     replace HB:=am (ji (Y27) hb)
     replace HI0:=am (je.below (Y13) hb)
     clear hb ho45
     obtain ⟨Ao46,co46,eo46⟩:=Kd.jta HO636.out
     (first | subst eo46 |(injection eo46 with f1_ f2_ f3_;have f4_:=f1_.symm;have f5_:=f3_.symm;clear f1_ f2_ f3_;subst f4_;subst f5_))
     refine hK.out _ _ ((jJ BK623.out 0).trans rfl) (fun hHeld=>?_)
     clear hK K
     refine jfc (a':=?_) ?_ ?_
     rotate_left
     ·show Act.put _ (some 31) _=_
      simp only [Act.put,List.setIfInBounds_toArray,List.set_cons_zero,List.set_cons_succ,jkb,jnb]
      rfl
     refine one_ (i:=6) (N:=some 32) #[true,true,true,true,true,true,true,false,false,false] rfl rfl (jXb HT_.out (by kernel_rfl)) (by decide) (fun K hK=>?_)
     refine goes_ Try.func77 (by kernel_rfl) rfl #[.pointer (some ⟨g,0,none⟩), .slice Ao46 y634.length co46] (by rfl) rfl rfl (aq) ?_
     with_reducible refine (jh.calls k g s0_0 t627 _ _ y634 t637 t638 w0 _ ?side1 ?side2 ?side3 ?side4 ?side5 A30.out).mono ?_
     (case side1=>exact Y13)
     (case side2=>exact Y27)
     (case side3=>exact cq (Kd.jC HO636.out).2.2)
     (case side4=>exact (Kd.jC HO636.out).2.1)
     (case side5=>exact jxb (je.own_ne HI0.out HO636.out (by decide)))
     rintro e w47 ⟨rfl,hi,hb,hk⟩
     refine ⟨_,rfl,?_⟩
     replace BK618:=am (jb.blk hk (g':=gb618) (o:=.cells #[.slice none 0 0] 32 (0,0)) (kq BK618.out) NB618_0.out (by simp))
     replace HO621:=am (Kd.jG (Kd.jBa (je.apart (show je w0 _ g s0_0 t627 from Y13) (rq HO621.out) (by decide)) hk (fun _ h=>h.2)) (fun _ h=>h.1))
     replace BK623:=am (jb.blk hk (g':=gb623) (o:=.cells #[.slice Ao37 t619.length co37] 32 (0,0)) (kq BK623.out) NB623_0.out (by simp))
     replace HO636:=am (Kd.jG (Kd.jBa (je.apart (show je w0 _ g s0_0 t627 from Y13) (rq HO636.out) (by decide)) hk (fun _ h=>h.2)) (fun _ h=>h.1))
     replace HK:=am (jb.trans (Y24) hk (.inl rfl))
     replace HB:=am (hb)
     replace HI0:=am (hi)
     (try clear hb)
     (try clear hb2)
     (try clear hk)
     (try clear hi)
     have p33:0≤(t624:Int):=ozD (uq)
     have q33:(t624:Int)<((t619.length:Int):Int):=ozD (uq)
     obtain ⟨go33,co33,eo33,gb33,gl33,cl33,HG33⟩:=Kd.R_form HO621.out (by omega)
     (first | cases eo33 |(injection eo33 with ea_ en_ ec_;(first | subst ea_ |(injection ea_ with ea_;subst ea_));subst ec_;clear en_))
     have GB33:=am gb33
     have GG33:=am HG33
     clear gb33 gl33 HG33
     obtain ⟨ce33,hcl33,hM33,hcc33,hfr33⟩:=Kd.R_elem HO621.out z78 (t624:Int) p33 q33
     obtain rfl:=k78_openM hM33
     have hx33_0:World.cell? _ ⟨go33,(t624:Int).toNat * 2,none⟩=some (.string ((jaa t619 t624).f0)):=hcc33 0 _ rfl
     have hx33_1:World.cell? _ ⟨go33,(t624:Int).toNat * 2+1,none⟩=some (.int .i64 ((jaa t619 t624).f1)):=hcc33 1 _ rfl
     have hf33_0:World.frozen? _ ⟨go33,(t624:Int).toNat * 2,none⟩=false:=hfr33 0
     have hf33_1:World.frozen? _ ⟨go33,(t624:Int).toNat * 2+1,none⟩=false:=hfr33 1
     clear hcl33 hcc33 hfr33 hM33
     replace p33:=ezT p33
     replace q33:=ezT q33
     have HN0_go33:=am (show g≠go33 from by have h_:=je.own_ne HI0.out HO621.out (by decide);intro e_;exact h_ (by rw [e_];rfl))
     obtain ⟨ce48,hcl48,hM48,hcc48,hfr48⟩:=Kd.R_elem HO621.out z78 (t624:Int) (ozD (uq)) (by have h_:(t624:Int)<((t619.length:Int):Int):=ozD (uq);first | exact h_ |(have e_:=(Kd.jC HO621.out).1;omega) | simpa using h_)
     obtain rfl:=k78_openM hM48
     have HP48:=(Kd.R_seg HO621.out (t624:Int) (ozD (uq)) (by have h_:(t624:Int)<((t619.length:Int):Int):=ozD (uq);first | exact h_ |(have e_:=(Kd.jC HO621.out).1;omega) | simpa using h_) (seg:=[.int .i64 t637]) (j:=1) hcl48 hcc48 (show 2≤2 from by decide) (x':=(⟨(jaa t619 t624).f0,t637⟩:S78)) (k78_mkM _ _ _ (⟨(jaa t619 t624).f0,t637⟩:S78) ) (fun _ hk=>hk)).1
     rw [← Ny639.out] at HP48
     have HQ48:=am HP48
     clear hcl48 hcc48 hfr48 hM48 HP48
     refine hK.out _ _ ((jJ BK623.out 0).trans rfl) (fun hHeld=>?_)
     clear hK K
     refine jfc (a':=?_) ?_ ?_
     rotate_left
     ·show Act.put _ (some 32) _=_
      simp only [Act.put,List.setIfInBounds_toArray,List.set_cons_zero,List.set_cons_succ,jkb,jnb]
      rfl
     refine pq (i:=7) (N:=some 33) #[true,true,true,true,true,true,true,true,false,false] ?_
     refine pq (i:=8) (N:=some 34) #[true,true,true,true,true,true,true,true,true,false] ?_
     refine last_ (i:=9) (N:=none) #[true,true,true,true,true,true,true,true,true,true] rfl rfl (jXb HT_.out (by kernel_rfl)) (by decide) (fun K hK=>?_)
     refine skip_ (w1:=?_) (by rfl) rfl ?_ ?_
     rotate_left
     ·go_simp
      rfl
     refine hK.out _ _ ?_
     clear hK K
     refine done_ (done_of HT_.out (by kernel_rfl)) ?_
     have n0_:jl (Kd.R k78 78 (w47.setCell ⟨go33,(t624:Int).toNat * 2+1,none⟩ (.int .i64 t637)) w.heap.size (fun _=>True) (.slice (some ⟨go33,0,none⟩) t619.length co37) y639):=⟨rq HQ48.out⟩
     have n1_:jl (Kd.R (Kd.int .i64) 3 (w47.setCell ⟨go33,(t624:Int).toNat * 2+1,none⟩ (.int .i64 t637)) w.heap.size (fun _=>True) (.slice Ao46 y634.length co46) y634):=⟨by (with_reducible repeat (first | apply Kd.jma | apply Kd.jla | apply Kd.jva));exact Kd.jG (Kd.jLb (p:=⟨go33,(t624:Int).toNat * 2+1,none⟩) (Kd.jQa HO636.out GG33.out (by decide)) (fun _ hk=>hk.2) (.int .i64 t637)) (fun _ hk=>trivial)⟩
     have n2_:jl ((w47.setCell ⟨go33,(t624:Int).toNat * 2+1,none⟩ (.int .i64 t637)).heap[gb618]?=some (.cells #[.slice none 0 0] 32 (0,0))):=⟨by (with_reducible repeat (first | refine jv ?_ _ | refine jD ?_ | refine jA ?_ _));refine jib ?_ (by have h_:=Kd.R_ne HO621.out BK618.out (by decide);intro e_;exact h_ (by rw [e_];rfl)) _;(with_reducible repeat (first | refine jv ?_ _ | refine jD ?_ | refine jA ?_ _));exact BK618.out⟩
     have n3_:jl ((w47.setCell ⟨go33,(t624:Int).toNat * 2+1,none⟩ (.int .i64 t637)).heap[gb623]?=some (.cells #[.slice (some ⟨go33,0,none⟩) t619.length co37] 32 (0,0))):=⟨by (with_reducible repeat (first | refine jv ?_ _ | refine jD ?_ | refine jA ?_ _));refine jib ?_ (by have h_:=Kd.R_ne HO621.out BK623.out (by decide);intro e_;exact h_ (by rw [e_];rfl)) _;(with_reducible repeat (first | refine jv ?_ _ | refine jD ?_ | refine jA ?_ _));exact BK623.out⟩
     have n4_:jl (je w0 (w47.setCell ⟨go33,(t624:Int).toNat * 2+1,none⟩ (.int .i64 t637)) g s0_0 t638):=⟨by repeat (first |(with_reducible first | exact HI0.out | apply je.alloc | apply je.drewN | apply je.drew | apply je.joc | refine je.far ?_ HN0_go33.out _ | refine je.far ?_ NB0_618.out _ | refine je.far ?_ NB0_623.out _) | exact HI0.out)⟩
     have n5_:jl (jb w (w47.setCell ⟨go33,(t624:Int).toNat * 2+1,none⟩ (.int .i64 t637)) g none):=⟨by repeat (first |(with_reducible first | exact HK.out | apply jb.set_ | apply jZa | apply jUa | apply jab | refine jeb ?_ GB33.out _ | refine jeb ?_ GW618.out _ | refine jeb ?_ GW623.out _) | exact HK.out)⟩
     have n6_:jl (Below w0.heap.size w0 (w47.setCell ⟨go33,(t624:Int).toNat * 2+1,none⟩ (.int .i64 t637))):=⟨by repeat (first |(with_reducible first | exact HB.out | apply jN | apply jm | apply jO | refine jS ?_ (Nat.le_trans HL.out GB33.out) | refine jS ?_ (je.ge HI0.out) | refine jS ?_ GE618.out | refine jS ?_ GE623.out) | exact HB.out)⟩
     (try clear HO621)
     (try clear HO636)
     (try clear BK618)
     (try clear BK623)
     (try clear HI0)
     (try clear HK)
     (try clear HB)
     generalize (w47.setCell ⟨go33,(t624:Int).toNat * 2+1,none⟩ (.int .i64 t637))=w49 at n0_ n1_ n2_ n3_ n4_ n5_ n6_ ⊢
     have HO621:=n0_
     have HO636:=n1_
     have BK618:=n2_
     have BK623:=n3_
     have HI0:=n4_
     have HK:=n5_
     have HB:=n6_
     clear n0_ n1_ n2_ n3_ n4_ n5_ n6_
     have hcz50_0:=bc0 BK623.out
     have hfz50_0:=ja BK623.out 0
     have hnb51:=NB618_0.out
     have hnc51:=NB0_618.out
     have hcz52_0:=bc0 BK618.out
     have hfz52_0:=ja BK618.out 0
     try go_wp2
     refine bodyPost_ret (results_cell_row rfl _ _ gb618 32 #[.slice (some ⟨go33,0,none⟩) t619.length co37] (0,0) _ rfl (Y73) Try.underlying32 rfl (by kernel_rfl)) rfl ?_
     exact ⟨_,Y0,by (with_reducible repeat (first | apply Kd.jma | apply Kd.jla | apply Kd.jva));exact Kd.jG (Kd.jLb (p:=⟨gb618,0,none⟩) (Kd.jQa HO621.out BK618.out (by decide)) (fun _ hk=>hk.2) (.slice (some ⟨go33,0,none⟩) t619.length co37)) (fun _ hk=>trivial),Y13,Y27,Y24⟩
    ·rw [if_neg c32] at H
     exact absurd H (by simp)
   ·rw [if_neg c31] at H
    exact absurd H (by simp)
  ·rw [if_neg c29] at H
   have c29b0:(t626 == 1)=false:=beq_eq_false_iff_ne.mpr c29
   have c29b1:(t626 != 1)=true:=bne_iff_ne.mpr c29
   by_cases c53:t626=2
   ·rw [if_pos c53] at H
    have c53b0:(t626 == 2)=true:=beq_iff_eq.mpr c53
    have c53b1:(t626 != 2)=false:=bne_eq_false_iff_eq.mpr c53
    clear c53
    simp only [Option.some.injEq,Prod.mk.injEq] at H
    obtain ⟨rfl,rfl⟩:=H
    go_enter Try.func74,Try.ntmps74
    go_wp2_with (first |((with_reducible refine jP (N:=2) rfl ?_);refine bE (N:=2) (cs:=#[.slice none 0 0]) (t:=32) ?_;intro gb618 hg w54 hbox hb;have BK618:=am (hbox);have GW618:=am ((Y12:w.heap.size≤gb618));have GE618:=am ((Nat.le_trans HW0.out (Y12:w.heap.size≤gb618):w0.heap.size≤gb618));have NB0_618:=am ((Y28:g≠gb618));have NB618_0:=am ((Y29:gb618≠g));replace HK:=am (jb.trans (Y16) (jb.of_below hb g none) (.inl rfl));replace HB:=am (ji (Y17) hb);replace HI0:=am (je.below (Y15) hb);clear hb hbox hg) |((with_reducible refine jd (f:=97) rfl ?_);refine gL (some 6) Try.func97 #[.pointer (some ⟨g,0,none⟩)] ?_;(with_reducible refine (jW.calls k g s0_0 s0_1 t619 t622 w0 _ ?side1 ?side2 A2.out).mono ?_);(case side1=>exact Y45);(case side2=>exact Y46);rintro e w55 ⟨v620,rfl,ho0,hi,hb,hk⟩;refine ⟨_,rfl,?_⟩;have HO621:=am (Kd.jfa ho0 (jL (w:=w) (g:=g) (row:=none) (Y35)));replace BK618:=am (jb.blk hk (g':=gb618) (o:=.cells #[.slice none 0 0] 32 (0,0)) (kq BK618.out) NB618_0.out (by simp));replace HK:=am (jb.trans (Y35) hk (.inl rfl));replace HB:=am (hb);replace HI0:=am (hi);(try clear hb);(try clear hb2);(try clear hk);(try clear hi);(try clear ho0)) |((with_reducible refine jP (N:=3) rfl ?_);refine bE (N:=3) (cs:=#[.slice none 0 0]) (t:=32) ?_;intro gb623 hg w56 hbox hb;have BK623:=am (hbox);have GW623:=am ((Y47:w.heap.size≤gb623));have GE623:=am ((Nat.le_trans HW0.out (Y47:w.heap.size≤gb623):w0.heap.size≤gb623));have NB618_623:=am ((Y67:gb618≠gb623));have NB623_618:=am ((Y68:gb623≠gb618));have NB0_623:=am ((Y69:g≠gb623));have NB623_0:=am ((Y70:gb623≠g));replace HO621:=am (Kd.jqa (rq HO621.out) hb);replace BK618:=am (jr (g:=gb618) (o:=.cells #[.slice none 0 0] 32 (0,0)) (kq BK618.out) hb);replace HK:=am (jb.trans (Y35) (jb.of_below hb g none) (.inl rfl));replace HB:=am (ji (Y46) hb);replace HI0:=am (je.below (Y45) hb);clear hb hbox hg;obtain ⟨Ao57,co57,eo57⟩:=Kd.jta HO621.out;subst eo57;have hnb58:=NB623_618.out;have hnc58:=NB618_623.out;have hnb59:=NB623_0.out;have hnc59:=NB0_623.out;have hcz60_0:=bc0 BK623.out;have hfz60_0:=ja BK623.out 0) |((with_reducible refine jd (f:=76) rfl ?_);refine gL (some 11) Try.func76 #[.pointer (some ⟨g,0,none⟩), .int .i64 (t619.length:Int)] ?_;(with_reducible refine (jf.calls k g s0_0 t622 (t619.length:Int) t624 t625 w0 _ ?side1 ?side2 A3.out).mono ?_);(case side1=>exact Y13);(case side2=>exact Y27);rintro e w61 ⟨rfl,hi,hb,hk⟩;refine ⟨_,rfl,?_⟩;replace BK618:=am (jb.blk hk (g':=gb618) (o:=.cells #[.slice none 0 0] 32 (0,0)) (Y71) NB618_0.out (by simp));replace HO621:=am (Kd.jG (Kd.jBa (je.apart (show je w0 _ g s0_0 t622 from Y13) (by (with_reducible repeat (first | apply Kd.jma | apply Kd.jla | apply Kd.jva));exact (Kd.jG (Kd.jLb (p:=⟨gb623,0,none⟩) (Kd.jQa HO621.out BK623.out (by decide)) (fun _ hk=>hk.2) (.slice Ao57 t619.length co57)) (fun _ h_=>h_.1))) (by decide)) hk (fun _ h=>h.2)) (fun _ h=>h.1));replace BK623:=am (jb.blk hk (g':=gb623) (o:=.cells #[.slice Ao57 t619.length co57] 32 (0,0)) (Y72) NB623_0.out (by simp));replace HK:=am (jb.trans (Y24) hk (.inl rfl));replace HB:=am (hb);replace HI0:=am (hi);(try clear hb);(try clear hb2);(try clear hk);(try clear hi)) |((with_reducible refine jd (f:=76) rfl ?_);refine gL (some 13) Try.func76 #[.pointer (some ⟨g,0,none⟩), .int .i64 24] ?_;(with_reducible refine (jf.calls k g s0_0 t625 24 t626 t627 w0 _ ?side1 ?side2 A4.out).mono ?_);(case side1=>exact Y13);(case side2=>exact Y27);rintro e w62 ⟨rfl,hi,hb,hk⟩;refine ⟨_,rfl,?_⟩;replace BK618:=am (jb.blk hk (g':=gb618) (o:=.cells #[.slice none 0 0] 32 (0,0)) (kq BK618.out) NB618_0.out (by simp));replace HO621:=am (Kd.jG (Kd.jBa (je.apart (show je w0 _ g s0_0 t625 from Y13) (rq HO621.out) (by decide)) hk (fun _ h=>h.2)) (fun _ h=>h.1));replace BK623:=am (jb.blk hk (g':=gb623) (o:=.cells #[.slice Ao57 t619.length co57] 32 (0,0)) (kq BK623.out) NB623_0.out (by simp));replace HK:=am (jb.trans (Y24) hk (.inl rfl));replace HB:=am (hb);replace HI0:=am (hi);(try clear hb);(try clear hb2);(try clear hk);(try clear hi);have hnb63:=NB618_0.out;have hnc63:=NB0_618.out;have hcz64_0:=bc0 BK618.out;have hfz64_0:=ja BK618.out 0))
    refine bodyPost_ret (results_cell_row rfl _ _ gb618 32 #[.slice none 0 0] (0,0) _ rfl (Y73) Try.underlying32 rfl (by kernel_rfl)) rfl ?_
    exact ⟨_,Y0,Y90,Y13,Y27,Y24⟩
   ·rw [if_neg c53] at H
    have c53b0:(t626 == 2)=false:=beq_eq_false_iff_ne.mpr c53
    have c53b1:(t626 != 2)=true:=bne_iff_ne.mpr c53
    simp only [Option.some.injEq,Prod.mk.injEq] at H
    obtain ⟨rfl,rfl⟩:=H
    go_enter Try.func74,Try.ntmps74
    go_wp2_with (first |((with_reducible refine jP (N:=2) rfl ?_);refine bE (N:=2) (cs:=#[.slice none 0 0]) (t:=32) ?_;intro gb618 hg w65 hbox hb;have BK618:=am (hbox);have GW618:=am ((Y12:w.heap.size≤gb618));have GE618:=am ((Nat.le_trans HW0.out (Y12:w.heap.size≤gb618):w0.heap.size≤gb618));have NB0_618:=am ((Y28:g≠gb618));have NB618_0:=am ((Y29:gb618≠g));replace HK:=am (jb.trans (Y16) (jb.of_below hb g none) (.inl rfl));replace HB:=am (ji (Y17) hb);replace HI0:=am (je.below (Y15) hb);clear hb hbox hg) |((with_reducible refine jd (f:=97) rfl ?_);refine gL (some 6) Try.func97 #[.pointer (some ⟨g,0,none⟩)] ?_;(with_reducible refine (jW.calls k g s0_0 s0_1 t619 t622 w0 _ ?side1 ?side2 A2.out).mono ?_);(case side1=>exact Y45);(case side2=>exact Y46);rintro e w66 ⟨v620,rfl,ho0,hi,hb,hk⟩;refine ⟨_,rfl,?_⟩;have HO621:=am (Kd.jfa ho0 (jL (w:=w) (g:=g) (row:=none) (Y35)));replace BK618:=am (jb.blk hk (g':=gb618) (o:=.cells #[.slice none 0 0] 32 (0,0)) (kq BK618.out) NB618_0.out (by simp));replace HK:=am (jb.trans (Y35) hk (.inl rfl));replace HB:=am (hb);replace HI0:=am (hi);(try clear hb);(try clear hb2);(try clear hk);(try clear hi);(try clear ho0)) |((with_reducible refine jP (N:=3) rfl ?_);refine bE (N:=3) (cs:=#[.slice none 0 0]) (t:=32) ?_;intro gb623 hg w67 hbox hb;have BK623:=am (hbox);have GW623:=am ((Y47:w.heap.size≤gb623));have GE623:=am ((Nat.le_trans HW0.out (Y47:w.heap.size≤gb623):w0.heap.size≤gb623));have NB618_623:=am ((Y67:gb618≠gb623));have NB623_618:=am ((Y68:gb623≠gb618));have NB0_623:=am ((Y69:g≠gb623));have NB623_0:=am ((Y70:gb623≠g));replace HO621:=am (Kd.jqa (rq HO621.out) hb);replace BK618:=am (jr (g:=gb618) (o:=.cells #[.slice none 0 0] 32 (0,0)) (kq BK618.out) hb);replace HK:=am (jb.trans (Y35) (jb.of_below hb g none) (.inl rfl));replace HB:=am (ji (Y46) hb);replace HI0:=am (je.below (Y45) hb);clear hb hbox hg;obtain ⟨Ao68,co68,eo68⟩:=Kd.jta HO621.out;subst eo68;have hnb69:=NB623_618.out;have hnc69:=NB618_623.out;have hnb70:=NB623_0.out;have hnc70:=NB0_623.out;have hcz71_0:=bc0 BK623.out;have hfz71_0:=ja BK623.out 0) |((with_reducible refine jd (f:=76) rfl ?_);refine gL (some 11) Try.func76 #[.pointer (some ⟨g,0,none⟩), .int .i64 (t619.length:Int)] ?_;(with_reducible refine (jf.calls k g s0_0 t622 (t619.length:Int) t624 t625 w0 _ ?side1 ?side2 A3.out).mono ?_);(case side1=>exact Y13);(case side2=>exact Y27);rintro e w72 ⟨rfl,hi,hb,hk⟩;refine ⟨_,rfl,?_⟩;replace BK618:=am (jb.blk hk (g':=gb618) (o:=.cells #[.slice none 0 0] 32 (0,0)) (Y71) NB618_0.out (by simp));replace HO621:=am (Kd.jG (Kd.jBa (je.apart (show je w0 _ g s0_0 t622 from Y13) (by (with_reducible repeat (first | apply Kd.jma | apply Kd.jla | apply Kd.jva));exact (Kd.jG (Kd.jLb (p:=⟨gb623,0,none⟩) (Kd.jQa HO621.out BK623.out (by decide)) (fun _ hk=>hk.2) (.slice Ao68 t619.length co68)) (fun _ h_=>h_.1))) (by decide)) hk (fun _ h=>h.2)) (fun _ h=>h.1));replace BK623:=am (jb.blk hk (g':=gb623) (o:=.cells #[.slice Ao68 t619.length co68] 32 (0,0)) (Y72) NB623_0.out (by simp));replace HK:=am (jb.trans (Y24) hk (.inl rfl));replace HB:=am (hb);replace HI0:=am (hi);(try clear hb);(try clear hb2);(try clear hk);(try clear hi)) |((with_reducible refine jd (f:=76) rfl ?_);refine gL (some 13) Try.func76 #[.pointer (some ⟨g,0,none⟩), .int .i64 24] ?_;(with_reducible refine (jf.calls k g s0_0 t625 24 t626 t627 w0 _ ?side1 ?side2 A4.out).mono ?_);(case side1=>exact Y13);(case side2=>exact Y27);rintro e w73 ⟨rfl,hi,hb,hk⟩;refine ⟨_,rfl,?_⟩;replace BK618:=am (jb.blk hk (g':=gb618) (o:=.cells #[.slice none 0 0] 32 (0,0)) (kq BK618.out) NB618_0.out (by simp));replace HO621:=am (Kd.jG (Kd.jBa (je.apart (show je w0 _ g s0_0 t625 from Y13) (rq HO621.out) (by decide)) hk (fun _ h=>h.2)) (fun _ h=>h.1));replace BK623:=am (jb.blk hk (g':=gb623) (o:=.cells #[.slice Ao68 t619.length co68] 32 (0,0)) (kq BK623.out) NB623_0.out (by simp));replace HK:=am (jb.trans (Y24) hk (.inl rfl));replace HB:=am (hb);replace HI0:=am (hi);(try clear hb);(try clear hb2);(try clear hk);(try clear hi);have hcz74_0:=bc0 BK623.out;have hfz74_0:=ja BK623.out 0;have hnb75:=NB618_0.out;have hnc75:=NB0_618.out;have hcz76_0:=bc0 BK618.out;have hfz76_0:=ja BK618.out 0))
    refine bodyPost_ret (results_cell_row rfl _ _ gb618 32 #[.slice Ao68 t619.length co68] (0,0) _ rfl (Y73) Try.underlying32 rfl (by kernel_rfl)) rfl ?_
    exact ⟨_,Y0,by (with_reducible repeat (first | apply Kd.jma | apply Kd.jla | apply Kd.jva));exact Kd.jG (Kd.jLb (p:=⟨gb618,0,none⟩) (Kd.jQa HO621.out BK618.out (by decide)) (fun _ hk=>hk.2) (.slice Ao68 t619.length co68)) (fun _ hk=>trivial),Y13,Y27,Y24⟩
mutual
def jw.j0 : Nat → Int → Bool → Int → List Int → Int → List (S78) → Option ((List (S52)) × Int)
 | 0,_,_,_,_,_,_=>none
 | k+1,x2,x3,x9,x1000,x1001,x641000=>if x9<4 then ((jh.f k x1000 x1001 (([1,2,3,4,5]:List Int))).bind fun bt649=>(some ((([(⟨x2,1,bt649.1,0⟩:S52)]:List (S52))),bt649.2))) else (if x9<6 then ((jf.f k x1000 x1001 (x641000.length:Int)).bind fun bt654=>((jh.f k x1000 bt654.2 (([1,2,3]:List Int))).bind fun bt659=>(some ((([(⟨x2,2,bt654.1,bt659.1⟩:S52)]:List (S52))),bt659.2)))) else (if x9=6 then (some ((([(⟨x2,3,0,0⟩:S52)]:List (S52))),x1001)) else (if x9=7 then (jw.j1 k x2 x3 x9 x3 x1000 x1001 x641000 x2 0 0 0) else (jw.j1 k x2 x3 x9 false x1000 x1001 x641000 x2 0 0 0))))
def jw.j1 : Nat → Int → Bool → Int → Bool → List Int → Int → List (S78) → Int → Int → Int → Int → Option ((List (S52)) × Int)
 | 0,_,_,_,_,_,_,_,_,_,_,_=>none
 | k+1,x2,x3,x9,x50,x1000,x1001,x641000,x646000,x646001,x646002,x646003=>if x50=true then ((jh.f k x1000 x1001 (([5,6]:List Int))).bind fun bt670=>(some ((([(⟨x646000,bt670.1,x646002,x646003⟩:S52)]:List (S52))),bt670.2))) else (if x9=7 then ((jh.f k x1000 x1001 (([7,8]:List Int))).bind fun bt678=>(some ((([(⟨x646000,4,bt678.1,x646003⟩:S52)]:List (S52))),bt678.2))) else (if x9=8 then (some ((([(⟨x646000,0,x646002,x646003⟩:S52)]:List (S52))),x1001)) else (if x9<11 then ((jf.f k x1000 x1001 4).bind fun bt686=>((jf.f k x1000 bt686.2 2).bind fun bt688=>((some (([(⟨x646000,11,bt686.1,bt688.1⟩:S52)]:List (S52)):List (S52))).bind fun y690=>((jI.f k x1000 bt688.2 x641000 (wrap64 (x2+1)) x3).bind fun bt693=>(if y690.length+bt693.1.length<4398046511104 then (some ((y690 ++ bt693.1),bt693.2)) else (none)))))) else (if x9=11 then ((jh.f k x1000 x1001 (([2,1,3,0]:List Int))).bind fun bt703=>((some (([(⟨x646000,12,bt703.1,x646003⟩:S52)]:List (S52)):List (S52))).bind fun y705=>((jI.f k x1000 bt703.2 x641000 (wrap64 (x2+1)) true).bind fun bt708=>(if y705.length+bt708.1.length<4398046511104 then (some ((y705 ++ bt708.1),bt708.2)) else (none))))) else ((jU.f k x1000 x1001 x641000 x2 x3).bind fun bt715=>(some (bt715.1,bt715.2)))))))
def jw.f : Nat → List Int → Int → List (S78) → Int → Bool → Option ((List (S52)) × Int)
 | 0,_,_,_,_,_=>none
 | k+1,s0_0,s0_1,l1_0,a2,a3=>(jf.f k s0_0 s0_1 16).bind fun bt641=>(if a2≥3 then ((jf.f k s0_0 bt641.2 9).bind fun bt643=>(jw.j0 k a2 a3 bt643.1 s0_0 bt643.2 l1_0)) else (jw.j0 k a2 a3 bt641.1 s0_0 bt641.2 l1_0))
def jI.l0 : Nat → Int → Bool → List (S52) → Int → List Int → Int → List (S78) → Option ((List (S52)) × Int)
 | 0,_,_,_,_,_,_,_=>none
 | k+1,x2,x3,x9,x10,x1000,x1001,x720000=>if x10 > 0 then ((jw.f k x1000 x1001 x720000 x2 x3).bind fun bt728=>(if x9.length+bt728.1.length<4398046511104 then (jI.l0 k x2 x3 (x9 ++ bt728.1) (wrap64 (x10 - 1)) x1000 bt728.2 x720000) else (none))) else (some (x9,x1001))
def jI.f : Nat → List Int → Int → List (S78) → Int → Bool → Option ((List (S52)) × Int)
 | 0,_,_,_,_,_=>none
 | k+1,s0_0,s0_1,l1_0,a2,a3=>(jh.f k s0_0 s0_1 (([1,2,1,2,3]:List Int))).bind fun bt726=>(jI.l0 k a2 a3 (([]:List (S52))) bt726.1 s0_0 bt726.2 l1_0)
def jU.l0 : Nat → Int → Bool → List (S52) → Int → Int → List Int → Int → List (S78) → Option ((List (S52)) × Int)
 | 0,_,_,_,_,_,_,_,_=>none
 | k+1,x2,x3,x9,x10,x11,x1000,x1001,x736000=>if x11 > 0 then ((jf.f k x1000 x1001 (x736000.length:Int)).bind fun bt751=>((jh.f k x1000 bt751.2 (([bt751.1,0]:List Int))).bind fun bt756=>(if x9.length<4398046511104 then ((some (x9 ++ [(⟨x2,8,bt756.1,0⟩:S52)]:List (S52))).bind fun y758=>((jI.f k x1000 bt756.2 x736000 (wrap64 (x2+1)) x3).bind fun bt761=>(if y758.length+bt761.1.length<4398046511104 then (jU.l0 k x2 x3 (y758 ++ bt761.1) x10 (wrap64 (x11 - 1)) x1000 bt761.2 x736000) else (none)))) else (none)))) else (if x10 > 0 then ((jf.f k x1000 x1001 3).bind fun bt768=>(jU.j1 k x2 x3 x9 x10 (bt768.1 == 0) x1000 bt768.2 x736000)) else (jU.j1 k x2 x3 x9 x10 false x1000 x1001 x736000))
def jU.j1 : Nat → Int → Bool → List (S52) → Int → Bool → List Int → Int → List (S78) → Option ((List (S52)) × Int)
 | 0,_,_,_,_,_,_,_,_=>none
 | k+1,x2,x3,x9,x10,x57,x1000,x1001,x736000=>if x57=true then (if x9.length<4398046511104 then ((some (x9 ++ [(⟨x2,9,0,0⟩:S52)]:List (S52))).bind fun y770=>((jI.f k x1000 x1001 x736000 (wrap64 (x2+1)) x3).bind fun bt773=>(if y770.length+bt773.1.length<4398046511104 then (jU.j2 k x2 x3 (y770 ++ bt773.1) x10 x1000 bt773.2 x736000) else (none)))) else (none)) else (jU.j2 k x2 x3 x9 x10 x1000 x1001 x736000)
def jU.j2 : Nat → Int → Bool → List (S52) → Int → List Int → Int → List (S78) → Option ((List (S52)) × Int)
 | 0,_,_,_,_,_,_,_=>none
 | k+1,x2,x3,x9,x10,x1000,x1001,x736000=>if x10=0 then (if x9.length<4398046511104 then ((some (x9 ++ [(⟨x2,10,0,0⟩:S52)]:List (S52))).bind fun y782=>((jI.f k x1000 x1001 x736000 (wrap64 (x2+1)) x3).bind fun bt785=>(if y782.length+bt785.1.length<4398046511104 then (some ((y782 ++ bt785.1),bt785.2)) else (none)))) else (none)) else ((jf.f k x1000 x1001 2).bind fun bt780=>(if bt780.1=0 then (if x9.length<4398046511104 then ((some (x9 ++ [(⟨x2,10,0,0⟩:S52)]:List (S52))).bind fun y792=>((jI.f k x1000 bt780.2 x736000 (wrap64 (x2+1)) x3).bind fun bt795=>(if y792.length+bt795.1.length<4398046511104 then (some ((y792 ++ bt795.1),bt795.2)) else (none)))) else (none)) else (some (x9,bt780.2))))
def jU.f : Nat → List Int → Int → List (S78) → Int → Bool → Option ((List (S52)) × Int)
 | 0,_,_,_,_,_=>none
 | k+1,s0_0,s0_1,l1_0,a2,a3=>(some (([(⟨a2,7,0,0⟩:S52)]:List (S52)):List (S52))).bind fun y736=>((jI.f k s0_0 s0_1 l1_0 (wrap64 (a2+1)) a3).bind fun bt739=>(if y736.length+bt739.1.length<4398046511104 then ((jh.f k s0_0 bt739.2 (([1,2,0,1]:List Int))).bind fun bt749=>(jU.l0 k a2 a3 (y736 ++ bt739.1) bt749.1 bt749.1 s0_0 bt749.2 l1_0)) else (none)))
end
end Go.Proofs.Ytkhiiiddbmgiaaa.P
end
