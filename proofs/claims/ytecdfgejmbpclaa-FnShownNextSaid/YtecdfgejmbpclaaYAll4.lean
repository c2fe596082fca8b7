/- One part of the proofs on this program: functions of the program as plain functions, that the code comes to them, and facts on them. -/
import Derived.Test.YtecdfgejmbpclaaYAll1
import Derived.Test.YtecdfgejmbpclaaYAll2
import Derived.Test.YtecdfgejmbpclaaYAll3
import Derived.Test.YtecdfgejmbpclaaYWAuto
section
namespace Go.Proofs.Ytecdfgejmbpclaa.P
open Go.RowKit Go.Proofs.YtecdfgejmbpclaaW.PrintWords Go.Proofs.YtecdfgejmbpclaaW.PrintLast Go.Proofs.YtecdfgejmbpclaaW.PrintMore
attribute [local go_sem] jqa joa jwa jva jea jda jpa jna jA
set_option linter.unusedVariables false
set_option linter.unusedSimpArgs false
def jY.f (k : Nat) (s0_0 : List Int) (s0_1 : Int) : Option ((List (S94)) × Int) := (jL.f k s0_0 s0_1).bind fun bt595 => ((jl.f k s0_0 bt595.2 (bt595.1.length : Int)).bind fun bt600 => ((jl.f k s0_0 bt600.2 24).bind fun bt602 => (if bt602.1 = 0 then ((jMa.f k s0_0 bt602.2 (([(⟨#[]⟩ : ByteArray), (⟨#[97, 110, 121]⟩ : ByteArray), (⟨#[65]⟩ : ByteArray), (⟨#[116, 111, 111, 108, 111, 110, 103]⟩ : ByteArray)] : List ByteArray))).bind fun bt607 => (if 0 ≤ bt600.1 then (if bt600.1 < (bt595.1.length : Int) then (some ((bt595.1.set (bt600.1 : Int).toNat (⟨bt607.1, (jP bt595.1 bt600.1).f1⟩ : S94)), bt607.2)) else (none)) else (none))) else (if bt602.1 = 1 then ((jv.f k s0_0 bt602.2 (([bt600.1, (-1), 8, (-2)] : List Int))).bind fun bt613 => (if 0 ≤ bt600.1 then (if bt600.1 < (bt595.1.length : Int) then (some ((bt595.1.set (bt600.1 : Int).toNat (⟨(jP bt595.1 bt600.1).f0, bt613.1⟩ : S94)), bt613.2)) else (none)) else (none))) else (if bt602.1 = 2 then (some (([] : List (S94)), bt602.2)) else (some (bt595.1, bt602.2)))))))
def jY.T5 : Bool × List (List Nat × List Nat) := (true, [([], []), ([0], [0]), ([], []), ([], []), ([], []), ([3, 4], [3, 4]), ([1, 2, 0, 1, 2, 3, 4, 5], [1, 2]), ([6, 0, 1, 2, 3, 4, 5], [6]), ([7, 5, 5, 0, 1, 2, 3, 4, 5], [5, 7])])
def jY.B5 : List Nat := [0, 1, 0, 0, 0, 24, 63, 127, 255]
theorem jY.tab5 : rtab .any (opsOf Try.f87 5) = jY.T5 := by kernel_rfl
theorem jY.bits5 : jFb jY.T5.2 jY.B5 = true := by kernel_rfl
def jY.T7 : Bool × List (List Nat × List Nat) := (true, [([], []), ([0], [0]), ([], []), ([], []), ([], []), ([4], [4]), ([3, 5], [3, 5]), ([1, 2, 0, 1, 2, 3, 4, 5, 6], [1, 2]), ([7, 0, 1, 2, 3, 4, 5, 6], [7]), ([8, 6, 6, 0, 1, 2, 3, 4, 5, 6], [6, 8])])
def jY.B7 : List Nat := [0, 1, 0, 0, 0, 16, 56, 127, 255, 511]
theorem jY.tab7 : rtab .any (opsOf Try.f87 7) = jY.T7 := by kernel_rfl
theorem jY.bits7 : jFb jY.T7.2 jY.B7 = true := by kernel_rfl
set_option maxHeartbeats 8000000 in
set_option maxRecDepth 100000 in
theorem jY.calls (k : Nat) (g : Nat) (s0_0 : List Int) (s0_1 : Int) (r1 : List (S94)) (r2 : Int) (w0 w : World) (hI : jc w0 w g s0_0 s0_1) (hB : Below w0.heap.size w0 w) (h : jY.f k s0_0 s0_1 = some (r1, r2)) :
  Calls Try.prog 87 #[.pointer (some ⟨g,0,none⟩)] w fun e w'=>∃ v0_:Value,e=.returned (.agg #[v0_])∧Kd.R k94 94 w' w.heap.size (fun _=>True) v0_ r1∧jc w0 w' g s0_0 r2∧Below w0.heap.size w0 w'∧jd w w' g none:=by
 have hu37:=Try.underlying37
 have HI0:=am hI
 have HK:=am (jd.refl w g none)
 have HL:=am hB.size
 clear hI
 have HW0:=am hB.size
 have HB:=am hB
 clear hB
 have H:((jL.f k s0_0 s0_1).bind fun bt595=>((jl.f k s0_0 bt595.2 (bt595.1.length:Int)).bind fun bt600=>((jl.f k s0_0 bt600.2 24).bind fun bt602=>(if bt602.1=0 then ((jMa.f k s0_0 bt602.2 (([(⟨#[]⟩:ByteArray),(⟨#[97,110,121]⟩:ByteArray),(⟨#[65]⟩:ByteArray),(⟨#[116,111,111,108,111,110,103]⟩:ByteArray)]:List ByteArray))).bind fun bt607=>(if 0≤bt600.1 then (if bt600.1<(bt595.1.length:Int) then (some ((bt595.1.set (bt600.1:Int).toNat (⟨bt607.1,(jP bt595.1 bt600.1).f1⟩:S94)),bt607.2)) else (none)) else (none))) else (if bt602.1=1 then ((jv.f k s0_0 bt602.2 (([bt600.1,(-1),8,(-2)]:List Int))).bind fun bt613=>(if 0≤bt600.1 then (if bt600.1<(bt595.1.length:Int) then (some ((bt595.1.set (bt600.1:Int).toNat (⟨(jP bt595.1 bt600.1).f0,bt613.1⟩:S94)),bt613.2)) else (none)) else (none))) else (if bt602.1=2 then (some (([]:List (S94)),bt602.2)) else (some (bt595.1,bt602.2))))))))=some (r1,r2):=h
 clear h
 replace H:=bzS H
 obtain ⟨⟨t595,t598⟩,A20,H⟩:=H
 replace H:((jl.f k s0_0 t598 (t595.length:Int)).bind fun bt600=>((jl.f k s0_0 bt600.2 24).bind fun bt602=>(if bt602.1=0 then ((jMa.f k s0_0 bt602.2 (([(⟨#[]⟩:ByteArray),(⟨#[97,110,121]⟩:ByteArray),(⟨#[65]⟩:ByteArray),(⟨#[116,111,111,108,111,110,103]⟩:ByteArray)]:List ByteArray))).bind fun bt607=>(if 0≤bt600.1 then (if bt600.1<(t595.length:Int) then (some ((t595.set (bt600.1:Int).toNat (⟨bt607.1,(jP t595 bt600.1).f1⟩:S94)),bt607.2)) else (none)) else (none))) else (if bt602.1=1 then ((jv.f k s0_0 bt602.2 (([bt600.1,(-1),8,(-2)]:List Int))).bind fun bt613=>(if 0≤bt600.1 then (if bt600.1<(t595.length:Int) then (some ((t595.set (bt600.1:Int).toNat (⟨(jP t595 bt600.1).f0,bt613.1⟩:S94)),bt613.2)) else (none)) else (none))) else (if bt602.1=2 then (some (([]:List (S94)),bt602.2)) else (some (t595,bt602.2)))))))=some (r1,r2):=H
 have A2:=am A20
 clear A20
 replace H:=bzS H
 obtain ⟨⟨t600,t601⟩,A30,H⟩:=H
 replace H:((jl.f k s0_0 t601 24).bind fun bt602=>(if bt602.1=0 then ((jMa.f k s0_0 bt602.2 (([(⟨#[]⟩:ByteArray),(⟨#[97,110,121]⟩:ByteArray),(⟨#[65]⟩:ByteArray),(⟨#[116,111,111,108,111,110,103]⟩:ByteArray)]:List ByteArray))).bind fun bt607=>(if 0≤t600 then (if t600<(t595.length:Int) then (some ((t595.set (t600:Int).toNat (⟨bt607.1,(jP t595 t600).f1⟩:S94)),bt607.2)) else (none)) else (none))) else (if bt602.1=1 then ((jv.f k s0_0 bt602.2 (([t600,(-1),8,(-2)]:List Int))).bind fun bt613=>(if 0≤t600 then (if t600<(t595.length:Int) then (some ((t595.set (t600:Int).toNat (⟨(jP t595 t600).f0,bt613.1⟩:S94)),bt613.2)) else (none)) else (none))) else (if bt602.1=2 then (some (([]:List (S94)),bt602.2)) else (some (t595,bt602.2))))))=some (r1,r2):=H
 have A3:=am A30
 clear A30
 replace H:=bzS H
 obtain ⟨⟨t602,t603⟩,A40,H⟩:=H
 replace H:(if t602=0 then ((jMa.f k s0_0 t603 (([(⟨#[]⟩:ByteArray),(⟨#[97,110,121]⟩:ByteArray),(⟨#[65]⟩:ByteArray),(⟨#[116,111,111,108,111,110,103]⟩:ByteArray)]:List ByteArray))).bind fun bt607=>(if 0≤t600 then (if t600<(t595.length:Int) then (some ((t595.set (t600:Int).toNat (⟨bt607.1,(jP t595 t600).f1⟩:S94)),bt607.2)) else (none)) else (none))) else (if t602=1 then ((jv.f k s0_0 t603 (([t600,(-1),8,(-2)]:List Int))).bind fun bt613=>(if 0≤t600 then (if t600<(t595.length:Int) then (some ((t595.set (t600:Int).toNat (⟨(jP t595 t600).f0,bt613.1⟩:S94)),bt613.2)) else (none)) else (none))) else (if t602=2 then (some (([]:List (S94)),t603)) else (some (t595,t603)))))=some (r1,r2):=H
 have A4:=am A40
 clear A40
 by_cases c5:t602=0
 ·rw [if_pos c5] at H
  have c5b0:(t602 == 0)=true:=beq_iff_eq.mpr c5
  have c5b1:(t602 != 0)=false:=bne_eq_false_iff_eq.mpr c5
  clear c5
  obtain ⟨y604,hy604⟩:∃ y_:List ByteArray,y_=(([(⟨#[]⟩:ByteArray),(⟨#[97,110,121]⟩:ByteArray),(⟨#[65]⟩:ByteArray),(⟨#[116,111,111,108,111,110,103]⟩:ByteArray)]:List ByteArray)):=⟨_,rfl⟩
  replace H:((jMa.f k s0_0 t603 y604).bind fun bt607=>(if 0≤t600 then (if t600<(t595.length:Int) then (some ((t595.set (t600:Int).toNat (⟨bt607.1,(jP t595 t600).f1⟩:S94)),bt607.2)) else (none)) else (none)))=some (r1,r2):=by first |(rw [hy604];with_reducible exact H) |(have H2_:=(Option.bind_some _ _).symm.trans H;rw [hy604];with_reducible exact H2_) |(have H2_:=(Option.bind_some _ _).symm.trans H;with_reducible exact H2_) | with_reducible exact H |(rw [hy604];exact H) | exact H
  have Ny604:=am hy604
  clear hy604
  replace H:=bzS H
  obtain ⟨⟨t607,t608⟩,A60,H⟩:=H
  replace H:(if 0≤t600 then (if t600<(t595.length:Int) then (some ((t595.set (t600:Int).toNat (⟨t607,(jP t595 t600).f1⟩:S94)),t608)) else (none)) else (none))=some (r1,r2):=H
  have A6:=am A60
  clear A60
  by_cases c7:0≤t600
  ·rw [if_pos c7] at H
   have c7b0:decide (0≤t600)=true:=dzT c7
   clear c7
   by_cases c8:t600<(t595.length:Int)
   ·rw [if_pos c8] at H
    have c8b0:decide (t600<(t595.length:Int))=true:=dzT c8
    clear c8
    obtain ⟨y609,hy609⟩:∃ y_:List (S94),y_=(t595.set (t600:Int).toNat (⟨t607,(jP t595 t600).f1⟩:S94)):=⟨_,rfl⟩
    replace H:(some (y609,t608))=some (r1,r2):=by first |(rw [hy609];with_reducible exact H) |(have H2_:=(Option.bind_some _ _).symm.trans H;rw [hy609];with_reducible exact H2_) |(have H2_:=(Option.bind_some _ _).symm.trans H;with_reducible exact H2_) | with_reducible exact H |(rw [hy609];exact H) | exact H
    have Ny609:=am hy609
    clear hy609
    simp only [Option.some.injEq,Prod.mk.injEq] at H
    obtain ⟨rfl,rfl⟩:=H
    go_enter Try.func87,Try.ntmps87
    try go_wp2_with (first |((with_reducible refine jD (N:=2) rfl ?_);refine bE (N:=2) (cs:=#[.slice none 0 0]) (t:=37) ?_;intro gb594 hg w10 hbox hb;have BK594:=am (hbox);have GW594:=am ((Y6:w.heap.size≤gb594));have GE594:=am ((Nat.le_trans HW0.out (Y6:w.heap.size≤gb594):w0.heap.size≤gb594));have NB0_594:=am ((Y24:g≠gb594));have NB594_0:=am ((Y25:gb594≠g));replace HK:=am (jd.trans (Y13) (jd.of_below hb g none) (.inl rfl));replace HB:=am (jf (Y14) hb);replace HI0:=am (jc.below (Y12) hb);clear hb hbox hg) |((with_reducible refine jy (f:=105) rfl ?_);refine gL (some 6) Try.func105 #[.pointer (some ⟨g,0,none⟩)] ?_;(with_reducible refine (jL.calls k g s0_0 s0_1 t595 t598 w0 _ ?side1 ?side2 A2.out).mono ?_);(case side1=>exact Y46);(case side2=>exact Y47);rintro e w11 ⟨v596,rfl,ho0,hi,hb,hk⟩;refine ⟨_,rfl,?_⟩;have HO597:=am (Kd.jia ho0 (jba (w:=w) (g:=g) (row:=none) (Y30)));replace BK594:=am (jd.blk hk (g':=gb594) (o:=.cells #[.slice none 0 0] 37 (0,0)) (kq BK594.out) NB594_0.out (by simp));replace HK:=am (jd.trans (Y30) hk (.inl rfl));replace HB:=am (hb);replace HI0:=am (hi);(try clear hb);(try clear hb2);(try clear hk);(try clear hi);(try clear ho0)) |((with_reducible refine jD (N:=3) rfl ?_);refine bE (N:=3) (cs:=#[.slice none 0 0]) (t:=37) ?_;intro gb599 hg w12 hbox hb;have BK599:=am (hbox);have GW599:=am ((Y48:w.heap.size≤gb599));have GE599:=am ((Nat.le_trans HW0.out (Y48:w.heap.size≤gb599):w0.heap.size≤gb599));have NB594_599:=am ((Y92:gb594≠gb599));have NB599_594:=am ((Y93:gb599≠gb594));have NB0_599:=am ((Y94:g≠gb599));have NB599_0:=am ((Y95:gb599≠g));replace HO597:=am (Kd.jX (rq HO597.out) hb);replace BK594:=am (je (g:=gb594) (o:=.cells #[.slice none 0 0] 37 (0,0)) (kq BK594.out) hb);replace HK:=am (jd.trans (Y30) (jd.of_below hb g none) (.inl rfl));replace HB:=am (jf (Y47) hb);replace HI0:=am (jc.below (Y46) hb);clear hb hbox hg;obtain ⟨Ao13,co13,eo13⟩:=Kd.jZ HO597.out;subst eo13;have hnb14:=NB599_594.out;have hnc14:=NB594_599.out;have hnb15:=NB599_0.out;have hnc15:=NB0_599.out;have hcz16_0:=bc0 BK599.out;have hfz16_0:=jb BK599.out 0) |((with_reducible refine jy (f:=88) rfl ?_);refine gL (some 11) Try.func88 #[.pointer (some ⟨g,0,none⟩), .int .i64 (t595.length:Int)] ?_;(with_reducible refine (jl.calls k g s0_0 t598 (t595.length:Int) t600 t601 w0 _ ?side1 ?side2 A3.out).mono ?_);(case side1=>exact Y9);(case side2=>exact Y27);rintro e w17 ⟨rfl,hi,hb,hk⟩;refine ⟨_,rfl,?_⟩;replace BK594:=am (jd.blk hk (g':=gb594) (o:=.cells #[.slice none 0 0] 37 (0,0)) (Y96) NB594_0.out (by simp));replace HO597:=am (Kd.jH (Kd.jla (jc.apart (show jc w0 _ g s0_0 t598 from Y9) (by (with_reducible repeat (first | apply Kd.jU | apply Kd.jW | apply Kd.jS));exact (Kd.jH (Kd.jra (p:=⟨gb599,0,none⟩) (Kd.jN HO597.out BK599.out (by decide)) (fun _ hk=>hk.2) (.slice Ao13 t595.length co13)) (fun _ h_=>h_.1))) (by decide)) hk (fun _ h=>h.2)) (fun _ h=>h.1));replace BK599:=am (jd.blk hk (g':=gb599) (o:=.cells #[.slice Ao13 t595.length co13] 37 (0,0)) (Y97) NB599_0.out (by simp));replace HK:=am (jd.trans (Y19) hk (.inl rfl));replace HB:=am (hb);replace HI0:=am (hi);(try clear hb);(try clear hb2);(try clear hk);(try clear hi)) |((with_reducible refine jy (f:=88) rfl ?_);refine gL (some 13) Try.func88 #[.pointer (some ⟨g,0,none⟩), .int .i64 24] ?_;(with_reducible refine (jl.calls k g s0_0 t601 24 t602 t603 w0 _ ?side1 ?side2 A4.out).mono ?_);(case side1=>exact Y9);(case side2=>exact Y27);rintro e w18 ⟨rfl,hi,hb,hk⟩;refine ⟨_,rfl,?_⟩;replace BK594:=am (jd.blk hk (g':=gb594) (o:=.cells #[.slice none 0 0] 37 (0,0)) (kq BK594.out) NB594_0.out (by simp));replace HO597:=am (Kd.jH (Kd.jla (jc.apart (show jc w0 _ g s0_0 t601 from Y9) (rq HO597.out) (by decide)) hk (fun _ h=>h.2)) (fun _ h=>h.1));replace BK599:=am (jd.blk hk (g':=gb599) (o:=.cells #[.slice Ao13 t595.length co13] 37 (0,0)) (kq BK599.out) NB599_0.out (by simp));replace HK:=am (jd.trans (Y19) hk (.inl rfl));replace HB:=am (hb);replace HI0:=am (hi);(try clear hb);(try clear hb2);(try clear hk);(try clear hi)))
    replace HO597:=am (Kd.jS HO597.out)
    replace BK594:=am (jg BK594.out)
    replace BK599:=am (jg BK599.out)
    replace HI0:=am (jc.drew HI0.out)
    replace HK:=am (jV HK.out)
    replace HB:=am (jr HB.out)
    refine jLb (n:=9) (S:=fun w'=>w'.cell? ⟨gb599,0,none⟩=some (.slice Ao13 t595.length co13)) (ds:=[8]) #[false,false,false,false,false,false,false,false,false] (by kernel_rfl) rfl rfl ((jG BK599.out 0).trans rfl) (fun hHeld=>?_);refine jyb jY.tab5 jY.bits5 (fun HT_ HW_=>?_)
    generalize w18.drew=w19 at HO597 BK594 BK599 HI0 HK HB hHeld ⊢
    refine pq (i:=0) (N:=some 16) #[true,false,false,false,false,false,false,false,false] ?_
    refine pq (i:=2) (N:=some 18) #[true,false,true,false,false,false,false,false,false] ?_
    refine pq (i:=3) (N:=some 19) #[true,false,true,true,false,false,false,false,false] ?_
    refine jzb (i:=1) (N:=some 17) (v:=?_) (a':=?_) #[true,true,true,true,false,false,false,false,false] rfl rfl (jgb HT_.out HW_.out (by kernel_rfl)) (fun _ _ _ h=>h) (Or.inl ⟨by rfl,?_⟩) hHeld ?_ ?_
    rotate_left
    ·intro w' s0
     go_simp
     with_reducible rfl
    rotate_left
    ·exact sa
    refine one_ (i:=4) (N:=some 20) #[true,true,true,true,true,false,false,false,false] rfl rfl (jbb HT_.out (by kernel_rfl)) (by decide) (fun K hK=>?_)
    refine Kd.jDb Kd.string _ 9 ?hg (N:=20) ?hd (xs:=([(⟨#[]⟩:ByteArray),(⟨#[97,110,121]⟩:ByteArray),(⟨#[65]⟩:ByteArray),(⟨#[116,111,111,108,111,110,103]⟩:ByteArray)]:List ByteArray)) (inner:=[.string (⟨#[]⟩:ByteArray), .string (⟨#[97,110,121]⟩:ByteArray), .string (⟨#[65]⟩:ByteArray), .string (⟨#[116,111,111,108,111,110,103]⟩:ByteArray)]) (ok:=fun _=>True) (okp:=fun _=>True) ?hr ?hp (fun _ hk=>hk) trivial (Below.refl _ _) (Nat.le_refl _) (by simp) ?_;(case hd=>rfl);(case hg=>rfl);(case hr=>exact Y4);(case hp=>exact (Reps.one (show Kd.M Kd.string _ _ _ (⟨#[]⟩:ByteArray) [.string (⟨#[]⟩:ByteArray)] from rfl) (Reps.one (show Kd.M Kd.string _ _ _ (⟨#[97,110,121]⟩:ByteArray) [.string (⟨#[97,110,121]⟩:ByteArray)] from rfl) (Reps.one (show Kd.M Kd.string _ _ _ (⟨#[65]⟩:ByteArray) [.string (⟨#[65]⟩:ByteArray)] from rfl) (Reps.one (show Kd.M Kd.string _ _ _ (⟨#[116,111,111,108,111,110,103]⟩:ByteArray) [.string (⟨#[116,111,111,108,111,110,103]⟩:ByteArray)] from rfl) (Reps.none _ _))))))
    intro v605 w20 ho21 hb hg_ hnew_
    clear hg_ hnew_
    (first | rw [← Ny604.out] at ho21 |(simp only [Int.reduceToNat] at ho21;rw [← Ny604.out] at ho21))
    have HO606:=am (Kd.jia ho21 (jba (w:=w) (g:=g) (row:=none) (Y19)))
    replace HO597:=am (Kd.jX (rq HO597.out) hb)
    replace BK594:=am (je (g:=gb594) (o:=.cells #[.slice none 0 0] 37 (0,0)) (kq BK594.out) hb)
    replace BK599:=am (je (g:=gb599) (o:=.cells #[.slice Ao13 t595.length co13] 37 (0,0)) (kq BK599.out) hb)
    replace HK:=am (jd.trans (Y19) (jd.of_below hb g none) (.inl rfl))
    replace HB:=am (jf (Y27) hb)
    replace HI0:=am (jc.below (Y9) hb)
    clear hb ho21
    obtain ⟨Ao22,co22,eo22⟩:=Kd.jZ HO606.out
    (first | subst eo22 |(injection eo22 with f1_ f2_ f3_;have f4_:=f1_.symm;have f5_:=f3_.symm;clear f1_ f2_ f3_;subst f4_;subst f5_))
    refine hK.out _ _ ((jG BK599.out 0).trans rfl) (fun hHeld=>?_)
    clear hK K
    refine jJb (a':=?_) ?_ ?_
    rotate_left
    ·show Act.put _ (some 20) _=_
     simp only [Act.put,List.setIfInBounds_toArray,List.set_cons_zero,List.set_cons_succ,job,jsb]
     rfl
    refine one_ (i:=5) (N:=some 21) #[true,true,true,true,true,true,false,false,false] rfl rfl (jbb HT_.out (by kernel_rfl)) (by decide) (fun K hK=>?_)
    refine goes_ Try.func106 (by kernel_rfl) rfl #[.pointer (some ⟨g,0,none⟩), .slice Ao22 y604.length co22] (by rfl) rfl rfl (aq) ?_
    with_reducible refine (jMa.calls k g s0_0 t603 _ _ y604 t607 t608 w0 _ ?side1 ?side2 ?side3 ?side4 ?side5 A6.out).mono ?_
    (case side1=>exact Y9)
    (case side2=>exact Y27)
    (case side3=>exact cq (Kd.jB HO606.out).2.2)
    (case side4=>exact (Kd.jB HO606.out).2.1)
    (case side5=>exact jnb (jc.own_ne HI0.out HO606.out (by decide)))
    rintro e w23 ⟨rfl,hi,hb,hk⟩
    refine ⟨_,rfl,?_⟩
    replace BK594:=am (jd.blk hk (g':=gb594) (o:=.cells #[.slice none 0 0] 37 (0,0)) (kq BK594.out) NB594_0.out (by simp))
    replace HO597:=am (Kd.jH (Kd.jla (jc.apart (show jc w0 _ g s0_0 t603 from Y9) (rq HO597.out) (by decide)) hk (fun _ h=>h.2)) (fun _ h=>h.1))
    replace BK599:=am (jd.blk hk (g':=gb599) (o:=.cells #[.slice Ao13 t595.length co13] 37 (0,0)) (kq BK599.out) NB599_0.out (by simp))
    replace HO606:=am (Kd.jH (Kd.jla (jc.apart (show jc w0 _ g s0_0 t603 from Y9) (rq HO606.out) (by decide)) hk (fun _ h=>h.2)) (fun _ h=>h.1))
    replace HK:=am (jd.trans (Y19) hk (.inl rfl))
    replace HB:=am (hb)
    replace HI0:=am (hi)
    (try clear hb)
    (try clear hb2)
    (try clear hk)
    (try clear hi)
    have p9:0≤(t600:Int):=ozD (uq)
    have q9:(t600:Int)<((t595.length:Int):Int):=ozD (uq)
    obtain ⟨go9,co9,eo9,gb9,gl9,cl9,HG9⟩:=Kd.R_form HO597.out (by omega)
    (first | cases eo9 |(injection eo9 with ea_ en_ ec_;(first | subst ea_ |(injection ea_ with ea_;subst ea_));subst ec_;clear en_))
    have GB9:=am gb9
    have GG9:=am HG9
    clear gb9 gl9 HG9
    obtain ⟨ce9,hcl9,hM9,hcc9,hfr9⟩:=Kd.jqb HO597.out z94 (t600:Int) p9 q9
    obtain rfl:=k94_openM hM9
    have hx9_0:World.cell? _ ⟨go9,(t600:Int).toNat * 2,none⟩=some (.string ((jP t595 t600).f0)):=hcc9 0 _ rfl
    have hx9_1:World.cell? _ ⟨go9,(t600:Int).toNat * 2+1,none⟩=some (.int .i64 ((jP t595 t600).f1)):=hcc9 1 _ rfl
    have hf9_0:World.frozen? _ ⟨go9,(t600:Int).toNat * 2,none⟩=false:=hfr9 0
    have hf9_1:World.frozen? _ ⟨go9,(t600:Int).toNat * 2+1,none⟩=false:=hfr9 1
    clear hcl9 hcc9 hfr9 hM9
    replace p9:=ezT p9
    replace q9:=ezT q9
    have HN0_go9:=am (show g≠go9 from by have h_:=jc.own_ne HI0.out HO597.out (by decide);intro e_;exact h_ (by rw [e_];rfl))
    obtain ⟨ce24,hcl24,hM24,hcc24,hfr24⟩:=Kd.jqb HO597.out z94 (t600:Int) (ozD (uq)) (by have h_:(t600:Int)<((t595.length:Int):Int):=ozD (uq);first | exact h_ |(have e_:=(Kd.jB HO597.out).1;omega) | simpa using h_)
    obtain rfl:=k94_openM hM24
    have HP24:=(Kd.R_seg HO597.out (t600:Int) (ozD (uq)) (by have h_:(t600:Int)<((t595.length:Int):Int):=ozD (uq);first | exact h_ |(have e_:=(Kd.jB HO597.out).1;omega) | simpa using h_) (seg:=[.string t607]) (j:=0) hcl24 hcc24 (show 1≤2 from by decide) (x':=(⟨t607,(jP t595 t600).f1⟩:S94)) (k94_mkM _ _ _ (⟨t607,(jP t595 t600).f1⟩:S94) ) (fun _ hk=>hk)).1
    rw [← Ny609.out] at HP24
    have HQ24:=am HP24
    clear hcl24 hcc24 hfr24 hM24 HP24
    refine hK.out _ _ ((jG BK599.out 0).trans rfl) (fun hHeld=>?_)
    clear hK K
    refine jJb (a':=?_) ?_ ?_
    rotate_left
    ·show Act.put _ (some 21) _=_
     simp only [Act.put,List.setIfInBounds_toArray,List.set_cons_zero,List.set_cons_succ,job,jsb]
     rfl
    refine pq (i:=6) (N:=some 22) #[true,true,true,true,true,true,true,false,false] ?_
    refine pq (i:=7) (N:=some 23) #[true,true,true,true,true,true,true,true,false] ?_
    refine last_ (i:=8) (N:=none) #[true,true,true,true,true,true,true,true,true] rfl rfl (jbb HT_.out (by kernel_rfl)) (by decide) (fun K hK=>?_)
    refine jPb (w1:=?_) (by rfl) rfl ?_ ?_
    rotate_left
    ·go_simp
     rfl
    refine hK.out _ _ ?_
    clear hK K
    refine done_ (jUb HT_.out (by kernel_rfl)) ?_
    have n0_:jC (Kd.R k94 94 (w23.setCell ⟨go9,(t600:Int).toNat * 2,none⟩ (.string t607)) w.heap.size (fun _=>True) (.slice (some ⟨go9,0,none⟩) t595.length co13) y609):=⟨rq HQ24.out⟩
    have n1_:jC (Kd.R Kd.string 9 (w23.setCell ⟨go9,(t600:Int).toNat * 2,none⟩ (.string t607)) w.heap.size (fun _=>True) (.slice Ao22 y604.length co22) y604):=⟨by (with_reducible repeat (first | apply Kd.jU | apply Kd.jW | apply Kd.jS));exact Kd.jH (Kd.jra (p:=⟨go9,(t600:Int).toNat * 2,none⟩) (Kd.jN HO606.out GG9.out (by decide)) (fun _ hk=>hk.2) (.string t607)) (fun _ hk=>trivial)⟩
    have n2_:jC ((w23.setCell ⟨go9,(t600:Int).toNat * 2,none⟩ (.string t607)).heap[gb594]?=some (.cells #[.slice none 0 0] 37 (0,0))):=⟨by (with_reducible repeat (first | refine jh ?_ _ | refine jg ?_ | refine jk ?_ _));refine jO ?_ (by have h_:=Kd.R_ne HO597.out BK594.out (by decide);intro e_;exact h_ (by rw [e_];rfl)) _;(with_reducible repeat (first | refine jh ?_ _ | refine jg ?_ | refine jk ?_ _));exact BK594.out⟩
    have n3_:jC ((w23.setCell ⟨go9,(t600:Int).toNat * 2,none⟩ (.string t607)).heap[gb599]?=some (.cells #[.slice (some ⟨go9,0,none⟩) t595.length co13] 37 (0,0))):=⟨by (with_reducible repeat (first | refine jh ?_ _ | refine jg ?_ | refine jk ?_ _));refine jO ?_ (by have h_:=Kd.R_ne HO597.out BK599.out (by decide);intro e_;exact h_ (by rw [e_];rfl)) _;(with_reducible repeat (first | refine jh ?_ _ | refine jg ?_ | refine jk ?_ _));exact BK599.out⟩
    have n4_:jC (jc w0 (w23.setCell ⟨go9,(t600:Int).toNat * 2,none⟩ (.string t607)) g s0_0 t608):=⟨by repeat (first |(with_reducible first | exact HI0.out | apply jc.alloc | apply jc.drewN | apply jc.drew | apply jc.jeb | refine jc.far ?_ HN0_go9.out _ | refine jc.far ?_ NB0_594.out _ | refine jc.far ?_ NB0_599.out _) | exact HI0.out)⟩
    have n5_:jC (jd w (w23.setCell ⟨go9,(t600:Int).toNat * 2,none⟩ (.string t607)) g none):=⟨by repeat (first |(with_reducible first | exact HK.out | apply jd.set_ | apply jga | apply jV | apply jha | refine jK ?_ GB9.out _ | refine jK ?_ GW594.out _ | refine jK ?_ GW599.out _) | exact HK.out)⟩
    have n6_:jC (Below w0.heap.size w0 (w23.setCell ⟨go9,(t600:Int).toNat * 2,none⟩ (.string t607))):=⟨by repeat (first |(with_reducible first | exact HB.out | apply jw | apply jo | apply jr | refine jm ?_ (Nat.le_trans HL.out GB9.out) | refine jm ?_ (jc.ge HI0.out) | refine jm ?_ GE594.out | refine jm ?_ GE599.out) | exact HB.out)⟩
    (try clear HO597)
    (try clear HO606)
    (try clear BK594)
    (try clear BK599)
    (try clear HI0)
    (try clear HK)
    (try clear HB)
    generalize (w23.setCell ⟨go9,(t600:Int).toNat * 2,none⟩ (.string t607))=w25 at n0_ n1_ n2_ n3_ n4_ n5_ n6_ ⊢
    have HO597:=n0_
    have HO606:=n1_
    have BK594:=n2_
    have BK599:=n3_
    have HI0:=n4_
    have HK:=n5_
    have HB:=n6_
    clear n0_ n1_ n2_ n3_ n4_ n5_ n6_
    have hcz26_0:=bc0 BK599.out
    have hfz26_0:=jb BK599.out 0
    have hnb27:=NB594_0.out
    have hnc27:=NB0_594.out
    have hcz28_0:=bc0 BK594.out
    have hfz28_0:=jb BK594.out 0
    try go_wp2
    refine bodyPost_ret (results_cell_row rfl _ _ gb594 37 #[.slice (some ⟨go9,0,none⟩) t595.length co13] (0,0) _ rfl (Y98) Try.underlying37 rfl (by kernel_rfl)) rfl ?_
    exact ⟨_,Y1,by (with_reducible repeat (first | apply Kd.jU | apply Kd.jW | apply Kd.jS));exact Kd.jH (Kd.jra (p:=⟨gb594,0,none⟩) (Kd.jN HO597.out BK594.out (by decide)) (fun _ hk=>hk.2) (.slice (some ⟨go9,0,none⟩) t595.length co13)) (fun _ hk=>trivial),Y9,Y27,Y19⟩
   ·rw [if_neg c8] at H
    exact absurd H (by simp)
  ·rw [if_neg c7] at H
   exact absurd H (by simp)
 ·rw [if_neg c5] at H
  have c5b0:(t602 == 0)=false:=beq_eq_false_iff_ne.mpr c5
  have c5b1:(t602 != 0)=true:=bne_iff_ne.mpr c5
  by_cases c29:t602=1
  ·rw [if_pos c29] at H
   have c29b0:(t602 == 1)=true:=beq_iff_eq.mpr c29
   have c29b1:(t602 != 1)=false:=bne_eq_false_iff_eq.mpr c29
   clear c29
   obtain ⟨y610,hy610⟩:∃ y_:List Int,y_=(([t600,(-1),8,(-2)]:List Int)):=⟨_,rfl⟩
   replace H:((jv.f k s0_0 t603 y610).bind fun bt613=>(if 0≤t600 then (if t600<(t595.length:Int) then (some ((t595.set (t600:Int).toNat (⟨(jP t595 t600).f0,bt613.1⟩:S94)),bt613.2)) else (none)) else (none)))=some (r1,r2):=by first |(rw [hy610];with_reducible exact H) |(have H2_:=(Option.bind_some _ _).symm.trans H;rw [hy610];with_reducible exact H2_) |(have H2_:=(Option.bind_some _ _).symm.trans H;with_reducible exact H2_) | with_reducible exact H |(rw [hy610];exact H) | exact H
   have Ny610:=am hy610
   clear hy610
   replace H:=bzS H
   obtain ⟨⟨t613,t614⟩,A300,H⟩:=H
   replace H:(if 0≤t600 then (if t600<(t595.length:Int) then (some ((t595.set (t600:Int).toNat (⟨(jP t595 t600).f0,t613⟩:S94)),t614)) else (none)) else (none))=some (r1,r2):=H
   have A30:=am A300
   clear A300
   by_cases c31:0≤t600
   ·rw [if_pos c31] at H
    have c31b0:decide (0≤t600)=true:=dzT c31
    clear c31
    by_cases c32:t600<(t595.length:Int)
    ·rw [if_pos c32] at H
     have c32b0:decide (t600<(t595.length:Int))=true:=dzT c32
     clear c32
     obtain ⟨y615,hy615⟩:∃ y_:List (S94),y_=(t595.set (t600:Int).toNat (⟨(jP t595 t600).f0,t613⟩:S94)):=⟨_,rfl⟩
     replace H:(some (y615,t614))=some (r1,r2):=by first |(rw [hy615];with_reducible exact H) |(have H2_:=(Option.bind_some _ _).symm.trans H;rw [hy615];with_reducible exact H2_) |(have H2_:=(Option.bind_some _ _).symm.trans H;with_reducible exact H2_) | with_reducible exact H |(rw [hy615];exact H) | exact H
     have Ny615:=am hy615
     clear hy615
     simp only [Option.some.injEq,Prod.mk.injEq] at H
     obtain ⟨rfl,rfl⟩:=H
     go_enter Try.func87,Try.ntmps87
     try go_wp2_with (first |((with_reducible refine jD (N:=2) rfl ?_);refine bE (N:=2) (cs:=#[.slice none 0 0]) (t:=37) ?_;intro gb594 hg w34 hbox hb;have BK594:=am (hbox);have GW594:=am ((Y6:w.heap.size≤gb594));have GE594:=am ((Nat.le_trans HW0.out (Y6:w.heap.size≤gb594):w0.heap.size≤gb594));have NB0_594:=am ((Y24:g≠gb594));have NB594_0:=am ((Y25:gb594≠g));replace HK:=am (jd.trans (Y13) (jd.of_below hb g none) (.inl rfl));replace HB:=am (jf (Y14) hb);replace HI0:=am (jc.below (Y12) hb);clear hb hbox hg) |((with_reducible refine jy (f:=105) rfl ?_);refine gL (some 6) Try.func105 #[.pointer (some ⟨g,0,none⟩)] ?_;(with_reducible refine (jL.calls k g s0_0 s0_1 t595 t598 w0 _ ?side1 ?side2 A2.out).mono ?_);(case side1=>exact Y46);(case side2=>exact Y47);rintro e w35 ⟨v596,rfl,ho0,hi,hb,hk⟩;refine ⟨_,rfl,?_⟩;have HO597:=am (Kd.jia ho0 (jba (w:=w) (g:=g) (row:=none) (Y30)));replace BK594:=am (jd.blk hk (g':=gb594) (o:=.cells #[.slice none 0 0] 37 (0,0)) (kq BK594.out) NB594_0.out (by simp));replace HK:=am (jd.trans (Y30) hk (.inl rfl));replace HB:=am (hb);replace HI0:=am (hi);(try clear hb);(try clear hb2);(try clear hk);(try clear hi);(try clear ho0)) |((with_reducible refine jD (N:=3) rfl ?_);refine bE (N:=3) (cs:=#[.slice none 0 0]) (t:=37) ?_;intro gb599 hg w36 hbox hb;have BK599:=am (hbox);have GW599:=am ((Y48:w.heap.size≤gb599));have GE599:=am ((Nat.le_trans HW0.out (Y48:w.heap.size≤gb599):w0.heap.size≤gb599));have NB594_599:=am ((Y92:gb594≠gb599));have NB599_594:=am ((Y93:gb599≠gb594));have NB0_599:=am ((Y94:g≠gb599));have NB599_0:=am ((Y95:gb599≠g));replace HO597:=am (Kd.jX (rq HO597.out) hb);replace BK594:=am (je (g:=gb594) (o:=.cells #[.slice none 0 0] 37 (0,0)) (kq BK594.out) hb);replace HK:=am (jd.trans (Y30) (jd.of_below hb g none) (.inl rfl));replace HB:=am (jf (Y47) hb);replace HI0:=am (jc.below (Y46) hb);clear hb hbox hg;obtain ⟨Ao37,co37,eo37⟩:=Kd.jZ HO597.out;subst eo37;have hnb38:=NB599_594.out;have hnc38:=NB594_599.out;have hnb39:=NB599_0.out;have hnc39:=NB0_599.out;have hcz40_0:=bc0 BK599.out;have hfz40_0:=jb BK599.out 0) |((with_reducible refine jy (f:=88) rfl ?_);refine gL (some 11) Try.func88 #[.pointer (some ⟨g,0,none⟩), .int .i64 (t595.length:Int)] ?_;(with_reducible refine (jl.calls k g s0_0 t598 (t595.length:Int) t600 t601 w0 _ ?side1 ?side2 A3.out).mono ?_);(case side1=>exact Y9);(case side2=>exact Y27);rintro e w41 ⟨rfl,hi,hb,hk⟩;refine ⟨_,rfl,?_⟩;replace BK594:=am (jd.blk hk (g':=gb594) (o:=.cells #[.slice none 0 0] 37 (0,0)) (Y96) NB594_0.out (by simp));replace HO597:=am (Kd.jH (Kd.jla (jc.apart (show jc w0 _ g s0_0 t598 from Y9) (by (with_reducible repeat (first | apply Kd.jU | apply Kd.jW | apply Kd.jS));exact (Kd.jH (Kd.jra (p:=⟨gb599,0,none⟩) (Kd.jN HO597.out BK599.out (by decide)) (fun _ hk=>hk.2) (.slice Ao37 t595.length co37)) (fun _ h_=>h_.1))) (by decide)) hk (fun _ h=>h.2)) (fun _ h=>h.1));replace BK599:=am (jd.blk hk (g':=gb599) (o:=.cells #[.slice Ao37 t595.length co37] 37 (0,0)) (Y97) NB599_0.out (by simp));replace HK:=am (jd.trans (Y19) hk (.inl rfl));replace HB:=am (hb);replace HI0:=am (hi);(try clear hb);(try clear hb2);(try clear hk);(try clear hi)) |((with_reducible refine jy (f:=88) rfl ?_);refine gL (some 13) Try.func88 #[.pointer (some ⟨g,0,none⟩), .int .i64 24] ?_;(with_reducible refine (jl.calls k g s0_0 t601 24 t602 t603 w0 _ ?side1 ?side2 A4.out).mono ?_);(case side1=>exact Y9);(case side2=>exact Y27);rintro e w42 ⟨rfl,hi,hb,hk⟩;refine ⟨_,rfl,?_⟩;replace BK594:=am (jd.blk hk (g':=gb594) (o:=.cells #[.slice none 0 0] 37 (0,0)) (kq BK594.out) NB594_0.out (by simp));replace HO597:=am (Kd.jH (Kd.jla (jc.apart (show jc w0 _ g s0_0 t601 from Y9) (rq HO597.out) (by decide)) hk (fun _ h=>h.2)) (fun _ h=>h.1));replace BK599:=am (jd.blk hk (g':=gb599) (o:=.cells #[.slice Ao37 t595.length co37] 37 (0,0)) (kq BK599.out) NB599_0.out (by simp));replace HK:=am (jd.trans (Y19) hk (.inl rfl));replace HB:=am (hb);replace HI0:=am (hi);(try clear hb);(try clear hb2);(try clear hk);(try clear hi)))
     replace HO597:=am (Kd.jS HO597.out)
     replace BK594:=am (jg BK594.out)
     replace BK599:=am (jg BK599.out)
     replace HI0:=am (jc.drew HI0.out)
     replace HK:=am (jV HK.out)
     replace HB:=am (jr HB.out)
     refine jLb (n:=10) (S:=fun w'=>w'.cell? ⟨gb599,0,none⟩=some (.slice Ao37 t595.length co37)) (ds:=[9]) #[false,false,false,false,false,false,false,false,false,false] (by kernel_rfl) rfl rfl ((jG BK599.out 0).trans rfl) (fun hHeld=>?_);refine jyb jY.tab7 jY.bits7 (fun HT_ HW_=>?_)
     generalize w42.drew=w43 at HO597 BK594 BK599 HI0 HK HB hHeld ⊢
     refine pq (i:=0) (N:=some 26) #[true,false,false,false,false,false,false,false,false,false] ?_
     refine pq (i:=2) (N:=some 28) #[true,false,true,false,false,false,false,false,false,false] ?_
     refine pq (i:=3) (N:=some 29) #[true,false,true,true,false,false,false,false,false,false] ?_
     refine pq (i:=4) (N:=some 30) #[true,false,true,true,true,false,false,false,false,false] ?_
     refine jzb (i:=1) (N:=some 27) (v:=?_) (a':=?_) #[true,true,true,true,true,false,false,false,false,false] rfl rfl (jgb HT_.out HW_.out (by kernel_rfl)) (fun _ _ _ h=>h) (Or.inl ⟨by rfl,?_⟩) hHeld ?_ ?_
     rotate_left
     ·intro w' s0
      go_simp
      with_reducible rfl
     rotate_left
     ·exact sa
     refine one_ (i:=5) (N:=some 31) #[true,true,true,true,true,true,false,false,false,false] rfl rfl (jbb HT_.out (by kernel_rfl)) (by decide) (fun K hK=>?_)
     refine Kd.jDb (Kd.int .i64) _ 3 ?hg (N:=31) ?hd (xs:=([t600,(-1),8,(-2)]:List Int)) (inner:=[.int .i64 t600, .int .i64 (-1), .int .i64 8, .int .i64 (-2)]) (ok:=fun _=>True) (okp:=fun _=>True) ?hr ?hp (fun _ hk=>hk) trivial (Below.refl _ _) (Nat.le_refl _) (by simp) ?_;(case hd=>rfl);(case hg=>rfl);(case hr=>exact Y4);(case hp=>exact (Reps.one (show Kd.M (Kd.int .i64) _ _ _ t600 [.int .i64 t600] from rfl) (Reps.one (show Kd.M (Kd.int .i64) _ _ _ (-1) [.int .i64 (-1)] from rfl) (Reps.one (show Kd.M (Kd.int .i64) _ _ _ 8 [.int .i64 8] from rfl) (Reps.one (show Kd.M (Kd.int .i64) _ _ _ (-2) [.int .i64 (-2)] from rfl) (Reps.none _ _))))))
     intro v611 w44 ho45 hb hg_ hnew_
     clear hg_ hnew_
     (first | rw [← Ny610.out] at ho45 |(simp only [Int.reduceToNat] at ho45;rw [← Ny610.out] at ho45))
     have HO612:=am (Kd.jia ho45 (jba (w:=w) (g:=g) (row:=none) (Y19)))
     replace HO597:=am (Kd.jX (rq HO597.out) hb)
     replace BK594:=am (je (g:=gb594) (o:=.cells #[.slice none 0 0] 37 (0,0)) (kq BK594.out) hb)
     replace BK599:=am (je (g:=gb599) (o:=.cells #[.slice Ao37 t595.length co37] 37 (0,0)) (kq BK599.out) hb)
     replace HK:=am (jd.trans (Y19) (jd.of_below hb g none) (.inl rfl))
     replace HB:=am (jf (Y27) hb)
     replace HI0:=am (jc.below (Y9) hb)
     clear hb ho45
     obtain ⟨Ao46,co46,eo46⟩:=Kd.jZ HO612.out
     (first | subst eo46 |(injection eo46 with f1_ f2_ f3_;have f4_:=f1_.symm;have f5_:=f3_.symm;clear f1_ f2_ f3_;subst f4_;subst f5_))
     refine hK.out _ _ ((jG BK599.out 0).trans rfl) (fun hHeld=>?_)
     clear hK K
     refine jJb (a':=?_) ?_ ?_
     rotate_left
     ·show Act.put _ (some 31) _=_
      simp only [Act.put,List.setIfInBounds_toArray,List.set_cons_zero,List.set_cons_succ,job,jsb]
      rfl
     refine one_ (i:=6) (N:=some 32) #[true,true,true,true,true,true,true,false,false,false] rfl rfl (jbb HT_.out (by kernel_rfl)) (by decide) (fun K hK=>?_)
     refine goes_ Try.func89 (by kernel_rfl) rfl #[.pointer (some ⟨g,0,none⟩), .slice Ao46 y610.length co46] (by rfl) rfl rfl (aq) ?_
     with_reducible refine (jv.calls k g s0_0 t603 _ _ y610 t613 t614 w0 _ ?side1 ?side2 ?side3 ?side4 ?side5 A30.out).mono ?_
     (case side1=>exact Y9)
     (case side2=>exact Y27)
     (case side3=>exact cq (Kd.jB HO612.out).2.2)
     (case side4=>exact (Kd.jB HO612.out).2.1)
     (case side5=>exact jnb (jc.own_ne HI0.out HO612.out (by decide)))
     rintro e w47 ⟨rfl,hi,hb,hk⟩
     refine ⟨_,rfl,?_⟩
     replace BK594:=am (jd.blk hk (g':=gb594) (o:=.cells #[.slice none 0 0] 37 (0,0)) (kq BK594.out) NB594_0.out (by simp))
     replace HO597:=am (Kd.jH (Kd.jla (jc.apart (show jc w0 _ g s0_0 t603 from Y9) (rq HO597.out) (by decide)) hk (fun _ h=>h.2)) (fun _ h=>h.1))
     replace BK599:=am (jd.blk hk (g':=gb599) (o:=.cells #[.slice Ao37 t595.length co37] 37 (0,0)) (kq BK599.out) NB599_0.out (by simp))
     replace HO612:=am (Kd.jH (Kd.jla (jc.apart (show jc w0 _ g s0_0 t603 from Y9) (rq HO612.out) (by decide)) hk (fun _ h=>h.2)) (fun _ h=>h.1))
     replace HK:=am (jd.trans (Y19) hk (.inl rfl))
     replace HB:=am (hb)
     replace HI0:=am (hi)
     (try clear hb)
     (try clear hb2)
     (try clear hk)
     (try clear hi)
     have p33:0≤(t600:Int):=ozD (uq)
     have q33:(t600:Int)<((t595.length:Int):Int):=ozD (uq)
     obtain ⟨go33,co33,eo33,gb33,gl33,cl33,HG33⟩:=Kd.R_form HO597.out (by omega)
     (first | cases eo33 |(injection eo33 with ea_ en_ ec_;(first | subst ea_ |(injection ea_ with ea_;subst ea_));subst ec_;clear en_))
     have GB33:=am gb33
     have GG33:=am HG33
     clear gb33 gl33 HG33
     obtain ⟨ce33,hcl33,hM33,hcc33,hfr33⟩:=Kd.jqb HO597.out z94 (t600:Int) p33 q33
     obtain rfl:=k94_openM hM33
     have hx33_0:World.cell? _ ⟨go33,(t600:Int).toNat * 2,none⟩=some (.string ((jP t595 t600).f0)):=hcc33 0 _ rfl
     have hx33_1:World.cell? _ ⟨go33,(t600:Int).toNat * 2+1,none⟩=some (.int .i64 ((jP t595 t600).f1)):=hcc33 1 _ rfl
     have hf33_0:World.frozen? _ ⟨go33,(t600:Int).toNat * 2,none⟩=false:=hfr33 0
     have hf33_1:World.frozen? _ ⟨go33,(t600:Int).toNat * 2+1,none⟩=false:=hfr33 1
     clear hcl33 hcc33 hfr33 hM33
     replace p33:=ezT p33
     replace q33:=ezT q33
     have HN0_go33:=am (show g≠go33 from by have h_:=jc.own_ne HI0.out HO597.out (by decide);intro e_;exact h_ (by rw [e_];rfl))
     obtain ⟨ce48,hcl48,hM48,hcc48,hfr48⟩:=Kd.jqb HO597.out z94 (t600:Int) (ozD (uq)) (by have h_:(t600:Int)<((t595.length:Int):Int):=ozD (uq);first | exact h_ |(have e_:=(Kd.jB HO597.out).1;omega) | simpa using h_)
     obtain rfl:=k94_openM hM48
     have HP48:=(Kd.R_seg HO597.out (t600:Int) (ozD (uq)) (by have h_:(t600:Int)<((t595.length:Int):Int):=ozD (uq);first | exact h_ |(have e_:=(Kd.jB HO597.out).1;omega) | simpa using h_) (seg:=[.int .i64 t613]) (j:=1) hcl48 hcc48 (show 2≤2 from by decide) (x':=(⟨(jP t595 t600).f0,t613⟩:S94)) (k94_mkM _ _ _ (⟨(jP t595 t600).f0,t613⟩:S94) ) (fun _ hk=>hk)).1
     rw [← Ny615.out] at HP48
     have HQ48:=am HP48
     clear hcl48 hcc48 hfr48 hM48 HP48
     refine hK.out _ _ ((jG BK599.out 0).trans rfl) (fun hHeld=>?_)
     clear hK K
     refine jJb (a':=?_) ?_ ?_
     rotate_left
     ·show Act.put _ (some 32) _=_
      simp only [Act.put,List.setIfInBounds_toArray,List.set_cons_zero,List.set_cons_succ,job,jsb]
      rfl
     refine pq (i:=7) (N:=some 33) #[true,true,true,true,true,true,true,true,false,false] ?_
     refine pq (i:=8) (N:=some 34) #[true,true,true,true,true,true,true,true,true,false] ?_
     refine last_ (i:=9) (N:=none) #[true,true,true,true,true,true,true,true,true,true] rfl rfl (jbb HT_.out (by kernel_rfl)) (by decide) (fun K hK=>?_)
     refine jPb (w1:=?_) (by rfl) rfl ?_ ?_
     rotate_left
     ·go_simp
      rfl
     refine hK.out _ _ ?_
     clear hK K
     refine done_ (jUb HT_.out (by kernel_rfl)) ?_
     have n0_:jC (Kd.R k94 94 (w47.setCell ⟨go33,(t600:Int).toNat * 2+1,none⟩ (.int .i64 t613)) w.heap.size (fun _=>True) (.slice (some ⟨go33,0,none⟩) t595.length co37) y615):=⟨rq HQ48.out⟩
     have n1_:jC (Kd.R (Kd.int .i64) 3 (w47.setCell ⟨go33,(t600:Int).toNat * 2+1,none⟩ (.int .i64 t613)) w.heap.size (fun _=>True) (.slice Ao46 y610.length co46) y610):=⟨by (with_reducible repeat (first | apply Kd.jU | apply Kd.jW | apply Kd.jS));exact Kd.jH (Kd.jra (p:=⟨go33,(t600:Int).toNat * 2+1,none⟩) (Kd.jN HO612.out GG33.out (by decide)) (fun _ hk=>hk.2) (.int .i64 t613)) (fun _ hk=>trivial)⟩
     have n2_:jC ((w47.setCell ⟨go33,(t600:Int).toNat * 2+1,none⟩ (.int .i64 t613)).heap[gb594]?=some (.cells #[.slice none 0 0] 37 (0,0))):=⟨by (with_reducible repeat (first | refine jh ?_ _ | refine jg ?_ | refine jk ?_ _));refine jO ?_ (by have h_:=Kd.R_ne HO597.out BK594.out (by decide);intro e_;exact h_ (by rw [e_];rfl)) _;(with_reducible repeat (first | refine jh ?_ _ | refine jg ?_ | refine jk ?_ _));exact BK594.out⟩
     have n3_:jC ((w47.setCell ⟨go33,(t600:Int).toNat * 2+1,none⟩ (.int .i64 t613)).heap[gb599]?=some (.cells #[.slice (some ⟨go33,0,none⟩) t595.length co37] 37 (0,0))):=⟨by (with_reducible repeat (first | refine jh ?_ _ | refine jg ?_ | refine jk ?_ _));refine jO ?_ (by have h_:=Kd.R_ne HO597.out BK599.out (by decide);intro e_;exact h_ (by rw [e_];rfl)) _;(with_reducible repeat (first | refine jh ?_ _ | refine jg ?_ | refine jk ?_ _));exact BK599.out⟩
     have n4_:jC (jc w0 (w47.setCell ⟨go33,(t600:Int).toNat * 2+1,none⟩ (.int .i64 t613)) g s0_0 t614):=⟨by repeat (first |(with_reducible first | exact HI0.out | apply jc.alloc | apply jc.drewN | apply jc.drew | apply jc.jeb | refine jc.far ?_ HN0_go33.out _ | refine jc.far ?_ NB0_594.out _ | refine jc.far ?_ NB0_599.out _) | exact HI0.out)⟩
     have n5_:jC (jd w (w47.setCell ⟨go33,(t600:Int).toNat * 2+1,none⟩ (.int .i64 t613)) g none):=⟨by repeat (first |(with_reducible first | exact HK.out | apply jd.set_ | apply jga | apply jV | apply jha | refine jK ?_ GB33.out _ | refine jK ?_ GW594.out _ | refine jK ?_ GW599.out _) | exact HK.out)⟩
     have n6_:jC (Below w0.heap.size w0 (w47.setCell ⟨go33,(t600:Int).toNat * 2+1,none⟩ (.int .i64 t613))):=⟨by repeat (first |(with_reducible first | exact HB.out | apply jw | apply jo | apply jr | refine jm ?_ (Nat.le_trans HL.out GB33.out) | refine jm ?_ (jc.ge HI0.out) | refine jm ?_ GE594.out | refine jm ?_ GE599.out) | exact HB.out)⟩
     (try clear HO597)
     (try clear HO612)
     (try clear BK594)
     (try clear BK599)
     (try clear HI0)
     (try clear HK)
     (try clear HB)
     generalize (w47.setCell ⟨go33,(t600:Int).toNat * 2+1,none⟩ (.int .i64 t613))=w49 at n0_ n1_ n2_ n3_ n4_ n5_ n6_ ⊢
     have HO597:=n0_
     have HO612:=n1_
     have BK594:=n2_
     have BK599:=n3_
     have HI0:=n4_
     have HK:=n5_
     have HB:=n6_
     clear n0_ n1_ n2_ n3_ n4_ n5_ n6_
     have hcz50_0:=bc0 BK599.out
     have hfz50_0:=jb BK599.out 0
     have hnb51:=NB594_0.out
     have hnc51:=NB0_594.out
     have hcz52_0:=bc0 BK594.out
     have hfz52_0:=jb BK594.out 0
     try go_wp2
     refine bodyPost_ret (results_cell_row rfl _ _ gb594 37 #[.slice (some ⟨go33,0,none⟩) t595.length co37] (0,0) _ rfl (Y98) Try.underlying37 rfl (by kernel_rfl)) rfl ?_
     exact ⟨_,Y1,by (with_reducible repeat (first | apply Kd.jU | apply Kd.jW | apply Kd.jS));exact Kd.jH (Kd.jra (p:=⟨gb594,0,none⟩) (Kd.jN HO597.out BK594.out (by decide)) (fun _ hk=>hk.2) (.slice (some ⟨go33,0,none⟩) t595.length co37)) (fun _ hk=>trivial),Y9,Y27,Y19⟩
    ·rw [if_neg c32] at H
     exact absurd H (by simp)
   ·rw [if_neg c31] at H
    exact absurd H (by simp)
  ·rw [if_neg c29] at H
   have c29b0:(t602 == 1)=false:=beq_eq_false_iff_ne.mpr c29
   have c29b1:(t602 != 1)=true:=bne_iff_ne.mpr c29
   by_cases c53:t602=2
   ·rw [if_pos c53] at H
    have c53b0:(t602 == 2)=true:=beq_iff_eq.mpr c53
    have c53b1:(t602 != 2)=false:=bne_eq_false_iff_eq.mpr c53
    clear c53
    simp only [Option.some.injEq,Prod.mk.injEq] at H
    obtain ⟨rfl,rfl⟩:=H
    go_enter Try.func87,Try.ntmps87
    go_wp2_with (first |((with_reducible refine jD (N:=2) rfl ?_);refine bE (N:=2) (cs:=#[.slice none 0 0]) (t:=37) ?_;intro gb594 hg w54 hbox hb;have BK594:=am (hbox);have GW594:=am ((Y6:w.heap.size≤gb594));have GE594:=am ((Nat.le_trans HW0.out (Y6:w.heap.size≤gb594):w0.heap.size≤gb594));have NB0_594:=am ((Y24:g≠gb594));have NB594_0:=am ((Y25:gb594≠g));replace HK:=am (jd.trans (Y13) (jd.of_below hb g none) (.inl rfl));replace HB:=am (jf (Y14) hb);replace HI0:=am (jc.below (Y12) hb);clear hb hbox hg) |((with_reducible refine jy (f:=105) rfl ?_);refine gL (some 6) Try.func105 #[.pointer (some ⟨g,0,none⟩)] ?_;(with_reducible refine (jL.calls k g s0_0 s0_1 t595 t598 w0 _ ?side1 ?side2 A2.out).mono ?_);(case side1=>exact Y46);(case side2=>exact Y47);rintro e w55 ⟨v596,rfl,ho0,hi,hb,hk⟩;refine ⟨_,rfl,?_⟩;have HO597:=am (Kd.jia ho0 (jba (w:=w) (g:=g) (row:=none) (Y30)));replace BK594:=am (jd.blk hk (g':=gb594) (o:=.cells #[.slice none 0 0] 37 (0,0)) (kq BK594.out) NB594_0.out (by simp));replace HK:=am (jd.trans (Y30) hk (.inl rfl));replace HB:=am (hb);replace HI0:=am (hi);(try clear hb);(try clear hb2);(try clear hk);(try clear hi);(try clear ho0)) |((with_reducible refine jD (N:=3) rfl ?_);refine bE (N:=3) (cs:=#[.slice none 0 0]) (t:=37) ?_;intro gb599 hg w56 hbox hb;have BK599:=am (hbox);have GW599:=am ((Y48:w.heap.size≤gb599));have GE599:=am ((Nat.le_trans HW0.out (Y48:w.heap.size≤gb599):w0.heap.size≤gb599));have NB594_599:=am ((Y92:gb594≠gb599));have NB599_594:=am ((Y93:gb599≠gb594));have NB0_599:=am ((Y94:g≠gb599));have NB599_0:=am ((Y95:gb599≠g));replace HO597:=am (Kd.jX (rq HO597.out) hb);replace BK594:=am (je (g:=gb594) (o:=.cells #[.slice none 0 0] 37 (0,0)) (kq BK594.out) hb);replace HK:=am (jd.trans (Y30) (jd.of_below hb g none) (.inl rfl));replace HB:=am (jf (Y47) hb);replace HI0:=am (jc.below (Y46) hb);clear hb hbox hg;obtain ⟨Ao57,co57,eo57⟩:=Kd.jZ HO597.out;subst eo57;have hnb58:=NB599_594.out;have hnc58:=NB594_599.out;have hnb59:=NB599_0.out;have hnc59:=NB0_599.out;have hcz60_0:=bc0 BK599.out;have hfz60_0:=jb BK599.out 0) |((with_reducible refine jy (f:=88) rfl ?_);refine gL (some 11) Try.func88 #[.pointer (some ⟨g,0,none⟩), .int .i64 (t595.length:Int)] ?_;(with_reducible refine (jl.calls k g s0_0 t598 (t595.length:Int) t600 t601 w0 _ ?side1 ?side2 A3.out).mono ?_);(case side1=>exact Y9);(case side2=>exact Y27);rintro e w61 ⟨rfl,hi,hb,hk⟩;refine ⟨_,rfl,?_⟩;replace BK594:=am (jd.blk hk (g':=gb594) (o:=.cells #[.slice none 0 0] 37 (0,0)) (Y96) NB594_0.out (by simp));replace HO597:=am (Kd.jH (Kd.jla (jc.apart (show jc w0 _ g s0_0 t598 from Y9) (by (with_reducible repeat (first | apply Kd.jU | apply Kd.jW | apply Kd.jS));exact (Kd.jH (Kd.jra (p:=⟨gb599,0,none⟩) (Kd.jN HO597.out BK599.out (by decide)) (fun _ hk=>hk.2) (.slice Ao57 t595.length co57)) (fun _ h_=>h_.1))) (by decide)) hk (fun _ h=>h.2)) (fun _ h=>h.1));replace BK599:=am (jd.blk hk (g':=gb599) (o:=.cells #[.slice Ao57 t595.length co57] 37 (0,0)) (Y97) NB599_0.out (by simp));replace HK:=am (jd.trans (Y19) hk (.inl rfl));replace HB:=am (hb);replace HI0:=am (hi);(try clear hb);(try clear hb2);(try clear hk);(try clear hi)) |((with_reducible refine jy (f:=88) rfl ?_);refine gL (some 13) Try.func88 #[.pointer (some ⟨g,0,none⟩), .int .i64 24] ?_;(with_reducible refine (jl.calls k g s0_0 t601 24 t602 t603 w0 _ ?side1 ?side2 A4.out).mono ?_);(case side1=>exact Y9);(case side2=>exact Y27);rintro e w62 ⟨rfl,hi,hb,hk⟩;refine ⟨_,rfl,?_⟩;replace BK594:=am (jd.blk hk (g':=gb594) (o:=.cells #[.slice none 0 0] 37 (0,0)) (kq BK594.out) NB594_0.out (by simp));replace HO597:=am (Kd.jH (Kd.jla (jc.apart (show jc w0 _ g s0_0 t601 from Y9) (rq HO597.out) (by decide)) hk (fun _ h=>h.2)) (fun _ h=>h.1));replace BK599:=am (jd.blk hk (g':=gb599) (o:=.cells #[.slice Ao57 t595.length co57] 37 (0,0)) (kq BK599.out) NB599_0.out (by simp));replace HK:=am (jd.trans (Y19) hk (.inl rfl));replace HB:=am (hb);replace HI0:=am (hi);(try clear hb);(try clear hb2);(try clear hk);(try clear hi);have hnb63:=NB594_0.out;have hnc63:=NB0_594.out;have hcz64_0:=bc0 BK594.out;have hfz64_0:=jb BK594.out 0))
    refine bodyPost_ret (results_cell_row rfl _ _ gb594 37 #[.slice none 0 0] (0,0) _ rfl (Y98) Try.underlying37 rfl (by kernel_rfl)) rfl ?_
    exact ⟨_,Y1,Y139,Y9,Y27,Y19⟩
   ·rw [if_neg c53] at H
    have c53b0:(t602 == 2)=false:=beq_eq_false_iff_ne.mpr c53
    have c53b1:(t602 != 2)=true:=bne_iff_ne.mpr c53
    simp only [Option.some.injEq,Prod.mk.injEq] at H
    obtain ⟨rfl,rfl⟩:=H
    go_enter Try.func87,Try.ntmps87
    go_wp2_with (first |((with_reducible refine jD (N:=2) rfl ?_);refine bE (N:=2) (cs:=#[.slice none 0 0]) (t:=37) ?_;intro gb594 hg w65 hbox hb;have BK594:=am (hbox);have GW594:=am ((Y6:w.heap.size≤gb594));have GE594:=am ((Nat.le_trans HW0.out (Y6:w.heap.size≤gb594):w0.heap.size≤gb594));have NB0_594:=am ((Y24:g≠gb594));have NB594_0:=am ((Y25:gb594≠g));replace HK:=am (jd.trans (Y13) (jd.of_below hb g none) (.inl rfl));replace HB:=am (jf (Y14) hb);replace HI0:=am (jc.below (Y12) hb);clear hb hbox hg) |((with_reducible refine jy (f:=105) rfl ?_);refine gL (some 6) Try.func105 #[.pointer (some ⟨g,0,none⟩)] ?_;(with_reducible refine (jL.calls k g s0_0 s0_1 t595 t598 w0 _ ?side1 ?side2 A2.out).mono ?_);(case side1=>exact Y46);(case side2=>exact Y47);rintro e w66 ⟨v596,rfl,ho0,hi,hb,hk⟩;refine ⟨_,rfl,?_⟩;have HO597:=am (Kd.jia ho0 (jba (w:=w) (g:=g) (row:=none) (Y30)));replace BK594:=am (jd.blk hk (g':=gb594) (o:=.cells #[.slice none 0 0] 37 (0,0)) (kq BK594.out) NB594_0.out (by simp));replace HK:=am (jd.trans (Y30) hk (.inl rfl));replace HB:=am (hb);replace HI0:=am (hi);(try clear hb);(try clear hb2);(try clear hk);(try clear hi);(try clear ho0)) |((with_reducible refine jD (N:=3) rfl ?_);refine bE (N:=3) (cs:=#[.slice none 0 0]) (t:=37) ?_;intro gb599 hg w67 hbox hb;have BK599:=am (hbox);have GW599:=am ((Y48:w.heap.size≤gb599));have GE599:=am ((Nat.le_trans HW0.out (Y48:w.heap.size≤gb599):w0.heap.size≤gb599));have NB594_599:=am ((Y92:gb594≠gb599));have NB599_594:=am ((Y93:gb599≠gb594));have NB0_599:=am ((Y94:g≠gb599));have NB599_0:=am ((Y95:gb599≠g));replace HO597:=am (Kd.jX (rq HO597.out) hb);replace BK594:=am (je (g:=gb594) (o:=.cells #[.slice none 0 0] 37 (0,0)) (kq BK594.out) hb);replace HK:=am (jd.trans (Y30) (jd.of_below hb g none) (.inl rfl));replace HB:=am (jf (Y47) hb);replace HI0:=am (jc.below (Y46) hb);clear hb hbox hg;obtain ⟨Ao68,co68,eo68⟩:=Kd.jZ HO597.out;subst eo68;have hnb69:=NB599_594.out;have hnc69:=NB594_599.out;have hnb70:=NB599_0.out;have hnc70:=NB0_599.out;have hcz71_0:=bc0 BK599.out;have hfz71_0:=jb BK599.out 0) |((with_reducible refine jy (f:=88) rfl ?_);refine gL (some 11) Try.func88 #[.pointer (some ⟨g,0,none⟩), .int .i64 (t595.length:Int)] ?_;(with_reducible refine (jl.calls k g s0_0 t598 (t595.length:Int) t600 t601 w0 _ ?side1 ?side2 A3.out).mono ?_);(case side1=>exact Y9);(case side2=>exact Y27);rintro e w72 ⟨rfl,hi,hb,hk⟩;refine ⟨_,rfl,?_⟩;replace BK594:=am (jd.blk hk (g':=gb594) (o:=.cells #[.slice none 0 0] 37 (0,0)) (Y96) NB594_0.out (by simp));replace HO597:=am (Kd.jH (Kd.jla (jc.apart (show jc w0 _ g s0_0 t598 from Y9) (by (with_reducible repeat (first | apply Kd.jU | apply Kd.jW | apply Kd.jS));exact (Kd.jH (Kd.jra (p:=⟨gb599,0,none⟩) (Kd.jN HO597.out BK599.out (by decide)) (fun _ hk=>hk.2) (.slice Ao68 t595.length co68)) (fun _ h_=>h_.1))) (by decide)) hk (fun _ h=>h.2)) (fun _ h=>h.1));replace BK599:=am (jd.blk hk (g':=gb599) (o:=.cells #[.slice Ao68 t595.length co68] 37 (0,0)) (Y97) NB599_0.out (by simp));replace HK:=am (jd.trans (Y19) hk (.inl rfl));replace HB:=am (hb);replace HI0:=am (hi);(try clear hb);(try clear hb2);(try clear hk);(try clear hi)) |((with_reducible refine jy (f:=88) rfl ?_);refine gL (some 13) Try.func88 #[.pointer (some ⟨g,0,none⟩), .int .i64 24] ?_;(with_reducible refine (jl.calls k g s0_0 t601 24 t602 t603 w0 _ ?side1 ?side2 A4.out).mono ?_);(case side1=>exact Y9);(case side2=>exact Y27);rintro e w73 ⟨rfl,hi,hb,hk⟩;refine ⟨_,rfl,?_⟩;replace BK594:=am (jd.blk hk (g':=gb594) (o:=.cells #[.slice none 0 0] 37 (0,0)) (kq BK594.out) NB594_0.out (by simp));replace HO597:=am (Kd.jH (Kd.jla (jc.apart (show jc w0 _ g s0_0 t601 from Y9) (rq HO597.out) (by decide)) hk (fun _ h=>h.2)) (fun _ h=>h.1));replace BK599:=am (jd.blk hk (g':=gb599) (o:=.cells #[.slice Ao68 t595.length co68] 37 (0,0)) (kq BK599.out) NB599_0.out (by simp));replace HK:=am (jd.trans (Y19) hk (.inl rfl));replace HB:=am (hb);replace HI0:=am (hi);(try clear hb);(try clear hb2);(try clear hk);(try clear hi);have hcz74_0:=bc0 BK599.out;have hfz74_0:=jb BK599.out 0;have hnb75:=NB594_0.out;have hnc75:=NB0_594.out;have hcz76_0:=bc0 BK594.out;have hfz76_0:=jb BK594.out 0))
    refine bodyPost_ret (results_cell_row rfl _ _ gb594 37 #[.slice Ao68 t595.length co68] (0,0) _ rfl (Y98) Try.underlying37 rfl (by kernel_rfl)) rfl ?_
    exact ⟨_,Y1,by (with_reducible repeat (first | apply Kd.jU | apply Kd.jW | apply Kd.jS));exact Kd.jH (Kd.jra (p:=⟨gb594,0,none⟩) (Kd.jN HO597.out BK594.out (by decide)) (fun _ hk=>hk.2) (.slice Ao68 t595.length co68)) (fun _ hk=>trivial),Y9,Y27,Y19⟩
def jfb.f (k : Nat) (s0_0 : List Int) (s0_1 : Int) (l1_0 : List (S94)) : Option (Int × Int) := (jl.f k s0_0 s0_1 16).bind fun bt617 => (if bt617.1 = 0 then ((jv.f k s0_0 bt617.2 (([(-1), (l1_0.length : Int), 8] : List Int))).bind fun bt622 => (some (bt622.1, bt622.2))) else ((jl.f k s0_0 bt617.2 (l1_0.length : Int)).bind fun bt624 => (some (bt624.1, bt624.2))))
set_option maxHeartbeats 8000000 in
set_option maxRecDepth 100000 in
theorem jfb.calls (k : Nat) (g : Nat) (s0_0 : List Int) (s0_1 : Int) (A1_0 : Option Addr) (c1_0 : Nat) (l1_0 : List (S94)) (r1 : Int) (r2 : Int) (w0 w : World) (hI : jc w0 w g s0_0 s0_1) (hB : Below w0.heap.size w0 w) (hr1_0 : ∀ W_, jd w W_ g none → Kd.C k94 W_ A1_0 l1_0.length l1_0) (hc1_0 : l1_0.length ≤ c1_0) (h : jfb.f k s0_0 s0_1 l1_0 = some (r1, r2)) :
  Calls Try.prog 90 #[.pointer (some ⟨g,0,none⟩), .agg #[.slice A1_0 l1_0.length c1_0]] w fun e w'=>e=.returned (.int .i64 r1)∧jc w0 w' g s0_0 r2∧Below w0.heap.size w0 w'∧jd w w' g none:=by
 have hu37:=Try.underlying37
 have HR1_0:=am hr1_0
 have HC1_0:=am hc1_0
 clear hr1_0 hc1_0
 have HI0:=am hI
 have HK:=am (jd.refl w g none)
 have HL:=am hB.size
 clear hI
 have HW0:=am hB.size
 have HB:=am hB
 clear hB
 have H:((jl.f k s0_0 s0_1 16).bind fun bt617=>(if bt617.1=0 then ((jv.f k s0_0 bt617.2 (([(-1),(l1_0.length:Int),8]:List Int))).bind fun bt622=>(some (bt622.1,bt622.2))) else ((jl.f k s0_0 bt617.2 (l1_0.length:Int)).bind fun bt624=>(some (bt624.1,bt624.2)))))=some (r1,r2):=h
 clear h
 replace H:=bzS H
 obtain ⟨⟨t617,t618⟩,A30,H⟩:=H
 replace H:(if t617=0 then ((jv.f k s0_0 t618 (([(-1),(l1_0.length:Int),8]:List Int))).bind fun bt622=>(some (bt622.1,bt622.2))) else ((jl.f k s0_0 t618 (l1_0.length:Int)).bind fun bt624=>(some (bt624.1,bt624.2))))=some (r1,r2):=H
 have A3:=am A30
 clear A30
 by_cases c4:t617=0
 ·rw [if_pos c4] at H
  have c4b0:(t617 == 0)=true:=beq_iff_eq.mpr c4
  have c4b1:(t617 != 0)=false:=bne_eq_false_iff_eq.mpr c4
  clear c4
  obtain ⟨y619,hy619⟩:∃ y_:List Int,y_=(([(-1),(l1_0.length:Int),8]:List Int)):=⟨_,rfl⟩
  replace H:((jv.f k s0_0 t618 y619).bind fun bt622=>(some (bt622.1,bt622.2)))=some (r1,r2):=by first |(rw [hy619];with_reducible exact H) |(have H2_:=(Option.bind_some _ _).symm.trans H;rw [hy619];with_reducible exact H2_) |(have H2_:=(Option.bind_some _ _).symm.trans H;with_reducible exact H2_) | with_reducible exact H |(rw [hy619];exact H) | exact H
  have Ny619:=am hy619
  clear hy619
  replace H:=bzS H
  obtain ⟨⟨t622,t623⟩,A50,H⟩:=H
  replace H:(some (t622,t623))=some (r1,r2):=H
  have A5:=am A50
  clear A50
  simp only [Option.some.injEq,Prod.mk.injEq] at H
  obtain ⟨rfl,rfl⟩:=H
  go_enter Try.func90,Try.ntmps90
  go_wp2_with (first |((with_reducible refine jD (N:=3) rfl ?_);refine bE (N:=3) (cs:=#[.slice A1_0 l1_0.length c1_0]) (t:=37) ?_;intro gb616 hg w6 hbox hb;have BK616:=am (hbox);have GW616:=am ((Y6:w.heap.size≤gb616));have GE616:=am ((Nat.le_trans HW0.out (Y6:w.heap.size≤gb616):w0.heap.size≤gb616));have NB0_616:=am ((Y24:g≠gb616));have NB616_0:=am ((Y25:gb616≠g));replace HK:=am (jd.trans (Y13) (jd.of_below hb g none) (.inl rfl));replace HB:=am (jf (Y14) hb);replace HI0:=am (jc.below (Y12) hb);clear hb hbox hg) |((with_reducible refine jy (f:=88) rfl ?_);refine gL (some 6) Try.func88 #[.pointer (some ⟨g,0,none⟩), .int .i64 16] ?_;(with_reducible refine (jl.calls k g s0_0 s0_1 16 t617 t618 w0 _ ?side1 ?side2 A3.out).mono ?_);(case side1=>exact Y49);(case side2=>exact Y56);rintro e w7 ⟨rfl,hi,hb,hk⟩;refine ⟨_,rfl,?_⟩;replace BK616:=am (jd.blk hk (g':=gb616) (o:=.cells #[.slice A1_0 l1_0.length c1_0] 37 (0,0)) (kq BK616.out) NB616_0.out (by simp));replace HK:=am (jd.trans (Y50) hk (.inl rfl));replace HB:=am (hb);replace HI0:=am (hi);(try clear hb);(try clear hb2);(try clear hk);(try clear hi);have hnb8:=NB616_0.out;have hnc8:=NB0_616.out;have hcz9_0:=bc0 BK616.out;have hfz9_0:=jb BK616.out 0) |((with_reducible refine jD (N:=12) rfl ?_);refine Kd.R_lit (Kd.int .i64) _ 3 ?hg (N:=12) ?hd (xs:=([(-1),(l1_0.length:Int),8]:List Int)) (inner:=[.int .i64 (-1), .int .i64 (l1_0.length:Int), .int .i64 8]) (ok:=fun _=>True) (okp:=fun _=>True) ?hr ?hp (fun _ hk=>hk) trivial (Below.refl _ _) (Nat.le_refl _) (by simp) ?_;(case hd=>rfl);(case hg=>rfl);(case hr=>exact Y4);(case hp=>exact (Reps.one (show Kd.M (Kd.int .i64) _ _ _ (-1) [.int .i64 (-1)] from rfl) (Reps.one (show Kd.M (Kd.int .i64) _ _ _ (l1_0.length:Int) [.int .i64 (l1_0.length:Int)] from rfl) (Reps.one (show Kd.M (Kd.int .i64) _ _ _ 8 [.int .i64 8] from rfl) (Reps.none _ _)))));intro v620 w10 ho11 hb hg_ hnew_;clear hg_ hnew_;(first | rw [← Ny619.out] at ho11 |(simp only [Int.reduceToNat] at ho11;rw [← Ny619.out] at ho11));have HO621:=am (Kd.jia ho11 (jba (w:=w) (g:=g) (row:=none) (Y50)));replace BK616:=am (je (g:=gb616) (o:=.cells #[.slice A1_0 l1_0.length c1_0] 37 (0,0)) (kq BK616.out) hb);replace HK:=am (jd.trans (Y50) (jd.of_below hb g none) (.inl rfl));replace HB:=am (jf (Y56) hb);replace HI0:=am (jc.below (Y49) hb);clear hb ho11;obtain ⟨Ao12,co12,eo12⟩:=Kd.jZ HO621.out;subst eo12) |((with_reducible refine jy (f:=89) rfl ?_);refine gL (some 13) Try.func89 #[.pointer (some ⟨g,0,none⟩), .slice Ao12 y619.length co12] ?_;(with_reducible refine (jv.calls k g s0_0 t618 _ _ y619 t622 t623 w0 _ ?side1 ?side2 ?side3 ?side4 ?side5 A5.out).mono ?_);(case side1=>exact Y49);(case side2=>exact Y56);(case side3=>exact cq (Kd.jB HO621.out).2.2);(case side4=>exact (Kd.jB HO621.out).2.1);(case side5=>exact jnb (jc.own_ne HI0.out HO621.out (by decide)));rintro e w13 ⟨rfl,hi,hb,hk⟩;refine ⟨_,rfl,?_⟩;replace BK616:=am (jd.blk hk (g':=gb616) (o:=.cells #[.slice A1_0 l1_0.length c1_0] 37 (0,0)) (kq BK616.out) NB616_0.out (by simp));replace HO621:=am (Kd.jH (Kd.jla (jc.apart (show jc w0 _ g s0_0 t618 from Y49) (rq HO621.out) (by decide)) hk (fun _ h=>h.2)) (fun _ h=>h.1));replace HK:=am (jd.trans (Y50) hk (.inl rfl));replace HB:=am (hb);replace HI0:=am (hi);(try clear hb);(try clear hb2);(try clear hk);(try clear hi)))
  go_ret
  exact ⟨Y1,Y49,Y56,Y50⟩
 ·rw [if_neg c4] at H
  have c4b0:(t617 == 0)=false:=beq_eq_false_iff_ne.mpr c4
  have c4b1:(t617 != 0)=true:=bne_iff_ne.mpr c4
  replace H:=bzS H
  obtain ⟨⟨t624,t625⟩,A140,H⟩:=H
  replace H:(some (t624,t625))=some (r1,r2):=H
  have A14:=am A140
  clear A140
  simp only [Option.some.injEq,Prod.mk.injEq] at H
  obtain ⟨rfl,rfl⟩:=H
  go_enter Try.func90,Try.ntmps90
  go_wp2_with (first |((with_reducible refine jD (N:=3) rfl ?_);refine bE (N:=3) (cs:=#[.slice A1_0 l1_0.length c1_0]) (t:=37) ?_;intro gb616 hg w15 hbox hb;have BK616:=am (hbox);have GW616:=am ((Y6:w.heap.size≤gb616));have GE616:=am ((Nat.le_trans HW0.out (Y6:w.heap.size≤gb616):w0.heap.size≤gb616));have NB0_616:=am ((Y24:g≠gb616));have NB616_0:=am ((Y25:gb616≠g));replace HK:=am (jd.trans (Y13) (jd.of_below hb g none) (.inl rfl));replace HB:=am (jf (Y14) hb);replace HI0:=am (jc.below (Y12) hb);clear hb hbox hg) |((with_reducible refine jy (f:=88) rfl ?_);refine gL (some 6) Try.func88 #[.pointer (some ⟨g,0,none⟩), .int .i64 16] ?_;(with_reducible refine (jl.calls k g s0_0 s0_1 16 t617 t618 w0 _ ?side1 ?side2 A3.out).mono ?_);(case side1=>exact Y49);(case side2=>exact Y56);rintro e w16 ⟨rfl,hi,hb,hk⟩;refine ⟨_,rfl,?_⟩;replace BK616:=am (jd.blk hk (g':=gb616) (o:=.cells #[.slice A1_0 l1_0.length c1_0] 37 (0,0)) (kq BK616.out) NB616_0.out (by simp));replace HK:=am (jd.trans (Y50) hk (.inl rfl));replace HB:=am (hb);replace HI0:=am (hi);(try clear hb);(try clear hb2);(try clear hk);(try clear hi);have hnb17:=NB616_0.out;have hnc17:=NB0_616.out;have hcz18_0:=bc0 BK616.out;have hfz18_0:=jb BK616.out 0) |((with_reducible refine jy (f:=88) rfl ?_);refine gL (some 18) Try.func88 #[.pointer (some ⟨g,0,none⟩), .int .i64 (l1_0.length:Int)] ?_;(with_reducible refine (jl.calls k g s0_0 t618 (l1_0.length:Int) t624 t625 w0 _ ?side1 ?side2 A14.out).mono ?_);(case side1=>exact Y49);(case side2=>exact Y56);rintro e w19 ⟨rfl,hi,hb,hk⟩;refine ⟨_,rfl,?_⟩;replace BK616:=am (jd.blk hk (g':=gb616) (o:=.cells #[.slice A1_0 l1_0.length c1_0] 37 (0,0)) (kq BK616.out) NB616_0.out (by simp));replace HK:=am (jd.trans (Y50) hk (.inl rfl));replace HB:=am (hb);replace HI0:=am (hi);(try clear hb);(try clear hb2);(try clear hk);(try clear hi)))
  go_ret
  exact ⟨Y1,Y49,Y56,Y50⟩
end Go.Proofs.Ytecdfgejmbpclaa.P
end
