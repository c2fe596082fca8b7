/- One part of the proofs on this program: functions of the program as plain functions, that the code comes to them, and facts on them. -/
import Derived.Test.YtecdfgejmbpclaaYAll1
import Derived.Test.YtecdfgejmbpclaaYAll2
import Derived.Test.YtecdfgejmbpclaaYAll3
import Derived.Test.YtecdfgejmbpclaaYWAuto
section
namespace Go.Proofs.Ytecdfgejmbpclaa.P
open Go.RowKit Go.Proofs.YtecdfgejmbpclaaW.PrintWords Go.Proofs.YtecdfgejmbpclaaW.PrintLast Go.Proofs.YtecdfgejmbpclaaW.PrintMore
attribute [local go_sem] jxa jva jGa jFa jna jma jwa jua jD
set_option linter.unusedVariables false
set_option linter.unusedSimpArgs false
def jba.f (k : Nat) (s0_0 : List Int) (s0_1 : Int) : Option ((List (S94)) × Int) := (jP.f k s0_0 s0_1).bind fun bt398 => ((jl.f k s0_0 bt398.2 (bt398.1.length : Int)).bind fun bt403 => ((jl.f k s0_0 bt403.2 24).bind fun bt405 => (if bt405.1 = 0 then ((jRa.f k s0_0 bt405.2 (([(⟨#[]⟩ : ByteArray), (⟨#[97, 110, 121]⟩ : ByteArray), (⟨#[65]⟩ : ByteArray), (⟨#[116, 111, 111, 108, 111, 110, 103]⟩ : ByteArray)] : List ByteArray))).bind fun bt410 => (if 0 ≤ bt403.1 then (if bt403.1 < (bt398.1.length : Int) then (some ((bt398.1.set (bt403.1 : Int).toNat (⟨bt410.1, (jS bt398.1 bt403.1).f1⟩ : S94)), bt410.2)) else (none)) else (none))) else (if bt405.1 = 1 then ((jw.f k s0_0 bt405.2 (([bt403.1, (-1), 8, (-2)] : List Int))).bind fun bt416 => (if 0 ≤ bt403.1 then (if bt403.1 < (bt398.1.length : Int) then (some ((bt398.1.set (bt403.1 : Int).toNat (⟨(jS bt398.1 bt403.1).f0, bt416.1⟩ : S94)), bt416.2)) else (none)) else (none))) else (if bt405.1 = 2 then (some (([] : List (S94)), bt405.2)) else (some (bt398.1, bt405.2)))))))
def jba.T5 : Bool × List (List Nat × List Nat) := (true, [([], []), ([0], [0]), ([], []), ([], []), ([], []), ([3, 4], [3, 4]), ([1, 2, 0, 1, 2, 3, 4, 5], [1, 2]), ([6, 0, 1, 2, 3, 4, 5], [6]), ([7, 5, 5, 0, 1, 2, 3, 4, 5], [5, 7])])
def jba.B5 : List Nat := [0, 1, 0, 0, 0, 24, 63, 127, 255]
theorem jba.tab5 : rtab .any (opsOf Try.f87 5) = jba.T5 := by kernel_rfl
theorem jba.bits5 : jGb jba.T5.2 jba.B5 = true := by kernel_rfl
def jba.T7 : Bool × List (List Nat × List Nat) := (true, [([], []), ([0], [0]), ([], []), ([], []), ([], []), ([4], [4]), ([3, 5], [3, 5]), ([1, 2, 0, 1, 2, 3, 4, 5, 6], [1, 2]), ([7, 0, 1, 2, 3, 4, 5, 6], [7]), ([8, 6, 6, 0, 1, 2, 3, 4, 5, 6], [6, 8])])
def jba.B7 : List Nat := [0, 1, 0, 0, 0, 16, 56, 127, 255, 511]
theorem jba.tab7 : rtab .any (opsOf Try.f87 7) = jba.T7 := by kernel_rfl
theorem jba.bits7 : jGb jba.T7.2 jba.B7 = true := by kernel_rfl
set_option maxHeartbeats 8000000 in
set_option maxRecDepth 100000 in
theorem jba.calls (k : Nat) (g : Nat) (s0_0 : List Int) (s0_1 : Int) (r1 : List (S94)) (r2 : Int) (w0 w : World) (hI : ja w0 w g s0_0 s0_1) (hB : Below w0.heap.size w0 w) (h : jba.f k s0_0 s0_1 = some (r1, r2)) :
  Calls Try.prog 87 #[.pointer (some ⟨g,0,none⟩)] w fun e w'=>∃ v0_:Value,e=.returned (.agg #[v0_])∧Kd.R k94 94 w' w.heap.size (fun _=>True) v0_ r1∧ja w0 w' g s0_0 r2∧Below w0.heap.size w0 w'∧jd w w' g none:=by
 have hu37:=Try.underlying37
 have HI0:=am hI
 have HK:=am (jd.refl w g none)
 have HL:=am hB.size
 clear hI
 have HW0:=am hB.size
 have HB:=am hB
 clear hB
 have H:((jP.f k s0_0 s0_1).bind fun bt398=>((jl.f k s0_0 bt398.2 (bt398.1.length:Int)).bind fun bt403=>((jl.f k s0_0 bt403.2 24).bind fun bt405=>(if bt405.1=0 then ((jRa.f k s0_0 bt405.2 (([(⟨#[]⟩:ByteArray),(⟨#[97,110,121]⟩:ByteArray),(⟨#[65]⟩:ByteArray),(⟨#[116,111,111,108,111,110,103]⟩:ByteArray)]:List ByteArray))).bind fun bt410=>(if 0≤bt403.1 then (if bt403.1<(bt398.1.length:Int) then (some ((bt398.1.set (bt403.1:Int).toNat (⟨bt410.1,(jS bt398.1 bt403.1).f1⟩:S94)),bt410.2)) else (none)) else (none))) else (if bt405.1=1 then ((jw.f k s0_0 bt405.2 (([bt403.1,(-1),8,(-2)]:List Int))).bind fun bt416=>(if 0≤bt403.1 then (if bt403.1<(bt398.1.length:Int) then (some ((bt398.1.set (bt403.1:Int).toNat (⟨(jS bt398.1 bt403.1).f0,bt416.1⟩:S94)),bt416.2)) else (none)) else (none))) else (if bt405.1=2 then (some (([]:List (S94)),bt405.2)) else (some (bt398.1,bt405.2))))))))=some (r1,r2):=h
 clear h
 replace H:=bzS H
 obtain ⟨⟨t398,t401⟩,A20,H⟩:=H
 replace H:((jl.f k s0_0 t401 (t398.length:Int)).bind fun bt403=>((jl.f k s0_0 bt403.2 24).bind fun bt405=>(if bt405.1=0 then ((jRa.f k s0_0 bt405.2 (([(⟨#[]⟩:ByteArray),(⟨#[97,110,121]⟩:ByteArray),(⟨#[65]⟩:ByteArray),(⟨#[116,111,111,108,111,110,103]⟩:ByteArray)]:List ByteArray))).bind fun bt410=>(if 0≤bt403.1 then (if bt403.1<(t398.length:Int) then (some ((t398.set (bt403.1:Int).toNat (⟨bt410.1,(jS t398 bt403.1).f1⟩:S94)),bt410.2)) else (none)) else (none))) else (if bt405.1=1 then ((jw.f k s0_0 bt405.2 (([bt403.1,(-1),8,(-2)]:List Int))).bind fun bt416=>(if 0≤bt403.1 then (if bt403.1<(t398.length:Int) then (some ((t398.set (bt403.1:Int).toNat (⟨(jS t398 bt403.1).f0,bt416.1⟩:S94)),bt416.2)) else (none)) else (none))) else (if bt405.1=2 then (some (([]:List (S94)),bt405.2)) else (some (t398,bt405.2)))))))=some (r1,r2):=H
 have A2:=am A20
 clear A20
 replace H:=bzS H
 obtain ⟨⟨t403,t404⟩,A30,H⟩:=H
 replace H:((jl.f k s0_0 t404 24).bind fun bt405=>(if bt405.1=0 then ((jRa.f k s0_0 bt405.2 (([(⟨#[]⟩:ByteArray),(⟨#[97,110,121]⟩:ByteArray),(⟨#[65]⟩:ByteArray),(⟨#[116,111,111,108,111,110,103]⟩:ByteArray)]:List ByteArray))).bind fun bt410=>(if 0≤t403 then (if t403<(t398.length:Int) then (some ((t398.set (t403:Int).toNat (⟨bt410.1,(jS t398 t403).f1⟩:S94)),bt410.2)) else (none)) else (none))) else (if bt405.1=1 then ((jw.f k s0_0 bt405.2 (([t403,(-1),8,(-2)]:List Int))).bind fun bt416=>(if 0≤t403 then (if t403<(t398.length:Int) then (some ((t398.set (t403:Int).toNat (⟨(jS t398 t403).f0,bt416.1⟩:S94)),bt416.2)) else (none)) else (none))) else (if bt405.1=2 then (some (([]:List (S94)),bt405.2)) else (some (t398,bt405.2))))))=some (r1,r2):=H
 have A3:=am A30
 clear A30
 replace H:=bzS H
 obtain ⟨⟨t405,t406⟩,A40,H⟩:=H
 replace H:(if t405=0 then ((jRa.f k s0_0 t406 (([(⟨#[]⟩:ByteArray),(⟨#[97,110,121]⟩:ByteArray),(⟨#[65]⟩:ByteArray),(⟨#[116,111,111,108,111,110,103]⟩:ByteArray)]:List ByteArray))).bind fun bt410=>(if 0≤t403 then (if t403<(t398.length:Int) then (some ((t398.set (t403:Int).toNat (⟨bt410.1,(jS t398 t403).f1⟩:S94)),bt410.2)) else (none)) else (none))) else (if t405=1 then ((jw.f k s0_0 t406 (([t403,(-1),8,(-2)]:List Int))).bind fun bt416=>(if 0≤t403 then (if t403<(t398.length:Int) then (some ((t398.set (t403:Int).toNat (⟨(jS t398 t403).f0,bt416.1⟩:S94)),bt416.2)) else (none)) else (none))) else (if t405=2 then (some (([]:List (S94)),t406)) else (some (t398,t406)))))=some (r1,r2):=H
 have A4:=am A40
 clear A40
 by_cases c5:t405=0
 ·rw [if_pos c5] at H
  have c5b0:(t405 == 0)=true:=beq_iff_eq.mpr c5
  have c5b1:(t405 != 0)=false:=bne_eq_false_iff_eq.mpr c5
  clear c5
  obtain ⟨y407,hy407⟩:∃ y_:List ByteArray,y_=(([(⟨#[]⟩:ByteArray),(⟨#[97,110,121]⟩:ByteArray),(⟨#[65]⟩:ByteArray),(⟨#[116,111,111,108,111,110,103]⟩:ByteArray)]:List ByteArray)):=⟨_,rfl⟩
  replace H:((jRa.f k s0_0 t406 y407).bind fun bt410=>(if 0≤t403 then (if t403<(t398.length:Int) then (some ((t398.set (t403:Int).toNat (⟨bt410.1,(jS t398 t403).f1⟩:S94)),bt410.2)) else (none)) else (none)))=some (r1,r2):=by first |(rw [hy407];with_reducible exact H) |(have H2_:=(Option.bind_some _ _).symm.trans H;rw [hy407];with_reducible exact H2_) |(have H2_:=(Option.bind_some _ _).symm.trans H;with_reducible exact H2_) | with_reducible exact H |(rw [hy407];exact H) | exact H
  have Ny407:=am hy407
  clear hy407
  replace H:=bzS H
  obtain ⟨⟨t410,t411⟩,A60,H⟩:=H
  replace H:(if 0≤t403 then (if t403<(t398.length:Int) then (some ((t398.set (t403:Int).toNat (⟨t410,(jS t398 t403).f1⟩:S94)),t411)) else (none)) else (none))=some (r1,r2):=H
  have A6:=am A60
  clear A60
  by_cases c7:0≤t403
  ·rw [if_pos c7] at H
   have c7b0:decide (0≤t403)=true:=dzT c7
   clear c7
   by_cases c8:t403<(t398.length:Int)
   ·rw [if_pos c8] at H
    have c8b0:decide (t403<(t398.length:Int))=true:=dzT c8
    clear c8
    obtain ⟨y412,hy412⟩:∃ y_:List (S94),y_=(t398.set (t403:Int).toNat (⟨t410,(jS t398 t403).f1⟩:S94)):=⟨_,rfl⟩
    replace H:(some (y412,t411))=some (r1,r2):=by first |(rw [hy412];with_reducible exact H) |(have H2_:=(Option.bind_some _ _).symm.trans H;rw [hy412];with_reducible exact H2_) |(have H2_:=(Option.bind_some _ _).symm.trans H;with_reducible exact H2_) | with_reducible exact H |(rw [hy412];exact H) | exact H
    have Ny412:=am hy412
    clear hy412
    simp only [Option.some.injEq,Prod.mk.injEq] at H
    obtain ⟨rfl,rfl⟩:=H
    go_enter Try.func87,Try.ntmps87
    try go_wp2_with (first |((with_reducible refine jG (N:=2) rfl ?_);refine bE (N:=2) (cs:=#[.slice none 0 0]) (t:=37) ?_;intro gb397 hg w10 hbox hb;have BK397:=am (hbox);have GW397:=am ((Y8:w.heap.size≤gb397));have GE397:=am ((Nat.le_trans HW0.out (Y8:w.heap.size≤gb397):w0.heap.size≤gb397));have NB0_397:=am ((Y25:g≠gb397));have NB397_0:=am ((Y26:gb397≠g));replace HK:=am (jd.trans (Y14) (jd.of_below hb g none) (.inl rfl));replace HB:=am (jf (Y15) hb);replace HI0:=am (ja.below (Y13) hb);clear hb hbox hg) |((with_reducible refine jA (f:=105) rfl ?_);refine gL (some 6) Try.func105 #[.pointer (some ⟨g,0,none⟩)] ?_;(with_reducible refine (jP.calls k g s0_0 s0_1 t398 t401 w0 _ ?side1 ?side2 A2.out).mono ?_);(case side1=>exact Y47);(case side2=>exact Y48);rintro e w11 ⟨v399,rfl,ho0,hi,hb,hk⟩;refine ⟨_,rfl,?_⟩;have HO400:=am (Kd.jV ho0 (jda (w:=w) (g:=g) (row:=none) (Y31)));replace BK397:=am (jd.blk hk (g':=gb397) (o:=.cells #[.slice none 0 0] 37 (0,0)) (kq BK397.out) NB397_0.out (by simp));replace HK:=am (jd.trans (Y31) hk (.inl rfl));replace HB:=am (hb);replace HI0:=am (hi);(try clear hb);(try clear hb2);(try clear hk);(try clear hi);(try clear ho0)) |((with_reducible refine jG (N:=3) rfl ?_);refine bE (N:=3) (cs:=#[.slice none 0 0]) (t:=37) ?_;intro gb402 hg w12 hbox hb;have BK402:=am (hbox);have GW402:=am ((Y49:w.heap.size≤gb402));have GE402:=am ((Nat.le_trans HW0.out (Y49:w.heap.size≤gb402):w0.heap.size≤gb402));have NB397_402:=am ((Y95:gb397≠gb402));have NB402_397:=am ((Y96:gb402≠gb397));have NB0_402:=am ((Y97:g≠gb402));have NB402_0:=am ((Y98:gb402≠g));replace HO400:=am (Kd.jO (rq HO400.out) hb);replace BK397:=am (jc (g:=gb397) (o:=.cells #[.slice none 0 0] 37 (0,0)) (kq BK397.out) hb);replace HK:=am (jd.trans (Y31) (jd.of_below hb g none) (.inl rfl));replace HB:=am (jf (Y48) hb);replace HI0:=am (ja.below (Y47) hb);clear hb hbox hg;obtain ⟨Ao13,co13,eo13⟩:=Kd.jN HO400.out;subst eo13;have hnb14:=NB402_397.out;have hnc14:=NB397_402.out;have hnb15:=NB402_0.out;have hnc15:=NB0_402.out;have hcz16_0:=bc0 BK402.out;have hfz16_0:=je BK402.out 0) |((with_reducible refine jA (f:=88) rfl ?_);refine gL (some 11) Try.func88 #[.pointer (some ⟨g,0,none⟩), .int .i64 (t398.length:Int)] ?_;(with_reducible refine (jl.calls k g s0_0 t401 (t398.length:Int) t403 t404 w0 _ ?side1 ?side2 A3.out).mono ?_);(case side1=>exact Y10);(case side2=>exact Y28);rintro e w17 ⟨rfl,hi,hb,hk⟩;refine ⟨_,rfl,?_⟩;replace BK397:=am (jd.blk hk (g':=gb397) (o:=.cells #[.slice none 0 0] 37 (0,0)) (Y99) NB397_0.out (by simp));replace HO400:=am (Kd.jH (Kd.joa (ja.apart (show ja w0 _ g s0_0 t401 from Y10) (by (with_reducible repeat (first | apply Kd.jW | apply Kd.jY | apply Kd.jU));exact (Kd.jH (Kd.jya (p:=⟨gb402,0,none⟩) (Kd.jR HO400.out BK402.out (by decide)) (fun _ hk=>hk.2) (.slice Ao13 t398.length co13)) (fun _ h_=>h_.1))) (by decide)) hk (fun _ h=>h.2)) (fun _ h=>h.1));replace BK402:=am (jd.blk hk (g':=gb402) (o:=.cells #[.slice Ao13 t398.length co13] 37 (0,0)) (Y100) NB402_0.out (by simp));replace HK:=am (jd.trans (Y20) hk (.inl rfl));replace HB:=am (hb);replace HI0:=am (hi);(try clear hb);(try clear hb2);(try clear hk);(try clear hi)) |((with_reducible refine jA (f:=88) rfl ?_);refine gL (some 13) Try.func88 #[.pointer (some ⟨g,0,none⟩), .int .i64 24] ?_;(with_reducible refine (jl.calls k g s0_0 t404 24 t405 t406 w0 _ ?side1 ?side2 A4.out).mono ?_);(case side1=>exact Y10);(case side2=>exact Y28);rintro e w18 ⟨rfl,hi,hb,hk⟩;refine ⟨_,rfl,?_⟩;replace BK397:=am (jd.blk hk (g':=gb397) (o:=.cells #[.slice none 0 0] 37 (0,0)) (kq BK397.out) NB397_0.out (by simp));replace HO400:=am (Kd.jH (Kd.joa (ja.apart (show ja w0 _ g s0_0 t404 from Y10) (rq HO400.out) (by decide)) hk (fun _ h=>h.2)) (fun _ h=>h.1));replace BK402:=am (jd.blk hk (g':=gb402) (o:=.cells #[.slice Ao13 t398.length co13] 37 (0,0)) (kq BK402.out) NB402_0.out (by simp));replace HK:=am (jd.trans (Y20) hk (.inl rfl));replace HB:=am (hb);replace HI0:=am (hi);(try clear hb);(try clear hb2);(try clear hk);(try clear hi)))
    replace HO400:=am (Kd.jU HO400.out)
    replace BK397:=am (jg BK397.out)
    replace BK402:=am (jg BK402.out)
    replace HI0:=am (ja.drew HI0.out)
    replace HK:=am (jZ HK.out)
    replace HB:=am (jy HB.out)
    refine jLb (n:=9) (S:=fun w'=>w'.cell? ⟨gb402,0,none⟩=some (.slice Ao13 t398.length co13)) (ds:=[8]) #[false,false,false,false,false,false,false,false,false] (by kernel_rfl) rfl rfl ((jI BK402.out 0).trans rfl) (fun hHeld=>?_);refine jAb jba.tab5 jba.bits5 (fun HT_ HW_=>?_)
    generalize w18.drew=w19 at HO400 BK397 BK402 HI0 HK HB hHeld ⊢
    refine pq (i:=0) (N:=some 16) #[true,false,false,false,false,false,false,false,false] ?_
    refine pq (i:=2) (N:=some 18) #[true,false,true,false,false,false,false,false,false] ?_
    refine pq (i:=3) (N:=some 19) #[true,false,true,true,false,false,false,false,false] ?_
    refine jBb (i:=1) (N:=some 17) (v:=?_) (a':=?_) #[true,true,true,true,false,false,false,false,false] rfl rfl (jgb HT_.out HW_.out (by kernel_rfl)) (fun _ _ _ h=>h) (Or.inl ⟨by rfl,?_⟩) hHeld ?_ ?_
    rotate_left
    ·intro w' s0
     go_simp
     with_reducible rfl
    rotate_left
    ·exact sa
    refine one_ (i:=4) (N:=some 20) #[true,true,true,true,true,false,false,false,false] rfl rfl (jcb HT_.out (by kernel_rfl)) (by decide) (fun K hK=>?_)
    refine Kd.jEb Kd.string _ 9 ?hg (N:=20) ?hd (xs:=([(⟨#[]⟩:ByteArray),(⟨#[97,110,121]⟩:ByteArray),(⟨#[65]⟩:ByteArray),(⟨#[116,111,111,108,111,110,103]⟩:ByteArray)]:List ByteArray)) (inner:=[.string (⟨#[]⟩:ByteArray), .string (⟨#[97,110,121]⟩:ByteArray), .string (⟨#[65]⟩:ByteArray), .string (⟨#[116,111,111,108,111,110,103]⟩:ByteArray)]) (ok:=fun _=>True) (okp:=fun _=>True) ?hr ?hp (fun _ hk=>hk) trivial (Below.refl _ _) (Nat.le_refl _) (by simp) ?_;(case hd=>rfl);(case hg=>rfl);(case hr=>exact Y3);(case hp=>exact (Reps.one (show Kd.M Kd.string _ _ _ (⟨#[]⟩:ByteArray) [.string (⟨#[]⟩:ByteArray)] from rfl) (Reps.one (show Kd.M Kd.string _ _ _ (⟨#[97,110,121]⟩:ByteArray) [.string (⟨#[97,110,121]⟩:ByteArray)] from rfl) (Reps.one (show Kd.M Kd.string _ _ _ (⟨#[65]⟩:ByteArray) [.string (⟨#[65]⟩:ByteArray)] from rfl) (Reps.one (show Kd.M Kd.string _ _ _ (⟨#[116,111,111,108,111,110,103]⟩:ByteArray) [.string (⟨#[116,111,111,108,111,110,103]⟩:ByteArray)] from rfl) (Reps.none _ _))))))
    intro v408 w20 ho21 hb hg_ hnew_
    clear hg_ hnew_
    (first | rw [← Ny407.out] at ho21 |(simp only [Int.reduceToNat] at ho21;rw [← Ny407.out] at ho21))
    have HO409:=am (Kd.jV ho21 (jda (w:=w) (g:=g) (row:=none) (Y20)))
    replace HO400:=am (Kd.jO (rq HO400.out) hb)
    replace BK397:=am (jc (g:=gb397) (o:=.cells #[.slice none 0 0] 37 (0,0)) (kq BK397.out) hb)
    replace BK402:=am (jc (g:=gb402) (o:=.cells #[.slice Ao13 t398.length co13] 37 (0,0)) (kq BK402.out) hb)
    replace HK:=am (jd.trans (Y20) (jd.of_below hb g none) (.inl rfl))
    replace HB:=am (jf (Y28) hb)
    replace HI0:=am (ja.below (Y10) hb)
    clear hb ho21
    obtain ⟨Ao22,co22,eo22⟩:=Kd.jN HO409.out
    (first | subst eo22 |(injection eo22 with f1_ f2_ f3_;have f4_:=f1_.symm;have f5_:=f3_.symm;clear f1_ f2_ f3_;subst f4_;subst f5_))
    refine hK.out _ _ ((jI BK402.out 0).trans rfl) (fun hHeld=>?_)
    clear hK K
    refine jJb (a':=?_) ?_ ?_
    rotate_left
    ·show Act.put _ (some 20) _=_
     simp only [Act.put,List.setIfInBounds_toArray,List.set_cons_zero,List.set_cons_succ,jqb,jwb]
     rfl
    refine one_ (i:=5) (N:=some 21) #[true,true,true,true,true,true,false,false,false] rfl rfl (jcb HT_.out (by kernel_rfl)) (by decide) (fun K hK=>?_)
    refine goes_ Try.func106 (by kernel_rfl) rfl #[.pointer (some ⟨g,0,none⟩), .slice Ao22 y407.length co22] (by rfl) rfl rfl (aq) ?_
    with_reducible refine (jRa.calls k g s0_0 t406 _ _ y407 t410 t411 w0 _ ?side1 ?side2 ?side3 ?side4 ?side5 A6.out).mono ?_
    (case side1=>exact Y10)
    (case side2=>exact Y28)
    (case side3=>exact cq (Kd.jm HO409.out).2.2)
    (case side4=>exact (Kd.jm HO409.out).2.1)
    (case side5=>exact jsb (ja.own_ne HI0.out HO409.out (by decide)))
    rintro e w23 ⟨rfl,hi,hb,hk⟩
    refine ⟨_,rfl,?_⟩
    replace BK397:=am (jd.blk hk (g':=gb397) (o:=.cells #[.slice none 0 0] 37 (0,0)) (kq BK397.out) NB397_0.out (by simp))
    replace HO400:=am (Kd.jH (Kd.joa (ja.apart (show ja w0 _ g s0_0 t406 from Y10) (rq HO400.out) (by decide)) hk (fun _ h=>h.2)) (fun _ h=>h.1))
    replace BK402:=am (jd.blk hk (g':=gb402) (o:=.cells #[.slice Ao13 t398.length co13] 37 (0,0)) (kq BK402.out) NB402_0.out (by simp))
    replace HO409:=am (Kd.jH (Kd.joa (ja.apart (show ja w0 _ g s0_0 t406 from Y10) (rq HO409.out) (by decide)) hk (fun _ h=>h.2)) (fun _ h=>h.1))
    replace HK:=am (jd.trans (Y20) hk (.inl rfl))
    replace HB:=am (hb)
    replace HI0:=am (hi)
    (try clear hb)
    (try clear hb2)
    (try clear hk)
    (try clear hi)
    have p9:0≤(t403:Int):=ozD (uq)
    have q9:(t403:Int)<((t398.length:Int):Int):=ozD (uq)
    obtain ⟨go9,co9,eo9,gb9,gl9,cl9,HG9⟩:=Kd.R_form HO400.out (by omega)
    (first | cases eo9 |(injection eo9 with ea_ en_ ec_;(first | subst ea_ |(injection ea_ with ea_;subst ea_));subst ec_;clear en_))
    have GB9:=am gb9
    have GG9:=am HG9
    clear gb9 gl9 HG9
    obtain ⟨ce9,hcl9,hM9,hcc9,hfr9⟩:=Kd.jub HO400.out z94 (t403:Int) p9 q9
    obtain rfl:=k94_openM hM9
    have hx9_0:World.cell? _ ⟨go9,(t403:Int).toNat * 2,none⟩=some (.string ((jS t398 t403).f0)):=hcc9 0 _ rfl
    have hx9_1:World.cell? _ ⟨go9,(t403:Int).toNat * 2+1,none⟩=some (.int .i64 ((jS t398 t403).f1)):=hcc9 1 _ rfl
    have hf9_0:World.frozen? _ ⟨go9,(t403:Int).toNat * 2,none⟩=false:=hfr9 0
    have hf9_1:World.frozen? _ ⟨go9,(t403:Int).toNat * 2+1,none⟩=false:=hfr9 1
    clear hcl9 hcc9 hfr9 hM9
    replace p9:=ezT p9
    replace q9:=ezT q9
    have HN0_go9:=am (show g≠go9 from by have h_:=ja.own_ne HI0.out HO400.out (by decide);intro e_;exact h_ (by rw [e_];rfl))
    obtain ⟨ce24,hcl24,hM24,hcc24,hfr24⟩:=Kd.jub HO400.out z94 (t403:Int) (ozD (uq)) (by have h_:(t403:Int)<((t398.length:Int):Int):=ozD (uq);first | exact h_ |(have e_:=(Kd.jm HO400.out).1;omega) | simpa using h_)
    obtain rfl:=k94_openM hM24
    have HP24:=(Kd.R_seg HO400.out (t403:Int) (ozD (uq)) (by have h_:(t403:Int)<((t398.length:Int):Int):=ozD (uq);first | exact h_ |(have e_:=(Kd.jm HO400.out).1;omega) | simpa using h_) (seg:=[.string t410]) (j:=0) hcl24 hcc24 (show 1≤2 from by decide) (x':=(⟨t410,(jS t398 t403).f1⟩:S94)) (k94_mkM _ _ _ (⟨t410,(jS t398 t403).f1⟩:S94) ) (fun _ hk=>hk)).1
    rw [← Ny412.out] at HP24
    have HQ24:=am HP24
    clear hcl24 hcc24 hfr24 hM24 HP24
    refine hK.out _ _ ((jI BK402.out 0).trans rfl) (fun hHeld=>?_)
    clear hK K
    refine jJb (a':=?_) ?_ ?_
    rotate_left
    ·show Act.put _ (some 21) _=_
     simp only [Act.put,List.setIfInBounds_toArray,List.set_cons_zero,List.set_cons_succ,jqb,jwb]
     rfl
    refine pq (i:=6) (N:=some 22) #[true,true,true,true,true,true,true,false,false] ?_
    refine pq (i:=7) (N:=some 23) #[true,true,true,true,true,true,true,true,false] ?_
    refine last_ (i:=8) (N:=none) #[true,true,true,true,true,true,true,true,true] rfl rfl (jcb HT_.out (by kernel_rfl)) (by decide) (fun K hK=>?_)
    refine jRb (w1:=?_) (by rfl) rfl ?_ ?_
    rotate_left
    ·go_simp
     rfl
    refine hK.out _ _ ?_
    clear hK K
    refine done_ (jXb HT_.out (by kernel_rfl)) ?_
    have n0_:jB (Kd.R k94 94 (w23.setCell ⟨go9,(t403:Int).toNat * 2,none⟩ (.string t410)) w.heap.size (fun _=>True) (.slice (some ⟨go9,0,none⟩) t398.length co13) y412):=⟨rq HQ24.out⟩
    have n1_:jB (Kd.R Kd.string 9 (w23.setCell ⟨go9,(t403:Int).toNat * 2,none⟩ (.string t410)) w.heap.size (fun _=>True) (.slice Ao22 y407.length co22) y407):=⟨by (with_reducible repeat (first | apply Kd.jW | apply Kd.jY | apply Kd.jU));exact Kd.jH (Kd.jya (p:=⟨go9,(t403:Int).toNat * 2,none⟩) (Kd.jR HO409.out GG9.out (by decide)) (fun _ hk=>hk.2) (.string t410)) (fun _ hk=>trivial)⟩
    have n2_:jB ((w23.setCell ⟨go9,(t403:Int).toNat * 2,none⟩ (.string t410)).heap[gb397]?=some (.cells #[.slice none 0 0] 37 (0,0))):=⟨by (with_reducible repeat (first | refine jh ?_ _ | refine jg ?_ | refine jk ?_ _));refine jaa ?_ (by have h_:=Kd.R_ne HO400.out BK397.out (by decide);intro e_;exact h_ (by rw [e_];rfl)) _;(with_reducible repeat (first | refine jh ?_ _ | refine jg ?_ | refine jk ?_ _));exact BK397.out⟩
    have n3_:jB ((w23.setCell ⟨go9,(t403:Int).toNat * 2,none⟩ (.string t410)).heap[gb402]?=some (.cells #[.slice (some ⟨go9,0,none⟩) t398.length co13] 37 (0,0))):=⟨by (with_reducible repeat (first | refine jh ?_ _ | refine jg ?_ | refine jk ?_ _));refine jaa ?_ (by have h_:=Kd.R_ne HO400.out BK402.out (by decide);intro e_;exact h_ (by rw [e_];rfl)) _;(with_reducible repeat (first | refine jh ?_ _ | refine jg ?_ | refine jk ?_ _));exact BK402.out⟩
    have n4_:jB (ja w0 (w23.setCell ⟨go9,(t403:Int).toNat * 2,none⟩ (.string t410)) g s0_0 t411):=⟨by repeat (first |(with_reducible first | exact HI0.out | apply ja.alloc | apply ja.drewN | apply ja.drew | apply ja.jdb | refine ja.far ?_ HN0_go9.out _ | refine ja.far ?_ NB0_397.out _ | refine ja.far ?_ NB0_402.out _) | exact HI0.out)⟩
    have n5_:jB (jd w (w23.setCell ⟨go9,(t403:Int).toNat * 2,none⟩ (.string t410)) g none):=⟨by repeat (first |(with_reducible first | exact HK.out | apply jd.set_ | apply jia | apply jZ | apply jja | refine jM ?_ GB9.out _ | refine jM ?_ GW397.out _ | refine jM ?_ GW402.out _) | exact HK.out)⟩
    have n6_:jB (Below w0.heap.size w0 (w23.setCell ⟨go9,(t403:Int).toNat * 2,none⟩ (.string t410))):=⟨by repeat (first |(with_reducible first | exact HB.out | apply jC | apply jr | apply jy | refine jq ?_ (Nat.le_trans HL.out GB9.out) | refine jq ?_ (ja.ge HI0.out) | refine jq ?_ GE397.out | refine jq ?_ GE402.out) | exact HB.out)⟩
    (try clear HO400)
    (try clear HO409)
    (try clear BK397)
    (try clear BK402)
    (try clear HI0)
    (try clear HK)
    (try clear HB)
    generalize (w23.setCell ⟨go9,(t403:Int).toNat * 2,none⟩ (.string t410))=w25 at n0_ n1_ n2_ n3_ n4_ n5_ n6_ ⊢
    have HO400:=n0_
    have HO409:=n1_
    have BK397:=n2_
    have BK402:=n3_
    have HI0:=n4_
    have HK:=n5_
    have HB:=n6_
    clear n0_ n1_ n2_ n3_ n4_ n5_ n6_
    have hcz26_0:=bc0 BK402.out
    have hfz26_0:=je BK402.out 0
    have hnb27:=NB397_0.out
    have hnc27:=NB0_397.out
    have hcz28_0:=bc0 BK397.out
    have hfz28_0:=je BK397.out 0
    try go_wp2
    refine bodyPost_ret (results_cell_row rfl _ _ gb397 37 #[.slice (some ⟨go9,0,none⟩) t398.length co13] (0,0) _ rfl (Y101) Try.underlying37 rfl (by kernel_rfl)) rfl ?_
    exact ⟨_,Y2,by (with_reducible repeat (first | apply Kd.jW | apply Kd.jY | apply Kd.jU));exact Kd.jH (Kd.jya (p:=⟨gb397,0,none⟩) (Kd.jR HO400.out BK397.out (by decide)) (fun _ hk=>hk.2) (.slice (some ⟨go9,0,none⟩) t398.length co13)) (fun _ hk=>trivial),Y10,Y28,Y20⟩
   ·rw [if_neg c8] at H
    exact absurd H (by simp)
  ·rw [if_neg c7] at H
   exact absurd H (by simp)
 ·rw [if_neg c5] at H
  have c5b0:(t405 == 0)=false:=beq_eq_false_iff_ne.mpr c5
  have c5b1:(t405 != 0)=true:=bne_iff_ne.mpr c5
  by_cases c29:t405=1
  ·rw [if_pos c29] at H
   have c29b0:(t405 == 1)=true:=beq_iff_eq.mpr c29
   have c29b1:(t405 != 1)=false:=bne_eq_false_iff_eq.mpr c29
   clear c29
   obtain ⟨y413,hy413⟩:∃ y_:List Int,y_=(([t403,(-1),8,(-2)]:List Int)):=⟨_,rfl⟩
   replace H:((jw.f k s0_0 t406 y413).bind fun bt416=>(if 0≤t403 then (if t403<(t398.length:Int) then (some ((t398.set (t403:Int).toNat (⟨(jS t398 t403).f0,bt416.1⟩:S94)),bt416.2)) else (none)) else (none)))=some (r1,r2):=by first |(rw [hy413];with_reducible exact H) |(have H2_:=(Option.bind_some _ _).symm.trans H;rw [hy413];with_reducible exact H2_) |(have H2_:=(Option.bind_some _ _).symm.trans H;with_reducible exact H2_) | with_reducible exact H |(rw [hy413];exact H) | exact H
   have Ny413:=am hy413
   clear hy413
   replace H:=bzS H
   obtain ⟨⟨t416,t417⟩,A300,H⟩:=H
   replace H:(if 0≤t403 then (if t403<(t398.length:Int) then (some ((t398.set (t403:Int).toNat (⟨(jS t398 t403).f0,t416⟩:S94)),t417)) else (none)) else (none))=some (r1,r2):=H
   have A30:=am A300
   clear A300
   by_cases c31:0≤t403
   ·rw [if_pos c31] at H
    have c31b0:decide (0≤t403)=true:=dzT c31
    clear c31
    by_cases c32:t403<(t398.length:Int)
    ·rw [if_pos c32] at H
     have c32b0:decide (t403<(t398.length:Int))=true:=dzT c32
     clear c32
     obtain ⟨y418,hy418⟩:∃ y_:List (S94),y_=(t398.set (t403:Int).toNat (⟨(jS t398 t403).f0,t416⟩:S94)):=⟨_,rfl⟩
     replace H:(some (y418,t417))=some (r1,r2):=by first |(rw [hy418];with_reducible exact H) |(have H2_:=(Option.bind_some _ _).symm.trans H;rw [hy418];with_reducible exact H2_) |(have H2_:=(Option.bind_some _ _).symm.trans H;with_reducible exact H2_) | with_reducible exact H |(rw [hy418];exact H) | exact H
     have Ny418:=am hy418
     clear hy418
     simp only [Option.some.injEq,Prod.mk.injEq] at H
     obtain ⟨rfl,rfl⟩:=H
     go_enter Try.func87,Try.ntmps87
     try go_wp2_with (first |((with_reducible refine jG (N:=2) rfl ?_);refine bE (N:=2) (cs:=#[.slice none 0 0]) (t:=37) ?_;intro gb397 hg w34 hbox hb;have BK397:=am (hbox);have GW397:=am ((Y8:w.heap.size≤gb397));have GE397:=am ((Nat.le_trans HW0.out (Y8:w.heap.size≤gb397):w0.heap.size≤gb397));have NB0_397:=am ((Y25:g≠gb397));have NB397_0:=am ((Y26:gb397≠g));replace HK:=am (jd.trans (Y14) (jd.of_below hb g none) (.inl rfl));replace HB:=am (jf (Y15) hb);replace HI0:=am (ja.below (Y13) hb);clear hb hbox hg) |((with_reducible refine jA (f:=105) rfl ?_);refine gL (some 6) Try.func105 #[.pointer (some ⟨g,0,none⟩)] ?_;(with_reducible refine (jP.calls k g s0_0 s0_1 t398 t401 w0 _ ?side1 ?side2 A2.out).mono ?_);(case side1=>exact Y47);(case side2=>exact Y48);rintro e w35 ⟨v399,rfl,ho0,hi,hb,hk⟩;refine ⟨_,rfl,?_⟩;have HO400:=am (Kd.jV ho0 (jda (w:=w) (g:=g) (row:=none) (Y31)));replace BK397:=am (jd.blk hk (g':=gb397) (o:=.cells #[.slice none 0 0] 37 (0,0)) (kq BK397.out) NB397_0.out (by simp));replace HK:=am (jd.trans (Y31) hk (.inl rfl));replace HB:=am (hb);replace HI0:=am (hi);(try clear hb);(try clear hb2);(try clear hk);(try clear hi);(try clear ho0)) |((with_reducible refine jG (N:=3) rfl ?_);refine bE (N:=3) (cs:=#[.slice none 0 0]) (t:=37) ?_;intro gb402 hg w36 hbox hb;have BK402:=am (hbox);have GW402:=am ((Y49:w.heap.size≤gb402));have GE402:=am ((Nat.le_trans HW0.out (Y49:w.heap.size≤gb402):w0.heap.size≤gb402));have NB397_402:=am ((Y95:gb397≠gb402));have NB402_397:=am ((Y96:gb402≠gb397));have NB0_402:=am ((Y97:g≠gb402));have NB402_0:=am ((Y98:gb402≠g));replace HO400:=am (Kd.jO (rq HO400.out) hb);replace BK397:=am (jc (g:=gb397) (o:=.cells #[.slice none 0 0] 37 (0,0)) (kq BK397.out) hb);replace HK:=am (jd.trans (Y31) (jd.of_below hb g none) (.inl rfl));replace HB:=am (jf (Y48) hb);replace HI0:=am (ja.below (Y47) hb);clear hb hbox hg;obtain ⟨Ao37,co37,eo37⟩:=Kd.jN HO400.out;subst eo37;have hnb38:=NB402_397.out;have hnc38:=NB397_402.out;have hnb39:=NB402_0.out;have hnc39:=NB0_402.out;have hcz40_0:=bc0 BK402.out;have hfz40_0:=je BK402.out 0) |((with_reducible refine jA (f:=88) rfl ?_);refine gL (some 11) Try.func88 #[.pointer (some ⟨g,0,none⟩), .int .i64 (t398.length:Int)] ?_;(with_reducible refine (jl.calls k g s0_0 t401 (t398.length:Int) t403 t404 w0 _ ?side1 ?side2 A3.out).mono ?_);(case side1=>exact Y10);(case side2=>exact Y28);rintro e w41 ⟨rfl,hi,hb,hk⟩;refine ⟨_,rfl,?_⟩;replace BK397:=am (jd.blk hk (g':=gb397) (o:=.cells #[.slice none 0 0] 37 (0,0)) (Y99) NB397_0.out (by simp));replace HO400:=am (Kd.jH (Kd.joa (ja.apart (show ja w0 _ g s0_0 t401 from Y10) (by (with_reducible repeat (first | apply Kd.jW | apply Kd.jY | apply Kd.jU));exact (Kd.jH (Kd.jya (p:=⟨gb402,0,none⟩) (Kd.jR HO400.out BK402.out (by decide)) (fun _ hk=>hk.2) (.slice Ao37 t398.length co37)) (fun _ h_=>h_.1))) (by decide)) hk (fun _ h=>h.2)) (fun _ h=>h.1));replace BK402:=am (jd.blk hk (g':=gb402) (o:=.cells #[.slice Ao37 t398.length co37] 37 (0,0)) (Y100) NB402_0.out (by simp));replace HK:=am (jd.trans (Y20) hk (.inl rfl));replace HB:=am (hb);replace HI0:=am (hi);(try clear hb);(try clear hb2);(try clear hk);(try clear hi)) |((with_reducible refine jA (f:=88) rfl ?_);refine gL (some 13) Try.func88 #[.pointer (some ⟨g,0,none⟩), .int .i64 24] ?_;(with_reducible refine (jl.calls k g s0_0 t404 24 t405 t406 w0 _ ?side1 ?side2 A4.out).mono ?_);(case side1=>exact Y10);(case side2=>exact Y28);rintro e w42 ⟨rfl,hi,hb,hk⟩;refine ⟨_,rfl,?_⟩;replace BK397:=am (jd.blk hk (g':=gb397) (o:=.cells #[.slice none 0 0] 37 (0,0)) (kq BK397.out) NB397_0.out (by simp));replace HO400:=am (Kd.jH (Kd.joa (ja.apart (show ja w0 _ g s0_0 t404 from Y10) (rq HO400.out) (by decide)) hk (fun _ h=>h.2)) (fun _ h=>h.1));replace BK402:=am (jd.blk hk (g':=gb402) (o:=.cells #[.slice Ao37 t398.length co37] 37 (0,0)) (kq BK402.out) NB402_0.out (by simp));replace HK:=am (jd.trans (Y20) hk (.inl rfl));replace HB:=am (hb);replace HI0:=am (hi);(try clear hb);(try clear hb2);(try clear hk);(try clear hi)))
     replace HO400:=am (Kd.jU HO400.out)
     replace BK397:=am (jg BK397.out)
     replace BK402:=am (jg BK402.out)
     replace HI0:=am (ja.drew HI0.out)
     replace HK:=am (jZ HK.out)
     replace HB:=am (jy HB.out)
     refine jLb (n:=10) (S:=fun w'=>w'.cell? ⟨gb402,0,none⟩=some (.slice Ao37 t398.length co37)) (ds:=[9]) #[false,false,false,false,false,false,false,false,false,false] (by kernel_rfl) rfl rfl ((jI BK402.out 0).trans rfl) (fun hHeld=>?_);refine jAb jba.tab7 jba.bits7 (fun HT_ HW_=>?_)
     generalize w42.drew=w43 at HO400 BK397 BK402 HI0 HK HB hHeld ⊢
     refine pq (i:=0) (N:=some 26) #[true,false,false,false,false,false,false,false,false,false] ?_
     refine pq (i:=2) (N:=some 28) #[true,false,true,false,false,false,false,false,false,false] ?_
     refine pq (i:=3) (N:=some 29) #[true,false,true,true,false,false,false,false,false,false] ?_
     refine pq (i:=4) (N:=some 30) #[true,false,true,true,true,false,false,false,false,false] ?_
     refine jBb (i:=1) (N:=some 27) (v:=?_) (a':=?_) #[true,true,true,true,true,false,false,false,false,false] rfl rfl (jgb HT_.out HW_.out (by kernel_rfl)) (fun _ _ _ h=>h) (Or.inl ⟨by rfl,?_⟩) hHeld ?_ ?_
     rotate_left
     ·intro w' s0
      go_simp
      with_reducible rfl
     rotate_left
     ·exact sa
     refine one_ (i:=5) (N:=some 31) #[true,true,true,true,true,true,false,false,false,false] rfl rfl (jcb HT_.out (by kernel_rfl)) (by decide) (fun K hK=>?_)
     refine Kd.jEb (Kd.int .i64) _ 3 ?hg (N:=31) ?hd (xs:=([t403,(-1),8,(-2)]:List Int)) (inner:=[.int .i64 t403, .int .i64 (-1), .int .i64 8, .int .i64 (-2)]) (ok:=fun _=>True) (okp:=fun _=>True) ?hr ?hp (fun _ hk=>hk) trivial (Below.refl _ _) (Nat.le_refl _) (by simp) ?_;(case hd=>rfl);(case hg=>rfl);(case hr=>exact Y3);(case hp=>exact (Reps.one (show Kd.M (Kd.int .i64) _ _ _ t403 [.int .i64 t403] from rfl) (Reps.one (show Kd.M (Kd.int .i64) _ _ _ (-1) [.int .i64 (-1)] from rfl) (Reps.one (show Kd.M (Kd.int .i64) _ _ _ 8 [.int .i64 8] from rfl) (Reps.one (show Kd.M (Kd.int .i64) _ _ _ (-2) [.int .i64 (-2)] from rfl) (Reps.none _ _))))))
     intro v414 w44 ho45 hb hg_ hnew_
     clear hg_ hnew_
     (first | rw [← Ny413.out] at ho45 |(simp only [Int.reduceToNat] at ho45;rw [← Ny413.out] at ho45))
     have HO415:=am (Kd.jV ho45 (jda (w:=w) (g:=g) (row:=none) (Y20)))
     replace HO400:=am (Kd.jO (rq HO400.out) hb)
     replace BK397:=am (jc (g:=gb397) (o:=.cells #[.slice none 0 0] 37 (0,0)) (kq BK397.out) hb)
     replace BK402:=am (jc (g:=gb402) (o:=.cells #[.slice Ao37 t398.length co37] 37 (0,0)) (kq BK402.out) hb)
     replace HK:=am (jd.trans (Y20) (jd.of_below hb g none) (.inl rfl))
     replace HB:=am (jf (Y28) hb)
     replace HI0:=am (ja.below (Y10) hb)
     clear hb ho45
     obtain ⟨Ao46,co46,eo46⟩:=Kd.jN HO415.out
     (first | subst eo46 |(injection eo46 with f1_ f2_ f3_;have f4_:=f1_.symm;have f5_:=f3_.symm;clear f1_ f2_ f3_;subst f4_;subst f5_))
     refine hK.out _ _ ((jI BK402.out 0).trans rfl) (fun hHeld=>?_)
     clear hK K
     refine jJb (a':=?_) ?_ ?_
     rotate_left
     ·show Act.put _ (some 31) _=_
      simp only [Act.put,List.setIfInBounds_toArray,List.set_cons_zero,List.set_cons_succ,jqb,jwb]
      rfl
     refine one_ (i:=6) (N:=some 32) #[true,true,true,true,true,true,true,false,false,false] rfl rfl (jcb HT_.out (by kernel_rfl)) (by decide) (fun K hK=>?_)
     refine goes_ Try.func89 (by kernel_rfl) rfl #[.pointer (some ⟨g,0,none⟩), .slice Ao46 y413.length co46] (by rfl) rfl rfl (aq) ?_
     with_reducible refine (jw.calls k g s0_0 t406 _ _ y413 t416 t417 w0 _ ?side1 ?side2 ?side3 ?side4 ?side5 A30.out).mono ?_
     (case side1=>exact Y10)
     (case side2=>exact Y28)
     (case side3=>exact cq (Kd.jm HO415.out).2.2)
     (case side4=>exact (Kd.jm HO415.out).2.1)
     (case side5=>exact jsb (ja.own_ne HI0.out HO415.out (by decide)))
     rintro e w47 ⟨rfl,hi,hb,hk⟩
     refine ⟨_,rfl,?_⟩
     replace BK397:=am (jd.blk hk (g':=gb397) (o:=.cells #[.slice none 0 0] 37 (0,0)) (kq BK397.out) NB397_0.out (by simp))
     replace HO400:=am (Kd.jH (Kd.joa (ja.apart (show ja w0 _ g s0_0 t406 from Y10) (rq HO400.out) (by decide)) hk (fun _ h=>h.2)) (fun _ h=>h.1))
     replace BK402:=am (jd.blk hk (g':=gb402) (o:=.cells #[.slice Ao37 t398.length co37] 37 (0,0)) (kq BK402.out) NB402_0.out (by simp))
     replace HO415:=am (Kd.jH (Kd.joa (ja.apart (show ja w0 _ g s0_0 t406 from Y10) (rq HO415.out) (by decide)) hk (fun _ h=>h.2)) (fun _ h=>h.1))
     replace HK:=am (jd.trans (Y20) hk (.inl rfl))
     replace HB:=am (hb)
     replace HI0:=am (hi)
     (try clear hb)
     (try clear hb2)
     (try clear hk)
     (try clear hi)
     have p33:0≤(t403:Int):=ozD (uq)
     have q33:(t403:Int)<((t398.length:Int):Int):=ozD (uq)
     obtain ⟨go33,co33,eo33,gb33,gl33,cl33,HG33⟩:=Kd.R_form HO400.out (by omega)
     (first | cases eo33 |(injection eo33 with ea_ en_ ec_;(first | subst ea_ |(injection ea_ with ea_;subst ea_));subst ec_;clear en_))
     have GB33:=am gb33
     have GG33:=am HG33
     clear gb33 gl33 HG33
     obtain ⟨ce33,hcl33,hM33,hcc33,hfr33⟩:=Kd.jub HO400.out z94 (t403:Int) p33 q33
     obtain rfl:=k94_openM hM33
     have hx33_0:World.cell? _ ⟨go33,(t403:Int).toNat * 2,none⟩=some (.string ((jS t398 t403).f0)):=hcc33 0 _ rfl
     have hx33_1:World.cell? _ ⟨go33,(t403:Int).toNat * 2+1,none⟩=some (.int .i64 ((jS t398 t403).f1)):=hcc33 1 _ rfl
     have hf33_0:World.frozen? _ ⟨go33,(t403:Int).toNat * 2,none⟩=false:=hfr33 0
     have hf33_1:World.frozen? _ ⟨go33,(t403:Int).toNat * 2+1,none⟩=false:=hfr33 1
     clear hcl33 hcc33 hfr33 hM33
     replace p33:=ezT p33
     replace q33:=ezT q33
     have HN0_go33:=am (show g≠go33 from by have h_:=ja.own_ne HI0.out HO400.out (by decide);intro e_;exact h_ (by rw [e_];rfl))
     obtain ⟨ce48,hcl48,hM48,hcc48,hfr48⟩:=Kd.jub HO400.out z94 (t403:Int) (ozD (uq)) (by have h_:(t403:Int)<((t398.length:Int):Int):=ozD (uq);first | exact h_ |(have e_:=(Kd.jm HO400.out).1;omega) | simpa using h_)
     obtain rfl:=k94_openM hM48
     have HP48:=(Kd.R_seg HO400.out (t403:Int) (ozD (uq)) (by have h_:(t403:Int)<((t398.length:Int):Int):=ozD (uq);first | exact h_ |(have e_:=(Kd.jm HO400.out).1;omega) | simpa using h_) (seg:=[.int .i64 t416]) (j:=1) hcl48 hcc48 (show 2≤2 from by decide) (x':=(⟨(jS t398 t403).f0,t416⟩:S94)) (k94_mkM _ _ _ (⟨(jS t398 t403).f0,t416⟩:S94) ) (fun _ hk=>hk)).1
     rw [← Ny418.out] at HP48
     have HQ48:=am HP48
     clear hcl48 hcc48 hfr48 hM48 HP48
     refine hK.out _ _ ((jI BK402.out 0).trans rfl) (fun hHeld=>?_)
     clear hK K
     refine jJb (a':=?_) ?_ ?_
     rotate_left
     ·show Act.put _ (some 32) _=_
      simp only [Act.put,List.setIfInBounds_toArray,List.set_cons_zero,List.set_cons_succ,jqb,jwb]
      rfl
     refine pq (i:=7) (N:=some 33) #[true,true,true,true,true,true,true,true,false,false] ?_
     refine pq (i:=8) (N:=some 34) #[true,true,true,true,true,true,true,true,true,false] ?_
     refine last_ (i:=9) (N:=none) #[true,true,true,true,true,true,true,true,true,true] rfl rfl (jcb HT_.out (by kernel_rfl)) (by decide) (fun K hK=>?_)
     refine jRb (w1:=?_) (by rfl) rfl ?_ ?_
     rotate_left
     ·go_simp
      rfl
     refine hK.out _ _ ?_
     clear hK K
     refine done_ (jXb HT_.out (by kernel_rfl)) ?_
     have n0_:jB (Kd.R k94 94 (w47.setCell ⟨go33,(t403:Int).toNat * 2+1,none⟩ (.int .i64 t416)) w.heap.size (fun _=>True) (.slice (some ⟨go33,0,none⟩) t398.length co37) y418):=⟨rq HQ48.out⟩
     have n1_:jB (Kd.R (Kd.int .i64) 3 (w47.setCell ⟨go33,(t403:Int).toNat * 2+1,none⟩ (.int .i64 t416)) w.heap.size (fun _=>True) (.slice Ao46 y413.length co46) y413):=⟨by (with_reducible repeat (first | apply Kd.jW | apply Kd.jY | apply Kd.jU));exact Kd.jH (Kd.jya (p:=⟨go33,(t403:Int).toNat * 2+1,none⟩) (Kd.jR HO415.out GG33.out (by decide)) (fun _ hk=>hk.2) (.int .i64 t416)) (fun _ hk=>trivial)⟩
     have n2_:jB ((w47.setCell ⟨go33,(t403:Int).toNat * 2+1,none⟩ (.int .i64 t416)).heap[gb397]?=some (.cells #[.slice none 0 0] 37 (0,0))):=⟨by (with_reducible repeat (first | refine jh ?_ _ | refine jg ?_ | refine jk ?_ _));refine jaa ?_ (by have h_:=Kd.R_ne HO400.out BK397.out (by decide);intro e_;exact h_ (by rw [e_];rfl)) _;(with_reducible repeat (first | refine jh ?_ _ | refine jg ?_ | refine jk ?_ _));exact BK397.out⟩
     have n3_:jB ((w47.setCell ⟨go33,(t403:Int).toNat * 2+1,none⟩ (.int .i64 t416)).heap[gb402]?=some (.cells #[.slice (some ⟨go33,0,none⟩) t398.length co37] 37 (0,0))):=⟨by (with_reducible repeat (first | refine jh ?_ _ | refine jg ?_ | refine jk ?_ _));refine jaa ?_ (by have h_:=Kd.R_ne HO400.out BK402.out (by decide);intro e_;exact h_ (by rw [e_];rfl)) _;(with_reducible repeat (first | refine jh ?_ _ | refine jg ?_ | refine jk ?_ _));exact BK402.out⟩
     have n4_:jB (ja w0 (w47.setCell ⟨go33,(t403:Int).toNat * 2+1,none⟩ (.int .i64 t416)) g s0_0 t417):=⟨by repeat (first |(with_reducible first | exact HI0.out | apply ja.alloc | apply ja.drewN | apply ja.drew | apply ja.jdb | refine ja.far ?_ HN0_go33.out _ | refine ja.far ?_ NB0_397.out _ | refine ja.far ?_ NB0_402.out _) | exact HI0.out)⟩
     have n5_:jB (jd w (w47.setCell ⟨go33,(t403:Int).toNat * 2+1,none⟩ (.int .i64 t416)) g none):=⟨by repeat (first |(with_reducible first | exact HK.out | apply jd.set_ | apply jia | apply jZ | apply jja | refine jM ?_ GB33.out _ | refine jM ?_ GW397.out _ | refine jM ?_ GW402.out _) | exact HK.out)⟩
     have n6_:jB (Below w0.heap.size w0 (w47.setCell ⟨go33,(t403:Int).toNat * 2+1,none⟩ (.int .i64 t416))):=⟨by repeat (first |(with_reducible first | exact HB.out | apply jC | apply jr | apply jy | refine jq ?_ (Nat.le_trans HL.out GB33.out) | refine jq ?_ (ja.ge HI0.out) | refine jq ?_ GE397.out | refine jq ?_ GE402.out) | exact HB.out)⟩
     (try clear HO400)
     (try clear HO415)
     (try clear BK397)
     (try clear BK402)
     (try clear HI0)
     (try clear HK)
     (try clear HB)
     generalize (w47.setCell ⟨go33,(t403:Int).toNat * 2+1,none⟩ (.int .i64 t416))=w49 at n0_ n1_ n2_ n3_ n4_ n5_ n6_ ⊢
     have HO400:=n0_
     have HO415:=n1_
     have BK397:=n2_
     have BK402:=n3_
     have HI0:=n4_
     have HK:=n5_
     have HB:=n6_
     clear n0_ n1_ n2_ n3_ n4_ n5_ n6_
     have hcz50_0:=bc0 BK402.out
     have hfz50_0:=je BK402.out 0
     have hnb51:=NB397_0.out
     have hnc51:=NB0_397.out
     have hcz52_0:=bc0 BK397.out
     have hfz52_0:=je BK397.out 0
     try go_wp2
     refine bodyPost_ret (results_cell_row rfl _ _ gb397 37 #[.slice (some ⟨go33,0,none⟩) t398.length co37] (0,0) _ rfl (Y101) Try.underlying37 rfl (by kernel_rfl)) rfl ?_
     exact ⟨_,Y2,by (with_reducible repeat (first | apply Kd.jW | apply Kd.jY | apply Kd.jU));exact Kd.jH (Kd.jya (p:=⟨gb397,0,none⟩) (Kd.jR HO400.out BK397.out (by decide)) (fun _ hk=>hk.2) (.slice (some ⟨go33,0,none⟩) t398.length co37)) (fun _ hk=>trivial),Y10,Y28,Y20⟩
    ·rw [if_neg c32] at H
     exact absurd H (by simp)
   ·rw [if_neg c31] at H
    exact absurd H (by simp)
  ·rw [if_neg c29] at H
   have c29b0:(t405 == 1)=false:=beq_eq_false_iff_ne.mpr c29
   have c29b1:(t405 != 1)=true:=bne_iff_ne.mpr c29
   by_cases c53:t405=2
   ·rw [if_pos c53] at H
    have c53b0:(t405 == 2)=true:=beq_iff_eq.mpr c53
    have c53b1:(t405 != 2)=false:=bne_eq_false_iff_eq.mpr c53
    clear c53
    simp only [Option.some.injEq,Prod.mk.injEq] at H
    obtain ⟨rfl,rfl⟩:=H
    go_enter Try.func87,Try.ntmps87
    go_wp2_with (first |((with_reducible refine jG (N:=2) rfl ?_);refine bE (N:=2) (cs:=#[.slice none 0 0]) (t:=37) ?_;intro gb397 hg w54 hbox hb;have BK397:=am (hbox);have GW397:=am ((Y8:w.heap.size≤gb397));have GE397:=am ((Nat.le_trans HW0.out (Y8:w.heap.size≤gb397):w0.heap.size≤gb397));have NB0_397:=am ((Y25:g≠gb397));have NB397_0:=am ((Y26:gb397≠g));replace HK:=am (jd.trans (Y14) (jd.of_below hb g none) (.inl rfl));replace HB:=am (jf (Y15) hb);replace HI0:=am (ja.below (Y13) hb);clear hb hbox hg) |((with_reducible refine jA (f:=105) rfl ?_);refine gL (some 6) Try.func105 #[.pointer (some ⟨g,0,none⟩)] ?_;(with_reducible refine (jP.calls k g s0_0 s0_1 t398 t401 w0 _ ?side1 ?side2 A2.out).mono ?_);(case side1=>exact Y47);(case side2=>exact Y48);rintro e w55 ⟨v399,rfl,ho0,hi,hb,hk⟩;refine ⟨_,rfl,?_⟩;have HO400:=am (Kd.jV ho0 (jda (w:=w) (g:=g) (row:=none) (Y31)));replace BK397:=am (jd.blk hk (g':=gb397) (o:=.cells #[.slice none 0 0] 37 (0,0)) (kq BK397.out) NB397_0.out (by simp));replace HK:=am (jd.trans (Y31) hk (.inl rfl));replace HB:=am (hb);replace HI0:=am (hi);(try clear hb);(try clear hb2);(try clear hk);(try clear hi);(try clear ho0)) |((with_reducible refine jG (N:=3) rfl ?_);refine bE (N:=3) (cs:=#[.slice none 0 0]) (t:=37) ?_;intro gb402 hg w56 hbox hb;have BK402:=am (hbox);have GW402:=am ((Y49:w.heap.size≤gb402));have GE402:=am ((Nat.le_trans HW0.out (Y49:w.heap.size≤gb402):w0.heap.size≤gb402));have NB397_402:=am ((Y95:gb397≠gb402));have NB402_397:=am ((Y96:gb402≠gb397));have NB0_402:=am ((Y97:g≠gb402));have NB402_0:=am ((Y98:gb402≠g));replace HO400:=am (Kd.jO (rq HO400.out) hb);replace BK397:=am (jc (g:=gb397) (o:=.cells #[.slice none 0 0] 37 (0,0)) (kq BK397.out) hb);replace HK:=am (jd.trans (Y31) (jd.of_below hb g none) (.inl rfl));replace HB:=am (jf (Y48) hb);replace HI0:=am (ja.below (Y47) hb);clear hb hbox hg;obtain ⟨Ao57,co57,eo57⟩:=Kd.jN HO400.out;subst eo57;have hnb58:=NB402_397.out;have hnc58:=NB397_402.out;have hnb59:=NB402_0.out;have hnc59:=NB0_402.out;have hcz60_0:=bc0 BK402.out;have hfz60_0:=je BK402.out 0) |((with_reducible refine jA (f:=88) rfl ?_);refine gL (some 11) Try.func88 #[.pointer (some ⟨g,0,none⟩), .int .i64 (t398.length:Int)] ?_;(with_reducible refine (jl.calls k g s0_0 t401 (t398.length:Int) t403 t404 w0 _ ?side1 ?side2 A3.out).mono ?_);(case side1=>exact Y10);(case side2=>exact Y28);rintro e w61 ⟨rfl,hi,hb,hk⟩;refine ⟨_,rfl,?_⟩;replace BK397:=am (jd.blk hk (g':=gb397) (o:=.cells #[.slice none 0 0] 37 (0,0)) (Y99) NB397_0.out (by simp));replace HO400:=am (Kd.jH (Kd.joa (ja.apart (show ja w0 _ g s0_0 t401 from Y10) (by (with_reducible repeat (first | apply Kd.jW | apply Kd.jY | apply Kd.jU));exact (Kd.jH (Kd.jya (p:=⟨gb402,0,none⟩) (Kd.jR HO400.out BK402.out (by decide)) (fun _ hk=>hk.2) (.slice Ao57 t398.length co57)) (fun _ h_=>h_.1))) (by decide)) hk (fun _ h=>h.2)) (fun _ h=>h.1));replace BK402:=am (jd.blk hk (g':=gb402) (o:=.cells #[.slice Ao57 t398.length co57] 37 (0,0)) (Y100) NB402_0.out (by simp));replace HK:=am (jd.trans (Y20) hk (.inl rfl));replace HB:=am (hb);replace HI0:=am (hi);(try clear hb);(try clear hb2);(try clear hk);(try clear hi)) |((with_reducible refine jA (f:=88) rfl ?_);refine gL (some 13) Try.func88 #[.pointer (some ⟨g,0,none⟩), .int .i64 24] ?_;(with_reducible refine (jl.calls k g s0_0 t404 24 t405 t406 w0 _ ?side1 ?side2 A4.out).mono ?_);(case side1=>exact Y10);(case side2=>exact Y28);rintro e w62 ⟨rfl,hi,hb,hk⟩;refine ⟨_,rfl,?_⟩;replace BK397:=am (jd.blk hk (g':=gb397) (o:=.cells #[.slice none 0 0] 37 (0,0)) (kq BK397.out) NB397_0.out (by simp));replace HO400:=am (Kd.jH (Kd.joa (ja.apart (show ja w0 _ g s0_0 t404 from Y10) (rq HO400.out) (by decide)) hk (fun _ h=>h.2)) (fun _ h=>h.1));replace BK402:=am (jd.blk hk (g':=gb402) (o:=.cells #[.slice Ao57 t398.length co57] 37 (0,0)) (kq BK402.out) NB402_0.out (by simp));replace HK:=am (jd.trans (Y20) hk (.inl rfl));replace HB:=am (hb);replace HI0:=am (hi);(try clear hb);(try clear hb2);(try clear hk);(try clear hi);have hnb63:=NB397_0.out;have hnc63:=NB0_397.out;have hcz64_0:=bc0 BK397.out;have hfz64_0:=je BK397.out 0))
    refine bodyPost_ret (results_cell_row rfl _ _ gb397 37 #[.slice none 0 0] (0,0) _ rfl (Y101) Try.underlying37 rfl (by kernel_rfl)) rfl ?_
    exact ⟨_,Y2,Y94,Y10,Y28,Y20⟩
   ·rw [if_neg c53] at H
    have c53b0:(t405 == 2)=false:=beq_eq_false_iff_ne.mpr c53
    have c53b1:(t405 != 2)=true:=bne_iff_ne.mpr c53
    simp only [Option.some.injEq,Prod.mk.injEq] at H
    obtain ⟨rfl,rfl⟩:=H
    go_enter Try.func87,Try.ntmps87
    go_wp2_with (first |((with_reducible refine jG (N:=2) rfl ?_);refine bE (N:=2) (cs:=#[.slice none 0 0]) (t:=37) ?_;intro gb397 hg w65 hbox hb;have BK397:=am (hbox);have GW397:=am ((Y8:w.heap.size≤gb397));have GE397:=am ((Nat.le_trans HW0.out (Y8:w.heap.size≤gb397):w0.heap.size≤gb397));have NB0_397:=am ((Y25:g≠gb397));have NB397_0:=am ((Y26:gb397≠g));replace HK:=am (jd.trans (Y14) (jd.of_below hb g none) (.inl rfl));replace HB:=am (jf (Y15) hb);replace HI0:=am (ja.below (Y13) hb);clear hb hbox hg) |((with_reducible refine jA (f:=105) rfl ?_);refine gL (some 6) Try.func105 #[.pointer (some ⟨g,0,none⟩)] ?_;(with_reducible refine (jP.calls k g s0_0 s0_1 t398 t401 w0 _ ?side1 ?side2 A2.out).mono ?_);(case side1=>exact Y47);(case side2=>exact Y48);rintro e w66 ⟨v399,rfl,ho0,hi,hb,hk⟩;refine ⟨_,rfl,?_⟩;have HO400:=am (Kd.jV ho0 (jda (w:=w) (g:=g) (row:=none) (Y31)));replace BK397:=am (jd.blk hk (g':=gb397) (o:=.cells #[.slice none 0 0] 37 (0,0)) (kq BK397.out) NB397_0.out (by simp));replace HK:=am (jd.trans (Y31) hk (.inl rfl));replace HB:=am (hb);replace HI0:=am (hi);(try clear hb);(try clear hb2);(try clear hk);(try clear hi);(try clear ho0)) |((with_reducible refine jG (N:=3) rfl ?_);refine bE (N:=3) (cs:=#[.slice none 0 0]) (t:=37) ?_;intro gb402 hg w67 hbox hb;have BK402:=am (hbox);have GW402:=am ((Y49:w.heap.size≤gb402));have GE402:=am ((Nat.le_trans HW0.out (Y49:w.heap.size≤gb402):w0.heap.size≤gb402));have NB397_402:=am ((Y95:gb397≠gb402));have NB402_397:=am ((Y96:gb402≠gb397));have NB0_402:=am ((Y97:g≠gb402));have NB402_0:=am ((Y98:gb402≠g));replace HO400:=am (Kd.jO (rq HO400.out) hb);replace BK397:=am (jc (g:=gb397) (o:=.cells #[.slice none 0 0] 37 (0,0)) (kq BK397.out) hb);replace HK:=am (jd.trans (Y31) (jd.of_below hb g none) (.inl rfl));replace HB:=am (jf (Y48) hb);replace HI0:=am (ja.below (Y47) hb);clear hb hbox hg;obtain ⟨Ao68,co68,eo68⟩:=Kd.jN HO400.out;subst eo68;have hnb69:=NB402_397.out;have hnc69:=NB397_402.out;have hnb70:=NB402_0.out;have hnc70:=NB0_402.out;have hcz71_0:=bc0 BK402.out;have hfz71_0:=je BK402.out 0) |((with_reducible refine jA (f:=88) rfl ?_);refine gL (some 11) Try.func88 #[.pointer (some ⟨g,0,none⟩), .int .i64 (t398.length:Int)] ?_;(with_reducible refine (jl.calls k g s0_0 t401 (t398.length:Int) t403 t404 w0 _ ?side1 ?side2 A3.out).mono ?_);(case side1=>exact Y10);(case side2=>exact Y28);rintro e w72 ⟨rfl,hi,hb,hk⟩;refine ⟨_,rfl,?_⟩;replace BK397:=am (jd.blk hk (g':=gb397) (o:=.cells #[.slice none 0 0] 37 (0,0)) (Y99) NB397_0.out (by simp));replace HO400:=am (Kd.jH (Kd.joa (ja.apart (show ja w0 _ g s0_0 t401 from Y10) (by (with_reducible repeat (first | apply Kd.jW | apply Kd.jY | apply Kd.jU));exact (Kd.jH (Kd.jya (p:=⟨gb402,0,none⟩) (Kd.jR HO400.out BK402.out (by decide)) (fun _ hk=>hk.2) (.slice Ao68 t398.length co68)) (fun _ h_=>h_.1))) (by decide)) hk (fun _ h=>h.2)) (fun _ h=>h.1));replace BK402:=am (jd.blk hk (g':=gb402) (o:=.cells #[.slice Ao68 t398.length co68] 37 (0,0)) (Y100) NB402_0.out (by simp));replace HK:=am (jd.trans (Y20) hk (.inl rfl));replace HB:=am (hb);replace HI0:=am (hi);(try clear hb);(try clear hb2);(try clear hk);(try clear hi)) |((with_reducible refine jA (f:=88) rfl ?_);refine gL (some 13) Try.func88 #[.pointer (some ⟨g,0,none⟩), .int .i64 24] ?_;(with_reducible refine (jl.calls k g s0_0 t404 24 t405 t406 w0 _ ?side1 ?side2 A4.out).mono ?_);(case side1=>exact Y10);(case side2=>exact Y28);rintro e w73 ⟨rfl,hi,hb,hk⟩;refine ⟨_,rfl,?_⟩;replace BK397:=am (jd.blk hk (g':=gb397) (o:=.cells #[.slice none 0 0] 37 (0,0)) (kq BK397.out) NB397_0.out (by simp));replace HO400:=am (Kd.jH (Kd.joa (ja.apart (show ja w0 _ g s0_0 t404 from Y10) (rq HO400.out) (by decide)) hk (fun _ h=>h.2)) (fun _ h=>h.1));replace BK402:=am (jd.blk hk (g':=gb402) (o:=.cells #[.slice Ao68 t398.length co68] 37 (0,0)) (kq BK402.out) NB402_0.out (by simp));replace HK:=am (jd.trans (Y20) hk (.inl rfl));replace HB:=am (hb);replace HI0:=am (hi);(try clear hb);(try clear hb2);(try clear hk);(try clear hi);have hcz74_0:=bc0 BK402.out;have hfz74_0:=je BK402.out 0;have hnb75:=NB397_0.out;have hnc75:=NB0_397.out;have hcz76_0:=bc0 BK397.out;have hfz76_0:=je BK397.out 0))
    refine bodyPost_ret (results_cell_row rfl _ _ gb397 37 #[.slice Ao68 t398.length co68] (0,0) _ rfl (Y101) Try.underlying37 rfl (by kernel_rfl)) rfl ?_
    exact ⟨_,Y2,by (with_reducible repeat (first | apply Kd.jW | apply Kd.jY | apply Kd.jU));exact Kd.jH (Kd.jya (p:=⟨gb397,0,none⟩) (Kd.jR HO400.out BK397.out (by decide)) (fun _ hk=>hk.2) (.slice Ao68 t398.length co68)) (fun _ hk=>trivial),Y10,Y28,Y20⟩
def jeb.f (k : Nat) (s0_0 : List Int) (s0_1 : Int) (l1_0 : List (S94)) : Option (Int × Int) := (jl.f k s0_0 s0_1 16).bind fun bt420 => (if bt420.1 = 0 then ((jw.f k s0_0 bt420.2 (([(-1), (l1_0.length : Int), 8] : List Int))).bind fun bt425 => (some (bt425.1, bt425.2))) else ((jl.f k s0_0 bt420.2 (l1_0.length : Int)).bind fun bt427 => (some (bt427.1, bt427.2))))
set_option maxHeartbeats 8000000 in
set_option maxRecDepth 100000 in
theorem jeb.calls (k : Nat) (g : Nat) (s0_0 : List Int) (s0_1 : Int) (A1_0 : Option Addr) (c1_0 : Nat) (l1_0 : List (S94)) (r1 : Int) (r2 : Int) (w0 w : World) (hI : ja w0 w g s0_0 s0_1) (hB : Below w0.heap.size w0 w) (hr1_0 : ∀ W_, jd w W_ g none → Kd.C k94 W_ A1_0 l1_0.length l1_0) (hc1_0 : l1_0.length ≤ c1_0) (h : jeb.f k s0_0 s0_1 l1_0 = some (r1, r2)) :
  Calls Try.prog 90 #[.pointer (some ⟨g,0,none⟩), .agg #[.slice A1_0 l1_0.length c1_0]] w fun e w'=>e=.returned (.int .i64 r1)∧ja w0 w' g s0_0 r2∧Below w0.heap.size w0 w'∧jd w w' g none:=by
 have hu37:=Try.underlying37
 have HR1_0:=am hr1_0
 have HC1_0:=am hc1_0
 clear hr1_0 hc1_0
 have HI0:=am hI
 have HK:=am (jd.refl w g none)
 have HL:=am hB.size
 clear hI
 have HW0:=am hB.size
 have HB:=am hB
 clear hB
 have H:((jl.f k s0_0 s0_1 16).bind fun bt420=>(if bt420.1=0 then ((jw.f k s0_0 bt420.2 (([(-1),(l1_0.length:Int),8]:List Int))).bind fun bt425=>(some (bt425.1,bt425.2))) else ((jl.f k s0_0 bt420.2 (l1_0.length:Int)).bind fun bt427=>(some (bt427.1,bt427.2)))))=some (r1,r2):=h
 clear h
 replace H:=bzS H
 obtain ⟨⟨t420,t421⟩,A30,H⟩:=H
 replace H:(if t420=0 then ((jw.f k s0_0 t421 (([(-1),(l1_0.length:Int),8]:List Int))).bind fun bt425=>(some (bt425.1,bt425.2))) else ((jl.f k s0_0 t421 (l1_0.length:Int)).bind fun bt427=>(some (bt427.1,bt427.2))))=some (r1,r2):=H
 have A3:=am A30
 clear A30
 by_cases c4:t420=0
 ·rw [if_pos c4] at H
  have c4b0:(t420 == 0)=true:=beq_iff_eq.mpr c4
  have c4b1:(t420 != 0)=false:=bne_eq_false_iff_eq.mpr c4
  clear c4
  obtain ⟨y422,hy422⟩:∃ y_:List Int,y_=(([(-1),(l1_0.length:Int),8]:List Int)):=⟨_,rfl⟩
  replace H:((jw.f k s0_0 t421 y422).bind fun bt425=>(some (bt425.1,bt425.2)))=some (r1,r2):=by first |(rw [hy422];with_reducible exact H) |(have H2_:=(Option.bind_some _ _).symm.trans H;rw [hy422];with_reducible exact H2_) |(have H2_:=(Option.bind_some _ _).symm.trans H;with_reducible exact H2_) | with_reducible exact H |(rw [hy422];exact H) | exact H
  have Ny422:=am hy422
  clear hy422
  replace H:=bzS H
  obtain ⟨⟨t425,t426⟩,A50,H⟩:=H
  replace H:(some (t425,t426))=some (r1,r2):=H
  have A5:=am A50
  clear A50
  simp only [Option.some.injEq,Prod.mk.injEq] at H
  obtain ⟨rfl,rfl⟩:=H
  go_enter Try.func90,Try.ntmps90
  go_wp2_with (first |((with_reducible refine jG (N:=3) rfl ?_);refine bE (N:=3) (cs:=#[.slice A1_0 l1_0.length c1_0]) (t:=37) ?_;intro gb419 hg w6 hbox hb;have BK419:=am (hbox);have GW419:=am ((Y8:w.heap.size≤gb419));have GE419:=am ((Nat.le_trans HW0.out (Y8:w.heap.size≤gb419):w0.heap.size≤gb419));have NB0_419:=am ((Y25:g≠gb419));have NB419_0:=am ((Y26:gb419≠g));replace HK:=am (jd.trans (Y14) (jd.of_below hb g none) (.inl rfl));replace HB:=am (jf (Y15) hb);replace HI0:=am (ja.below (Y13) hb);clear hb hbox hg) |((with_reducible refine jA (f:=88) rfl ?_);refine gL (some 6) Try.func88 #[.pointer (some ⟨g,0,none⟩), .int .i64 16] ?_;(with_reducible refine (jl.calls k g s0_0 s0_1 16 t420 t421 w0 _ ?side1 ?side2 A3.out).mono ?_);(case side1=>exact Y50);(case side2=>exact Y57);rintro e w7 ⟨rfl,hi,hb,hk⟩;refine ⟨_,rfl,?_⟩;replace BK419:=am (jd.blk hk (g':=gb419) (o:=.cells #[.slice A1_0 l1_0.length c1_0] 37 (0,0)) (kq BK419.out) NB419_0.out (by simp));replace HK:=am (jd.trans (Y51) hk (.inl rfl));replace HB:=am (hb);replace HI0:=am (hi);(try clear hb);(try clear hb2);(try clear hk);(try clear hi);have hnb8:=NB419_0.out;have hnc8:=NB0_419.out;have hcz9_0:=bc0 BK419.out;have hfz9_0:=je BK419.out 0) |((with_reducible refine jG (N:=12) rfl ?_);refine Kd.R_lit (Kd.int .i64) _ 3 ?hg (N:=12) ?hd (xs:=([(-1),(l1_0.length:Int),8]:List Int)) (inner:=[.int .i64 (-1), .int .i64 (l1_0.length:Int), .int .i64 8]) (ok:=fun _=>True) (okp:=fun _=>True) ?hr ?hp (fun _ hk=>hk) trivial (Below.refl _ _) (Nat.le_refl _) (by simp) ?_;(case hd=>rfl);(case hg=>rfl);(case hr=>exact Y3);(case hp=>exact (Reps.one (show Kd.M (Kd.int .i64) _ _ _ (-1) [.int .i64 (-1)] from rfl) (Reps.one (show Kd.M (Kd.int .i64) _ _ _ (l1_0.length:Int) [.int .i64 (l1_0.length:Int)] from rfl) (Reps.one (show Kd.M (Kd.int .i64) _ _ _ 8 [.int .i64 8] from rfl) (Reps.none _ _)))));intro v423 w10 ho11 hb hg_ hnew_;clear hg_ hnew_;(first | rw [← Ny422.out] at ho11 |(simp only [Int.reduceToNat] at ho11;rw [← Ny422.out] at ho11));have HO424:=am (Kd.jV ho11 (jda (w:=w) (g:=g) (row:=none) (Y51)));replace BK419:=am (jc (g:=gb419) (o:=.cells #[.slice A1_0 l1_0.length c1_0] 37 (0,0)) (kq BK419.out) hb);replace HK:=am (jd.trans (Y51) (jd.of_below hb g none) (.inl rfl));replace HB:=am (jf (Y57) hb);replace HI0:=am (ja.below (Y50) hb);clear hb ho11;obtain ⟨Ao12,co12,eo12⟩:=Kd.jN HO424.out;subst eo12) |((with_reducible refine jA (f:=89) rfl ?_);refine gL (some 13) Try.func89 #[.pointer (some ⟨g,0,none⟩), .slice Ao12 y422.length co12] ?_;(with_reducible refine (jw.calls k g s0_0 t421 _ _ y422 t425 t426 w0 _ ?side1 ?side2 ?side3 ?side4 ?side5 A5.out).mono ?_);(case side1=>exact Y50);(case side2=>exact Y57);(case side3=>exact cq (Kd.jm HO424.out).2.2);(case side4=>exact (Kd.jm HO424.out).2.1);(case side5=>exact jsb (ja.own_ne HI0.out HO424.out (by decide)));rintro e w13 ⟨rfl,hi,hb,hk⟩;refine ⟨_,rfl,?_⟩;replace BK419:=am (jd.blk hk (g':=gb419) (o:=.cells #[.slice A1_0 l1_0.length c1_0] 37 (0,0)) (kq BK419.out) NB419_0.out (by simp));replace HO424:=am (Kd.jH (Kd.joa (ja.apart (show ja w0 _ g s0_0 t421 from Y50) (rq HO424.out) (by decide)) hk (fun _ h=>h.2)) (fun _ h=>h.1));replace HK:=am (jd.trans (Y51) hk (.inl rfl));replace HB:=am (hb);replace HI0:=am (hi);(try clear hb);(try clear hb2);(try clear hk);(try clear hi)))
  go_ret
  exact ⟨Y2,Y50,Y57,Y51⟩
 ·rw [if_neg c4] at H
  have c4b0:(t420 == 0)=false:=beq_eq_false_iff_ne.mpr c4
  have c4b1:(t420 != 0)=true:=bne_iff_ne.mpr c4
  replace H:=bzS H
  obtain ⟨⟨t427,t428⟩,A140,H⟩:=H
  replace H:(some (t427,t428))=some (r1,r2):=H
  have A14:=am A140
  clear A140
  simp only [Option.some.injEq,Prod.mk.injEq] at H
  obtain ⟨rfl,rfl⟩:=H
  go_enter Try.func90,Try.ntmps90
  go_wp2_with (first |((with_reducible refine jG (N:=3) rfl ?_);refine bE (N:=3) (cs:=#[.slice A1_0 l1_0.length c1_0]) (t:=37) ?_;intro gb419 hg w15 hbox hb;have BK419:=am (hbox);have GW419:=am ((Y8:w.heap.size≤gb419));have GE419:=am ((Nat.le_trans HW0.out (Y8:w.heap.size≤gb419):w0.heap.size≤gb419));have NB0_419:=am ((Y25:g≠gb419));have NB419_0:=am ((Y26:gb419≠g));replace HK:=am (jd.trans (Y14) (jd.of_below hb g none) (.inl rfl));replace HB:=am (jf (Y15) hb);replace HI0:=am (ja.below (Y13) hb);clear hb hbox hg) |((with_reducible refine jA (f:=88) rfl ?_);refine gL (some 6) Try.func88 #[.pointer (some ⟨g,0,none⟩), .int .i64 16] ?_;(with_reducible refine (jl.calls k g s0_0 s0_1 16 t420 t421 w0 _ ?side1 ?side2 A3.out).mono ?_);(case side1=>exact Y50);(case side2=>exact Y57);rintro e w16 ⟨rfl,hi,hb,hk⟩;refine ⟨_,rfl,?_⟩;replace BK419:=am (jd.blk hk (g':=gb419) (o:=.cells #[.slice A1_0 l1_0.length c1_0] 37 (0,0)) (kq BK419.out) NB419_0.out (by simp));replace HK:=am (jd.trans (Y51) hk (.inl rfl));replace HB:=am (hb);replace HI0:=am (hi);(try clear hb);(try clear hb2);(try clear hk);(try clear hi);have hnb17:=NB419_0.out;have hnc17:=NB0_419.out;have hcz18_0:=bc0 BK419.out;have hfz18_0:=je BK419.out 0) |((with_reducible refine jA (f:=88) rfl ?_);refine gL (some 18) Try.func88 #[.pointer (some ⟨g,0,none⟩), .int .i64 (l1_0.length:Int)] ?_;(with_reducible refine (jl.calls k g s0_0 t421 (l1_0.length:Int) t427 t428 w0 _ ?side1 ?side2 A14.out).mono ?_);(case side1=>exact Y50);(case side2=>exact Y57);rintro e w19 ⟨rfl,hi,hb,hk⟩;refine ⟨_,rfl,?_⟩;replace BK419:=am (jd.blk hk (g':=gb419) (o:=.cells #[.slice A1_0 l1_0.length c1_0] 37 (0,0)) (kq BK419.out) NB419_0.out (by simp));replace HK:=am (jd.trans (Y51) hk (.inl rfl));replace HB:=am (hb);replace HI0:=am (hi);(try clear hb);(try clear hb2);(try clear hk);(try clear hi)))
  go_ret
  exact ⟨Y2,Y50,Y57,Y51⟩
end Go.Proofs.Ytecdfgejmbpclaa.P
end
