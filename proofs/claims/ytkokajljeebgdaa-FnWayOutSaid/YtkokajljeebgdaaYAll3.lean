/- One part of the proofs on this program: functions of the program as plain functions, that the code comes to them, and facts on them. -/
import Derived.Test.YtkokajljeebgdaaYAll1
import Derived.Test.YtkokajljeebgdaaYAll2
import Derived.Test.YtkokajljeebgdaaYWAuto
section
namespace Go.Proofs.Ytkokajljeebgdaa.P
open Go.RowKit Go.Proofs.YtkokajljeebgdaaW.PrintWords Go.Proofs.YtkokajljeebgdaaW.PrintLast Go.Proofs.YtkokajljeebgdaaW.PrintMore
attribute [local go_sem] jqa joa jBa jAa jfa jea jpa jna jk
set_option linter.unusedVariables false
set_option linter.unusedSimpArgs false
def jja.f (k : Nat) (s0_0 : List Int) (s0_1 : Int) : Option ((List (S87)) × Int) := (jZ.f k s0_0 s0_1).bind fun bt198 => ((jg.f k s0_0 bt198.2 (bt198.1.length : Int)).bind fun bt203 => ((jg.f k s0_0 bt203.2 24).bind fun bt205 => (if bt205.1 = 0 then ((jkb.f k s0_0 bt205.2 (([(⟨#[]⟩ : ByteArray), (⟨#[97, 110, 121]⟩ : ByteArray), (⟨#[65]⟩ : ByteArray), (⟨#[116, 111, 111, 108, 111, 110, 103]⟩ : ByteArray)] : List ByteArray))).bind fun bt210 => (if 0 ≤ bt203.1 then (if bt203.1 < (bt198.1.length : Int) then (some ((bt198.1.set (bt203.1 : Int).toNat (⟨bt210.1, (jda bt198.1 bt203.1).f1⟩ : S87)), bt210.2)) else (none)) else (none))) else (if bt205.1 = 1 then ((ji.f k s0_0 bt205.2 (([bt203.1, (-1), 8, (-2)] : List Int))).bind fun bt216 => (if 0 ≤ bt203.1 then (if bt203.1 < (bt198.1.length : Int) then (some ((bt198.1.set (bt203.1 : Int).toNat (⟨(jda bt198.1 bt203.1).f0, bt216.1⟩ : S87)), bt216.2)) else (none)) else (none))) else (if bt205.1 = 2 then (some (([] : List (S87)), bt205.2)) else (some (bt198.1, bt205.2)))))))
def jja.T5 : Bool × List (List Nat × List Nat) := (true, [([], []), ([0], [0]), ([], []), ([], []), ([], []), ([3, 4], [3, 4]), ([1, 2, 0, 1, 2, 3, 4, 5], [1, 2]), ([6, 0, 1, 2, 3, 4, 5], [6]), ([7, 5, 5, 0, 1, 2, 3, 4, 5], [5, 7])])
def jja.B5 : List Nat := [0, 1, 0, 0, 0, 24, 63, 127, 255]
theorem jja.tab5 : rtab .any (opsOf Try.f110 5) = jja.T5 := by kernel_rfl
theorem jja.bits5 : jrc jja.T5.2 jja.B5 = true := by kernel_rfl
def jja.T7 : Bool × List (List Nat × List Nat) := (true, [([], []), ([0], [0]), ([], []), ([], []), ([], []), ([4], [4]), ([3, 5], [3, 5]), ([1, 2, 0, 1, 2, 3, 4, 5, 6], [1, 2]), ([7, 0, 1, 2, 3, 4, 5, 6], [7]), ([8, 6, 6, 0, 1, 2, 3, 4, 5, 6], [6, 8])])
def jja.B7 : List Nat := [0, 1, 0, 0, 0, 16, 56, 127, 255, 511]
theorem jja.tab7 : rtab .any (opsOf Try.f110 7) = jja.T7 := by kernel_rfl
theorem jja.bits7 : jrc jja.T7.2 jja.B7 = true := by kernel_rfl
set_option maxHeartbeats 8000000 in
set_option maxRecDepth 100000 in
theorem jja.calls (k : Nat) (g : Nat) (s0_0 : List Int) (s0_1 : Int) (r1 : List (S87)) (r2 : Int) (w0 w : World) (hI : jf w0 w g s0_0 s0_1) (hB : Below w0.heap.size w0 w) (h : jja.f k s0_0 s0_1 = some (r1, r2)) :
  Calls Try.prog 110 #[.pointer (some ⟨g,0,none⟩)] w fun e w'=>∃ v0_:Value,e=.returned (.agg #[v0_])∧Kd.R k87 87 w' w.heap.size (fun _=>True) v0_ r1∧jf w0 w' g s0_0 r2∧Below w0.heap.size w0 w'∧jb w w' g none:=by
 have hu32:=Try.underlying32
 have HI0:=am hI
 have HK:=am (jb.refl w g none)
 have HL:=am hB.size
 clear hI
 have HW0:=am hB.size
 have HB:=am hB
 clear hB
 have H:((jZ.f k s0_0 s0_1).bind fun bt198=>((jg.f k s0_0 bt198.2 (bt198.1.length:Int)).bind fun bt203=>((jg.f k s0_0 bt203.2 24).bind fun bt205=>(if bt205.1=0 then ((jkb.f k s0_0 bt205.2 (([(⟨#[]⟩:ByteArray),(⟨#[97,110,121]⟩:ByteArray),(⟨#[65]⟩:ByteArray),(⟨#[116,111,111,108,111,110,103]⟩:ByteArray)]:List ByteArray))).bind fun bt210=>(if 0≤bt203.1 then (if bt203.1<(bt198.1.length:Int) then (some ((bt198.1.set (bt203.1:Int).toNat (⟨bt210.1,(jda bt198.1 bt203.1).f1⟩:S87)),bt210.2)) else (none)) else (none))) else (if bt205.1=1 then ((ji.f k s0_0 bt205.2 (([bt203.1,(-1),8,(-2)]:List Int))).bind fun bt216=>(if 0≤bt203.1 then (if bt203.1<(bt198.1.length:Int) then (some ((bt198.1.set (bt203.1:Int).toNat (⟨(jda bt198.1 bt203.1).f0,bt216.1⟩:S87)),bt216.2)) else (none)) else (none))) else (if bt205.1=2 then (some (([]:List (S87)),bt205.2)) else (some (bt198.1,bt205.2))))))))=some (r1,r2):=h
 clear h
 replace H:=bzS H
 obtain ⟨⟨t198,t201⟩,A20,H⟩:=H
 replace H:((jg.f k s0_0 t201 (t198.length:Int)).bind fun bt203=>((jg.f k s0_0 bt203.2 24).bind fun bt205=>(if bt205.1=0 then ((jkb.f k s0_0 bt205.2 (([(⟨#[]⟩:ByteArray),(⟨#[97,110,121]⟩:ByteArray),(⟨#[65]⟩:ByteArray),(⟨#[116,111,111,108,111,110,103]⟩:ByteArray)]:List ByteArray))).bind fun bt210=>(if 0≤bt203.1 then (if bt203.1<(t198.length:Int) then (some ((t198.set (bt203.1:Int).toNat (⟨bt210.1,(jda t198 bt203.1).f1⟩:S87)),bt210.2)) else (none)) else (none))) else (if bt205.1=1 then ((ji.f k s0_0 bt205.2 (([bt203.1,(-1),8,(-2)]:List Int))).bind fun bt216=>(if 0≤bt203.1 then (if bt203.1<(t198.length:Int) then (some ((t198.set (bt203.1:Int).toNat (⟨(jda t198 bt203.1).f0,bt216.1⟩:S87)),bt216.2)) else (none)) else (none))) else (if bt205.1=2 then (some (([]:List (S87)),bt205.2)) else (some (t198,bt205.2)))))))=some (r1,r2):=H
 have A2:=am A20
 clear A20
 replace H:=bzS H
 obtain ⟨⟨t203,t204⟩,A30,H⟩:=H
 replace H:((jg.f k s0_0 t204 24).bind fun bt205=>(if bt205.1=0 then ((jkb.f k s0_0 bt205.2 (([(⟨#[]⟩:ByteArray),(⟨#[97,110,121]⟩:ByteArray),(⟨#[65]⟩:ByteArray),(⟨#[116,111,111,108,111,110,103]⟩:ByteArray)]:List ByteArray))).bind fun bt210=>(if 0≤t203 then (if t203<(t198.length:Int) then (some ((t198.set (t203:Int).toNat (⟨bt210.1,(jda t198 t203).f1⟩:S87)),bt210.2)) else (none)) else (none))) else (if bt205.1=1 then ((ji.f k s0_0 bt205.2 (([t203,(-1),8,(-2)]:List Int))).bind fun bt216=>(if 0≤t203 then (if t203<(t198.length:Int) then (some ((t198.set (t203:Int).toNat (⟨(jda t198 t203).f0,bt216.1⟩:S87)),bt216.2)) else (none)) else (none))) else (if bt205.1=2 then (some (([]:List (S87)),bt205.2)) else (some (t198,bt205.2))))))=some (r1,r2):=H
 have A3:=am A30
 clear A30
 replace H:=bzS H
 obtain ⟨⟨t205,t206⟩,A40,H⟩:=H
 replace H:(if t205=0 then ((jkb.f k s0_0 t206 (([(⟨#[]⟩:ByteArray),(⟨#[97,110,121]⟩:ByteArray),(⟨#[65]⟩:ByteArray),(⟨#[116,111,111,108,111,110,103]⟩:ByteArray)]:List ByteArray))).bind fun bt210=>(if 0≤t203 then (if t203<(t198.length:Int) then (some ((t198.set (t203:Int).toNat (⟨bt210.1,(jda t198 t203).f1⟩:S87)),bt210.2)) else (none)) else (none))) else (if t205=1 then ((ji.f k s0_0 t206 (([t203,(-1),8,(-2)]:List Int))).bind fun bt216=>(if 0≤t203 then (if t203<(t198.length:Int) then (some ((t198.set (t203:Int).toNat (⟨(jda t198 t203).f0,bt216.1⟩:S87)),bt216.2)) else (none)) else (none))) else (if t205=2 then (some (([]:List (S87)),t206)) else (some (t198,t206)))))=some (r1,r2):=H
 have A4:=am A40
 clear A40
 by_cases c5:t205=0
 ·rw [if_pos c5] at H
  have c5b0:(t205 == 0)=true:=beq_iff_eq.mpr c5
  have c5b1:(t205 != 0)=false:=bne_eq_false_iff_eq.mpr c5
  clear c5
  obtain ⟨y207,hy207⟩:∃ y_:List ByteArray,y_=(([(⟨#[]⟩:ByteArray),(⟨#[97,110,121]⟩:ByteArray),(⟨#[65]⟩:ByteArray),(⟨#[116,111,111,108,111,110,103]⟩:ByteArray)]:List ByteArray)):=⟨_,rfl⟩
  replace H:((jkb.f k s0_0 t206 y207).bind fun bt210=>(if 0≤t203 then (if t203<(t198.length:Int) then (some ((t198.set (t203:Int).toNat (⟨bt210.1,(jda t198 t203).f1⟩:S87)),bt210.2)) else (none)) else (none)))=some (r1,r2):=by first |(rw [hy207];with_reducible exact H) |(have H2_:=(Option.bind_some _ _).symm.trans H;rw [hy207];with_reducible exact H2_) |(have H2_:=(Option.bind_some _ _).symm.trans H;with_reducible exact H2_) | with_reducible exact H |(rw [hy207];exact H) | exact H
  have Ny207:=am hy207
  clear hy207
  replace H:=bzS H
  obtain ⟨⟨t210,t211⟩,A60,H⟩:=H
  replace H:(if 0≤t203 then (if t203<(t198.length:Int) then (some ((t198.set (t203:Int).toNat (⟨t210,(jda t198 t203).f1⟩:S87)),t211)) else (none)) else (none))=some (r1,r2):=H
  have A6:=am A60
  clear A60
  by_cases c7:0≤t203
  ·rw [if_pos c7] at H
   have c7b0:decide (0≤t203)=true:=dzT c7
   clear c7
   by_cases c8:t203<(t198.length:Int)
   ·rw [if_pos c8] at H
    have c8b0:decide (t203<(t198.length:Int))=true:=dzT c8
    clear c8
    obtain ⟨y212,hy212⟩:∃ y_:List (S87),y_=(t198.set (t203:Int).toNat (⟨t210,(jda t198 t203).f1⟩:S87)):=⟨_,rfl⟩
    replace H:(some (y212,t211))=some (r1,r2):=by first |(rw [hy212];with_reducible exact H) |(have H2_:=(Option.bind_some _ _).symm.trans H;rw [hy212];with_reducible exact H2_) |(have H2_:=(Option.bind_some _ _).symm.trans H;with_reducible exact H2_) | with_reducible exact H |(rw [hy212];exact H) | exact H
    have Ny212:=am hy212
    clear hy212
    simp only [Option.some.injEq,Prod.mk.injEq] at H
    obtain ⟨rfl,rfl⟩:=H
    go_enter Try.func110,Try.ntmps110
    try go_wp2_with (first |((with_reducible refine jM (N:=2) rfl ?_);refine bE (N:=2) (cs:=#[.slice none 0 0]) (t:=32) ?_;intro gb197 hg w10 hbox hb;have BK197:=am (hbox);have GW197:=am ((Y12:w.heap.size≤gb197));have GE197:=am ((Nat.le_trans HW0.out (Y12:w.heap.size≤gb197):w0.heap.size≤gb197));have NB0_197:=am ((Y27:g≠gb197));have NB197_0:=am ((Y28:gb197≠g));replace HK:=am (jb.trans (Y17) (jb.of_below hb g none) (.inl rfl));replace HB:=am (je (Y18) hb);replace HI0:=am (jf.below (Y16) hb);clear hb hbox hg) |((with_reducible refine jd (f:=115) rfl ?_);refine gL (some 6) Try.func115 #[.pointer (some ⟨g,0,none⟩)] ?_;(with_reducible refine (jZ.calls k g s0_0 s0_1 t198 t201 w0 _ ?side1 ?side2 A2.out).mono ?_);(case side1=>exact Y46);(case side2=>exact Y47);rintro e w11 ⟨v199,rfl,ho0,hi,hb,hk⟩;refine ⟨_,rfl,?_⟩;have HO200:=am (Kd.jQ ho0 (jJ (w:=w) (g:=g) (row:=none) (Y38)));replace BK197:=am (jb.blk hk (g':=gb197) (o:=.cells #[.slice none 0 0] 32 (0,0)) (kq BK197.out) NB197_0.out (by simp));replace HK:=am (jb.trans (Y38) hk (.inl rfl));replace HB:=am (hb);replace HI0:=am (hi);(try clear hb);(try clear hb2);(try clear hk);(try clear hi);(try clear ho0)) |((with_reducible refine jM (N:=3) rfl ?_);refine bE (N:=3) (cs:=#[.slice none 0 0]) (t:=32) ?_;intro gb202 hg w12 hbox hb;have BK202:=am (hbox);have GW202:=am ((Y48:w.heap.size≤gb202));have GE202:=am ((Nat.le_trans HW0.out (Y48:w.heap.size≤gb202):w0.heap.size≤gb202));have NB197_202:=am ((Y74:gb197≠gb202));have NB202_197:=am ((Y75:gb202≠gb197));have NB0_202:=am ((Y76:g≠gb202));have NB202_0:=am ((Y77:gb202≠g));replace HO200:=am (Kd.jT (rq HO200.out) hb);replace BK197:=am (jm (g:=gb197) (o:=.cells #[.slice none 0 0] 32 (0,0)) (kq BK197.out) hb);replace HK:=am (jb.trans (Y38) (jb.of_below hb g none) (.inl rfl));replace HB:=am (je (Y47) hb);replace HI0:=am (jf.below (Y46) hb);clear hb hbox hg;obtain ⟨Ao13,co13,eo13⟩:=Kd.jU HO200.out;subst eo13;have hnb14:=NB202_197.out;have hnc14:=NB197_202.out;have hnb15:=NB202_0.out;have hnc15:=NB0_202.out;have hcz16_0:=bc0 BK202.out;have hfz16_0:=ja BK202.out 0) |((with_reducible refine jd (f:=71) rfl ?_);refine gL (some 11) Try.func71 #[.pointer (some ⟨g,0,none⟩), .int .i64 (t198.length:Int)] ?_;(with_reducible refine (jg.calls k g s0_0 t201 (t198.length:Int) t203 t204 w0 _ ?side1 ?side2 A3.out).mono ?_);(case side1=>exact Y14);(case side2=>exact Y30);rintro e w17 ⟨rfl,hi,hb,hk⟩;refine ⟨_,rfl,?_⟩;replace BK197:=am (jb.blk hk (g':=gb197) (o:=.cells #[.slice none 0 0] 32 (0,0)) (Y78) NB197_0.out (by simp));replace HO200:=am (Kd.jE (Kd.jxa (jf.apart (show jf w0 _ g s0_0 t201 from Y14) (by (with_reducible repeat (first | apply Kd.jY | apply Kd.jX | apply Kd.jia));exact (Kd.jE (Kd.jLb (p:=⟨gb202,0,none⟩) (Kd.jPa HO200.out BK202.out (by decide)) (fun _ hk=>hk.2) (.slice Ao13 t198.length co13)) (fun _ h_=>h_.1))) (by decide)) hk (fun _ h=>h.2)) (fun _ h=>h.1));replace BK202:=am (jb.blk hk (g':=gb202) (o:=.cells #[.slice Ao13 t198.length co13] 32 (0,0)) (Y79) NB202_0.out (by simp));replace HK:=am (jb.trans (Y25) hk (.inl rfl));replace HB:=am (hb);replace HI0:=am (hi);(try clear hb);(try clear hb2);(try clear hk);(try clear hi)) |((with_reducible refine jd (f:=71) rfl ?_);refine gL (some 13) Try.func71 #[.pointer (some ⟨g,0,none⟩), .int .i64 24] ?_;(with_reducible refine (jg.calls k g s0_0 t204 24 t205 t206 w0 _ ?side1 ?side2 A4.out).mono ?_);(case side1=>exact Y14);(case side2=>exact Y30);rintro e w18 ⟨rfl,hi,hb,hk⟩;refine ⟨_,rfl,?_⟩;replace BK197:=am (jb.blk hk (g':=gb197) (o:=.cells #[.slice none 0 0] 32 (0,0)) (kq BK197.out) NB197_0.out (by simp));replace HO200:=am (Kd.jE (Kd.jxa (jf.apart (show jf w0 _ g s0_0 t204 from Y14) (rq HO200.out) (by decide)) hk (fun _ h=>h.2)) (fun _ h=>h.1));replace BK202:=am (jb.blk hk (g':=gb202) (o:=.cells #[.slice Ao13 t198.length co13] 32 (0,0)) (kq BK202.out) NB202_0.out (by simp));replace HK:=am (jb.trans (Y25) hk (.inl rfl));replace HB:=am (hb);replace HI0:=am (hi);(try clear hb);(try clear hb2);(try clear hk);(try clear hi)))
    replace HO200:=am (Kd.jia HO200.out)
    replace BK197:=am (jD BK197.out)
    replace BK202:=am (jD BK202.out)
    replace HI0:=am (jf.drew HI0.out)
    replace HK:=am (jMa HK.out)
    replace HB:=am (jS HB.out)
    refine start_ (n:=9) (S:=fun w'=>w'.cell? ⟨gb202,0,none⟩=some (.slice Ao13 t198.length co13)) (ds:=[8]) #[false,false,false,false,false,false,false,false,false] (by kernel_rfl) rfl rfl ((jK BK202.out 0).trans rfl) (fun hHeld=>?_);refine jqc jja.tab5 jja.bits5 (fun HT_ HW_=>?_)
    generalize w18.drew=w19 at HO200 BK197 BK202 HI0 HK HB hHeld ⊢
    refine pq (i:=0) (N:=some 16) #[true,false,false,false,false,false,false,false,false] ?_
    refine pq (i:=2) (N:=some 18) #[true,false,true,false,false,false,false,false,false] ?_
    refine pq (i:=3) (N:=some 19) #[true,false,true,true,false,false,false,false,false] ?_
    refine take_ (i:=1) (N:=some 17) (v:=?_) (a':=?_) #[true,true,true,true,false,false,false,false,false] rfl rfl (jlc HT_.out HW_.out (by kernel_rfl)) (fun _ _ _ h=>h) (Or.inl ⟨by rfl,?_⟩) hHeld ?_ ?_
    rotate_left
    ·intro w' s0
     go_simp
     with_reducible rfl
    rotate_left
    ·exact sa
    refine one_ (i:=4) (N:=some 20) #[true,true,true,true,true,false,false,false,false] rfl rfl (jTb HT_.out (by kernel_rfl)) (by decide) (fun K hK=>?_)
    refine Kd.jdc Kd.string _ 9 ?hg (N:=20) ?hd (xs:=([(⟨#[]⟩:ByteArray),(⟨#[97,110,121]⟩:ByteArray),(⟨#[65]⟩:ByteArray),(⟨#[116,111,111,108,111,110,103]⟩:ByteArray)]:List ByteArray)) (inner:=[.string (⟨#[]⟩:ByteArray), .string (⟨#[97,110,121]⟩:ByteArray), .string (⟨#[65]⟩:ByteArray), .string (⟨#[116,111,111,108,111,110,103]⟩:ByteArray)]) (ok:=fun _=>True) (okp:=fun _=>True) ?hr ?hp (fun _ hk=>hk) trivial (Below.refl _ _) (Nat.le_refl _) (by simp) ?_;(case hd=>rfl);(case hg=>rfl);(case hr=>exact Y7);(case hp=>exact (Reps.one (show Kd.M Kd.string _ _ _ (⟨#[]⟩:ByteArray) [.string (⟨#[]⟩:ByteArray)] from rfl) (Reps.one (show Kd.M Kd.string _ _ _ (⟨#[97,110,121]⟩:ByteArray) [.string (⟨#[97,110,121]⟩:ByteArray)] from rfl) (Reps.one (show Kd.M Kd.string _ _ _ (⟨#[65]⟩:ByteArray) [.string (⟨#[65]⟩:ByteArray)] from rfl) (Reps.one (show Kd.M Kd.string _ _ _ (⟨#[116,111,111,108,111,110,103]⟩:ByteArray) [.string (⟨#[116,111,111,108,111,110,103]⟩:ByteArray)] from rfl) (Reps.none _ _))))))
    intro v208 w20 ho21 hb hg_ hnew_
    clear hg_ hnew_
    (first | rw [← Ny207.out] at ho21 |(simp only [Int.reduceToNat] at ho21;rw [← Ny207.out] at ho21))
    have HO209:=am (Kd.jQ ho21 (jJ (w:=w) (g:=g) (row:=none) (Y25)))
    replace HO200:=am (Kd.jT (rq HO200.out) hb)
    replace BK197:=am (jm (g:=gb197) (o:=.cells #[.slice none 0 0] 32 (0,0)) (kq BK197.out) hb)
    replace BK202:=am (jm (g:=gb202) (o:=.cells #[.slice Ao13 t198.length co13] 32 (0,0)) (kq BK202.out) hb)
    replace HK:=am (jb.trans (Y25) (jb.of_below hb g none) (.inl rfl))
    replace HB:=am (je (Y30) hb)
    replace HI0:=am (jf.below (Y14) hb)
    clear hb ho21
    obtain ⟨Ao22,co22,eo22⟩:=Kd.jU HO209.out
    (first | subst eo22 |(injection eo22 with f1_ f2_ f3_;have f4_:=f1_.symm;have f5_:=f3_.symm;clear f1_ f2_ f3_;subst f4_;subst f5_))
    refine hK.out _ _ ((jK BK202.out 0).trans rfl) (fun hHeld=>?_)
    clear hK K
    refine jjc (a':=?_) ?_ ?_
    rotate_left
    ·show Act.put _ (some 20) _=_
     simp only [Act.put,List.setIfInBounds_toArray,List.set_cons_zero,List.set_cons_succ,jhb,jpb]
     rfl
    refine one_ (i:=5) (N:=some 21) #[true,true,true,true,true,true,false,false,false] rfl rfl (jTb HT_.out (by kernel_rfl)) (by decide) (fun K hK=>?_)
    refine goes_ Try.func116 (by kernel_rfl) rfl #[.pointer (some ⟨g,0,none⟩), .slice Ao22 y207.length co22] (by rfl) rfl rfl (aq) ?_
    with_reducible refine (jkb.calls k g s0_0 t206 _ _ y207 t210 t211 w0 _ ?side1 ?side2 ?side3 ?side4 ?side5 A6.out).mono ?_
    (case side1=>exact Y14)
    (case side2=>exact Y30)
    (case side3=>exact cq (Kd.jh HO209.out).2.2)
    (case side4=>exact (Kd.jh HO209.out).2.1)
    (case side5=>exact jzb (jf.own_ne HI0.out HO209.out (by decide)))
    rintro e w23 ⟨rfl,hi,hb,hk⟩
    refine ⟨_,rfl,?_⟩
    replace BK197:=am (jb.blk hk (g':=gb197) (o:=.cells #[.slice none 0 0] 32 (0,0)) (kq BK197.out) NB197_0.out (by simp))
    replace HO200:=am (Kd.jE (Kd.jxa (jf.apart (show jf w0 _ g s0_0 t206 from Y14) (rq HO200.out) (by decide)) hk (fun _ h=>h.2)) (fun _ h=>h.1))
    replace BK202:=am (jb.blk hk (g':=gb202) (o:=.cells #[.slice Ao13 t198.length co13] 32 (0,0)) (kq BK202.out) NB202_0.out (by simp))
    replace HO209:=am (Kd.jE (Kd.jxa (jf.apart (show jf w0 _ g s0_0 t206 from Y14) (rq HO209.out) (by decide)) hk (fun _ h=>h.2)) (fun _ h=>h.1))
    replace HK:=am (jb.trans (Y25) hk (.inl rfl))
    replace HB:=am (hb)
    replace HI0:=am (hi)
    (try clear hb)
    (try clear hb2)
    (try clear hk)
    (try clear hi)
    have p9:0≤(t203:Int):=ozD (uq)
    have q9:(t203:Int)<((t198.length:Int):Int):=ozD (uq)
    obtain ⟨go9,co9,eo9,gb9,gl9,cl9,HG9⟩:=Kd.R_form HO200.out (by omega)
    (first | cases eo9 |(injection eo9 with ea_ en_ ec_;(first | subst ea_ |(injection ea_ with ea_;subst ea_));subst ec_;clear en_))
    have GB9:=am gb9
    have GG9:=am HG9
    clear gb9 gl9 HG9
    obtain ⟨ce9,hcl9,hM9,hcc9,hfr9⟩:=Kd.R_elem HO200.out z87 (t203:Int) p9 q9
    obtain rfl:=k87_openM hM9
    have hx9_0:World.cell? _ ⟨go9,(t203:Int).toNat * 2,none⟩=some (.string ((jda t198 t203).f0)):=hcc9 0 _ rfl
    have hx9_1:World.cell? _ ⟨go9,(t203:Int).toNat * 2+1,none⟩=some (.int .i64 ((jda t198 t203).f1)):=hcc9 1 _ rfl
    have hf9_0:World.frozen? _ ⟨go9,(t203:Int).toNat * 2,none⟩=false:=hfr9 0
    have hf9_1:World.frozen? _ ⟨go9,(t203:Int).toNat * 2+1,none⟩=false:=hfr9 1
    clear hcl9 hcc9 hfr9 hM9
    replace p9:=ezT p9
    replace q9:=ezT q9
    have HN0_go9:=am (show g≠go9 from by have h_:=jf.own_ne HI0.out HO200.out (by decide);intro e_;exact h_ (by rw [e_];rfl))
    obtain ⟨ce24,hcl24,hM24,hcc24,hfr24⟩:=Kd.R_elem HO200.out z87 (t203:Int) (ozD (uq)) (by have h_:(t203:Int)<((t198.length:Int):Int):=ozD (uq);first | exact h_ |(have e_:=(Kd.jh HO200.out).1;omega) | simpa using h_)
    obtain rfl:=k87_openM hM24
    have HP24:=(Kd.R_seg HO200.out (t203:Int) (ozD (uq)) (by have h_:(t203:Int)<((t198.length:Int):Int):=ozD (uq);first | exact h_ |(have e_:=(Kd.jh HO200.out).1;omega) | simpa using h_) (seg:=[.string t210]) (j:=0) hcl24 hcc24 (show 1≤2 from by decide) (x':=(⟨t210,(jda t198 t203).f1⟩:S87)) (k87_mkM _ _ _ (⟨t210,(jda t198 t203).f1⟩:S87) ) (fun _ hk=>hk)).1
    rw [← Ny212.out] at HP24
    have HQ24:=am HP24
    clear hcl24 hcc24 hfr24 hM24 HP24
    refine hK.out _ _ ((jK BK202.out 0).trans rfl) (fun hHeld=>?_)
    clear hK K
    refine jjc (a':=?_) ?_ ?_
    rotate_left
    ·show Act.put _ (some 21) _=_
     simp only [Act.put,List.setIfInBounds_toArray,List.set_cons_zero,List.set_cons_succ,jhb,jpb]
     rfl
    refine pq (i:=6) (N:=some 22) #[true,true,true,true,true,true,true,false,false] ?_
    refine pq (i:=7) (N:=some 23) #[true,true,true,true,true,true,true,true,false] ?_
    refine last_ (i:=8) (N:=none) #[true,true,true,true,true,true,true,true,true] rfl rfl (jTb HT_.out (by kernel_rfl)) (by decide) (fun K hK=>?_)
    refine skip_ (w1:=?_) (by rfl) rfl ?_ ?_
    rotate_left
    ·go_simp
     rfl
    refine hK.out _ _ ?_
    clear hK K
    refine done_ (done_of HT_.out (by kernel_rfl)) ?_
    have n0_:jq (Kd.R k87 87 (w23.setCell ⟨go9,(t203:Int).toNat * 2,none⟩ (.string t210)) w.heap.size (fun _=>True) (.slice (some ⟨go9,0,none⟩) t198.length co13) y212):=⟨rq HQ24.out⟩
    have n1_:jq (Kd.R Kd.string 9 (w23.setCell ⟨go9,(t203:Int).toNat * 2,none⟩ (.string t210)) w.heap.size (fun _=>True) (.slice Ao22 y207.length co22) y207):=⟨by (with_reducible repeat (first | apply Kd.jY | apply Kd.jX | apply Kd.jia));exact Kd.jE (Kd.jLb (p:=⟨go9,(t203:Int).toNat * 2,none⟩) (Kd.jPa HO209.out GG9.out (by decide)) (fun _ hk=>hk.2) (.string t210)) (fun _ hk=>trivial)⟩
    have n2_:jq ((w23.setCell ⟨go9,(t203:Int).toNat * 2,none⟩ (.string t210)).heap[gb197]?=some (.cells #[.slice none 0 0] 32 (0,0))):=⟨by (with_reducible repeat (first | refine jy ?_ _ | refine jD ?_ | refine jB ?_ _));refine jlb ?_ (by have h_:=Kd.R_ne HO200.out BK197.out (by decide);intro e_;exact h_ (by rw [e_];rfl)) _;(with_reducible repeat (first | refine jy ?_ _ | refine jD ?_ | refine jB ?_ _));exact BK197.out⟩
    have n3_:jq ((w23.setCell ⟨go9,(t203:Int).toNat * 2,none⟩ (.string t210)).heap[gb202]?=some (.cells #[.slice (some ⟨go9,0,none⟩) t198.length co13] 32 (0,0))):=⟨by (with_reducible repeat (first | refine jy ?_ _ | refine jD ?_ | refine jB ?_ _));refine jlb ?_ (by have h_:=Kd.R_ne HO200.out BK202.out (by decide);intro e_;exact h_ (by rw [e_];rfl)) _;(with_reducible repeat (first | refine jy ?_ _ | refine jD ?_ | refine jB ?_ _));exact BK202.out⟩
    have n4_:jq (jf w0 (w23.setCell ⟨go9,(t203:Int).toNat * 2,none⟩ (.string t210)) g s0_0 t211):=⟨by repeat (first |(with_reducible first | exact HI0.out | apply jf.alloc | apply jf.drewN | apply jf.drew | apply jf.jfc | refine jf.far ?_ HN0_go9.out _ | refine jf.far ?_ NB0_197.out _ | refine jf.far ?_ NB0_202.out _) | exact HI0.out)⟩
    have n5_:jq (jb w (w23.setCell ⟨go9,(t203:Int).toNat * 2,none⟩ (.string t210)) g none):=⟨by repeat (first |(with_reducible first | exact HK.out | apply jb.set_ | apply jSa | apply jMa | apply jTa | refine jab ?_ GB9.out _ | refine jab ?_ GW197.out _ | refine jab ?_ GW202.out _) | exact HK.out)⟩
    have n6_:jq (Below w0.heap.size w0 (w23.setCell ⟨go9,(t203:Int).toNat * 2,none⟩ (.string t210))):=⟨by repeat (first |(with_reducible first | exact HB.out | apply jR | apply jw | apply jS | refine jP ?_ (Nat.le_trans HL.out GB9.out) | refine jP ?_ (jf.ge HI0.out) | refine jP ?_ GE197.out | refine jP ?_ GE202.out) | exact HB.out)⟩
    (try clear HO200)
    (try clear HO209)
    (try clear BK197)
    (try clear BK202)
    (try clear HI0)
    (try clear HK)
    (try clear HB)
    generalize (w23.setCell ⟨go9,(t203:Int).toNat * 2,none⟩ (.string t210))=w25 at n0_ n1_ n2_ n3_ n4_ n5_ n6_ ⊢
    have HO200:=n0_
    have HO209:=n1_
    have BK197:=n2_
    have BK202:=n3_
    have HI0:=n4_
    have HK:=n5_
    have HB:=n6_
    clear n0_ n1_ n2_ n3_ n4_ n5_ n6_
    have hcz26_0:=bc0 BK202.out
    have hfz26_0:=ja BK202.out 0
    have hnb27:=NB197_0.out
    have hnc27:=NB0_197.out
    have hcz28_0:=bc0 BK197.out
    have hfz28_0:=ja BK197.out 0
    try go_wp2
    refine bodyPost_ret (results_cell_row rfl _ _ gb197 32 #[.slice (some ⟨go9,0,none⟩) t198.length co13] (0,0) _ rfl (Y80) Try.underlying32 rfl (by kernel_rfl)) rfl ?_
    exact ⟨_,Y0,by (with_reducible repeat (first | apply Kd.jY | apply Kd.jX | apply Kd.jia));exact Kd.jE (Kd.jLb (p:=⟨gb197,0,none⟩) (Kd.jPa HO200.out BK197.out (by decide)) (fun _ hk=>hk.2) (.slice (some ⟨go9,0,none⟩) t198.length co13)) (fun _ hk=>trivial),Y14,Y30,Y25⟩
   ·rw [if_neg c8] at H
    exact absurd H (by simp)
  ·rw [if_neg c7] at H
   exact absurd H (by simp)
 ·rw [if_neg c5] at H
  have c5b0:(t205 == 0)=false:=beq_eq_false_iff_ne.mpr c5
  have c5b1:(t205 != 0)=true:=bne_iff_ne.mpr c5
  by_cases c29:t205=1
  ·rw [if_pos c29] at H
   have c29b0:(t205 == 1)=true:=beq_iff_eq.mpr c29
   have c29b1:(t205 != 1)=false:=bne_eq_false_iff_eq.mpr c29
   clear c29
   obtain ⟨y213,hy213⟩:∃ y_:List Int,y_=(([t203,(-1),8,(-2)]:List Int)):=⟨_,rfl⟩
   replace H:((ji.f k s0_0 t206 y213).bind fun bt216=>(if 0≤t203 then (if t203<(t198.length:Int) then (some ((t198.set (t203:Int).toNat (⟨(jda t198 t203).f0,bt216.1⟩:S87)),bt216.2)) else (none)) else (none)))=some (r1,r2):=by first |(rw [hy213];with_reducible exact H) |(have H2_:=(Option.bind_some _ _).symm.trans H;rw [hy213];with_reducible exact H2_) |(have H2_:=(Option.bind_some _ _).symm.trans H;with_reducible exact H2_) | with_reducible exact H |(rw [hy213];exact H) | exact H
   have Ny213:=am hy213
   clear hy213
   replace H:=bzS H
   obtain ⟨⟨t216,t217⟩,A300,H⟩:=H
   replace H:(if 0≤t203 then (if t203<(t198.length:Int) then (some ((t198.set (t203:Int).toNat (⟨(jda t198 t203).f0,t216⟩:S87)),t217)) else (none)) else (none))=some (r1,r2):=H
   have A30:=am A300
   clear A300
   by_cases c31:0≤t203
   ·rw [if_pos c31] at H
    have c31b0:decide (0≤t203)=true:=dzT c31
    clear c31
    by_cases c32:t203<(t198.length:Int)
    ·rw [if_pos c32] at H
     have c32b0:decide (t203<(t198.length:Int))=true:=dzT c32
     clear c32
     obtain ⟨y218,hy218⟩:∃ y_:List (S87),y_=(t198.set (t203:Int).toNat (⟨(jda t198 t203).f0,t216⟩:S87)):=⟨_,rfl⟩
     replace H:(some (y218,t217))=some (r1,r2):=by first |(rw [hy218];with_reducible exact H) |(have H2_:=(Option.bind_some _ _).symm.trans H;rw [hy218];with_reducible exact H2_) |(have H2_:=(Option.bind_some _ _).symm.trans H;with_reducible exact H2_) | with_reducible exact H |(rw [hy218];exact H) | exact H
     have Ny218:=am hy218
     clear hy218
     simp only [Option.some.injEq,Prod.mk.injEq] at H
     obtain ⟨rfl,rfl⟩:=H
     go_enter Try.func110,Try.ntmps110
     try go_wp2_with (first |((with_reducible refine jM (N:=2) rfl ?_);refine bE (N:=2) (cs:=#[.slice none 0 0]) (t:=32) ?_;intro gb197 hg w34 hbox hb;have BK197:=am (hbox);have GW197:=am ((Y12:w.heap.size≤gb197));have GE197:=am ((Nat.le_trans HW0.out (Y12:w.heap.size≤gb197):w0.heap.size≤gb197));have NB0_197:=am ((Y27:g≠gb197));have NB197_0:=am ((Y28:gb197≠g));replace HK:=am (jb.trans (Y17) (jb.of_below hb g none) (.inl rfl));replace HB:=am (je (Y18) hb);replace HI0:=am (jf.below (Y16) hb);clear hb hbox hg) |((with_reducible refine jd (f:=115) rfl ?_);refine gL (some 6) Try.func115 #[.pointer (some ⟨g,0,none⟩)] ?_;(with_reducible refine (jZ.calls k g s0_0 s0_1 t198 t201 w0 _ ?side1 ?side2 A2.out).mono ?_);(case side1=>exact Y46);(case side2=>exact Y47);rintro e w35 ⟨v199,rfl,ho0,hi,hb,hk⟩;refine ⟨_,rfl,?_⟩;have HO200:=am (Kd.jQ ho0 (jJ (w:=w) (g:=g) (row:=none) (Y38)));replace BK197:=am (jb.blk hk (g':=gb197) (o:=.cells #[.slice none 0 0] 32 (0,0)) (kq BK197.out) NB197_0.out (by simp));replace HK:=am (jb.trans (Y38) hk (.inl rfl));replace HB:=am (hb);replace HI0:=am (hi);(try clear hb);(try clear hb2);(try clear hk);(try clear hi);(try clear ho0)) |((with_reducible refine jM (N:=3) rfl ?_);refine bE (N:=3) (cs:=#[.slice none 0 0]) (t:=32) ?_;intro gb202 hg w36 hbox hb;have BK202:=am (hbox);have GW202:=am ((Y48:w.heap.size≤gb202));have GE202:=am ((Nat.le_trans HW0.out (Y48:w.heap.size≤gb202):w0.heap.size≤gb202));have NB197_202:=am ((Y74:gb197≠gb202));have NB202_197:=am ((Y75:gb202≠gb197));have NB0_202:=am ((Y76:g≠gb202));have NB202_0:=am ((Y77:gb202≠g));replace HO200:=am (Kd.jT (rq HO200.out) hb);replace BK197:=am (jm (g:=gb197) (o:=.cells #[.slice none 0 0] 32 (0,0)) (kq BK197.out) hb);replace HK:=am (jb.trans (Y38) (jb.of_below hb g none) (.inl rfl));replace HB:=am (je (Y47) hb);replace HI0:=am (jf.below (Y46) hb);clear hb hbox hg;obtain ⟨Ao37,co37,eo37⟩:=Kd.jU HO200.out;subst eo37;have hnb38:=NB202_197.out;have hnc38:=NB197_202.out;have hnb39:=NB202_0.out;have hnc39:=NB0_202.out;have hcz40_0:=bc0 BK202.out;have hfz40_0:=ja BK202.out 0) |((with_reducible refine jd (f:=71) rfl ?_);refine gL (some 11) Try.func71 #[.pointer (some ⟨g,0,none⟩), .int .i64 (t198.length:Int)] ?_;(with_reducible refine (jg.calls k g s0_0 t201 (t198.length:Int) t203 t204 w0 _ ?side1 ?side2 A3.out).mono ?_);(case side1=>exact Y14);(case side2=>exact Y30);rintro e w41 ⟨rfl,hi,hb,hk⟩;refine ⟨_,rfl,?_⟩;replace BK197:=am (jb.blk hk (g':=gb197) (o:=.cells #[.slice none 0 0] 32 (0,0)) (Y78) NB197_0.out (by simp));replace HO200:=am (Kd.jE (Kd.jxa (jf.apart (show jf w0 _ g s0_0 t201 from Y14) (by (with_reducible repeat (first | apply Kd.jY | apply Kd.jX | apply Kd.jia));exact (Kd.jE (Kd.jLb (p:=⟨gb202,0,none⟩) (Kd.jPa HO200.out BK202.out (by decide)) (fun _ hk=>hk.2) (.slice Ao37 t198.length co37)) (fun _ h_=>h_.1))) (by decide)) hk (fun _ h=>h.2)) (fun _ h=>h.1));replace BK202:=am (jb.blk hk (g':=gb202) (o:=.cells #[.slice Ao37 t198.length co37] 32 (0,0)) (Y79) NB202_0.out (by simp));replace HK:=am (jb.trans (Y25) hk (.inl rfl));replace HB:=am (hb);replace HI0:=am (hi);(try clear hb);(try clear hb2);(try clear hk);(try clear hi)) |((with_reducible refine jd (f:=71) rfl ?_);refine gL (some 13) Try.func71 #[.pointer (some ⟨g,0,none⟩), .int .i64 24] ?_;(with_reducible refine (jg.calls k g s0_0 t204 24 t205 t206 w0 _ ?side1 ?side2 A4.out).mono ?_);(case side1=>exact Y14);(case side2=>exact Y30);rintro e w42 ⟨rfl,hi,hb,hk⟩;refine ⟨_,rfl,?_⟩;replace BK197:=am (jb.blk hk (g':=gb197) (o:=.cells #[.slice none 0 0] 32 (0,0)) (kq BK197.out) NB197_0.out (by simp));replace HO200:=am (Kd.jE (Kd.jxa (jf.apart (show jf w0 _ g s0_0 t204 from Y14) (rq HO200.out) (by decide)) hk (fun _ h=>h.2)) (fun _ h=>h.1));replace BK202:=am (jb.blk hk (g':=gb202) (o:=.cells #[.slice Ao37 t198.length co37] 32 (0,0)) (kq BK202.out) NB202_0.out (by simp));replace HK:=am (jb.trans (Y25) hk (.inl rfl));replace HB:=am (hb);replace HI0:=am (hi);(try clear hb);(try clear hb2);(try clear hk);(try clear hi)))
     replace HO200:=am (Kd.jia HO200.out)
     replace BK197:=am (jD BK197.out)
     replace BK202:=am (jD BK202.out)
     replace HI0:=am (jf.drew HI0.out)
     replace HK:=am (jMa HK.out)
     replace HB:=am (jS HB.out)
     refine start_ (n:=10) (S:=fun w'=>w'.cell? ⟨gb202,0,none⟩=some (.slice Ao37 t198.length co37)) (ds:=[9]) #[false,false,false,false,false,false,false,false,false,false] (by kernel_rfl) rfl rfl ((jK BK202.out 0).trans rfl) (fun hHeld=>?_);refine jqc jja.tab7 jja.bits7 (fun HT_ HW_=>?_)
     generalize w42.drew=w43 at HO200 BK197 BK202 HI0 HK HB hHeld ⊢
     refine pq (i:=0) (N:=some 26) #[true,false,false,false,false,false,false,false,false,false] ?_
     refine pq (i:=2) (N:=some 28) #[true,false,true,false,false,false,false,false,false,false] ?_
     refine pq (i:=3) (N:=some 29) #[true,false,true,true,false,false,false,false,false,false] ?_
     refine pq (i:=4) (N:=some 30) #[true,false,true,true,true,false,false,false,false,false] ?_
     refine take_ (i:=1) (N:=some 27) (v:=?_) (a':=?_) #[true,true,true,true,true,false,false,false,false,false] rfl rfl (jlc HT_.out HW_.out (by kernel_rfl)) (fun _ _ _ h=>h) (Or.inl ⟨by rfl,?_⟩) hHeld ?_ ?_
     rotate_left
     ·intro w' s0
      go_simp
      with_reducible rfl
     rotate_left
     ·exact sa
     refine one_ (i:=5) (N:=some 31) #[true,true,true,true,true,true,false,false,false,false] rfl rfl (jTb HT_.out (by kernel_rfl)) (by decide) (fun K hK=>?_)
     refine Kd.jdc (Kd.int .i64) _ 3 ?hg (N:=31) ?hd (xs:=([t203,(-1),8,(-2)]:List Int)) (inner:=[.int .i64 t203, .int .i64 (-1), .int .i64 8, .int .i64 (-2)]) (ok:=fun _=>True) (okp:=fun _=>True) ?hr ?hp (fun _ hk=>hk) trivial (Below.refl _ _) (Nat.le_refl _) (by simp) ?_;(case hd=>rfl);(case hg=>rfl);(case hr=>exact Y7);(case hp=>exact (Reps.one (show Kd.M (Kd.int .i64) _ _ _ t203 [.int .i64 t203] from rfl) (Reps.one (show Kd.M (Kd.int .i64) _ _ _ (-1) [.int .i64 (-1)] from rfl) (Reps.one (show Kd.M (Kd.int .i64) _ _ _ 8 [.int .i64 8] from rfl) (Reps.one (show Kd.M (Kd.int .i64) _ _ _ (-2) [.int .i64 (-2)] from rfl) (Reps.none _ _))))))
     intro v214 w44 ho45 hb hg_ hnew_
     clear hg_ hnew_
     (first | rw [← Ny213.out] at ho45 |(simp only [Int.reduceToNat] at ho45;rw [← Ny213.out] at ho45))
     have HO215:=am (Kd.jQ ho45 (jJ (w:=w) (g:=g) (row:=none) (Y25)))
     replace HO200:=am (Kd.jT (rq HO200.out) hb)
     replace BK197:=am (jm (g:=gb197) (o:=.cells #[.slice none 0 0] 32 (0,0)) (kq BK197.out) hb)
     replace BK202:=am (jm (g:=gb202) (o:=.cells #[.slice Ao37 t198.length co37] 32 (0,0)) (kq BK202.out) hb)
     replace HK:=am (jb.trans (Y25) (jb.of_below hb g none) (.inl rfl))
     replace HB:=am (je (Y30) hb)
     replace HI0:=am (jf.below (Y14) hb)
     clear hb ho45
     obtain ⟨Ao46,co46,eo46⟩:=Kd.jU HO215.out
     (first | subst eo46 |(injection eo46 with f1_ f2_ f3_;have f4_:=f1_.symm;have f5_:=f3_.symm;clear f1_ f2_ f3_;subst f4_;subst f5_))
     refine hK.out _ _ ((jK BK202.out 0).trans rfl) (fun hHeld=>?_)
     clear hK K
     refine jjc (a':=?_) ?_ ?_
     rotate_left
     ·show Act.put _ (some 31) _=_
      simp only [Act.put,List.setIfInBounds_toArray,List.set_cons_zero,List.set_cons_succ,jhb,jpb]
      rfl
     refine one_ (i:=6) (N:=some 32) #[true,true,true,true,true,true,true,false,false,false] rfl rfl (jTb HT_.out (by kernel_rfl)) (by decide) (fun K hK=>?_)
     refine goes_ Try.func91 (by kernel_rfl) rfl #[.pointer (some ⟨g,0,none⟩), .slice Ao46 y213.length co46] (by rfl) rfl rfl (aq) ?_
     with_reducible refine (ji.calls k g s0_0 t206 _ _ y213 t216 t217 w0 _ ?side1 ?side2 ?side3 ?side4 ?side5 A30.out).mono ?_
     (case side1=>exact Y14)
     (case side2=>exact Y30)
     (case side3=>exact cq (Kd.jh HO215.out).2.2)
     (case side4=>exact (Kd.jh HO215.out).2.1)
     (case side5=>exact jzb (jf.own_ne HI0.out HO215.out (by decide)))
     rintro e w47 ⟨rfl,hi,hb,hk⟩
     refine ⟨_,rfl,?_⟩
     replace BK197:=am (jb.blk hk (g':=gb197) (o:=.cells #[.slice none 0 0] 32 (0,0)) (kq BK197.out) NB197_0.out (by simp))
     replace HO200:=am (Kd.jE (Kd.jxa (jf.apart (show jf w0 _ g s0_0 t206 from Y14) (rq HO200.out) (by decide)) hk (fun _ h=>h.2)) (fun _ h=>h.1))
     replace BK202:=am (jb.blk hk (g':=gb202) (o:=.cells #[.slice Ao37 t198.length co37] 32 (0,0)) (kq BK202.out) NB202_0.out (by simp))
     replace HO215:=am (Kd.jE (Kd.jxa (jf.apart (show jf w0 _ g s0_0 t206 from Y14) (rq HO215.out) (by decide)) hk (fun _ h=>h.2)) (fun _ h=>h.1))
     replace HK:=am (jb.trans (Y25) hk (.inl rfl))
     replace HB:=am (hb)
     replace HI0:=am (hi)
     (try clear hb)
     (try clear hb2)
     (try clear hk)
     (try clear hi)
     have p33:0≤(t203:Int):=ozD (uq)
     have q33:(t203:Int)<((t198.length:Int):Int):=ozD (uq)
     obtain ⟨go33,co33,eo33,gb33,gl33,cl33,HG33⟩:=Kd.R_form HO200.out (by omega)
     (first | cases eo33 |(injection eo33 with ea_ en_ ec_;(first | subst ea_ |(injection ea_ with ea_;subst ea_));subst ec_;clear en_))
     have GB33:=am gb33
     have GG33:=am HG33
     clear gb33 gl33 HG33
     obtain ⟨ce33,hcl33,hM33,hcc33,hfr33⟩:=Kd.R_elem HO200.out z87 (t203:Int) p33 q33
     obtain rfl:=k87_openM hM33
     have hx33_0:World.cell? _ ⟨go33,(t203:Int).toNat * 2,none⟩=some (.string ((jda t198 t203).f0)):=hcc33 0 _ rfl
     have hx33_1:World.cell? _ ⟨go33,(t203:Int).toNat * 2+1,none⟩=some (.int .i64 ((jda t198 t203).f1)):=hcc33 1 _ rfl
     have hf33_0:World.frozen? _ ⟨go33,(t203:Int).toNat * 2,none⟩=false:=hfr33 0
     have hf33_1:World.frozen? _ ⟨go33,(t203:Int).toNat * 2+1,none⟩=false:=hfr33 1
     clear hcl33 hcc33 hfr33 hM33
     replace p33:=ezT p33
     replace q33:=ezT q33
     have HN0_go33:=am (show g≠go33 from by have h_:=jf.own_ne HI0.out HO200.out (by decide);intro e_;exact h_ (by rw [e_];rfl))
     obtain ⟨ce48,hcl48,hM48,hcc48,hfr48⟩:=Kd.R_elem HO200.out z87 (t203:Int) (ozD (uq)) (by have h_:(t203:Int)<((t198.length:Int):Int):=ozD (uq);first | exact h_ |(have e_:=(Kd.jh HO200.out).1;omega) | simpa using h_)
     obtain rfl:=k87_openM hM48
     have HP48:=(Kd.R_seg HO200.out (t203:Int) (ozD (uq)) (by have h_:(t203:Int)<((t198.length:Int):Int):=ozD (uq);first | exact h_ |(have e_:=(Kd.jh HO200.out).1;omega) | simpa using h_) (seg:=[.int .i64 t216]) (j:=1) hcl48 hcc48 (show 2≤2 from by decide) (x':=(⟨(jda t198 t203).f0,t216⟩:S87)) (k87_mkM _ _ _ (⟨(jda t198 t203).f0,t216⟩:S87) ) (fun _ hk=>hk)).1
     rw [← Ny218.out] at HP48
     have HQ48:=am HP48
     clear hcl48 hcc48 hfr48 hM48 HP48
     refine hK.out _ _ ((jK BK202.out 0).trans rfl) (fun hHeld=>?_)
     clear hK K
     refine jjc (a':=?_) ?_ ?_
     rotate_left
     ·show Act.put _ (some 32) _=_
      simp only [Act.put,List.setIfInBounds_toArray,List.set_cons_zero,List.set_cons_succ,jhb,jpb]
      rfl
     refine pq (i:=7) (N:=some 33) #[true,true,true,true,true,true,true,true,false,false] ?_
     refine pq (i:=8) (N:=some 34) #[true,true,true,true,true,true,true,true,true,false] ?_
     refine last_ (i:=9) (N:=none) #[true,true,true,true,true,true,true,true,true,true] rfl rfl (jTb HT_.out (by kernel_rfl)) (by decide) (fun K hK=>?_)
     refine skip_ (w1:=?_) (by rfl) rfl ?_ ?_
     rotate_left
     ·go_simp
      rfl
     refine hK.out _ _ ?_
     clear hK K
     refine done_ (done_of HT_.out (by kernel_rfl)) ?_
     have n0_:jq (Kd.R k87 87 (w47.setCell ⟨go33,(t203:Int).toNat * 2+1,none⟩ (.int .i64 t216)) w.heap.size (fun _=>True) (.slice (some ⟨go33,0,none⟩) t198.length co37) y218):=⟨rq HQ48.out⟩
     have n1_:jq (Kd.R (Kd.int .i64) 3 (w47.setCell ⟨go33,(t203:Int).toNat * 2+1,none⟩ (.int .i64 t216)) w.heap.size (fun _=>True) (.slice Ao46 y213.length co46) y213):=⟨by (with_reducible repeat (first | apply Kd.jY | apply Kd.jX | apply Kd.jia));exact Kd.jE (Kd.jLb (p:=⟨go33,(t203:Int).toNat * 2+1,none⟩) (Kd.jPa HO215.out GG33.out (by decide)) (fun _ hk=>hk.2) (.int .i64 t216)) (fun _ hk=>trivial)⟩
     have n2_:jq ((w47.setCell ⟨go33,(t203:Int).toNat * 2+1,none⟩ (.int .i64 t216)).heap[gb197]?=some (.cells #[.slice none 0 0] 32 (0,0))):=⟨by (with_reducible repeat (first | refine jy ?_ _ | refine jD ?_ | refine jB ?_ _));refine jlb ?_ (by have h_:=Kd.R_ne HO200.out BK197.out (by decide);intro e_;exact h_ (by rw [e_];rfl)) _;(with_reducible repeat (first | refine jy ?_ _ | refine jD ?_ | refine jB ?_ _));exact BK197.out⟩
     have n3_:jq ((w47.setCell ⟨go33,(t203:Int).toNat * 2+1,none⟩ (.int .i64 t216)).heap[gb202]?=some (.cells #[.slice (some ⟨go33,0,none⟩) t198.length co37] 32 (0,0))):=⟨by (with_reducible repeat (first | refine jy ?_ _ | refine jD ?_ | refine jB ?_ _));refine jlb ?_ (by have h_:=Kd.R_ne HO200.out BK202.out (by decide);intro e_;exact h_ (by rw [e_];rfl)) _;(with_reducible repeat (first | refine jy ?_ _ | refine jD ?_ | refine jB ?_ _));exact BK202.out⟩
     have n4_:jq (jf w0 (w47.setCell ⟨go33,(t203:Int).toNat * 2+1,none⟩ (.int .i64 t216)) g s0_0 t217):=⟨by repeat (first |(with_reducible first | exact HI0.out | apply jf.alloc | apply jf.drewN | apply jf.drew | apply jf.jfc | refine jf.far ?_ HN0_go33.out _ | refine jf.far ?_ NB0_197.out _ | refine jf.far ?_ NB0_202.out _) | exact HI0.out)⟩
     have n5_:jq (jb w (w47.setCell ⟨go33,(t203:Int).toNat * 2+1,none⟩ (.int .i64 t216)) g none):=⟨by repeat (first |(with_reducible first | exact HK.out | apply jb.set_ | apply jSa | apply jMa | apply jTa | refine jab ?_ GB33.out _ | refine jab ?_ GW197.out _ | refine jab ?_ GW202.out _) | exact HK.out)⟩
     have n6_:jq (Below w0.heap.size w0 (w47.setCell ⟨go33,(t203:Int).toNat * 2+1,none⟩ (.int .i64 t216))):=⟨by repeat (first |(with_reducible first | exact HB.out | apply jR | apply jw | apply jS | refine jP ?_ (Nat.le_trans HL.out GB33.out) | refine jP ?_ (jf.ge HI0.out) | refine jP ?_ GE197.out | refine jP ?_ GE202.out) | exact HB.out)⟩
     (try clear HO200)
     (try clear HO215)
     (try clear BK197)
     (try clear BK202)
     (try clear HI0)
     (try clear HK)
     (try clear HB)
     generalize (w47.setCell ⟨go33,(t203:Int).toNat * 2+1,none⟩ (.int .i64 t216))=w49 at n0_ n1_ n2_ n3_ n4_ n5_ n6_ ⊢
     have HO200:=n0_
     have HO215:=n1_
     have BK197:=n2_
     have BK202:=n3_
     have HI0:=n4_
     have HK:=n5_
     have HB:=n6_
     clear n0_ n1_ n2_ n3_ n4_ n5_ n6_
     have hcz50_0:=bc0 BK202.out
     have hfz50_0:=ja BK202.out 0
     have hnb51:=NB197_0.out
     have hnc51:=NB0_197.out
     have hcz52_0:=bc0 BK197.out
     have hfz52_0:=ja BK197.out 0
     try go_wp2
     refine bodyPost_ret (results_cell_row rfl _ _ gb197 32 #[.slice (some ⟨go33,0,none⟩) t198.length co37] (0,0) _ rfl (Y80) Try.underlying32 rfl (by kernel_rfl)) rfl ?_
     exact ⟨_,Y0,by (with_reducible repeat (first | apply Kd.jY | apply Kd.jX | apply Kd.jia));exact Kd.jE (Kd.jLb (p:=⟨gb197,0,none⟩) (Kd.jPa HO200.out BK197.out (by decide)) (fun _ hk=>hk.2) (.slice (some ⟨go33,0,none⟩) t198.length co37)) (fun _ hk=>trivial),Y14,Y30,Y25⟩
    ·rw [if_neg c32] at H
     exact absurd H (by simp)
   ·rw [if_neg c31] at H
    exact absurd H (by simp)
  ·rw [if_neg c29] at H
   have c29b0:(t205 == 1)=false:=beq_eq_false_iff_ne.mpr c29
   have c29b1:(t205 != 1)=true:=bne_iff_ne.mpr c29
   by_cases c53:t205=2
   ·rw [if_pos c53] at H
    have c53b0:(t205 == 2)=true:=beq_iff_eq.mpr c53
    have c53b1:(t205 != 2)=false:=bne_eq_false_iff_eq.mpr c53
    clear c53
    simp only [Option.some.injEq,Prod.mk.injEq] at H
    obtain ⟨rfl,rfl⟩:=H
    go_enter Try.func110,Try.ntmps110
    go_wp2_with (first |((with_reducible refine jM (N:=2) rfl ?_);refine bE (N:=2) (cs:=#[.slice none 0 0]) (t:=32) ?_;intro gb197 hg w54 hbox hb;have BK197:=am (hbox);have GW197:=am ((Y12:w.heap.size≤gb197));have GE197:=am ((Nat.le_trans HW0.out (Y12:w.heap.size≤gb197):w0.heap.size≤gb197));have NB0_197:=am ((Y27:g≠gb197));have NB197_0:=am ((Y28:gb197≠g));replace HK:=am (jb.trans (Y17) (jb.of_below hb g none) (.inl rfl));replace HB:=am (je (Y18) hb);replace HI0:=am (jf.below (Y16) hb);clear hb hbox hg) |((with_reducible refine jd (f:=115) rfl ?_);refine gL (some 6) Try.func115 #[.pointer (some ⟨g,0,none⟩)] ?_;(with_reducible refine (jZ.calls k g s0_0 s0_1 t198 t201 w0 _ ?side1 ?side2 A2.out).mono ?_);(case side1=>exact Y46);(case side2=>exact Y47);rintro e w55 ⟨v199,rfl,ho0,hi,hb,hk⟩;refine ⟨_,rfl,?_⟩;have HO200:=am (Kd.jQ ho0 (jJ (w:=w) (g:=g) (row:=none) (Y38)));replace BK197:=am (jb.blk hk (g':=gb197) (o:=.cells #[.slice none 0 0] 32 (0,0)) (kq BK197.out) NB197_0.out (by simp));replace HK:=am (jb.trans (Y38) hk (.inl rfl));replace HB:=am (hb);replace HI0:=am (hi);(try clear hb);(try clear hb2);(try clear hk);(try clear hi);(try clear ho0)) |((with_reducible refine jM (N:=3) rfl ?_);refine bE (N:=3) (cs:=#[.slice none 0 0]) (t:=32) ?_;intro gb202 hg w56 hbox hb;have BK202:=am (hbox);have GW202:=am ((Y48:w.heap.size≤gb202));have GE202:=am ((Nat.le_trans HW0.out (Y48:w.heap.size≤gb202):w0.heap.size≤gb202));have NB197_202:=am ((Y74:gb197≠gb202));have NB202_197:=am ((Y75:gb202≠gb197));have NB0_202:=am ((Y76:g≠gb202));have NB202_0:=am ((Y77:gb202≠g));replace HO200:=am (Kd.jT (rq HO200.out) hb);replace BK197:=am (jm (g:=gb197) (o:=.cells #[.slice none 0 0] 32 (0,0)) (kq BK197.out) hb);replace HK:=am (jb.trans (Y38) (jb.of_below hb g none) (.inl rfl));replace HB:=am (je (Y47) hb);replace HI0:=am (jf.below (Y46) hb);clear hb hbox hg;obtain ⟨Ao57,co57,eo57⟩:=Kd.jU HO200.out;subst eo57;have hnb58:=NB202_197.out;have hnc58:=NB197_202.out;have hnb59:=NB202_0.out;have hnc59:=NB0_202.out;have hcz60_0:=bc0 BK202.out;have hfz60_0:=ja BK202.out 0) |((with_reducible refine jd (f:=71) rfl ?_);refine gL (some 11) Try.func71 #[.pointer (some ⟨g,0,none⟩), .int .i64 (t198.length:Int)] ?_;(with_reducible refine (jg.calls k g s0_0 t201 (t198.length:Int) t203 t204 w0 _ ?side1 ?side2 A3.out).mono ?_);(case side1=>exact Y14);(case side2=>exact Y30);rintro e w61 ⟨rfl,hi,hb,hk⟩;refine ⟨_,rfl,?_⟩;replace BK197:=am (jb.blk hk (g':=gb197) (o:=.cells #[.slice none 0 0] 32 (0,0)) (Y78) NB197_0.out (by simp));replace HO200:=am (Kd.jE (Kd.jxa (jf.apart (show jf w0 _ g s0_0 t201 from Y14) (by (with_reducible repeat (first | apply Kd.jY | apply Kd.jX | apply Kd.jia));exact (Kd.jE (Kd.jLb (p:=⟨gb202,0,none⟩) (Kd.jPa HO200.out BK202.out (by decide)) (fun _ hk=>hk.2) (.slice Ao57 t198.length co57)) (fun _ h_=>h_.1))) (by decide)) hk (fun _ h=>h.2)) (fun _ h=>h.1));replace BK202:=am (jb.blk hk (g':=gb202) (o:=.cells #[.slice Ao57 t198.length co57] 32 (0,0)) (Y79) NB202_0.out (by simp));replace HK:=am (jb.trans (Y25) hk (.inl rfl));replace HB:=am (hb);replace HI0:=am (hi);(try clear hb);(try clear hb2);(try clear hk);(try clear hi)) |((with_reducible refine jd (f:=71) rfl ?_);refine gL (some 13) Try.func71 #[.pointer (some ⟨g,0,none⟩), .int .i64 24] ?_;(with_reducible refine (jg.calls k g s0_0 t204 24 t205 t206 w0 _ ?side1 ?side2 A4.out).mono ?_);(case side1=>exact Y14);(case side2=>exact Y30);rintro e w62 ⟨rfl,hi,hb,hk⟩;refine ⟨_,rfl,?_⟩;replace BK197:=am (jb.blk hk (g':=gb197) (o:=.cells #[.slice none 0 0] 32 (0,0)) (kq BK197.out) NB197_0.out (by simp));replace HO200:=am (Kd.jE (Kd.jxa (jf.apart (show jf w0 _ g s0_0 t204 from Y14) (rq HO200.out) (by decide)) hk (fun _ h=>h.2)) (fun _ h=>h.1));replace BK202:=am (jb.blk hk (g':=gb202) (o:=.cells #[.slice Ao57 t198.length co57] 32 (0,0)) (kq BK202.out) NB202_0.out (by simp));replace HK:=am (jb.trans (Y25) hk (.inl rfl));replace HB:=am (hb);replace HI0:=am (hi);(try clear hb);(try clear hb2);(try clear hk);(try clear hi);have hnb63:=NB197_0.out;have hnc63:=NB0_197.out;have hcz64_0:=bc0 BK197.out;have hfz64_0:=ja BK197.out 0))
    refine bodyPost_ret (results_cell_row rfl _ _ gb197 32 #[.slice none 0 0] (0,0) _ rfl (Y80) Try.underlying32 rfl (by kernel_rfl)) rfl ?_
    exact ⟨_,Y0,Y81,Y14,Y30,Y25⟩
   ·rw [if_neg c53] at H
    have c53b0:(t205 == 2)=false:=beq_eq_false_iff_ne.mpr c53
    have c53b1:(t205 != 2)=true:=bne_iff_ne.mpr c53
    simp only [Option.some.injEq,Prod.mk.injEq] at H
    obtain ⟨rfl,rfl⟩:=H
    go_enter Try.func110,Try.ntmps110
    go_wp2_with (first |((with_reducible refine jM (N:=2) rfl ?_);refine bE (N:=2) (cs:=#[.slice none 0 0]) (t:=32) ?_;intro gb197 hg w65 hbox hb;have BK197:=am (hbox);have GW197:=am ((Y12:w.heap.size≤gb197));have GE197:=am ((Nat.le_trans HW0.out (Y12:w.heap.size≤gb197):w0.heap.size≤gb197));have NB0_197:=am ((Y27:g≠gb197));have NB197_0:=am ((Y28:gb197≠g));replace HK:=am (jb.trans (Y17) (jb.of_below hb g none) (.inl rfl));replace HB:=am (je (Y18) hb);replace HI0:=am (jf.below (Y16) hb);clear hb hbox hg) |((with_reducible refine jd (f:=115) rfl ?_);refine gL (some 6) Try.func115 #[.pointer (some ⟨g,0,none⟩)] ?_;(with_reducible refine (jZ.calls k g s0_0 s0_1 t198 t201 w0 _ ?side1 ?side2 A2.out).mono ?_);(case side1=>exact Y46);(case side2=>exact Y47);rintro e w66 ⟨v199,rfl,ho0,hi,hb,hk⟩;refine ⟨_,rfl,?_⟩;have HO200:=am (Kd.jQ ho0 (jJ (w:=w) (g:=g) (row:=none) (Y38)));replace BK197:=am (jb.blk hk (g':=gb197) (o:=.cells #[.slice none 0 0] 32 (0,0)) (kq BK197.out) NB197_0.out (by simp));replace HK:=am (jb.trans (Y38) hk (.inl rfl));replace HB:=am (hb);replace HI0:=am (hi);(try clear hb);(try clear hb2);(try clear hk);(try clear hi);(try clear ho0)) |((with_reducible refine jM (N:=3) rfl ?_);refine bE (N:=3) (cs:=#[.slice none 0 0]) (t:=32) ?_;intro gb202 hg w67 hbox hb;have BK202:=am (hbox);have GW202:=am ((Y48:w.heap.size≤gb202));have GE202:=am ((Nat.le_trans HW0.out (Y48:w.heap.size≤gb202):w0.heap.size≤gb202));have NB197_202:=am ((Y74:gb197≠gb202));have NB202_197:=am ((Y75:gb202≠gb197));have NB0_202:=am ((Y76:g≠gb202));have NB202_0:=am ((Y77:gb202≠g));replace HO200:=am (Kd.jT (rq HO200.out) hb);replace BK197:=am (jm (g:=gb197) (o:=.cells #[.slice none 0 0] 32 (0,0)) (kq BK197.out) hb);replace HK:=am (jb.trans (Y38) (jb.of_below hb g none) (.inl rfl));replace HB:=am (je (Y47) hb);replace HI0:=am (jf.below (Y46) hb);clear hb hbox hg;obtain ⟨Ao68,co68,eo68⟩:=Kd.jU HO200.out;subst eo68;have hnb69:=NB202_197.out;have hnc69:=NB197_202.out;have hnb70:=NB202_0.out;have hnc70:=NB0_202.out;have hcz71_0:=bc0 BK202.out;have hfz71_0:=ja BK202.out 0) |((with_reducible refine jd (f:=71) rfl ?_);refine gL (some 11) Try.func71 #[.pointer (some ⟨g,0,none⟩), .int .i64 (t198.length:Int)] ?_;(with_reducible refine (jg.calls k g s0_0 t201 (t198.length:Int) t203 t204 w0 _ ?side1 ?side2 A3.out).mono ?_);(case side1=>exact Y14);(case side2=>exact Y30);rintro e w72 ⟨rfl,hi,hb,hk⟩;refine ⟨_,rfl,?_⟩;replace BK197:=am (jb.blk hk (g':=gb197) (o:=.cells #[.slice none 0 0] 32 (0,0)) (Y78) NB197_0.out (by simp));replace HO200:=am (Kd.jE (Kd.jxa (jf.apart (show jf w0 _ g s0_0 t201 from Y14) (by (with_reducible repeat (first | apply Kd.jY | apply Kd.jX | apply Kd.jia));exact (Kd.jE (Kd.jLb (p:=⟨gb202,0,none⟩) (Kd.jPa HO200.out BK202.out (by decide)) (fun _ hk=>hk.2) (.slice Ao68 t198.length co68)) (fun _ h_=>h_.1))) (by decide)) hk (fun _ h=>h.2)) (fun _ h=>h.1));replace BK202:=am (jb.blk hk (g':=gb202) (o:=.cells #[.slice Ao68 t198.length co68] 32 (0,0)) (Y79) NB202_0.out (by simp));replace HK:=am (jb.trans (Y25) hk (.inl rfl));replace HB:=am (hb);replace HI0:=am (hi);(try clear hb);(try clear hb2);(try clear hk);(try clear hi)) |((with_reducible refine jd (f:=71) rfl ?_);refine gL (some 13) Try.func71 #[.pointer (some ⟨g,0,none⟩), .int .i64 24] ?_;(with_reducible refine (jg.calls k g s0_0 t204 24 t205 t206 w0 _ ?side1 ?side2 A4.out).mono ?_);(case side1=>exact Y14);(case side2=>exact Y30);rintro e w73 ⟨rfl,hi,hb,hk⟩;refine ⟨_,rfl,?_⟩;replace BK197:=am (jb.blk hk (g':=gb197) (o:=.cells #[.slice none 0 0] 32 (0,0)) (kq BK197.out) NB197_0.out (by simp));replace HO200:=am (Kd.jE (Kd.jxa (jf.apart (show jf w0 _ g s0_0 t204 from Y14) (rq HO200.out) (by decide)) hk (fun _ h=>h.2)) (fun _ h=>h.1));replace BK202:=am (jb.blk hk (g':=gb202) (o:=.cells #[.slice Ao68 t198.length co68] 32 (0,0)) (kq BK202.out) NB202_0.out (by simp));replace HK:=am (jb.trans (Y25) hk (.inl rfl));replace HB:=am (hb);replace HI0:=am (hi);(try clear hb);(try clear hb2);(try clear hk);(try clear hi);have hcz74_0:=bc0 BK202.out;have hfz74_0:=ja BK202.out 0;have hnb75:=NB197_0.out;have hnc75:=NB0_197.out;have hcz76_0:=bc0 BK197.out;have hfz76_0:=ja BK197.out 0))
    refine bodyPost_ret (results_cell_row rfl _ _ gb197 32 #[.slice Ao68 t198.length co68] (0,0) _ rfl (Y80) Try.underlying32 rfl (by kernel_rfl)) rfl ?_
    exact ⟨_,Y0,by (with_reducible repeat (first | apply Kd.jY | apply Kd.jX | apply Kd.jia));exact Kd.jE (Kd.jLb (p:=⟨gb197,0,none⟩) (Kd.jPa HO200.out BK197.out (by decide)) (fun _ hk=>hk.2) (.slice Ao68 t198.length co68)) (fun _ hk=>trivial),Y14,Y30,Y25⟩
mutual
def jA.j0 : Nat → Int → Bool → Int → List Int → Int → List (S87) → Option ((List (S52)) × Int)
 | 0,_,_,_,_,_,_=>none
 | k+1,x2,x3,x9,x1000,x1001,x220000=>if x9<4 then ((ji.f k x1000 x1001 (([1,2,3,4,5]:List Int))).bind fun bt228=>(some ((([(⟨x2,1,bt228.1,0⟩:S52)]:List (S52))),bt228.2))) else (if x9<6 then ((jg.f k x1000 x1001 (x220000.length:Int)).bind fun bt233=>((ji.f k x1000 bt233.2 (([1,2,3]:List Int))).bind fun bt238=>(some ((([(⟨x2,2,bt233.1,bt238.1⟩:S52)]:List (S52))),bt238.2)))) else (if x9=6 then (some ((([(⟨x2,3,0,0⟩:S52)]:List (S52))),x1001)) else (if x9=7 then (jA.j1 k x2 x3 x9 x3 x1000 x1001 x220000 x2 0 0 0) else (jA.j1 k x2 x3 x9 false x1000 x1001 x220000 x2 0 0 0))))
def jA.j1 : Nat → Int → Bool → Int → Bool → List Int → Int → List (S87) → Int → Int → Int → Int → Option ((List (S52)) × Int)
 | 0,_,_,_,_,_,_,_,_,_,_,_=>none
 | k+1,x2,x3,x9,x50,x1000,x1001,x220000,x225000,x225001,x225002,x225003=>if x50=true then ((ji.f k x1000 x1001 (([5,6]:List Int))).bind fun bt249=>(some ((([(⟨x225000,bt249.1,x225002,x225003⟩:S52)]:List (S52))),bt249.2))) else (if x9=7 then ((ji.f k x1000 x1001 (([7,8]:List Int))).bind fun bt257=>(some ((([(⟨x225000,4,bt257.1,x225003⟩:S52)]:List (S52))),bt257.2))) else (if x9=8 then (some ((([(⟨x225000,0,x225002,x225003⟩:S52)]:List (S52))),x1001)) else (if x9<11 then ((jg.f k x1000 x1001 4).bind fun bt265=>((jg.f k x1000 bt265.2 2).bind fun bt267=>((some (([(⟨x225000,11,bt265.1,bt267.1⟩:S52)]:List (S52)):List (S52))).bind fun y269=>((jI.f k x1000 bt267.2 x220000 (wrap64 (x2+1)) x3).bind fun bt272=>(if y269.length+bt272.1.length<4398046511104 then (some ((y269 ++ bt272.1),bt272.2)) else (none)))))) else (if x9=11 then ((ji.f k x1000 x1001 (([2,1,3,0]:List Int))).bind fun bt282=>((some (([(⟨x225000,12,bt282.1,x225003⟩:S52)]:List (S52)):List (S52))).bind fun y284=>((jI.f k x1000 bt282.2 x220000 (wrap64 (x2+1)) true).bind fun bt287=>(if y284.length+bt287.1.length<4398046511104 then (some ((y284 ++ bt287.1),bt287.2)) else (none))))) else ((jW.f k x1000 x1001 x220000 x2 x3).bind fun bt294=>(some (bt294.1,bt294.2)))))))
def jA.f : Nat → List Int → Int → List (S87) → Int → Bool → Option ((List (S52)) × Int)
 | 0,_,_,_,_,_=>none
 | k+1,s0_0,s0_1,l1_0,a2,a3=>(jg.f k s0_0 s0_1 16).bind fun bt220=>(if a2≥3 then ((jg.f k s0_0 bt220.2 9).bind fun bt222=>(jA.j0 k a2 a3 bt222.1 s0_0 bt222.2 l1_0)) else (jA.j0 k a2 a3 bt220.1 s0_0 bt220.2 l1_0))
def jI.l0 : Nat → Int → Bool → List (S52) → Int → List Int → Int → List (S87) → Option ((List (S52)) × Int)
 | 0,_,_,_,_,_,_,_=>none
 | k+1,x2,x3,x9,x10,x1000,x1001,x299000=>if x10 > 0 then ((jA.f k x1000 x1001 x299000 x2 x3).bind fun bt307=>(if x9.length+bt307.1.length<4398046511104 then (jI.l0 k x2 x3 (x9 ++ bt307.1) (wrap64 (x10 - 1)) x1000 bt307.2 x299000) else (none))) else (some (x9,x1001))
def jI.f : Nat → List Int → Int → List (S87) → Int → Bool → Option ((List (S52)) × Int)
 | 0,_,_,_,_,_=>none
 | k+1,s0_0,s0_1,l1_0,a2,a3=>(ji.f k s0_0 s0_1 (([1,2,1,2,3]:List Int))).bind fun bt305=>(jI.l0 k a2 a3 (([]:List (S52))) bt305.1 s0_0 bt305.2 l1_0)
def jW.l0 : Nat → Int → Bool → List (S52) → Int → Int → List Int → Int → List (S87) → Option ((List (S52)) × Int)
 | 0,_,_,_,_,_,_,_,_=>none
 | k+1,x2,x3,x9,x10,x11,x1000,x1001,x315000=>if x11 > 0 then ((jg.f k x1000 x1001 (x315000.length:Int)).bind fun bt330=>((ji.f k x1000 bt330.2 (([bt330.1,0]:List Int))).bind fun bt335=>(if x9.length<4398046511104 then ((some (x9 ++ [(⟨x2,8,bt335.1,0⟩:S52)]:List (S52))).bind fun y337=>((jI.f k x1000 bt335.2 x315000 (wrap64 (x2+1)) x3).bind fun bt340=>(if y337.length+bt340.1.length<4398046511104 then (jW.l0 k x2 x3 (y337 ++ bt340.1) x10 (wrap64 (x11 - 1)) x1000 bt340.2 x315000) else (none)))) else (none)))) else (if x10 > 0 then ((jg.f k x1000 x1001 3).bind fun bt347=>(jW.j1 k x2 x3 x9 x10 (bt347.1 == 0) x1000 bt347.2 x315000)) else (jW.j1 k x2 x3 x9 x10 false x1000 x1001 x315000))
def jW.j1 : Nat → Int → Bool → List (S52) → Int → Bool → List Int → Int → List (S87) → Option ((List (S52)) × Int)
 | 0,_,_,_,_,_,_,_,_=>none
 | k+1,x2,x3,x9,x10,x57,x1000,x1001,x315000=>if x57=true then (if x9.length<4398046511104 then ((some (x9 ++ [(⟨x2,9,0,0⟩:S52)]:List (S52))).bind fun y349=>((jI.f k x1000 x1001 x315000 (wrap64 (x2+1)) x3).bind fun bt352=>(if y349.length+bt352.1.length<4398046511104 then (jW.j2 k x2 x3 (y349 ++ bt352.1) x10 x1000 bt352.2 x315000) else (none)))) else (none)) else (jW.j2 k x2 x3 x9 x10 x1000 x1001 x315000)
def jW.j2 : Nat → Int → Bool → List (S52) → Int → List Int → Int → List (S87) → Option ((List (S52)) × Int)
 | 0,_,_,_,_,_,_,_=>none
 | k+1,x2,x3,x9,x10,x1000,x1001,x315000=>if x10=0 then (if x9.length<4398046511104 then ((some (x9 ++ [(⟨x2,10,0,0⟩:S52)]:List (S52))).bind fun y361=>((jI.f k x1000 x1001 x315000 (wrap64 (x2+1)) x3).bind fun bt364=>(if y361.length+bt364.1.length<4398046511104 then (some ((y361 ++ bt364.1),bt364.2)) else (none)))) else (none)) else ((jg.f k x1000 x1001 2).bind fun bt359=>(if bt359.1=0 then (if x9.length<4398046511104 then ((some (x9 ++ [(⟨x2,10,0,0⟩:S52)]:List (S52))).bind fun y371=>((jI.f k x1000 bt359.2 x315000 (wrap64 (x2+1)) x3).bind fun bt374=>(if y371.length+bt374.1.length<4398046511104 then (some ((y371 ++ bt374.1),bt374.2)) else (none)))) else (none)) else (some (x9,bt359.2))))
def jW.f : Nat → List Int → Int → List (S87) → Int → Bool → Option ((List (S52)) × Int)
 | 0,_,_,_,_,_=>none
 | k+1,s0_0,s0_1,l1_0,a2,a3=>(some (([(⟨a2,7,0,0⟩:S52)]:List (S52)):List (S52))).bind fun y315=>((jI.f k s0_0 s0_1 l1_0 (wrap64 (a2+1)) a3).bind fun bt318=>(if y315.length+bt318.1.length<4398046511104 then ((ji.f k s0_0 bt318.2 (([1,2,0,1]:List Int))).bind fun bt328=>(jW.l0 k a2 a3 (y315 ++ bt318.1) bt328.1 bt328.1 s0_0 bt328.2 l1_0)) else (none)))
end
end Go.Proofs.Ytkokajljeebgdaa.P
end
