/- One part of the proofs on this program: functions of the program as plain functions, that the code comes to them, and facts on them. -/
import Derived.Test.YteibechlncphnaaDoorYAll1
import Derived.Test.YteibechlncphnaaDoorYAll2
import Derived.Test.YteibechlncphnaaDoorYWAuto
section
namespace Go.Proofs.YteibechlncphnaaDoor.P
open Go.RowKit Go.Proofs.YteibechlncphnaaDoorW.PrintWords Go.Proofs.YteibechlncphnaaDoorW.PrintLast Go.Proofs.YteibechlncphnaaDoorW.PrintMore
attribute [local go_sem] jva jta jAa jza jga jfa jua jsa jA
set_option linter.unusedVariables false
set_option linter.unusedSimpArgs false
def jca.f (k : Nat) (s0_0 : List Int) (s0_1 : Int) : Option ((List (S99)) × Int) := (jQ.f k s0_0 s0_1).bind fun bt203 => ((jm.f k s0_0 bt203.2 (bt203.1.length : Int)).bind fun bt208 => ((jm.f k s0_0 bt208.2 24).bind fun bt210 => (if bt210.1 = 0 then ((jUa.f k s0_0 bt210.2 (([(⟨#[]⟩ : ByteArray), (⟨#[97, 110, 121]⟩ : ByteArray), (⟨#[65]⟩ : ByteArray), (⟨#[116, 111, 111, 108, 111, 110, 103]⟩ : ByteArray)] : List ByteArray))).bind fun bt215 => (if 0 ≤ bt208.1 then (if bt208.1 < (bt203.1.length : Int) then (some ((bt203.1.set (bt208.1 : Int).toNat (⟨bt215.1, (jL bt203.1 bt208.1).f1⟩ : S99)), bt215.2)) else (none)) else (none))) else (if bt210.1 = 1 then ((jy.f k s0_0 bt210.2 (([bt208.1, (-1), 8, (-2)] : List Int))).bind fun bt221 => (if 0 ≤ bt208.1 then (if bt208.1 < (bt203.1.length : Int) then (some ((bt203.1.set (bt208.1 : Int).toNat (⟨(jL bt203.1 bt208.1).f0, bt221.1⟩ : S99)), bt221.2)) else (none)) else (none))) else (if bt210.1 = 2 then (some (([] : List (S99)), bt210.2)) else (some (bt203.1, bt210.2)))))))
def jca.T5 : Bool × List (List Nat × List Nat) := (true, [([], []), ([0], [0]), ([], []), ([], []), ([], []), ([3, 4], [3, 4]), ([1, 2, 0, 1, 2, 3, 4, 5], [1, 2]), ([6, 0, 1, 2, 3, 4, 5], [6]), ([7, 5, 5, 0, 1, 2, 3, 4, 5], [5, 7])])
def jca.B5 : List Nat := [0, 1, 0, 0, 0, 24, 63, 127, 255]
theorem jca.tab5 : rtab .any (opsOf Tryd.f67 5) = jca.T5 := by kernel_rfl
theorem jca.bits5 : jLb jca.T5.2 jca.B5 = true := by kernel_rfl
def jca.T7 : Bool × List (List Nat × List Nat) := (true, [([], []), ([0], [0]), ([], []), ([], []), ([], []), ([4], [4]), ([3, 5], [3, 5]), ([1, 2, 0, 1, 2, 3, 4, 5, 6], [1, 2]), ([7, 0, 1, 2, 3, 4, 5, 6], [7]), ([8, 6, 6, 0, 1, 2, 3, 4, 5, 6], [6, 8])])
def jca.B7 : List Nat := [0, 1, 0, 0, 0, 16, 56, 127, 255, 511]
theorem jca.tab7 : rtab .any (opsOf Tryd.f67 7) = jca.T7 := by kernel_rfl
theorem jca.bits7 : jLb jca.T7.2 jca.B7 = true := by kernel_rfl
set_option maxHeartbeats 8000000 in
set_option maxRecDepth 100000 in
theorem jca.calls (k : Nat) (g : Nat) (s0_0 : List Int) (s0_1 : Int) (r1 : List (S99)) (r2 : Int) (w0 w : World) (hI : jk w0 w g s0_0 s0_1) (hB : Below w0.heap.size w0 w) (h : jca.f k s0_0 s0_1 = some (r1, r2)) :
  Calls Tryd.prog 67 #[.pointer (some ⟨g,0,none⟩)] w fun e w'=>∃ v0_:Value,e=.returned (.agg #[v0_])∧Kd.R k99 99 w' w.heap.size (fun _=>True) v0_ r1∧jk w0 w' g s0_0 r2∧Below w0.heap.size w0 w'∧jd w w' g none:=by
 have hu25:=Tryd.underlying25
 have HI0:=am hI
 have HK:=am (jd.refl w g none)
 have HL:=am hB.size
 clear hI
 have HW0:=am hB.size
 have HB:=am hB
 clear hB
 have H:((jQ.f k s0_0 s0_1).bind fun bt203=>((jm.f k s0_0 bt203.2 (bt203.1.length:Int)).bind fun bt208=>((jm.f k s0_0 bt208.2 24).bind fun bt210=>(if bt210.1=0 then ((jUa.f k s0_0 bt210.2 (([(⟨#[]⟩:ByteArray),(⟨#[97,110,121]⟩:ByteArray),(⟨#[65]⟩:ByteArray),(⟨#[116,111,111,108,111,110,103]⟩:ByteArray)]:List ByteArray))).bind fun bt215=>(if 0≤bt208.1 then (if bt208.1<(bt203.1.length:Int) then (some ((bt203.1.set (bt208.1:Int).toNat (⟨bt215.1,(jL bt203.1 bt208.1).f1⟩:S99)),bt215.2)) else (none)) else (none))) else (if bt210.1=1 then ((jy.f k s0_0 bt210.2 (([bt208.1,(-1),8,(-2)]:List Int))).bind fun bt221=>(if 0≤bt208.1 then (if bt208.1<(bt203.1.length:Int) then (some ((bt203.1.set (bt208.1:Int).toNat (⟨(jL bt203.1 bt208.1).f0,bt221.1⟩:S99)),bt221.2)) else (none)) else (none))) else (if bt210.1=2 then (some (([]:List (S99)),bt210.2)) else (some (bt203.1,bt210.2))))))))=some (r1,r2):=h
 clear h
 replace H:=bzS H
 obtain ⟨⟨t203,t206⟩,A20,H⟩:=H
 replace H:((jm.f k s0_0 t206 (t203.length:Int)).bind fun bt208=>((jm.f k s0_0 bt208.2 24).bind fun bt210=>(if bt210.1=0 then ((jUa.f k s0_0 bt210.2 (([(⟨#[]⟩:ByteArray),(⟨#[97,110,121]⟩:ByteArray),(⟨#[65]⟩:ByteArray),(⟨#[116,111,111,108,111,110,103]⟩:ByteArray)]:List ByteArray))).bind fun bt215=>(if 0≤bt208.1 then (if bt208.1<(t203.length:Int) then (some ((t203.set (bt208.1:Int).toNat (⟨bt215.1,(jL t203 bt208.1).f1⟩:S99)),bt215.2)) else (none)) else (none))) else (if bt210.1=1 then ((jy.f k s0_0 bt210.2 (([bt208.1,(-1),8,(-2)]:List Int))).bind fun bt221=>(if 0≤bt208.1 then (if bt208.1<(t203.length:Int) then (some ((t203.set (bt208.1:Int).toNat (⟨(jL t203 bt208.1).f0,bt221.1⟩:S99)),bt221.2)) else (none)) else (none))) else (if bt210.1=2 then (some (([]:List (S99)),bt210.2)) else (some (t203,bt210.2)))))))=some (r1,r2):=H
 have A2:=am A20
 clear A20
 replace H:=bzS H
 obtain ⟨⟨t208,t209⟩,A30,H⟩:=H
 replace H:((jm.f k s0_0 t209 24).bind fun bt210=>(if bt210.1=0 then ((jUa.f k s0_0 bt210.2 (([(⟨#[]⟩:ByteArray),(⟨#[97,110,121]⟩:ByteArray),(⟨#[65]⟩:ByteArray),(⟨#[116,111,111,108,111,110,103]⟩:ByteArray)]:List ByteArray))).bind fun bt215=>(if 0≤t208 then (if t208<(t203.length:Int) then (some ((t203.set (t208:Int).toNat (⟨bt215.1,(jL t203 t208).f1⟩:S99)),bt215.2)) else (none)) else (none))) else (if bt210.1=1 then ((jy.f k s0_0 bt210.2 (([t208,(-1),8,(-2)]:List Int))).bind fun bt221=>(if 0≤t208 then (if t208<(t203.length:Int) then (some ((t203.set (t208:Int).toNat (⟨(jL t203 t208).f0,bt221.1⟩:S99)),bt221.2)) else (none)) else (none))) else (if bt210.1=2 then (some (([]:List (S99)),bt210.2)) else (some (t203,bt210.2))))))=some (r1,r2):=H
 have A3:=am A30
 clear A30
 replace H:=bzS H
 obtain ⟨⟨t210,t211⟩,A40,H⟩:=H
 replace H:(if t210=0 then ((jUa.f k s0_0 t211 (([(⟨#[]⟩:ByteArray),(⟨#[97,110,121]⟩:ByteArray),(⟨#[65]⟩:ByteArray),(⟨#[116,111,111,108,111,110,103]⟩:ByteArray)]:List ByteArray))).bind fun bt215=>(if 0≤t208 then (if t208<(t203.length:Int) then (some ((t203.set (t208:Int).toNat (⟨bt215.1,(jL t203 t208).f1⟩:S99)),bt215.2)) else (none)) else (none))) else (if t210=1 then ((jy.f k s0_0 t211 (([t208,(-1),8,(-2)]:List Int))).bind fun bt221=>(if 0≤t208 then (if t208<(t203.length:Int) then (some ((t203.set (t208:Int).toNat (⟨(jL t203 t208).f0,bt221.1⟩:S99)),bt221.2)) else (none)) else (none))) else (if t210=2 then (some (([]:List (S99)),t211)) else (some (t203,t211)))))=some (r1,r2):=H
 have A4:=am A40
 clear A40
 by_cases c5:t210=0
 ·rw [if_pos c5] at H
  have c5b0:(t210 == 0)=true:=beq_iff_eq.mpr c5
  have c5b1:(t210 != 0)=false:=bne_eq_false_iff_eq.mpr c5
  clear c5
  obtain ⟨y212,hy212⟩:∃ y_:List ByteArray,y_=(([(⟨#[]⟩:ByteArray),(⟨#[97,110,121]⟩:ByteArray),(⟨#[65]⟩:ByteArray),(⟨#[116,111,111,108,111,110,103]⟩:ByteArray)]:List ByteArray)):=⟨_,rfl⟩
  replace H:((jUa.f k s0_0 t211 y212).bind fun bt215=>(if 0≤t208 then (if t208<(t203.length:Int) then (some ((t203.set (t208:Int).toNat (⟨bt215.1,(jL t203 t208).f1⟩:S99)),bt215.2)) else (none)) else (none)))=some (r1,r2):=by first |(rw [hy212];with_reducible exact H) |(have H2_:=(Option.bind_some _ _).symm.trans H;rw [hy212];with_reducible exact H2_) |(have H2_:=(Option.bind_some _ _).symm.trans H;with_reducible exact H2_) | with_reducible exact H |(rw [hy212];exact H) | exact H
  have Ny212:=am hy212
  clear hy212
  replace H:=bzS H
  obtain ⟨⟨t215,t216⟩,A60,H⟩:=H
  replace H:(if 0≤t208 then (if t208<(t203.length:Int) then (some ((t203.set (t208:Int).toNat (⟨t215,(jL t203 t208).f1⟩:S99)),t216)) else (none)) else (none))=some (r1,r2):=H
  have A6:=am A60
  clear A60
  by_cases c7:0≤t208
  ·rw [if_pos c7] at H
   have c7b0:decide (0≤t208)=true:=dzT c7
   clear c7
   by_cases c8:t208<(t203.length:Int)
   ·rw [if_pos c8] at H
    have c8b0:decide (t208<(t203.length:Int))=true:=dzT c8
    clear c8
    obtain ⟨y217,hy217⟩:∃ y_:List (S99),y_=(t203.set (t208:Int).toNat (⟨t215,(jL t203 t208).f1⟩:S99)):=⟨_,rfl⟩
    replace H:(some (y217,t216))=some (r1,r2):=by first |(rw [hy217];with_reducible exact H) |(have H2_:=(Option.bind_some _ _).symm.trans H;rw [hy217];with_reducible exact H2_) |(have H2_:=(Option.bind_some _ _).symm.trans H;with_reducible exact H2_) | with_reducible exact H |(rw [hy217];exact H) | exact H
    have Ny217:=am hy217
    clear hy217
    simp only [Option.some.injEq,Prod.mk.injEq] at H
    obtain ⟨rfl,rfl⟩:=H
    go_enter Tryd.func67,Tryd.ntmps67
    try go_wp2_with (first |((with_reducible refine jD (N:=2) rfl ?_);refine bE (N:=2) (cs:=#[.slice none 0 0]) (t:=25) ?_;intro gb202 hg w10 hbox hb;have BK202:=am (hbox);have GW202:=am ((Y6:w.heap.size≤gb202));have GE202:=am ((Nat.le_trans HW0.out (Y6:w.heap.size≤gb202):w0.heap.size≤gb202));have NB0_202:=am ((Y24:g≠gb202));have NB202_0:=am ((Y25:gb202≠g));replace HK:=am (jd.trans (Y13) (jd.of_below hb g none) (.inl rfl));replace HB:=am (je (Y14) hb);replace HI0:=am (jk.below (Y12) hb);clear hb hbox hg) |((with_reducible refine jw (f:=88) rfl ?_);refine gL (some 6) Tryd.func88 #[.pointer (some ⟨g,0,none⟩)] ?_;(with_reducible refine (jQ.calls k g s0_0 s0_1 t203 t206 w0 _ ?side1 ?side2 A2.out).mono ?_);(case side1=>exact Y50);(case side2=>exact Y51);rintro e w11 ⟨v204,rfl,ho0,hi,hb,hk⟩;refine ⟨_,rfl,?_⟩;have HO205:=am (Kd.jia ho0 (jea (w:=w) (g:=g) (row:=none) (Y30)));replace BK202:=am (jd.blk hk (g':=gb202) (o:=.cells #[.slice none 0 0] 25 (0,0)) (kq BK202.out) NB202_0.out (by simp));replace HK:=am (jd.trans (Y30) hk (.inl rfl));replace HB:=am (hb);replace HI0:=am (hi);(try clear hb);(try clear hb2);(try clear hk);(try clear hi);(try clear ho0)) |((with_reducible refine jD (N:=3) rfl ?_);refine bE (N:=3) (cs:=#[.slice none 0 0]) (t:=25) ?_;intro gb207 hg w12 hbox hb;have BK207:=am (hbox);have GW207:=am ((Y52:w.heap.size≤gb207));have GE207:=am ((Nat.le_trans HW0.out (Y52:w.heap.size≤gb207):w0.heap.size≤gb207));have NB202_207:=am ((Y102:gb202≠gb207));have NB207_202:=am ((Y103:gb207≠gb202));have NB0_207:=am ((Y104:g≠gb207));have NB207_0:=am ((Y105:gb207≠g));replace HO205:=am (Kd.jW (rq HO205.out) hb);replace BK202:=am (jc (g:=gb202) (o:=.cells #[.slice none 0 0] 25 (0,0)) (kq BK202.out) hb);replace HK:=am (jd.trans (Y30) (jd.of_below hb g none) (.inl rfl));replace HB:=am (je (Y51) hb);replace HI0:=am (jk.below (Y50) hb);clear hb hbox hg;obtain ⟨Ao13,co13,eo13⟩:=Kd.jZ HO205.out;subst eo13;have hnb14:=NB207_202.out;have hnc14:=NB202_207.out;have hnb15:=NB207_0.out;have hnc15:=NB0_207.out;have hcz16_0:=bc0 BK207.out;have hfz16_0:=jb BK207.out 0) |((with_reducible refine jw (f:=68) rfl ?_);refine gL (some 11) Tryd.func68 #[.pointer (some ⟨g,0,none⟩), .int .i64 (t203.length:Int)] ?_;(with_reducible refine (jm.calls k g s0_0 t206 (t203.length:Int) t208 t209 w0 _ ?side1 ?side2 A3.out).mono ?_);(case side1=>exact Y9);(case side2=>exact Y27);rintro e w17 ⟨rfl,hi,hb,hk⟩;refine ⟨_,rfl,?_⟩;replace BK202:=am (jd.blk hk (g':=gb202) (o:=.cells #[.slice none 0 0] 25 (0,0)) (Y106) NB202_0.out (by simp));replace HO205:=am (Kd.jI (Kd.jqa (jk.apart (show jk w0 _ g s0_0 t206 from Y9) (by (with_reducible repeat (first | apply Kd.jX | apply Kd.jba | apply Kd.jV));exact (Kd.jI (Kd.jwa (p:=⟨gb207,0,none⟩) (Kd.jP HO205.out BK207.out (by decide)) (fun _ hk=>hk.2) (.slice Ao13 t203.length co13)) (fun _ h_=>h_.1))) (by decide)) hk (fun _ h=>h.2)) (fun _ h=>h.1));replace BK207:=am (jd.blk hk (g':=gb207) (o:=.cells #[.slice Ao13 t203.length co13] 25 (0,0)) (Y107) NB207_0.out (by simp));replace HK:=am (jd.trans (Y19) hk (.inl rfl));replace HB:=am (hb);replace HI0:=am (hi);(try clear hb);(try clear hb2);(try clear hk);(try clear hi)) |((with_reducible refine jw (f:=68) rfl ?_);refine gL (some 13) Tryd.func68 #[.pointer (some ⟨g,0,none⟩), .int .i64 24] ?_;(with_reducible refine (jm.calls k g s0_0 t209 24 t210 t211 w0 _ ?side1 ?side2 A4.out).mono ?_);(case side1=>exact Y9);(case side2=>exact Y27);rintro e w18 ⟨rfl,hi,hb,hk⟩;refine ⟨_,rfl,?_⟩;replace BK202:=am (jd.blk hk (g':=gb202) (o:=.cells #[.slice none 0 0] 25 (0,0)) (kq BK202.out) NB202_0.out (by simp));replace HO205:=am (Kd.jI (Kd.jqa (jk.apart (show jk w0 _ g s0_0 t209 from Y9) (rq HO205.out) (by decide)) hk (fun _ h=>h.2)) (fun _ h=>h.1));replace BK207:=am (jd.blk hk (g':=gb207) (o:=.cells #[.slice Ao13 t203.length co13] 25 (0,0)) (kq BK207.out) NB207_0.out (by simp));replace HK:=am (jd.trans (Y19) hk (.inl rfl));replace HB:=am (hb);replace HI0:=am (hi);(try clear hb);(try clear hb2);(try clear hk);(try clear hi)))
    replace HO205:=am (Kd.jV HO205.out)
    replace BK202:=am (jf BK202.out)
    replace BK207:=am (jf BK207.out)
    replace HI0:=am (jk.drew HI0.out)
    replace HK:=am (jaa HK.out)
    replace HB:=am (jq HB.out)
    refine jVb (n:=9) (S:=fun w'=>w'.cell? ⟨gb207,0,none⟩=some (.slice Ao13 t203.length co13)) (ds:=[8]) #[false,false,false,false,false,false,false,false,false] (by kernel_rfl) rfl rfl ((jH BK207.out 0).trans rfl) (fun hHeld=>?_);refine jxb jca.tab5 jca.bits5 (fun HT_ HW_=>?_)
    generalize w18.drew=w19 at HO205 BK202 BK207 HI0 HK HB hHeld ⊢
    refine pq (i:=0) (N:=some 16) #[true,false,false,false,false,false,false,false,false] ?_
    refine pq (i:=2) (N:=some 18) #[true,false,true,false,false,false,false,false,false] ?_
    refine pq (i:=3) (N:=some 19) #[true,false,true,true,false,false,false,false,false] ?_
    refine jAb (i:=1) (N:=some 17) (v:=?_) (a':=?_) #[true,true,true,true,false,false,false,false,false] rfl rfl (jWa HT_.out HW_.out (by kernel_rfl)) (fun _ _ _ h=>h) (Or.inl ⟨by rfl,?_⟩) hHeld ?_ ?_
    rotate_left
    ·intro w' s0
     go_simp
     with_reducible rfl
    rotate_left
    ·exact sa
    refine one_ (i:=4) (N:=some 20) #[true,true,true,true,true,false,false,false,false] rfl rfl (jeb HT_.out (by kernel_rfl)) (by decide) (fun K hK=>?_)
    refine Kd.jTb Kd.string _ 9 ?hg (N:=20) ?hd (xs:=([(⟨#[]⟩:ByteArray),(⟨#[97,110,121]⟩:ByteArray),(⟨#[65]⟩:ByteArray),(⟨#[116,111,111,108,111,110,103]⟩:ByteArray)]:List ByteArray)) (inner:=[.string (⟨#[]⟩:ByteArray), .string (⟨#[97,110,121]⟩:ByteArray), .string (⟨#[65]⟩:ByteArray), .string (⟨#[116,111,111,108,111,110,103]⟩:ByteArray)]) (ok:=fun _=>True) (okp:=fun _=>True) ?hr ?hp (fun _ hk=>hk) trivial (Below.refl _ _) (Nat.le_refl _) (by simp) ?_;(case hd=>rfl);(case hg=>rfl);(case hr=>exact Y4);(case hp=>exact (Reps.one (show Kd.M Kd.string _ _ _ (⟨#[]⟩:ByteArray) [.string (⟨#[]⟩:ByteArray)] from rfl) (Reps.one (show Kd.M Kd.string _ _ _ (⟨#[97,110,121]⟩:ByteArray) [.string (⟨#[97,110,121]⟩:ByteArray)] from rfl) (Reps.one (show Kd.M Kd.string _ _ _ (⟨#[65]⟩:ByteArray) [.string (⟨#[65]⟩:ByteArray)] from rfl) (Reps.one (show Kd.M Kd.string _ _ _ (⟨#[116,111,111,108,111,110,103]⟩:ByteArray) [.string (⟨#[116,111,111,108,111,110,103]⟩:ByteArray)] from rfl) (Reps.none _ _))))))
    intro v213 w20 ho21 hb hg_ hnew_
    clear hg_ hnew_
    (first | rw [← Ny212.out] at ho21 |(simp only [Int.reduceToNat] at ho21;rw [← Ny212.out] at ho21))
    have HO214:=am (Kd.jia ho21 (jea (w:=w) (g:=g) (row:=none) (Y19)))
    replace HO205:=am (Kd.jW (rq HO205.out) hb)
    replace BK202:=am (jc (g:=gb202) (o:=.cells #[.slice none 0 0] 25 (0,0)) (kq BK202.out) hb)
    replace BK207:=am (jc (g:=gb207) (o:=.cells #[.slice Ao13 t203.length co13] 25 (0,0)) (kq BK207.out) hb)
    replace HK:=am (jd.trans (Y19) (jd.of_below hb g none) (.inl rfl))
    replace HB:=am (je (Y27) hb)
    replace HI0:=am (jk.below (Y9) hb)
    clear hb ho21
    obtain ⟨Ao22,co22,eo22⟩:=Kd.jZ HO214.out
    (first | subst eo22 |(injection eo22 with f1_ f2_ f3_;have f4_:=f1_.symm;have f5_:=f3_.symm;clear f1_ f2_ f3_;subst f4_;subst f5_))
    refine hK.out _ _ ((jH BK207.out 0).trans rfl) (fun hHeld=>?_)
    clear hK K
    refine jZb (a':=?_) ?_ ?_
    rotate_left
    ·show Act.put _ (some 20) _=_
     simp only [Act.put,List.setIfInBounds_toArray,List.set_cons_zero,List.set_cons_succ,jwb,jBb]
     rfl
    refine one_ (i:=5) (N:=some 21) #[true,true,true,true,true,true,false,false,false] rfl rfl (jeb HT_.out (by kernel_rfl)) (by decide) (fun K hK=>?_)
    refine goes_ Tryd.func89 (by kernel_rfl) rfl #[.pointer (some ⟨g,0,none⟩), .slice Ao22 y212.length co22] (by rfl) rfl rfl (aq) ?_
    with_reducible refine (jUa.calls k g s0_0 t211 _ _ y212 t215 t216 w0 _ ?side1 ?side2 ?side3 ?side4 ?side5 A6.out).mono ?_
    (case side1=>exact Y9)
    (case side2=>exact Y27)
    (case side3=>exact cq (Kd.jC HO214.out).2.2)
    (case side4=>exact (Kd.jC HO214.out).2.1)
    (case side5=>exact jCb (jk.own_ne HI0.out HO214.out (by decide)))
    rintro e w23 ⟨rfl,hi,hb,hk⟩
    refine ⟨_,rfl,?_⟩
    replace BK202:=am (jd.blk hk (g':=gb202) (o:=.cells #[.slice none 0 0] 25 (0,0)) (kq BK202.out) NB202_0.out (by simp))
    replace HO205:=am (Kd.jI (Kd.jqa (jk.apart (show jk w0 _ g s0_0 t211 from Y9) (rq HO205.out) (by decide)) hk (fun _ h=>h.2)) (fun _ h=>h.1))
    replace BK207:=am (jd.blk hk (g':=gb207) (o:=.cells #[.slice Ao13 t203.length co13] 25 (0,0)) (kq BK207.out) NB207_0.out (by simp))
    replace HO214:=am (Kd.jI (Kd.jqa (jk.apart (show jk w0 _ g s0_0 t211 from Y9) (rq HO214.out) (by decide)) hk (fun _ h=>h.2)) (fun _ h=>h.1))
    replace HK:=am (jd.trans (Y19) hk (.inl rfl))
    replace HB:=am (hb)
    replace HI0:=am (hi)
    (try clear hb)
    (try clear hb2)
    (try clear hk)
    (try clear hi)
    have p9:0≤(t208:Int):=ozD (uq)
    have q9:(t208:Int)<((t203.length:Int):Int):=ozD (uq)
    obtain ⟨go9,co9,eo9,gb9,gl9,cl9,HG9⟩:=Kd.R_form HO205.out (by omega)
    (first | cases eo9 |(injection eo9 with ea_ en_ ec_;(first | subst ea_ |(injection ea_ with ea_;subst ea_));subst ec_;clear en_))
    have GB9:=am gb9
    have GG9:=am HG9
    clear gb9 gl9 HG9
    obtain ⟨ce9,hcl9,hM9,hcc9,hfr9⟩:=Kd.jyb HO205.out z99 (t208:Int) p9 q9
    obtain rfl:=k99_openM hM9
    have hx9_0:World.cell? _ ⟨go9,(t208:Int).toNat * 2,none⟩=some (.string ((jL t203 t208).f0)):=hcc9 0 _ rfl
    have hx9_1:World.cell? _ ⟨go9,(t208:Int).toNat * 2+1,none⟩=some (.int .i64 ((jL t203 t208).f1)):=hcc9 1 _ rfl
    have hf9_0:World.frozen? _ ⟨go9,(t208:Int).toNat * 2,none⟩=false:=hfr9 0
    have hf9_1:World.frozen? _ ⟨go9,(t208:Int).toNat * 2+1,none⟩=false:=hfr9 1
    clear hcl9 hcc9 hfr9 hM9
    replace p9:=ezT p9
    replace q9:=ezT q9
    have HN0_go9:=am (show g≠go9 from by have h_:=jk.own_ne HI0.out HO205.out (by decide);intro e_;exact h_ (by rw [e_];rfl))
    obtain ⟨ce24,hcl24,hM24,hcc24,hfr24⟩:=Kd.jyb HO205.out z99 (t208:Int) (ozD (uq)) (by have h_:(t208:Int)<((t203.length:Int):Int):=ozD (uq);first | exact h_ |(have e_:=(Kd.jC HO205.out).1;omega) | simpa using h_)
    obtain rfl:=k99_openM hM24
    have HP24:=(Kd.R_seg HO205.out (t208:Int) (ozD (uq)) (by have h_:(t208:Int)<((t203.length:Int):Int):=ozD (uq);first | exact h_ |(have e_:=(Kd.jC HO205.out).1;omega) | simpa using h_) (seg:=[.string t215]) (j:=0) hcl24 hcc24 (show 1≤2 from by decide) (x':=(⟨t215,(jL t203 t208).f1⟩:S99)) (k99_mkM _ _ _ (⟨t215,(jL t203 t208).f1⟩:S99) ) (fun _ hk=>hk)).1
    rw [← Ny217.out] at HP24
    have HQ24:=am HP24
    clear hcl24 hcc24 hfr24 hM24 HP24
    refine hK.out _ _ ((jH BK207.out 0).trans rfl) (fun hHeld=>?_)
    clear hK K
    refine jZb (a':=?_) ?_ ?_
    rotate_left
    ·show Act.put _ (some 21) _=_
     simp only [Act.put,List.setIfInBounds_toArray,List.set_cons_zero,List.set_cons_succ,jwb,jBb]
     rfl
    refine pq (i:=6) (N:=some 22) #[true,true,true,true,true,true,true,false,false] ?_
    refine pq (i:=7) (N:=some 23) #[true,true,true,true,true,true,true,true,false] ?_
    refine last_ (i:=8) (N:=none) #[true,true,true,true,true,true,true,true,true] rfl rfl (jeb HT_.out (by kernel_rfl)) (by decide) (fun K hK=>?_)
    refine jcc (w1:=?_) (by rfl) rfl ?_ ?_
    rotate_left
    ·go_simp
     rfl
    refine hK.out _ _ ?_
    clear hK K
    refine jqc (jbc HT_.out (by kernel_rfl)) ?_
    have n0_:jB (Kd.R k99 99 (w23.setCell ⟨go9,(t208:Int).toNat * 2,none⟩ (.string t215)) w.heap.size (fun _=>True) (.slice (some ⟨go9,0,none⟩) t203.length co13) y217):=⟨rq HQ24.out⟩
    have n1_:jB (Kd.R Kd.string 9 (w23.setCell ⟨go9,(t208:Int).toNat * 2,none⟩ (.string t215)) w.heap.size (fun _=>True) (.slice Ao22 y212.length co22) y212):=⟨by (with_reducible repeat (first | apply Kd.jX | apply Kd.jba | apply Kd.jV));exact Kd.jI (Kd.jwa (p:=⟨go9,(t208:Int).toNat * 2,none⟩) (Kd.jP HO214.out GG9.out (by decide)) (fun _ hk=>hk.2) (.string t215)) (fun _ hk=>trivial)⟩
    have n2_:jB ((w23.setCell ⟨go9,(t208:Int).toNat * 2,none⟩ (.string t215)).heap[gb202]?=some (.cells #[.slice none 0 0] 25 (0,0))):=⟨by (with_reducible repeat (first | refine jg ?_ _ | refine jf ?_ | refine jh ?_ _));refine jT ?_ (by have h_:=Kd.R_ne HO205.out BK202.out (by decide);intro e_;exact h_ (by rw [e_];rfl)) _;(with_reducible repeat (first | refine jg ?_ _ | refine jf ?_ | refine jh ?_ _));exact BK202.out⟩
    have n3_:jB ((w23.setCell ⟨go9,(t208:Int).toNat * 2,none⟩ (.string t215)).heap[gb207]?=some (.cells #[.slice (some ⟨go9,0,none⟩) t203.length co13] 25 (0,0))):=⟨by (with_reducible repeat (first | refine jg ?_ _ | refine jf ?_ | refine jh ?_ _));refine jT ?_ (by have h_:=Kd.R_ne HO205.out BK207.out (by decide);intro e_;exact h_ (by rw [e_];rfl)) _;(with_reducible repeat (first | refine jg ?_ _ | refine jf ?_ | refine jh ?_ _));exact BK207.out⟩
    have n4_:jB (jk w0 (w23.setCell ⟨go9,(t208:Int).toNat * 2,none⟩ (.string t215)) g s0_0 t216):=⟨by repeat (first |(with_reducible first | exact HI0.out | apply jk.alloc | apply jk.drewN | apply jk.drew | apply jk.jmb | refine jk.far ?_ HN0_go9.out _ | refine jk.far ?_ NB0_202.out _ | refine jk.far ?_ NB0_207.out _) | exact HI0.out)⟩
    have n5_:jB (jd w (w23.setCell ⟨go9,(t208:Int).toNat * 2,none⟩ (.string t215)) g none):=⟨by repeat (first |(with_reducible first | exact HK.out | apply jd.set_ | apply jja | apply jaa | apply jka | refine jO ?_ GB9.out _ | refine jO ?_ GW202.out _ | refine jO ?_ GW207.out _) | exact HK.out)⟩
    have n6_:jB (Below w0.heap.size w0 (w23.setCell ⟨go9,(t208:Int).toNat * 2,none⟩ (.string t215))):=⟨by repeat (first |(with_reducible first | exact HB.out | apply jv | apply jo | apply jq | refine jl ?_ (Nat.le_trans HL.out GB9.out) | refine jl ?_ (jk.ge HI0.out) | refine jl ?_ GE202.out | refine jl ?_ GE207.out) | exact HB.out)⟩
    (try clear HO205)
    (try clear HO214)
    (try clear BK202)
    (try clear BK207)
    (try clear HI0)
    (try clear HK)
    (try clear HB)
    generalize (w23.setCell ⟨go9,(t208:Int).toNat * 2,none⟩ (.string t215))=w25 at n0_ n1_ n2_ n3_ n4_ n5_ n6_ ⊢
    have HO205:=n0_
    have HO214:=n1_
    have BK202:=n2_
    have BK207:=n3_
    have HI0:=n4_
    have HK:=n5_
    have HB:=n6_
    clear n0_ n1_ n2_ n3_ n4_ n5_ n6_
    have hcz26_0:=bc0 BK207.out
    have hfz26_0:=jb BK207.out 0
    have hnb27:=NB202_0.out
    have hnc27:=NB0_202.out
    have hcz28_0:=bc0 BK202.out
    have hfz28_0:=jb BK202.out 0
    try go_wp2
    refine bodyPost_ret (results_cell_row rfl _ _ gb202 25 #[.slice (some ⟨go9,0,none⟩) t203.length co13] (0,0) _ rfl (Y108) Tryd.underlying25 rfl (by kernel_rfl)) rfl ?_
    exact ⟨_,Y1,by (with_reducible repeat (first | apply Kd.jX | apply Kd.jba | apply Kd.jV));exact Kd.jI (Kd.jwa (p:=⟨gb202,0,none⟩) (Kd.jP HO205.out BK202.out (by decide)) (fun _ hk=>hk.2) (.slice (some ⟨go9,0,none⟩) t203.length co13)) (fun _ hk=>trivial),Y9,Y27,Y19⟩
   ·rw [if_neg c8] at H
    exact absurd H (by simp)
  ·rw [if_neg c7] at H
   exact absurd H (by simp)
 ·rw [if_neg c5] at H
  have c5b0:(t210 == 0)=false:=beq_eq_false_iff_ne.mpr c5
  have c5b1:(t210 != 0)=true:=bne_iff_ne.mpr c5
  by_cases c29:t210=1
  ·rw [if_pos c29] at H
   have c29b0:(t210 == 1)=true:=beq_iff_eq.mpr c29
   have c29b1:(t210 != 1)=false:=bne_eq_false_iff_eq.mpr c29
   clear c29
   obtain ⟨y218,hy218⟩:∃ y_:List Int,y_=(([t208,(-1),8,(-2)]:List Int)):=⟨_,rfl⟩
   replace H:((jy.f k s0_0 t211 y218).bind fun bt221=>(if 0≤t208 then (if t208<(t203.length:Int) then (some ((t203.set (t208:Int).toNat (⟨(jL t203 t208).f0,bt221.1⟩:S99)),bt221.2)) else (none)) else (none)))=some (r1,r2):=by first |(rw [hy218];with_reducible exact H) |(have H2_:=(Option.bind_some _ _).symm.trans H;rw [hy218];with_reducible exact H2_) |(have H2_:=(Option.bind_some _ _).symm.trans H;with_reducible exact H2_) | with_reducible exact H |(rw [hy218];exact H) | exact H
   have Ny218:=am hy218
   clear hy218
   replace H:=bzS H
   obtain ⟨⟨t221,t222⟩,A300,H⟩:=H
   replace H:(if 0≤t208 then (if t208<(t203.length:Int) then (some ((t203.set (t208:Int).toNat (⟨(jL t203 t208).f0,t221⟩:S99)),t222)) else (none)) else (none))=some (r1,r2):=H
   have A30:=am A300
   clear A300
   by_cases c31:0≤t208
   ·rw [if_pos c31] at H
    have c31b0:decide (0≤t208)=true:=dzT c31
    clear c31
    by_cases c32:t208<(t203.length:Int)
    ·rw [if_pos c32] at H
     have c32b0:decide (t208<(t203.length:Int))=true:=dzT c32
     clear c32
     obtain ⟨y223,hy223⟩:∃ y_:List (S99),y_=(t203.set (t208:Int).toNat (⟨(jL t203 t208).f0,t221⟩:S99)):=⟨_,rfl⟩
     replace H:(some (y223,t222))=some (r1,r2):=by first |(rw [hy223];with_reducible exact H) |(have H2_:=(Option.bind_some _ _).symm.trans H;rw [hy223];with_reducible exact H2_) |(have H2_:=(Option.bind_some _ _).symm.trans H;with_reducible exact H2_) | with_reducible exact H |(rw [hy223];exact H) | exact H
     have Ny223:=am hy223
     clear hy223
     simp only [Option.some.injEq,Prod.mk.injEq] at H
     obtain ⟨rfl,rfl⟩:=H
     go_enter Tryd.func67,Tryd.ntmps67
     try go_wp2_with (first |((with_reducible refine jD (N:=2) rfl ?_);refine bE (N:=2) (cs:=#[.slice none 0 0]) (t:=25) ?_;intro gb202 hg w34 hbox hb;have BK202:=am (hbox);have GW202:=am ((Y6:w.heap.size≤gb202));have GE202:=am ((Nat.le_trans HW0.out (Y6:w.heap.size≤gb202):w0.heap.size≤gb202));have NB0_202:=am ((Y24:g≠gb202));have NB202_0:=am ((Y25:gb202≠g));replace HK:=am (jd.trans (Y13) (jd.of_below hb g none) (.inl rfl));replace HB:=am (je (Y14) hb);replace HI0:=am (jk.below (Y12) hb);clear hb hbox hg) |((with_reducible refine jw (f:=88) rfl ?_);refine gL (some 6) Tryd.func88 #[.pointer (some ⟨g,0,none⟩)] ?_;(with_reducible refine (jQ.calls k g s0_0 s0_1 t203 t206 w0 _ ?side1 ?side2 A2.out).mono ?_);(case side1=>exact Y50);(case side2=>exact Y51);rintro e w35 ⟨v204,rfl,ho0,hi,hb,hk⟩;refine ⟨_,rfl,?_⟩;have HO205:=am (Kd.jia ho0 (jea (w:=w) (g:=g) (row:=none) (Y30)));replace BK202:=am (jd.blk hk (g':=gb202) (o:=.cells #[.slice none 0 0] 25 (0,0)) (kq BK202.out) NB202_0.out (by simp));replace HK:=am (jd.trans (Y30) hk (.inl rfl));replace HB:=am (hb);replace HI0:=am (hi);(try clear hb);(try clear hb2);(try clear hk);(try clear hi);(try clear ho0)) |((with_reducible refine jD (N:=3) rfl ?_);refine bE (N:=3) (cs:=#[.slice none 0 0]) (t:=25) ?_;intro gb207 hg w36 hbox hb;have BK207:=am (hbox);have GW207:=am ((Y52:w.heap.size≤gb207));have GE207:=am ((Nat.le_trans HW0.out (Y52:w.heap.size≤gb207):w0.heap.size≤gb207));have NB202_207:=am ((Y102:gb202≠gb207));have NB207_202:=am ((Y103:gb207≠gb202));have NB0_207:=am ((Y104:g≠gb207));have NB207_0:=am ((Y105:gb207≠g));replace HO205:=am (Kd.jW (rq HO205.out) hb);replace BK202:=am (jc (g:=gb202) (o:=.cells #[.slice none 0 0] 25 (0,0)) (kq BK202.out) hb);replace HK:=am (jd.trans (Y30) (jd.of_below hb g none) (.inl rfl));replace HB:=am (je (Y51) hb);replace HI0:=am (jk.below (Y50) hb);clear hb hbox hg;obtain ⟨Ao37,co37,eo37⟩:=Kd.jZ HO205.out;subst eo37;have hnb38:=NB207_202.out;have hnc38:=NB202_207.out;have hnb39:=NB207_0.out;have hnc39:=NB0_207.out;have hcz40_0:=bc0 BK207.out;have hfz40_0:=jb BK207.out 0) |((with_reducible refine jw (f:=68) rfl ?_);refine gL (some 11) Tryd.func68 #[.pointer (some ⟨g,0,none⟩), .int .i64 (t203.length:Int)] ?_;(with_reducible refine (jm.calls k g s0_0 t206 (t203.length:Int) t208 t209 w0 _ ?side1 ?side2 A3.out).mono ?_);(case side1=>exact Y9);(case side2=>exact Y27);rintro e w41 ⟨rfl,hi,hb,hk⟩;refine ⟨_,rfl,?_⟩;replace BK202:=am (jd.blk hk (g':=gb202) (o:=.cells #[.slice none 0 0] 25 (0,0)) (Y106) NB202_0.out (by simp));replace HO205:=am (Kd.jI (Kd.jqa (jk.apart (show jk w0 _ g s0_0 t206 from Y9) (by (with_reducible repeat (first | apply Kd.jX | apply Kd.jba | apply Kd.jV));exact (Kd.jI (Kd.jwa (p:=⟨gb207,0,none⟩) (Kd.jP HO205.out BK207.out (by decide)) (fun _ hk=>hk.2) (.slice Ao37 t203.length co37)) (fun _ h_=>h_.1))) (by decide)) hk (fun _ h=>h.2)) (fun _ h=>h.1));replace BK207:=am (jd.blk hk (g':=gb207) (o:=.cells #[.slice Ao37 t203.length co37] 25 (0,0)) (Y107) NB207_0.out (by simp));replace HK:=am (jd.trans (Y19) hk (.inl rfl));replace HB:=am (hb);replace HI0:=am (hi);(try clear hb);(try clear hb2);(try clear hk);(try clear hi)) |((with_reducible refine jw (f:=68) rfl ?_);refine gL (some 13) Tryd.func68 #[.pointer (some ⟨g,0,none⟩), .int .i64 24] ?_;(with_reducible refine (jm.calls k g s0_0 t209 24 t210 t211 w0 _ ?side1 ?side2 A4.out).mono ?_);(case side1=>exact Y9);(case side2=>exact Y27);rintro e w42 ⟨rfl,hi,hb,hk⟩;refine ⟨_,rfl,?_⟩;replace BK202:=am (jd.blk hk (g':=gb202) (o:=.cells #[.slice none 0 0] 25 (0,0)) (kq BK202.out) NB202_0.out (by simp));replace HO205:=am (Kd.jI (Kd.jqa (jk.apart (show jk w0 _ g s0_0 t209 from Y9) (rq HO205.out) (by decide)) hk (fun _ h=>h.2)) (fun _ h=>h.1));replace BK207:=am (jd.blk hk (g':=gb207) (o:=.cells #[.slice Ao37 t203.length co37] 25 (0,0)) (kq BK207.out) NB207_0.out (by simp));replace HK:=am (jd.trans (Y19) hk (.inl rfl));replace HB:=am (hb);replace HI0:=am (hi);(try clear hb);(try clear hb2);(try clear hk);(try clear hi)))
     replace HO205:=am (Kd.jV HO205.out)
     replace BK202:=am (jf BK202.out)
     replace BK207:=am (jf BK207.out)
     replace HI0:=am (jk.drew HI0.out)
     replace HK:=am (jaa HK.out)
     replace HB:=am (jq HB.out)
     refine jVb (n:=10) (S:=fun w'=>w'.cell? ⟨gb207,0,none⟩=some (.slice Ao37 t203.length co37)) (ds:=[9]) #[false,false,false,false,false,false,false,false,false,false] (by kernel_rfl) rfl rfl ((jH BK207.out 0).trans rfl) (fun hHeld=>?_);refine jxb jca.tab7 jca.bits7 (fun HT_ HW_=>?_)
     generalize w42.drew=w43 at HO205 BK202 BK207 HI0 HK HB hHeld ⊢
     refine pq (i:=0) (N:=some 26) #[true,false,false,false,false,false,false,false,false,false] ?_
     refine pq (i:=2) (N:=some 28) #[true,false,true,false,false,false,false,false,false,false] ?_
     refine pq (i:=3) (N:=some 29) #[true,false,true,true,false,false,false,false,false,false] ?_
     refine pq (i:=4) (N:=some 30) #[true,false,true,true,true,false,false,false,false,false] ?_
     refine jAb (i:=1) (N:=some 27) (v:=?_) (a':=?_) #[true,true,true,true,true,false,false,false,false,false] rfl rfl (jWa HT_.out HW_.out (by kernel_rfl)) (fun _ _ _ h=>h) (Or.inl ⟨by rfl,?_⟩) hHeld ?_ ?_
     rotate_left
     ·intro w' s0
      go_simp
      with_reducible rfl
     rotate_left
     ·exact sa
     refine one_ (i:=5) (N:=some 31) #[true,true,true,true,true,true,false,false,false,false] rfl rfl (jeb HT_.out (by kernel_rfl)) (by decide) (fun K hK=>?_)
     refine Kd.jTb (Kd.int .i64) _ 3 ?hg (N:=31) ?hd (xs:=([t208,(-1),8,(-2)]:List Int)) (inner:=[.int .i64 t208, .int .i64 (-1), .int .i64 8, .int .i64 (-2)]) (ok:=fun _=>True) (okp:=fun _=>True) ?hr ?hp (fun _ hk=>hk) trivial (Below.refl _ _) (Nat.le_refl _) (by simp) ?_;(case hd=>rfl);(case hg=>rfl);(case hr=>exact Y4);(case hp=>exact (Reps.one (show Kd.M (Kd.int .i64) _ _ _ t208 [.int .i64 t208] from rfl) (Reps.one (show Kd.M (Kd.int .i64) _ _ _ (-1) [.int .i64 (-1)] from rfl) (Reps.one (show Kd.M (Kd.int .i64) _ _ _ 8 [.int .i64 8] from rfl) (Reps.one (show Kd.M (Kd.int .i64) _ _ _ (-2) [.int .i64 (-2)] from rfl) (Reps.none _ _))))))
     intro v219 w44 ho45 hb hg_ hnew_
     clear hg_ hnew_
     (first | rw [← Ny218.out] at ho45 |(simp only [Int.reduceToNat] at ho45;rw [← Ny218.out] at ho45))
     have HO220:=am (Kd.jia ho45 (jea (w:=w) (g:=g) (row:=none) (Y19)))
     replace HO205:=am (Kd.jW (rq HO205.out) hb)
     replace BK202:=am (jc (g:=gb202) (o:=.cells #[.slice none 0 0] 25 (0,0)) (kq BK202.out) hb)
     replace BK207:=am (jc (g:=gb207) (o:=.cells #[.slice Ao37 t203.length co37] 25 (0,0)) (kq BK207.out) hb)
     replace HK:=am (jd.trans (Y19) (jd.of_below hb g none) (.inl rfl))
     replace HB:=am (je (Y27) hb)
     replace HI0:=am (jk.below (Y9) hb)
     clear hb ho45
     obtain ⟨Ao46,co46,eo46⟩:=Kd.jZ HO220.out
     (first | subst eo46 |(injection eo46 with f1_ f2_ f3_;have f4_:=f1_.symm;have f5_:=f3_.symm;clear f1_ f2_ f3_;subst f4_;subst f5_))
     refine hK.out _ _ ((jH BK207.out 0).trans rfl) (fun hHeld=>?_)
     clear hK K
     refine jZb (a':=?_) ?_ ?_
     rotate_left
     ·show Act.put _ (some 31) _=_
      simp only [Act.put,List.setIfInBounds_toArray,List.set_cons_zero,List.set_cons_succ,jwb,jBb]
      rfl
     refine one_ (i:=6) (N:=some 32) #[true,true,true,true,true,true,true,false,false,false] rfl rfl (jeb HT_.out (by kernel_rfl)) (by decide) (fun K hK=>?_)
     refine goes_ Tryd.func69 (by kernel_rfl) rfl #[.pointer (some ⟨g,0,none⟩), .slice Ao46 y218.length co46] (by rfl) rfl rfl (aq) ?_
     with_reducible refine (jy.calls k g s0_0 t211 _ _ y218 t221 t222 w0 _ ?side1 ?side2 ?side3 ?side4 ?side5 A30.out).mono ?_
     (case side1=>exact Y9)
     (case side2=>exact Y27)
     (case side3=>exact cq (Kd.jC HO220.out).2.2)
     (case side4=>exact (Kd.jC HO220.out).2.1)
     (case side5=>exact jCb (jk.own_ne HI0.out HO220.out (by decide)))
     rintro e w47 ⟨rfl,hi,hb,hk⟩
     refine ⟨_,rfl,?_⟩
     replace BK202:=am (jd.blk hk (g':=gb202) (o:=.cells #[.slice none 0 0] 25 (0,0)) (kq BK202.out) NB202_0.out (by simp))
     replace HO205:=am (Kd.jI (Kd.jqa (jk.apart (show jk w0 _ g s0_0 t211 from Y9) (rq HO205.out) (by decide)) hk (fun _ h=>h.2)) (fun _ h=>h.1))
     replace BK207:=am (jd.blk hk (g':=gb207) (o:=.cells #[.slice Ao37 t203.length co37] 25 (0,0)) (kq BK207.out) NB207_0.out (by simp))
     replace HO220:=am (Kd.jI (Kd.jqa (jk.apart (show jk w0 _ g s0_0 t211 from Y9) (rq HO220.out) (by decide)) hk (fun _ h=>h.2)) (fun _ h=>h.1))
     replace HK:=am (jd.trans (Y19) hk (.inl rfl))
     replace HB:=am (hb)
     replace HI0:=am (hi)
     (try clear hb)
     (try clear hb2)
     (try clear hk)
     (try clear hi)
     have p33:0≤(t208:Int):=ozD (uq)
     have q33:(t208:Int)<((t203.length:Int):Int):=ozD (uq)
     obtain ⟨go33,co33,eo33,gb33,gl33,cl33,HG33⟩:=Kd.R_form HO205.out (by omega)
     (first | cases eo33 |(injection eo33 with ea_ en_ ec_;(first | subst ea_ |(injection ea_ with ea_;subst ea_));subst ec_;clear en_))
     have GB33:=am gb33
     have GG33:=am HG33
     clear gb33 gl33 HG33
     obtain ⟨ce33,hcl33,hM33,hcc33,hfr33⟩:=Kd.jyb HO205.out z99 (t208:Int) p33 q33
     obtain rfl:=k99_openM hM33
     have hx33_0:World.cell? _ ⟨go33,(t208:Int).toNat * 2,none⟩=some (.string ((jL t203 t208).f0)):=hcc33 0 _ rfl
     have hx33_1:World.cell? _ ⟨go33,(t208:Int).toNat * 2+1,none⟩=some (.int .i64 ((jL t203 t208).f1)):=hcc33 1 _ rfl
     have hf33_0:World.frozen? _ ⟨go33,(t208:Int).toNat * 2,none⟩=false:=hfr33 0
     have hf33_1:World.frozen? _ ⟨go33,(t208:Int).toNat * 2+1,none⟩=false:=hfr33 1
     clear hcl33 hcc33 hfr33 hM33
     replace p33:=ezT p33
     replace q33:=ezT q33
     have HN0_go33:=am (show g≠go33 from by have h_:=jk.own_ne HI0.out HO205.out (by decide);intro e_;exact h_ (by rw [e_];rfl))
     obtain ⟨ce48,hcl48,hM48,hcc48,hfr48⟩:=Kd.jyb HO205.out z99 (t208:Int) (ozD (uq)) (by have h_:(t208:Int)<((t203.length:Int):Int):=ozD (uq);first | exact h_ |(have e_:=(Kd.jC HO205.out).1;omega) | simpa using h_)
     obtain rfl:=k99_openM hM48
     have HP48:=(Kd.R_seg HO205.out (t208:Int) (ozD (uq)) (by have h_:(t208:Int)<((t203.length:Int):Int):=ozD (uq);first | exact h_ |(have e_:=(Kd.jC HO205.out).1;omega) | simpa using h_) (seg:=[.int .i64 t221]) (j:=1) hcl48 hcc48 (show 2≤2 from by decide) (x':=(⟨(jL t203 t208).f0,t221⟩:S99)) (k99_mkM _ _ _ (⟨(jL t203 t208).f0,t221⟩:S99) ) (fun _ hk=>hk)).1
     rw [← Ny223.out] at HP48
     have HQ48:=am HP48
     clear hcl48 hcc48 hfr48 hM48 HP48
     refine hK.out _ _ ((jH BK207.out 0).trans rfl) (fun hHeld=>?_)
     clear hK K
     refine jZb (a':=?_) ?_ ?_
     rotate_left
     ·show Act.put _ (some 32) _=_
      simp only [Act.put,List.setIfInBounds_toArray,List.set_cons_zero,List.set_cons_succ,jwb,jBb]
      rfl
     refine pq (i:=7) (N:=some 33) #[true,true,true,true,true,true,true,true,false,false] ?_
     refine pq (i:=8) (N:=some 34) #[true,true,true,true,true,true,true,true,true,false] ?_
     refine last_ (i:=9) (N:=none) #[true,true,true,true,true,true,true,true,true,true] rfl rfl (jeb HT_.out (by kernel_rfl)) (by decide) (fun K hK=>?_)
     refine jcc (w1:=?_) (by rfl) rfl ?_ ?_
     rotate_left
     ·go_simp
      rfl
     refine hK.out _ _ ?_
     clear hK K
     refine jqc (jbc HT_.out (by kernel_rfl)) ?_
     have n0_:jB (Kd.R k99 99 (w47.setCell ⟨go33,(t208:Int).toNat * 2+1,none⟩ (.int .i64 t221)) w.heap.size (fun _=>True) (.slice (some ⟨go33,0,none⟩) t203.length co37) y223):=⟨rq HQ48.out⟩
     have n1_:jB (Kd.R (Kd.int .i64) 3 (w47.setCell ⟨go33,(t208:Int).toNat * 2+1,none⟩ (.int .i64 t221)) w.heap.size (fun _=>True) (.slice Ao46 y218.length co46) y218):=⟨by (with_reducible repeat (first | apply Kd.jX | apply Kd.jba | apply Kd.jV));exact Kd.jI (Kd.jwa (p:=⟨go33,(t208:Int).toNat * 2+1,none⟩) (Kd.jP HO220.out GG33.out (by decide)) (fun _ hk=>hk.2) (.int .i64 t221)) (fun _ hk=>trivial)⟩
     have n2_:jB ((w47.setCell ⟨go33,(t208:Int).toNat * 2+1,none⟩ (.int .i64 t221)).heap[gb202]?=some (.cells #[.slice none 0 0] 25 (0,0))):=⟨by (with_reducible repeat (first | refine jg ?_ _ | refine jf ?_ | refine jh ?_ _));refine jT ?_ (by have h_:=Kd.R_ne HO205.out BK202.out (by decide);intro e_;exact h_ (by rw [e_];rfl)) _;(with_reducible repeat (first | refine jg ?_ _ | refine jf ?_ | refine jh ?_ _));exact BK202.out⟩
     have n3_:jB ((w47.setCell ⟨go33,(t208:Int).toNat * 2+1,none⟩ (.int .i64 t221)).heap[gb207]?=some (.cells #[.slice (some ⟨go33,0,none⟩) t203.length co37] 25 (0,0))):=⟨by (with_reducible repeat (first | refine jg ?_ _ | refine jf ?_ | refine jh ?_ _));refine jT ?_ (by have h_:=Kd.R_ne HO205.out BK207.out (by decide);intro e_;exact h_ (by rw [e_];rfl)) _;(with_reducible repeat (first | refine jg ?_ _ | refine jf ?_ | refine jh ?_ _));exact BK207.out⟩
     have n4_:jB (jk w0 (w47.setCell ⟨go33,(t208:Int).toNat * 2+1,none⟩ (.int .i64 t221)) g s0_0 t222):=⟨by repeat (first |(with_reducible first | exact HI0.out | apply jk.alloc | apply jk.drewN | apply jk.drew | apply jk.jmb | refine jk.far ?_ HN0_go33.out _ | refine jk.far ?_ NB0_202.out _ | refine jk.far ?_ NB0_207.out _) | exact HI0.out)⟩
     have n5_:jB (jd w (w47.setCell ⟨go33,(t208:Int).toNat * 2+1,none⟩ (.int .i64 t221)) g none):=⟨by repeat (first |(with_reducible first | exact HK.out | apply jd.set_ | apply jja | apply jaa | apply jka | refine jO ?_ GB33.out _ | refine jO ?_ GW202.out _ | refine jO ?_ GW207.out _) | exact HK.out)⟩
     have n6_:jB (Below w0.heap.size w0 (w47.setCell ⟨go33,(t208:Int).toNat * 2+1,none⟩ (.int .i64 t221))):=⟨by repeat (first |(with_reducible first | exact HB.out | apply jv | apply jo | apply jq | refine jl ?_ (Nat.le_trans HL.out GB33.out) | refine jl ?_ (jk.ge HI0.out) | refine jl ?_ GE202.out | refine jl ?_ GE207.out) | exact HB.out)⟩
     (try clear HO205)
     (try clear HO220)
     (try clear BK202)
     (try clear BK207)
     (try clear HI0)
     (try clear HK)
     (try clear HB)
     generalize (w47.setCell ⟨go33,(t208:Int).toNat * 2+1,none⟩ (.int .i64 t221))=w49 at n0_ n1_ n2_ n3_ n4_ n5_ n6_ ⊢
     have HO205:=n0_
     have HO220:=n1_
     have BK202:=n2_
     have BK207:=n3_
     have HI0:=n4_
     have HK:=n5_
     have HB:=n6_
     clear n0_ n1_ n2_ n3_ n4_ n5_ n6_
     have hcz50_0:=bc0 BK207.out
     have hfz50_0:=jb BK207.out 0
     have hnb51:=NB202_0.out
     have hnc51:=NB0_202.out
     have hcz52_0:=bc0 BK202.out
     have hfz52_0:=jb BK202.out 0
     try go_wp2
     refine bodyPost_ret (results_cell_row rfl _ _ gb202 25 #[.slice (some ⟨go33,0,none⟩) t203.length co37] (0,0) _ rfl (Y108) Tryd.underlying25 rfl (by kernel_rfl)) rfl ?_
     exact ⟨_,Y1,by (with_reducible repeat (first | apply Kd.jX | apply Kd.jba | apply Kd.jV));exact Kd.jI (Kd.jwa (p:=⟨gb202,0,none⟩) (Kd.jP HO205.out BK202.out (by decide)) (fun _ hk=>hk.2) (.slice (some ⟨go33,0,none⟩) t203.length co37)) (fun _ hk=>trivial),Y9,Y27,Y19⟩
    ·rw [if_neg c32] at H
     exact absurd H (by simp)
   ·rw [if_neg c31] at H
    exact absurd H (by simp)
  ·rw [if_neg c29] at H
   have c29b0:(t210 == 1)=false:=beq_eq_false_iff_ne.mpr c29
   have c29b1:(t210 != 1)=true:=bne_iff_ne.mpr c29
   by_cases c53:t210=2
   ·rw [if_pos c53] at H
    have c53b0:(t210 == 2)=true:=beq_iff_eq.mpr c53
    have c53b1:(t210 != 2)=false:=bne_eq_false_iff_eq.mpr c53
    clear c53
    simp only [Option.some.injEq,Prod.mk.injEq] at H
    obtain ⟨rfl,rfl⟩:=H
    go_enter Tryd.func67,Tryd.ntmps67
    go_wp2_with (first |((with_reducible refine jD (N:=2) rfl ?_);refine bE (N:=2) (cs:=#[.slice none 0 0]) (t:=25) ?_;intro gb202 hg w54 hbox hb;have BK202:=am (hbox);have GW202:=am ((Y6:w.heap.size≤gb202));have GE202:=am ((Nat.le_trans HW0.out (Y6:w.heap.size≤gb202):w0.heap.size≤gb202));have NB0_202:=am ((Y24:g≠gb202));have NB202_0:=am ((Y25:gb202≠g));replace HK:=am (jd.trans (Y13) (jd.of_below hb g none) (.inl rfl));replace HB:=am (je (Y14) hb);replace HI0:=am (jk.below (Y12) hb);clear hb hbox hg) |((with_reducible refine jw (f:=88) rfl ?_);refine gL (some 6) Tryd.func88 #[.pointer (some ⟨g,0,none⟩)] ?_;(with_reducible refine (jQ.calls k g s0_0 s0_1 t203 t206 w0 _ ?side1 ?side2 A2.out).mono ?_);(case side1=>exact Y50);(case side2=>exact Y51);rintro e w55 ⟨v204,rfl,ho0,hi,hb,hk⟩;refine ⟨_,rfl,?_⟩;have HO205:=am (Kd.jia ho0 (jea (w:=w) (g:=g) (row:=none) (Y30)));replace BK202:=am (jd.blk hk (g':=gb202) (o:=.cells #[.slice none 0 0] 25 (0,0)) (kq BK202.out) NB202_0.out (by simp));replace HK:=am (jd.trans (Y30) hk (.inl rfl));replace HB:=am (hb);replace HI0:=am (hi);(try clear hb);(try clear hb2);(try clear hk);(try clear hi);(try clear ho0)) |((with_reducible refine jD (N:=3) rfl ?_);refine bE (N:=3) (cs:=#[.slice none 0 0]) (t:=25) ?_;intro gb207 hg w56 hbox hb;have BK207:=am (hbox);have GW207:=am ((Y52:w.heap.size≤gb207));have GE207:=am ((Nat.le_trans HW0.out (Y52:w.heap.size≤gb207):w0.heap.size≤gb207));have NB202_207:=am ((Y102:gb202≠gb207));have NB207_202:=am ((Y103:gb207≠gb202));have NB0_207:=am ((Y104:g≠gb207));have NB207_0:=am ((Y105:gb207≠g));replace HO205:=am (Kd.jW (rq HO205.out) hb);replace BK202:=am (jc (g:=gb202) (o:=.cells #[.slice none 0 0] 25 (0,0)) (kq BK202.out) hb);replace HK:=am (jd.trans (Y30) (jd.of_below hb g none) (.inl rfl));replace HB:=am (je (Y51) hb);replace HI0:=am (jk.below (Y50) hb);clear hb hbox hg;obtain ⟨Ao57,co57,eo57⟩:=Kd.jZ HO205.out;subst eo57;have hnb58:=NB207_202.out;have hnc58:=NB202_207.out;have hnb59:=NB207_0.out;have hnc59:=NB0_207.out;have hcz60_0:=bc0 BK207.out;have hfz60_0:=jb BK207.out 0) |((with_reducible refine jw (f:=68) rfl ?_);refine gL (some 11) Tryd.func68 #[.pointer (some ⟨g,0,none⟩), .int .i64 (t203.length:Int)] ?_;(with_reducible refine (jm.calls k g s0_0 t206 (t203.length:Int) t208 t209 w0 _ ?side1 ?side2 A3.out).mono ?_);(case side1=>exact Y9);(case side2=>exact Y27);rintro e w61 ⟨rfl,hi,hb,hk⟩;refine ⟨_,rfl,?_⟩;replace BK202:=am (jd.blk hk (g':=gb202) (o:=.cells #[.slice none 0 0] 25 (0,0)) (Y106) NB202_0.out (by simp));replace HO205:=am (Kd.jI (Kd.jqa (jk.apart (show jk w0 _ g s0_0 t206 from Y9) (by (with_reducible repeat (first | apply Kd.jX | apply Kd.jba | apply Kd.jV));exact (Kd.jI (Kd.jwa (p:=⟨gb207,0,none⟩) (Kd.jP HO205.out BK207.out (by decide)) (fun _ hk=>hk.2) (.slice Ao57 t203.length co57)) (fun _ h_=>h_.1))) (by decide)) hk (fun _ h=>h.2)) (fun _ h=>h.1));replace BK207:=am (jd.blk hk (g':=gb207) (o:=.cells #[.slice Ao57 t203.length co57] 25 (0,0)) (Y107) NB207_0.out (by simp));replace HK:=am (jd.trans (Y19) hk (.inl rfl));replace HB:=am (hb);replace HI0:=am (hi);(try clear hb);(try clear hb2);(try clear hk);(try clear hi)) |((with_reducible refine jw (f:=68) rfl ?_);refine gL (some 13) Tryd.func68 #[.pointer (some ⟨g,0,none⟩), .int .i64 24] ?_;(with_reducible refine (jm.calls k g s0_0 t209 24 t210 t211 w0 _ ?side1 ?side2 A4.out).mono ?_);(case side1=>exact Y9);(case side2=>exact Y27);rintro e w62 ⟨rfl,hi,hb,hk⟩;refine ⟨_,rfl,?_⟩;replace BK202:=am (jd.blk hk (g':=gb202) (o:=.cells #[.slice none 0 0] 25 (0,0)) (kq BK202.out) NB202_0.out (by simp));replace HO205:=am (Kd.jI (Kd.jqa (jk.apart (show jk w0 _ g s0_0 t209 from Y9) (rq HO205.out) (by decide)) hk (fun _ h=>h.2)) (fun _ h=>h.1));replace BK207:=am (jd.blk hk (g':=gb207) (o:=.cells #[.slice Ao57 t203.length co57] 25 (0,0)) (kq BK207.out) NB207_0.out (by simp));replace HK:=am (jd.trans (Y19) hk (.inl rfl));replace HB:=am (hb);replace HI0:=am (hi);(try clear hb);(try clear hb2);(try clear hk);(try clear hi);have hnb63:=NB202_0.out;have hnc63:=NB0_202.out;have hcz64_0:=bc0 BK202.out;have hfz64_0:=jb BK202.out 0))
    refine bodyPost_ret (results_cell_row rfl _ _ gb202 25 #[.slice none 0 0] (0,0) _ rfl (Y108) Tryd.underlying25 rfl (by kernel_rfl)) rfl ?_
    exact ⟨_,Y1,by first | exact Kd.R_nil _ _ _ _ _ | exact Kd.N_nil _ _ _ _ _ | exact Kd.V_nil _ _ _ _ _ | exact Kd.Q_nil _ _ _ _ _ | exact Kd.S_nil _ _ _ _ _,Y9,Y27,Y19⟩
   ·rw [if_neg c53] at H
    have c53b0:(t210 == 2)=false:=beq_eq_false_iff_ne.mpr c53
    have c53b1:(t210 != 2)=true:=bne_iff_ne.mpr c53
    simp only [Option.some.injEq,Prod.mk.injEq] at H
    obtain ⟨rfl,rfl⟩:=H
    go_enter Tryd.func67,Tryd.ntmps67
    go_wp2_with (first |((with_reducible refine jD (N:=2) rfl ?_);refine bE (N:=2) (cs:=#[.slice none 0 0]) (t:=25) ?_;intro gb202 hg w65 hbox hb;have BK202:=am (hbox);have GW202:=am ((Y6:w.heap.size≤gb202));have GE202:=am ((Nat.le_trans HW0.out (Y6:w.heap.size≤gb202):w0.heap.size≤gb202));have NB0_202:=am ((Y24:g≠gb202));have NB202_0:=am ((Y25:gb202≠g));replace HK:=am (jd.trans (Y13) (jd.of_below hb g none) (.inl rfl));replace HB:=am (je (Y14) hb);replace HI0:=am (jk.below (Y12) hb);clear hb hbox hg) |((with_reducible refine jw (f:=88) rfl ?_);refine gL (some 6) Tryd.func88 #[.pointer (some ⟨g,0,none⟩)] ?_;(with_reducible refine (jQ.calls k g s0_0 s0_1 t203 t206 w0 _ ?side1 ?side2 A2.out).mono ?_);(case side1=>exact Y50);(case side2=>exact Y51);rintro e w66 ⟨v204,rfl,ho0,hi,hb,hk⟩;refine ⟨_,rfl,?_⟩;have HO205:=am (Kd.jia ho0 (jea (w:=w) (g:=g) (row:=none) (Y30)));replace BK202:=am (jd.blk hk (g':=gb202) (o:=.cells #[.slice none 0 0] 25 (0,0)) (kq BK202.out) NB202_0.out (by simp));replace HK:=am (jd.trans (Y30) hk (.inl rfl));replace HB:=am (hb);replace HI0:=am (hi);(try clear hb);(try clear hb2);(try clear hk);(try clear hi);(try clear ho0)) |((with_reducible refine jD (N:=3) rfl ?_);refine bE (N:=3) (cs:=#[.slice none 0 0]) (t:=25) ?_;intro gb207 hg w67 hbox hb;have BK207:=am (hbox);have GW207:=am ((Y52:w.heap.size≤gb207));have GE207:=am ((Nat.le_trans HW0.out (Y52:w.heap.size≤gb207):w0.heap.size≤gb207));have NB202_207:=am ((Y102:gb202≠gb207));have NB207_202:=am ((Y103:gb207≠gb202));have NB0_207:=am ((Y104:g≠gb207));have NB207_0:=am ((Y105:gb207≠g));replace HO205:=am (Kd.jW (rq HO205.out) hb);replace BK202:=am (jc (g:=gb202) (o:=.cells #[.slice none 0 0] 25 (0,0)) (kq BK202.out) hb);replace HK:=am (jd.trans (Y30) (jd.of_below hb g none) (.inl rfl));replace HB:=am (je (Y51) hb);replace HI0:=am (jk.below (Y50) hb);clear hb hbox hg;obtain ⟨Ao68,co68,eo68⟩:=Kd.jZ HO205.out;subst eo68;have hnb69:=NB207_202.out;have hnc69:=NB202_207.out;have hnb70:=NB207_0.out;have hnc70:=NB0_207.out;have hcz71_0:=bc0 BK207.out;have hfz71_0:=jb BK207.out 0) |((with_reducible refine jw (f:=68) rfl ?_);refine gL (some 11) Tryd.func68 #[.pointer (some ⟨g,0,none⟩), .int .i64 (t203.length:Int)] ?_;(with_reducible refine (jm.calls k g s0_0 t206 (t203.length:Int) t208 t209 w0 _ ?side1 ?side2 A3.out).mono ?_);(case side1=>exact Y9);(case side2=>exact Y27);rintro e w72 ⟨rfl,hi,hb,hk⟩;refine ⟨_,rfl,?_⟩;replace BK202:=am (jd.blk hk (g':=gb202) (o:=.cells #[.slice none 0 0] 25 (0,0)) (Y106) NB202_0.out (by simp));replace HO205:=am (Kd.jI (Kd.jqa (jk.apart (show jk w0 _ g s0_0 t206 from Y9) (by (with_reducible repeat (first | apply Kd.jX | apply Kd.jba | apply Kd.jV));exact (Kd.jI (Kd.jwa (p:=⟨gb207,0,none⟩) (Kd.jP HO205.out BK207.out (by decide)) (fun _ hk=>hk.2) (.slice Ao68 t203.length co68)) (fun _ h_=>h_.1))) (by decide)) hk (fun _ h=>h.2)) (fun _ h=>h.1));replace BK207:=am (jd.blk hk (g':=gb207) (o:=.cells #[.slice Ao68 t203.length co68] 25 (0,0)) (Y107) NB207_0.out (by simp));replace HK:=am (jd.trans (Y19) hk (.inl rfl));replace HB:=am (hb);replace HI0:=am (hi);(try clear hb);(try clear hb2);(try clear hk);(try clear hi)) |((with_reducible refine jw (f:=68) rfl ?_);refine gL (some 13) Tryd.func68 #[.pointer (some ⟨g,0,none⟩), .int .i64 24] ?_;(with_reducible refine (jm.calls k g s0_0 t209 24 t210 t211 w0 _ ?side1 ?side2 A4.out).mono ?_);(case side1=>exact Y9);(case side2=>exact Y27);rintro e w73 ⟨rfl,hi,hb,hk⟩;refine ⟨_,rfl,?_⟩;replace BK202:=am (jd.blk hk (g':=gb202) (o:=.cells #[.slice none 0 0] 25 (0,0)) (kq BK202.out) NB202_0.out (by simp));replace HO205:=am (Kd.jI (Kd.jqa (jk.apart (show jk w0 _ g s0_0 t209 from Y9) (rq HO205.out) (by decide)) hk (fun _ h=>h.2)) (fun _ h=>h.1));replace BK207:=am (jd.blk hk (g':=gb207) (o:=.cells #[.slice Ao68 t203.length co68] 25 (0,0)) (kq BK207.out) NB207_0.out (by simp));replace HK:=am (jd.trans (Y19) hk (.inl rfl));replace HB:=am (hb);replace HI0:=am (hi);(try clear hb);(try clear hb2);(try clear hk);(try clear hi);have hcz74_0:=bc0 BK207.out;have hfz74_0:=jb BK207.out 0;have hnb75:=NB202_0.out;have hnc75:=NB0_202.out;have hcz76_0:=bc0 BK202.out;have hfz76_0:=jb BK202.out 0))
    refine bodyPost_ret (results_cell_row rfl _ _ gb202 25 #[.slice Ao68 t203.length co68] (0,0) _ rfl (Y108) Tryd.underlying25 rfl (by kernel_rfl)) rfl ?_
    exact ⟨_,Y1,by (with_reducible repeat (first | apply Kd.jX | apply Kd.jba | apply Kd.jV));exact Kd.jI (Kd.jwa (p:=⟨gb202,0,none⟩) (Kd.jP HO205.out BK202.out (by decide)) (fun _ hk=>hk.2) (.slice Ao68 t203.length co68)) (fun _ hk=>trivial),Y9,Y27,Y19⟩
def job.f (k : Nat) (s0_0 : List Int) (s0_1 : Int) (l1_0 : List (S99)) : Option (Int × Int) := (jm.f k s0_0 s0_1 16).bind fun bt225 => (if bt225.1 = 0 then ((jy.f k s0_0 bt225.2 (([(-1), (l1_0.length : Int), 8] : List Int))).bind fun bt230 => (some (bt230.1, bt230.2))) else ((jm.f k s0_0 bt225.2 (l1_0.length : Int)).bind fun bt232 => (some (bt232.1, bt232.2))))
set_option maxHeartbeats 8000000 in
set_option maxRecDepth 100000 in
theorem job.calls (k : Nat) (g : Nat) (s0_0 : List Int) (s0_1 : Int) (A1_0 : Option Addr) (c1_0 : Nat) (l1_0 : List (S99)) (r1 : Int) (r2 : Int) (w0 w : World) (hI : jk w0 w g s0_0 s0_1) (hB : Below w0.heap.size w0 w) (hr1_0 : ∀ W_, jd w W_ g none → Kd.C k99 W_ A1_0 l1_0.length l1_0) (hc1_0 : l1_0.length ≤ c1_0) (h : job.f k s0_0 s0_1 l1_0 = some (r1, r2)) :
  Calls Tryd.prog 70 #[.pointer (some ⟨g,0,none⟩), .agg #[.slice A1_0 l1_0.length c1_0]] w fun e w'=>e=.returned (.int .i64 r1)∧jk w0 w' g s0_0 r2∧Below w0.heap.size w0 w'∧jd w w' g none:=by
 have hu25:=Tryd.underlying25
 have HR1_0:=am hr1_0
 have HC1_0:=am hc1_0
 clear hr1_0 hc1_0
 have HI0:=am hI
 have HK:=am (jd.refl w g none)
 have HL:=am hB.size
 clear hI
 have HW0:=am hB.size
 have HB:=am hB
 clear hB
 have H:((jm.f k s0_0 s0_1 16).bind fun bt225=>(if bt225.1=0 then ((jy.f k s0_0 bt225.2 (([(-1),(l1_0.length:Int),8]:List Int))).bind fun bt230=>(some (bt230.1,bt230.2))) else ((jm.f k s0_0 bt225.2 (l1_0.length:Int)).bind fun bt232=>(some (bt232.1,bt232.2)))))=some (r1,r2):=h
 clear h
 replace H:=bzS H
 obtain ⟨⟨t225,t226⟩,A30,H⟩:=H
 replace H:(if t225=0 then ((jy.f k s0_0 t226 (([(-1),(l1_0.length:Int),8]:List Int))).bind fun bt230=>(some (bt230.1,bt230.2))) else ((jm.f k s0_0 t226 (l1_0.length:Int)).bind fun bt232=>(some (bt232.1,bt232.2))))=some (r1,r2):=H
 have A3:=am A30
 clear A30
 by_cases c4:t225=0
 ·rw [if_pos c4] at H
  have c4b0:(t225 == 0)=true:=beq_iff_eq.mpr c4
  have c4b1:(t225 != 0)=false:=bne_eq_false_iff_eq.mpr c4
  clear c4
  obtain ⟨y227,hy227⟩:∃ y_:List Int,y_=(([(-1),(l1_0.length:Int),8]:List Int)):=⟨_,rfl⟩
  replace H:((jy.f k s0_0 t226 y227).bind fun bt230=>(some (bt230.1,bt230.2)))=some (r1,r2):=by first |(rw [hy227];with_reducible exact H) |(have H2_:=(Option.bind_some _ _).symm.trans H;rw [hy227];with_reducible exact H2_) |(have H2_:=(Option.bind_some _ _).symm.trans H;with_reducible exact H2_) | with_reducible exact H |(rw [hy227];exact H) | exact H
  have Ny227:=am hy227
  clear hy227
  replace H:=bzS H
  obtain ⟨⟨t230,t231⟩,A50,H⟩:=H
  replace H:(some (t230,t231))=some (r1,r2):=H
  have A5:=am A50
  clear A50
  simp only [Option.some.injEq,Prod.mk.injEq] at H
  obtain ⟨rfl,rfl⟩:=H
  go_enter Tryd.func70,Tryd.ntmps70
  go_wp2_with (first |((with_reducible refine jD (N:=3) rfl ?_);refine bE (N:=3) (cs:=#[.slice A1_0 l1_0.length c1_0]) (t:=25) ?_;intro gb224 hg w6 hbox hb;have BK224:=am (hbox);have GW224:=am ((Y6:w.heap.size≤gb224));have GE224:=am ((Nat.le_trans HW0.out (Y6:w.heap.size≤gb224):w0.heap.size≤gb224));have NB0_224:=am ((Y24:g≠gb224));have NB224_0:=am ((Y25:gb224≠g));replace HK:=am (jd.trans (Y13) (jd.of_below hb g none) (.inl rfl));replace HB:=am (je (Y14) hb);replace HI0:=am (jk.below (Y12) hb);clear hb hbox hg) |((with_reducible refine jw (f:=68) rfl ?_);refine gL (some 6) Tryd.func68 #[.pointer (some ⟨g,0,none⟩), .int .i64 16] ?_;(with_reducible refine (jm.calls k g s0_0 s0_1 16 t225 t226 w0 _ ?side1 ?side2 A3.out).mono ?_);(case side1=>exact Y53);(case side2=>exact Y60);rintro e w7 ⟨rfl,hi,hb,hk⟩;refine ⟨_,rfl,?_⟩;replace BK224:=am (jd.blk hk (g':=gb224) (o:=.cells #[.slice A1_0 l1_0.length c1_0] 25 (0,0)) (kq BK224.out) NB224_0.out (by simp));replace HK:=am (jd.trans (Y54) hk (.inl rfl));replace HB:=am (hb);replace HI0:=am (hi);(try clear hb);(try clear hb2);(try clear hk);(try clear hi);have hnb8:=NB224_0.out;have hnc8:=NB0_224.out;have hcz9_0:=bc0 BK224.out;have hfz9_0:=jb BK224.out 0) |((with_reducible refine jD (N:=12) rfl ?_);refine Kd.R_lit (Kd.int .i64) _ 3 ?hg (N:=12) ?hd (xs:=([(-1),(l1_0.length:Int),8]:List Int)) (inner:=[.int .i64 (-1), .int .i64 (l1_0.length:Int), .int .i64 8]) (ok:=fun _=>True) (okp:=fun _=>True) ?hr ?hp (fun _ hk=>hk) trivial (Below.refl _ _) (Nat.le_refl _) (by simp) ?_;(case hd=>rfl);(case hg=>rfl);(case hr=>exact Y4);(case hp=>exact (Reps.one (show Kd.M (Kd.int .i64) _ _ _ (-1) [.int .i64 (-1)] from rfl) (Reps.one (show Kd.M (Kd.int .i64) _ _ _ (l1_0.length:Int) [.int .i64 (l1_0.length:Int)] from rfl) (Reps.one (show Kd.M (Kd.int .i64) _ _ _ 8 [.int .i64 8] from rfl) (Reps.none _ _)))));intro v228 w10 ho11 hb hg_ hnew_;clear hg_ hnew_;(first | rw [← Ny227.out] at ho11 |(simp only [Int.reduceToNat] at ho11;rw [← Ny227.out] at ho11));have HO229:=am (Kd.jia ho11 (jea (w:=w) (g:=g) (row:=none) (Y54)));replace BK224:=am (jc (g:=gb224) (o:=.cells #[.slice A1_0 l1_0.length c1_0] 25 (0,0)) (kq BK224.out) hb);replace HK:=am (jd.trans (Y54) (jd.of_below hb g none) (.inl rfl));replace HB:=am (je (Y60) hb);replace HI0:=am (jk.below (Y53) hb);clear hb ho11;obtain ⟨Ao12,co12,eo12⟩:=Kd.jZ HO229.out;subst eo12) |((with_reducible refine jw (f:=69) rfl ?_);refine gL (some 13) Tryd.func69 #[.pointer (some ⟨g,0,none⟩), .slice Ao12 y227.length co12] ?_;(with_reducible refine (jy.calls k g s0_0 t226 _ _ y227 t230 t231 w0 _ ?side1 ?side2 ?side3 ?side4 ?side5 A5.out).mono ?_);(case side1=>exact Y53);(case side2=>exact Y60);(case side3=>exact cq (Kd.jC HO229.out).2.2);(case side4=>exact (Kd.jC HO229.out).2.1);(case side5=>exact jCb (jk.own_ne HI0.out HO229.out (by decide)));rintro e w13 ⟨rfl,hi,hb,hk⟩;refine ⟨_,rfl,?_⟩;replace BK224:=am (jd.blk hk (g':=gb224) (o:=.cells #[.slice A1_0 l1_0.length c1_0] 25 (0,0)) (kq BK224.out) NB224_0.out (by simp));replace HO229:=am (Kd.jI (Kd.jqa (jk.apart (show jk w0 _ g s0_0 t226 from Y53) (rq HO229.out) (by decide)) hk (fun _ h=>h.2)) (fun _ h=>h.1));replace HK:=am (jd.trans (Y54) hk (.inl rfl));replace HB:=am (hb);replace HI0:=am (hi);(try clear hb);(try clear hb2);(try clear hk);(try clear hi)))
  go_ret
  exact ⟨Y1,Y53,Y60,Y54⟩
 ·rw [if_neg c4] at H
  have c4b0:(t225 == 0)=false:=beq_eq_false_iff_ne.mpr c4
  have c4b1:(t225 != 0)=true:=bne_iff_ne.mpr c4
  replace H:=bzS H
  obtain ⟨⟨t232,t233⟩,A140,H⟩:=H
  replace H:(some (t232,t233))=some (r1,r2):=H
  have A14:=am A140
  clear A140
  simp only [Option.some.injEq,Prod.mk.injEq] at H
  obtain ⟨rfl,rfl⟩:=H
  go_enter Tryd.func70,Tryd.ntmps70
  go_wp2_with (first |((with_reducible refine jD (N:=3) rfl ?_);refine bE (N:=3) (cs:=#[.slice A1_0 l1_0.length c1_0]) (t:=25) ?_;intro gb224 hg w15 hbox hb;have BK224:=am (hbox);have GW224:=am ((Y6:w.heap.size≤gb224));have GE224:=am ((Nat.le_trans HW0.out (Y6:w.heap.size≤gb224):w0.heap.size≤gb224));have NB0_224:=am ((Y24:g≠gb224));have NB224_0:=am ((Y25:gb224≠g));replace HK:=am (jd.trans (Y13) (jd.of_below hb g none) (.inl rfl));replace HB:=am (je (Y14) hb);replace HI0:=am (jk.below (Y12) hb);clear hb hbox hg) |((with_reducible refine jw (f:=68) rfl ?_);refine gL (some 6) Tryd.func68 #[.pointer (some ⟨g,0,none⟩), .int .i64 16] ?_;(with_reducible refine (jm.calls k g s0_0 s0_1 16 t225 t226 w0 _ ?side1 ?side2 A3.out).mono ?_);(case side1=>exact Y53);(case side2=>exact Y60);rintro e w16 ⟨rfl,hi,hb,hk⟩;refine ⟨_,rfl,?_⟩;replace BK224:=am (jd.blk hk (g':=gb224) (o:=.cells #[.slice A1_0 l1_0.length c1_0] 25 (0,0)) (kq BK224.out) NB224_0.out (by simp));replace HK:=am (jd.trans (Y54) hk (.inl rfl));replace HB:=am (hb);replace HI0:=am (hi);(try clear hb);(try clear hb2);(try clear hk);(try clear hi);have hnb17:=NB224_0.out;have hnc17:=NB0_224.out;have hcz18_0:=bc0 BK224.out;have hfz18_0:=jb BK224.out 0) |((with_reducible refine jw (f:=68) rfl ?_);refine gL (some 18) Tryd.func68 #[.pointer (some ⟨g,0,none⟩), .int .i64 (l1_0.length:Int)] ?_;(with_reducible refine (jm.calls k g s0_0 t226 (l1_0.length:Int) t232 t233 w0 _ ?side1 ?side2 A14.out).mono ?_);(case side1=>exact Y53);(case side2=>exact Y60);rintro e w19 ⟨rfl,hi,hb,hk⟩;refine ⟨_,rfl,?_⟩;replace BK224:=am (jd.blk hk (g':=gb224) (o:=.cells #[.slice A1_0 l1_0.length c1_0] 25 (0,0)) (kq BK224.out) NB224_0.out (by simp));replace HK:=am (jd.trans (Y54) hk (.inl rfl));replace HB:=am (hb);replace HI0:=am (hi);(try clear hb);(try clear hb2);(try clear hk);(try clear hi)))
  go_ret
  exact ⟨Y1,Y53,Y60,Y54⟩
end Go.Proofs.YteibechlncphnaaDoor.P
end
