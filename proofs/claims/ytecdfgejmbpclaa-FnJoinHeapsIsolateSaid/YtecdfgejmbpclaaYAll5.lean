/- One part of the proofs on this program: functions of the program as plain functions, that the code comes to them, and facts on them. -/
import Derived.Test.YtecdfgejmbpclaaYAll1
import Derived.Test.YtecdfgejmbpclaaYAll3
import Derived.Test.YtecdfgejmbpclaaYAll4
import Derived.Test.YtecdfgejmbpclaaYWAuto
section
namespace Go.Proofs.Ytecdfgejmbpclaa.P
open Go.RowKit Go.Proofs.YtecdfgejmbpclaaW.PrintWords Go.Proofs.YtecdfgejmbpclaaW.PrintLast Go.Proofs.YtecdfgejmbpclaaW.PrintMore
attribute [local go_sem] jva jta jFa jEa jha jga jua jsa jF
set_option linter.unusedVariables false
set_option linter.unusedSimpArgs false
def jca.f (k : Nat) (s0_0 : List Int) (s0_1 : Int) : Option ((List (S94)) × Int) := (jW.f k s0_0 s0_1).bind fun bt579 => ((jq.f k s0_0 bt579.2 (bt579.1.length : Int)).bind fun bt584 => ((jq.f k s0_0 bt584.2 24).bind fun bt586 => (if bt586.1 = 0 then ((jPa.f k s0_0 bt586.2 (([(⟨#[]⟩ : ByteArray), (⟨#[97, 110, 121]⟩ : ByteArray), (⟨#[65]⟩ : ByteArray), (⟨#[116, 111, 111, 108, 111, 110, 103]⟩ : ByteArray)] : List ByteArray))).bind fun bt591 => (if 0 ≤ bt584.1 then (if bt584.1 < (bt579.1.length : Int) then (some ((bt579.1.set (bt584.1 : Int).toNat (⟨bt591.1, (jZ bt579.1 bt584.1).f1⟩ : S94)), bt591.2)) else (none)) else (none))) else (if bt586.1 = 1 then ((jE.f k s0_0 bt586.2 (([bt584.1, (-1), 8, (-2)] : List Int))).bind fun bt597 => (if 0 ≤ bt584.1 then (if bt584.1 < (bt579.1.length : Int) then (some ((bt579.1.set (bt584.1 : Int).toNat (⟨(jZ bt579.1 bt584.1).f0, bt597.1⟩ : S94)), bt597.2)) else (none)) else (none))) else (if bt586.1 = 2 then (some (([] : List (S94)), bt586.2)) else (some (bt579.1, bt586.2)))))))
def jca.T5 : Bool × List (List Nat × List Nat) := (true, [([], []), ([0], [0]), ([], []), ([], []), ([], []), ([3, 4], [3, 4]), ([1, 2, 0, 1, 2, 3, 4, 5], [1, 2]), ([6, 0, 1, 2, 3, 4, 5], [6]), ([7, 5, 5, 0, 1, 2, 3, 4, 5], [5, 7])])
def jca.B5 : List Nat := [0, 1, 0, 0, 0, 24, 63, 127, 255]
theorem jca.tab5 : rtab .any (opsOf Try.f87 5) = jca.T5 := by kernel_rfl
theorem jca.bits5 : jFb jca.T5.2 jca.B5 = true := by kernel_rfl
def jca.T7 : Bool × List (List Nat × List Nat) := (true, [([], []), ([0], [0]), ([], []), ([], []), ([], []), ([4], [4]), ([3, 5], [3, 5]), ([1, 2, 0, 1, 2, 3, 4, 5, 6], [1, 2]), ([7, 0, 1, 2, 3, 4, 5, 6], [7]), ([8, 6, 6, 0, 1, 2, 3, 4, 5, 6], [6, 8])])
def jca.B7 : List Nat := [0, 1, 0, 0, 0, 16, 56, 127, 255, 511]
theorem jca.tab7 : rtab .any (opsOf Try.f87 7) = jca.T7 := by kernel_rfl
theorem jca.bits7 : jFb jca.T7.2 jca.B7 = true := by kernel_rfl
set_option maxHeartbeats 8000000 in
set_option maxRecDepth 100000 in
theorem jca.calls (k : Nat) (g : Nat) (s0_0 : List Int) (s0_1 : Int) (r1 : List (S94)) (r2 : Int) (w0 w : World) (hI : jg w0 w g s0_0 s0_1) (hB : Below w0.heap.size w0 w) (h : jca.f k s0_0 s0_1 = some (r1, r2)) :
  Calls Try.prog 87 #[.pointer (some ⟨g,0,none⟩)] w fun e w'=>∃ v0_:Value,e=.returned (.agg #[v0_])∧Kd.R k94 94 w' w.heap.size (fun _=>True) v0_ r1∧jg w0 w' g s0_0 r2∧Below w0.heap.size w0 w'∧jh w w' g none:=by
 have hu37:=Try.underlying37
 have HI0:=am hI
 have HK:=am (jh.refl w g none)
 have HL:=am hB.size
 clear hI
 have HW0:=am hB.size
 have HB:=am hB
 clear hB
 have H:((jW.f k s0_0 s0_1).bind fun bt579=>((jq.f k s0_0 bt579.2 (bt579.1.length:Int)).bind fun bt584=>((jq.f k s0_0 bt584.2 24).bind fun bt586=>(if bt586.1=0 then ((jPa.f k s0_0 bt586.2 (([(⟨#[]⟩:ByteArray),(⟨#[97,110,121]⟩:ByteArray),(⟨#[65]⟩:ByteArray),(⟨#[116,111,111,108,111,110,103]⟩:ByteArray)]:List ByteArray))).bind fun bt591=>(if 0≤bt584.1 then (if bt584.1<(bt579.1.length:Int) then (some ((bt579.1.set (bt584.1:Int).toNat (⟨bt591.1,(jZ bt579.1 bt584.1).f1⟩:S94)),bt591.2)) else (none)) else (none))) else (if bt586.1=1 then ((jE.f k s0_0 bt586.2 (([bt584.1,(-1),8,(-2)]:List Int))).bind fun bt597=>(if 0≤bt584.1 then (if bt584.1<(bt579.1.length:Int) then (some ((bt579.1.set (bt584.1:Int).toNat (⟨(jZ bt579.1 bt584.1).f0,bt597.1⟩:S94)),bt597.2)) else (none)) else (none))) else (if bt586.1=2 then (some (([]:List (S94)),bt586.2)) else (some (bt579.1,bt586.2))))))))=some (r1,r2):=h
 clear h
 replace H:=bzS H
 obtain ⟨⟨t579,t582⟩,A20,H⟩:=H
 replace H:((jq.f k s0_0 t582 (t579.length:Int)).bind fun bt584=>((jq.f k s0_0 bt584.2 24).bind fun bt586=>(if bt586.1=0 then ((jPa.f k s0_0 bt586.2 (([(⟨#[]⟩:ByteArray),(⟨#[97,110,121]⟩:ByteArray),(⟨#[65]⟩:ByteArray),(⟨#[116,111,111,108,111,110,103]⟩:ByteArray)]:List ByteArray))).bind fun bt591=>(if 0≤bt584.1 then (if bt584.1<(t579.length:Int) then (some ((t579.set (bt584.1:Int).toNat (⟨bt591.1,(jZ t579 bt584.1).f1⟩:S94)),bt591.2)) else (none)) else (none))) else (if bt586.1=1 then ((jE.f k s0_0 bt586.2 (([bt584.1,(-1),8,(-2)]:List Int))).bind fun bt597=>(if 0≤bt584.1 then (if bt584.1<(t579.length:Int) then (some ((t579.set (bt584.1:Int).toNat (⟨(jZ t579 bt584.1).f0,bt597.1⟩:S94)),bt597.2)) else (none)) else (none))) else (if bt586.1=2 then (some (([]:List (S94)),bt586.2)) else (some (t579,bt586.2)))))))=some (r1,r2):=H
 have A2:=am A20
 clear A20
 replace H:=bzS H
 obtain ⟨⟨t584,t585⟩,A30,H⟩:=H
 replace H:((jq.f k s0_0 t585 24).bind fun bt586=>(if bt586.1=0 then ((jPa.f k s0_0 bt586.2 (([(⟨#[]⟩:ByteArray),(⟨#[97,110,121]⟩:ByteArray),(⟨#[65]⟩:ByteArray),(⟨#[116,111,111,108,111,110,103]⟩:ByteArray)]:List ByteArray))).bind fun bt591=>(if 0≤t584 then (if t584<(t579.length:Int) then (some ((t579.set (t584:Int).toNat (⟨bt591.1,(jZ t579 t584).f1⟩:S94)),bt591.2)) else (none)) else (none))) else (if bt586.1=1 then ((jE.f k s0_0 bt586.2 (([t584,(-1),8,(-2)]:List Int))).bind fun bt597=>(if 0≤t584 then (if t584<(t579.length:Int) then (some ((t579.set (t584:Int).toNat (⟨(jZ t579 t584).f0,bt597.1⟩:S94)),bt597.2)) else (none)) else (none))) else (if bt586.1=2 then (some (([]:List (S94)),bt586.2)) else (some (t579,bt586.2))))))=some (r1,r2):=H
 have A3:=am A30
 clear A30
 replace H:=bzS H
 obtain ⟨⟨t586,t587⟩,A40,H⟩:=H
 replace H:(if t586=0 then ((jPa.f k s0_0 t587 (([(⟨#[]⟩:ByteArray),(⟨#[97,110,121]⟩:ByteArray),(⟨#[65]⟩:ByteArray),(⟨#[116,111,111,108,111,110,103]⟩:ByteArray)]:List ByteArray))).bind fun bt591=>(if 0≤t584 then (if t584<(t579.length:Int) then (some ((t579.set (t584:Int).toNat (⟨bt591.1,(jZ t579 t584).f1⟩:S94)),bt591.2)) else (none)) else (none))) else (if t586=1 then ((jE.f k s0_0 t587 (([t584,(-1),8,(-2)]:List Int))).bind fun bt597=>(if 0≤t584 then (if t584<(t579.length:Int) then (some ((t579.set (t584:Int).toNat (⟨(jZ t579 t584).f0,bt597.1⟩:S94)),bt597.2)) else (none)) else (none))) else (if t586=2 then (some (([]:List (S94)),t587)) else (some (t579,t587)))))=some (r1,r2):=H
 have A4:=am A40
 clear A40
 by_cases c5:t586=0
 ·rw [if_pos c5] at H
  have c5b0:(t586 == 0)=true:=beq_iff_eq.mpr c5
  have c5b1:(t586 != 0)=false:=bne_eq_false_iff_eq.mpr c5
  clear c5
  obtain ⟨y588,hy588⟩:∃ y_:List ByteArray,y_=(([(⟨#[]⟩:ByteArray),(⟨#[97,110,121]⟩:ByteArray),(⟨#[65]⟩:ByteArray),(⟨#[116,111,111,108,111,110,103]⟩:ByteArray)]:List ByteArray)):=⟨_,rfl⟩
  replace H:((jPa.f k s0_0 t587 y588).bind fun bt591=>(if 0≤t584 then (if t584<(t579.length:Int) then (some ((t579.set (t584:Int).toNat (⟨bt591.1,(jZ t579 t584).f1⟩:S94)),bt591.2)) else (none)) else (none)))=some (r1,r2):=by first |(rw [hy588];with_reducible exact H) |(have H2_:=(Option.bind_some _ _).symm.trans H;rw [hy588];with_reducible exact H2_) |(have H2_:=(Option.bind_some _ _).symm.trans H;with_reducible exact H2_) | with_reducible exact H |(rw [hy588];exact H) | exact H
  have Ny588:=am hy588
  clear hy588
  replace H:=bzS H
  obtain ⟨⟨t591,t592⟩,A60,H⟩:=H
  replace H:(if 0≤t584 then (if t584<(t579.length:Int) then (some ((t579.set (t584:Int).toNat (⟨t591,(jZ t579 t584).f1⟩:S94)),t592)) else (none)) else (none))=some (r1,r2):=H
  have A6:=am A60
  clear A60
  by_cases c7:0≤t584
  ·rw [if_pos c7] at H
   have c7b0:decide (0≤t584)=true:=dzT c7
   clear c7
   by_cases c8:t584<(t579.length:Int)
   ·rw [if_pos c8] at H
    have c8b0:decide (t584<(t579.length:Int))=true:=dzT c8
    clear c8
    obtain ⟨y593,hy593⟩:∃ y_:List (S94),y_=(t579.set (t584:Int).toNat (⟨t591,(jZ t579 t584).f1⟩:S94)):=⟨_,rfl⟩
    replace H:(some (y593,t592))=some (r1,r2):=by first |(rw [hy593];with_reducible exact H) |(have H2_:=(Option.bind_some _ _).symm.trans H;rw [hy593];with_reducible exact H2_) |(have H2_:=(Option.bind_some _ _).symm.trans H;with_reducible exact H2_) | with_reducible exact H |(rw [hy593];exact H) | exact H
    have Ny593:=am hy593
    clear hy593
    simp only [Option.some.injEq,Prod.mk.injEq] at H
    obtain ⟨rfl,rfl⟩:=H
    go_enter Try.func87,Try.ntmps87
    try go_wp2_with (first |((with_reducible refine jI (N:=2) rfl ?_);refine bE (N:=2) (cs:=#[.slice none 0 0]) (t:=37) ?_;intro gb578 hg w10 hbox hb;have BK578:=am (hbox);have GW578:=am ((Y8:w.heap.size≤gb578));have GE578:=am ((Nat.le_trans HW0.out (Y8:w.heap.size≤gb578):w0.heap.size≤gb578));have NB0_578:=am ((Y26:g≠gb578));have NB578_0:=am ((Y27:gb578≠g));replace HK:=am (jh.trans (Y16) (jh.of_below hb g none) (.inl rfl));replace HB:=am (jl (Y17) hb);replace HI0:=am (jg.below (Y15) hb);clear hb hbox hg) |((with_reducible refine jC (f:=105) rfl ?_);refine gL (some 6) Try.func105 #[.pointer (some ⟨g,0,none⟩)] ?_;(with_reducible refine (jW.calls k g s0_0 s0_1 t579 t582 w0 _ ?side1 ?side2 A2.out).mono ?_);(case side1=>exact Y50);(case side2=>exact Y51);rintro e w11 ⟨v580,rfl,ho0,hi,hb,hk⟩;refine ⟨_,rfl,?_⟩;have HO581:=am (Kd.jla ho0 (jma (w:=w) (g:=g) (row:=none) (Y31)));replace BK578:=am (jh.blk hk (g':=gb578) (o:=.cells #[.slice none 0 0] 37 (0,0)) (kq BK578.out) NB578_0.out (by simp));replace HK:=am (jh.trans (Y31) hk (.inl rfl));replace HB:=am (hb);replace HI0:=am (hi);(try clear hb);(try clear hb2);(try clear hk);(try clear hi);(try clear ho0)) |((with_reducible refine jI (N:=3) rfl ?_);refine bE (N:=3) (cs:=#[.slice none 0 0]) (t:=37) ?_;intro gb583 hg w12 hbox hb;have BK583:=am (hbox);have GW583:=am ((Y52:w.heap.size≤gb583));have GE583:=am ((Nat.le_trans HW0.out (Y52:w.heap.size≤gb583):w0.heap.size≤gb583));have NB578_583:=am ((Y112:gb578≠gb583));have NB583_578:=am ((Y113:gb583≠gb578));have NB0_583:=am ((Y114:g≠gb583));have NB583_0:=am ((Y115:gb583≠g));replace HO581:=am (Kd.jP (rq HO581.out) hb);replace BK578:=am (je (g:=gb578) (o:=.cells #[.slice none 0 0] 37 (0,0)) (kq BK578.out) hb);replace HK:=am (jh.trans (Y31) (jh.of_below hb g none) (.inl rfl));replace HB:=am (jl (Y51) hb);replace HI0:=am (jg.below (Y50) hb);clear hb hbox hg;obtain ⟨Ao13,co13,eo13⟩:=Kd.jaa HO581.out;subst eo13;have hnb14:=NB583_578.out;have hnc14:=NB578_583.out;have hnb15:=NB583_0.out;have hnc15:=NB0_583.out;have hcz16_0:=bc0 BK583.out;have hfz16_0:=jf BK583.out 0) |((with_reducible refine jC (f:=88) rfl ?_);refine gL (some 11) Try.func88 #[.pointer (some ⟨g,0,none⟩), .int .i64 (t579.length:Int)] ?_;(with_reducible refine (jq.calls k g s0_0 t582 (t579.length:Int) t584 t585 w0 _ ?side1 ?side2 A3.out).mono ?_);(case side1=>exact Y9);(case side2=>exact Y25);rintro e w17 ⟨rfl,hi,hb,hk⟩;refine ⟨_,rfl,?_⟩;replace BK578:=am (jh.blk hk (g':=gb578) (o:=.cells #[.slice none 0 0] 37 (0,0)) (Y116) NB578_0.out (by simp));replace HO581:=am (Kd.jD (Kd.jqa (jg.apart (show jg w0 _ g s0_0 t582 from Y9) (by (with_reducible repeat (first | apply Kd.jL | apply Kd.jM | apply Kd.jN));exact (Kd.jD (Kd.jX (p:=⟨gb583,0,none⟩) (Kd.jJ HO581.out BK583.out (by decide)) (fun _ hk=>hk.2) (.slice Ao13 t579.length co13)) (fun _ h_=>h_.1))) (by decide)) hk (fun _ h=>h.2)) (fun _ h=>h.1));replace BK583:=am (jh.blk hk (g':=gb583) (o:=.cells #[.slice Ao13 t579.length co13] 37 (0,0)) (Y117) NB583_0.out (by simp));replace HK:=am (jh.trans (Y19) hk (.inl rfl));replace HB:=am (hb);replace HI0:=am (hi);(try clear hb);(try clear hb2);(try clear hk);(try clear hi)) |((with_reducible refine jC (f:=88) rfl ?_);refine gL (some 13) Try.func88 #[.pointer (some ⟨g,0,none⟩), .int .i64 24] ?_;(with_reducible refine (jq.calls k g s0_0 t585 24 t586 t587 w0 _ ?side1 ?side2 A4.out).mono ?_);(case side1=>exact Y9);(case side2=>exact Y25);rintro e w18 ⟨rfl,hi,hb,hk⟩;refine ⟨_,rfl,?_⟩;replace BK578:=am (jh.blk hk (g':=gb578) (o:=.cells #[.slice none 0 0] 37 (0,0)) (kq BK578.out) NB578_0.out (by simp));replace HO581:=am (Kd.jD (Kd.jqa (jg.apart (show jg w0 _ g s0_0 t585 from Y9) (rq HO581.out) (by decide)) hk (fun _ h=>h.2)) (fun _ h=>h.1));replace BK583:=am (jh.blk hk (g':=gb583) (o:=.cells #[.slice Ao13 t579.length co13] 37 (0,0)) (kq BK583.out) NB583_0.out (by simp));replace HK:=am (jh.trans (Y19) hk (.inl rfl));replace HB:=am (hb);replace HI0:=am (hi);(try clear hb);(try clear hb2);(try clear hk);(try clear hi)))
    replace HO581:=am (Kd.jN HO581.out)
    replace BK578:=am (jd BK578.out)
    replace BK583:=am (jd BK583.out)
    replace HI0:=am (jg.drew HI0.out)
    replace HK:=am (jka HK.out)
    replace HB:=am (jr HB.out)
    refine jPb (n:=9) (S:=fun w'=>w'.cell? ⟨gb583,0,none⟩=some (.slice Ao13 t579.length co13)) (ds:=[8]) #[false,false,false,false,false,false,false,false,false] (by kernel_rfl) rfl rfl ((jH BK583.out 0).trans rfl) (fun hHeld=>?_);refine jvb jca.tab5 jca.bits5 (fun HT_ HW_=>?_)
    generalize w18.drew=w19 at HO581 BK578 BK583 HI0 HK HB hHeld ⊢
    refine pq (i:=0) (N:=some 16) #[true,false,false,false,false,false,false,false,false] ?_
    refine pq (i:=2) (N:=some 18) #[true,false,true,false,false,false,false,false,false] ?_
    refine pq (i:=3) (N:=some 19) #[true,false,true,true,false,false,false,false,false] ?_
    refine jwb (i:=1) (N:=some 17) (v:=?_) (a':=?_) #[true,true,true,true,false,false,false,false,false] rfl rfl (jZa HT_.out HW_.out (by kernel_rfl)) (fun _ _ _ h=>h) (Or.inl ⟨by rfl,?_⟩) hHeld ?_ ?_
    rotate_left
    ·intro w' s0
     go_simp
     with_reducible rfl
    rotate_left
    ·exact sa
    refine one_ (i:=4) (N:=some 20) #[true,true,true,true,true,false,false,false,false] rfl rfl (jUa HT_.out (by kernel_rfl)) (by decide) (fun K hK=>?_)
    refine Kd.jIb Kd.string _ 9 ?hg (N:=20) ?hd (xs:=([(⟨#[]⟩:ByteArray),(⟨#[97,110,121]⟩:ByteArray),(⟨#[65]⟩:ByteArray),(⟨#[116,111,111,108,111,110,103]⟩:ByteArray)]:List ByteArray)) (inner:=[.string (⟨#[]⟩:ByteArray), .string (⟨#[97,110,121]⟩:ByteArray), .string (⟨#[65]⟩:ByteArray), .string (⟨#[116,111,111,108,111,110,103]⟩:ByteArray)]) (ok:=fun _=>True) (okp:=fun _=>True) ?hr ?hp (fun _ hk=>hk) trivial (Below.refl _ _) (Nat.le_refl _) (by simp) ?_;(case hd=>rfl);(case hg=>rfl);(case hr=>exact Y4);(case hp=>exact (Reps.one (show Kd.M Kd.string _ _ _ (⟨#[]⟩:ByteArray) [.string (⟨#[]⟩:ByteArray)] from rfl) (Reps.one (show Kd.M Kd.string _ _ _ (⟨#[97,110,121]⟩:ByteArray) [.string (⟨#[97,110,121]⟩:ByteArray)] from rfl) (Reps.one (show Kd.M Kd.string _ _ _ (⟨#[65]⟩:ByteArray) [.string (⟨#[65]⟩:ByteArray)] from rfl) (Reps.one (show Kd.M Kd.string _ _ _ (⟨#[116,111,111,108,111,110,103]⟩:ByteArray) [.string (⟨#[116,111,111,108,111,110,103]⟩:ByteArray)] from rfl) (Reps.none _ _))))))
    intro v589 w20 ho21 hb hg_ hnew_
    clear hg_ hnew_
    (first | rw [← Ny588.out] at ho21 |(simp only [Int.reduceToNat] at ho21;rw [← Ny588.out] at ho21))
    have HO590:=am (Kd.jla ho21 (jma (w:=w) (g:=g) (row:=none) (Y19)))
    replace HO581:=am (Kd.jP (rq HO581.out) hb)
    replace BK578:=am (je (g:=gb578) (o:=.cells #[.slice none 0 0] 37 (0,0)) (kq BK578.out) hb)
    replace BK583:=am (je (g:=gb583) (o:=.cells #[.slice Ao13 t579.length co13] 37 (0,0)) (kq BK583.out) hb)
    replace HK:=am (jh.trans (Y19) (jh.of_below hb g none) (.inl rfl))
    replace HB:=am (jl (Y25) hb)
    replace HI0:=am (jg.below (Y9) hb)
    clear hb ho21
    obtain ⟨Ao22,co22,eo22⟩:=Kd.jaa HO590.out
    (first | subst eo22 |(injection eo22 with f1_ f2_ f3_;have f4_:=f1_.symm;have f5_:=f3_.symm;clear f1_ f2_ f3_;subst f4_;subst f5_))
    refine hK.out _ _ ((jH BK583.out 0).trans rfl) (fun hHeld=>?_)
    clear hK K
    refine jLb (a':=?_) ?_ ?_
    rotate_left
    ·show Act.put _ (some 20) _=_
     simp only [Act.put,List.setIfInBounds_toArray,List.set_cons_zero,List.set_cons_succ,jjb,job]
     rfl
    refine one_ (i:=5) (N:=some 21) #[true,true,true,true,true,true,false,false,false] rfl rfl (jUa HT_.out (by kernel_rfl)) (by decide) (fun K hK=>?_)
    refine goes_ Try.func106 (by kernel_rfl) rfl #[.pointer (some ⟨g,0,none⟩), .slice Ao22 y588.length co22] (by rfl) rfl rfl (aq) ?_
    with_reducible refine (jPa.calls k g s0_0 t587 _ _ y588 t591 t592 w0 _ ?side1 ?side2 ?side3 ?side4 ?side5 A6.out).mono ?_
    (case side1=>exact Y9)
    (case side2=>exact Y25)
    (case side3=>exact cq (Kd.jB HO590.out).2.2)
    (case side4=>exact (Kd.jB HO590.out).2.1)
    (case side5=>exact jxb (jg.own_ne HI0.out HO590.out (by decide)))
    rintro e w23 ⟨rfl,hi,hb,hk⟩
    refine ⟨_,rfl,?_⟩
    replace BK578:=am (jh.blk hk (g':=gb578) (o:=.cells #[.slice none 0 0] 37 (0,0)) (kq BK578.out) NB578_0.out (by simp))
    replace HO581:=am (Kd.jD (Kd.jqa (jg.apart (show jg w0 _ g s0_0 t587 from Y9) (rq HO581.out) (by decide)) hk (fun _ h=>h.2)) (fun _ h=>h.1))
    replace BK583:=am (jh.blk hk (g':=gb583) (o:=.cells #[.slice Ao13 t579.length co13] 37 (0,0)) (kq BK583.out) NB583_0.out (by simp))
    replace HO590:=am (Kd.jD (Kd.jqa (jg.apart (show jg w0 _ g s0_0 t587 from Y9) (rq HO590.out) (by decide)) hk (fun _ h=>h.2)) (fun _ h=>h.1))
    replace HK:=am (jh.trans (Y19) hk (.inl rfl))
    replace HB:=am (hb)
    replace HI0:=am (hi)
    (try clear hb)
    (try clear hb2)
    (try clear hk)
    (try clear hi)
    have p9:0≤(t584:Int):=ozD (uq)
    have q9:(t584:Int)<((t579.length:Int):Int):=ozD (uq)
    obtain ⟨go9,co9,eo9,gb9,gl9,cl9,HG9⟩:=Kd.R_form HO581.out (by omega)
    (first | cases eo9 |(injection eo9 with ea_ en_ ec_;(first | subst ea_ |(injection ea_ with ea_;subst ea_));subst ec_;clear en_))
    have GB9:=am gb9
    have GG9:=am HG9
    clear gb9 gl9 HG9
    obtain ⟨ce9,hcl9,hM9,hcc9,hfr9⟩:=Kd.jub HO581.out z94 (t584:Int) p9 q9
    obtain rfl:=k94_openM hM9
    have hx9_0:World.cell? _ ⟨go9,(t584:Int).toNat * 2,none⟩=some (.string ((jZ t579 t584).f0)):=hcc9 0 _ rfl
    have hx9_1:World.cell? _ ⟨go9,(t584:Int).toNat * 2+1,none⟩=some (.int .i64 ((jZ t579 t584).f1)):=hcc9 1 _ rfl
    have hf9_0:World.frozen? _ ⟨go9,(t584:Int).toNat * 2,none⟩=false:=hfr9 0
    have hf9_1:World.frozen? _ ⟨go9,(t584:Int).toNat * 2+1,none⟩=false:=hfr9 1
    clear hcl9 hcc9 hfr9 hM9
    replace p9:=ezT p9
    replace q9:=ezT q9
    have HN0_go9:=am (show g≠go9 from by have h_:=jg.own_ne HI0.out HO581.out (by decide);intro e_;exact h_ (by rw [e_];rfl))
    obtain ⟨ce24,hcl24,hM24,hcc24,hfr24⟩:=Kd.jub HO581.out z94 (t584:Int) (ozD (uq)) (by have h_:(t584:Int)<((t579.length:Int):Int):=ozD (uq);first | exact h_ |(have e_:=(Kd.jB HO581.out).1;omega) | simpa using h_)
    obtain rfl:=k94_openM hM24
    have HP24:=(Kd.R_seg HO581.out (t584:Int) (ozD (uq)) (by have h_:(t584:Int)<((t579.length:Int):Int):=ozD (uq);first | exact h_ |(have e_:=(Kd.jB HO581.out).1;omega) | simpa using h_) (seg:=[.string t591]) (j:=0) hcl24 hcc24 (show 1≤2 from by decide) (x':=(⟨t591,(jZ t579 t584).f1⟩:S94)) (k94_mkM _ _ _ (⟨t591,(jZ t579 t584).f1⟩:S94) ) (fun _ hk=>hk)).1
    rw [← Ny593.out] at HP24
    have HQ24:=am HP24
    clear hcl24 hcc24 hfr24 hM24 HP24
    refine hK.out _ _ ((jH BK583.out 0).trans rfl) (fun hHeld=>?_)
    clear hK K
    refine jLb (a':=?_) ?_ ?_
    rotate_left
    ·show Act.put _ (some 21) _=_
     simp only [Act.put,List.setIfInBounds_toArray,List.set_cons_zero,List.set_cons_succ,jjb,job]
     rfl
    refine pq (i:=6) (N:=some 22) #[true,true,true,true,true,true,true,false,false] ?_
    refine pq (i:=7) (N:=some 23) #[true,true,true,true,true,true,true,true,false] ?_
    refine last_ (i:=8) (N:=none) #[true,true,true,true,true,true,true,true,true] rfl rfl (jUa HT_.out (by kernel_rfl)) (by decide) (fun K hK=>?_)
    refine jQb (w1:=?_) (by rfl) rfl ?_ ?_
    rotate_left
    ·go_simp
     rfl
    refine hK.out _ _ ?_
    clear hK K
    refine done_ (jWb HT_.out (by kernel_rfl)) ?_
    have n0_:jw (Kd.R k94 94 (w23.setCell ⟨go9,(t584:Int).toNat * 2,none⟩ (.string t591)) w.heap.size (fun _=>True) (.slice (some ⟨go9,0,none⟩) t579.length co13) y593):=⟨rq HQ24.out⟩
    have n1_:jw (Kd.R Kd.string 9 (w23.setCell ⟨go9,(t584:Int).toNat * 2,none⟩ (.string t591)) w.heap.size (fun _=>True) (.slice Ao22 y588.length co22) y588):=⟨by (with_reducible repeat (first | apply Kd.jL | apply Kd.jM | apply Kd.jN));exact Kd.jD (Kd.jX (p:=⟨go9,(t584:Int).toNat * 2,none⟩) (Kd.jJ HO590.out GG9.out (by decide)) (fun _ hk=>hk.2) (.string t591)) (fun _ hk=>trivial)⟩
    have n2_:jw ((w23.setCell ⟨go9,(t584:Int).toNat * 2,none⟩ (.string t591)).heap[gb578]?=some (.cells #[.slice none 0 0] 37 (0,0))):=⟨by (with_reducible repeat (first | refine jb ?_ _ | refine jd ?_ | refine jc ?_ _));refine jA ?_ (by have h_:=Kd.R_ne HO581.out BK578.out (by decide);intro e_;exact h_ (by rw [e_];rfl)) _;(with_reducible repeat (first | refine jb ?_ _ | refine jd ?_ | refine jc ?_ _));exact BK578.out⟩
    have n3_:jw ((w23.setCell ⟨go9,(t584:Int).toNat * 2,none⟩ (.string t591)).heap[gb583]?=some (.cells #[.slice (some ⟨go9,0,none⟩) t579.length co13] 37 (0,0))):=⟨by (with_reducible repeat (first | refine jb ?_ _ | refine jd ?_ | refine jc ?_ _));refine jA ?_ (by have h_:=Kd.R_ne HO581.out BK583.out (by decide);intro e_;exact h_ (by rw [e_];rfl)) _;(with_reducible repeat (first | refine jb ?_ _ | refine jd ?_ | refine jc ?_ _));exact BK583.out⟩
    have n4_:jw (jg w0 (w23.setCell ⟨go9,(t584:Int).toNat * 2,none⟩ (.string t591)) g s0_0 t592):=⟨by repeat (first |(with_reducible first | exact HI0.out | apply jg.alloc | apply jg.drewN | apply jg.drew | apply jg.jmb | refine jg.far ?_ HN0_go9.out _ | refine jg.far ?_ NB0_578.out _ | refine jg.far ?_ NB0_583.out _) | exact HI0.out)⟩
    have n5_:jw (jh w (w23.setCell ⟨go9,(t584:Int).toNat * 2,none⟩ (.string t591)) g none):=⟨by repeat (first |(with_reducible first | exact HK.out | apply jh.set_ | apply jAa | apply jka | apply jBa | refine jba ?_ GB9.out _ | refine jba ?_ GW578.out _ | refine jba ?_ GW583.out _) | exact HK.out)⟩
    have n6_:jw (Below w0.heap.size w0 (w23.setCell ⟨go9,(t584:Int).toNat * 2,none⟩ (.string t591))):=⟨by repeat (first |(with_reducible first | exact HB.out | apply jy | apply jo | apply jr | refine jk ?_ (Nat.le_trans HL.out GB9.out) | refine jk ?_ (jg.ge HI0.out) | refine jk ?_ GE578.out | refine jk ?_ GE583.out) | exact HB.out)⟩
    (try clear HO581)
    (try clear HO590)
    (try clear BK578)
    (try clear BK583)
    (try clear HI0)
    (try clear HK)
    (try clear HB)
    generalize (w23.setCell ⟨go9,(t584:Int).toNat * 2,none⟩ (.string t591))=w25 at n0_ n1_ n2_ n3_ n4_ n5_ n6_ ⊢
    have HO581:=n0_
    have HO590:=n1_
    have BK578:=n2_
    have BK583:=n3_
    have HI0:=n4_
    have HK:=n5_
    have HB:=n6_
    clear n0_ n1_ n2_ n3_ n4_ n5_ n6_
    have hcz26_0:=bc0 BK583.out
    have hfz26_0:=jf BK583.out 0
    have hnb27:=NB578_0.out
    have hnc27:=NB0_578.out
    have hcz28_0:=bc0 BK578.out
    have hfz28_0:=jf BK578.out 0
    try go_wp2
    refine bodyPost_ret (results_cell_row rfl _ _ gb578 37 #[.slice (some ⟨go9,0,none⟩) t579.length co13] (0,0) _ rfl (Y118) Try.underlying37 rfl (by kernel_rfl)) rfl ?_
    exact ⟨_,Y2,by (with_reducible repeat (first | apply Kd.jL | apply Kd.jM | apply Kd.jN));exact Kd.jD (Kd.jX (p:=⟨gb578,0,none⟩) (Kd.jJ HO581.out BK578.out (by decide)) (fun _ hk=>hk.2) (.slice (some ⟨go9,0,none⟩) t579.length co13)) (fun _ hk=>trivial),Y9,Y25,Y19⟩
   ·rw [if_neg c8] at H
    exact absurd H (by simp)
  ·rw [if_neg c7] at H
   exact absurd H (by simp)
 ·rw [if_neg c5] at H
  have c5b0:(t586 == 0)=false:=beq_eq_false_iff_ne.mpr c5
  have c5b1:(t586 != 0)=true:=bne_iff_ne.mpr c5
  by_cases c29:t586=1
  ·rw [if_pos c29] at H
   have c29b0:(t586 == 1)=true:=beq_iff_eq.mpr c29
   have c29b1:(t586 != 1)=false:=bne_eq_false_iff_eq.mpr c29
   clear c29
   obtain ⟨y594,hy594⟩:∃ y_:List Int,y_=(([t584,(-1),8,(-2)]:List Int)):=⟨_,rfl⟩
   replace H:((jE.f k s0_0 t587 y594).bind fun bt597=>(if 0≤t584 then (if t584<(t579.length:Int) then (some ((t579.set (t584:Int).toNat (⟨(jZ t579 t584).f0,bt597.1⟩:S94)),bt597.2)) else (none)) else (none)))=some (r1,r2):=by first |(rw [hy594];with_reducible exact H) |(have H2_:=(Option.bind_some _ _).symm.trans H;rw [hy594];with_reducible exact H2_) |(have H2_:=(Option.bind_some _ _).symm.trans H;with_reducible exact H2_) | with_reducible exact H |(rw [hy594];exact H) | exact H
   have Ny594:=am hy594
   clear hy594
   replace H:=bzS H
   obtain ⟨⟨t597,t598⟩,A300,H⟩:=H
   replace H:(if 0≤t584 then (if t584<(t579.length:Int) then (some ((t579.set (t584:Int).toNat (⟨(jZ t579 t584).f0,t597⟩:S94)),t598)) else (none)) else (none))=some (r1,r2):=H
   have A30:=am A300
   clear A300
   by_cases c31:0≤t584
   ·rw [if_pos c31] at H
    have c31b0:decide (0≤t584)=true:=dzT c31
    clear c31
    by_cases c32:t584<(t579.length:Int)
    ·rw [if_pos c32] at H
     have c32b0:decide (t584<(t579.length:Int))=true:=dzT c32
     clear c32
     obtain ⟨y599,hy599⟩:∃ y_:List (S94),y_=(t579.set (t584:Int).toNat (⟨(jZ t579 t584).f0,t597⟩:S94)):=⟨_,rfl⟩
     replace H:(some (y599,t598))=some (r1,r2):=by first |(rw [hy599];with_reducible exact H) |(have H2_:=(Option.bind_some _ _).symm.trans H;rw [hy599];with_reducible exact H2_) |(have H2_:=(Option.bind_some _ _).symm.trans H;with_reducible exact H2_) | with_reducible exact H |(rw [hy599];exact H) | exact H
     have Ny599:=am hy599
     clear hy599
     simp only [Option.some.injEq,Prod.mk.injEq] at H
     obtain ⟨rfl,rfl⟩:=H
     go_enter Try.func87,Try.ntmps87
     try go_wp2_with (first |((with_reducible refine jI (N:=2) rfl ?_);refine bE (N:=2) (cs:=#[.slice none 0 0]) (t:=37) ?_;intro gb578 hg w34 hbox hb;have BK578:=am (hbox);have GW578:=am ((Y8:w.heap.size≤gb578));have GE578:=am ((Nat.le_trans HW0.out (Y8:w.heap.size≤gb578):w0.heap.size≤gb578));have NB0_578:=am ((Y26:g≠gb578));have NB578_0:=am ((Y27:gb578≠g));replace HK:=am (jh.trans (Y16) (jh.of_below hb g none) (.inl rfl));replace HB:=am (jl (Y17) hb);replace HI0:=am (jg.below (Y15) hb);clear hb hbox hg) |((with_reducible refine jC (f:=105) rfl ?_);refine gL (some 6) Try.func105 #[.pointer (some ⟨g,0,none⟩)] ?_;(with_reducible refine (jW.calls k g s0_0 s0_1 t579 t582 w0 _ ?side1 ?side2 A2.out).mono ?_);(case side1=>exact Y50);(case side2=>exact Y51);rintro e w35 ⟨v580,rfl,ho0,hi,hb,hk⟩;refine ⟨_,rfl,?_⟩;have HO581:=am (Kd.jla ho0 (jma (w:=w) (g:=g) (row:=none) (Y31)));replace BK578:=am (jh.blk hk (g':=gb578) (o:=.cells #[.slice none 0 0] 37 (0,0)) (kq BK578.out) NB578_0.out (by simp));replace HK:=am (jh.trans (Y31) hk (.inl rfl));replace HB:=am (hb);replace HI0:=am (hi);(try clear hb);(try clear hb2);(try clear hk);(try clear hi);(try clear ho0)) |((with_reducible refine jI (N:=3) rfl ?_);refine bE (N:=3) (cs:=#[.slice none 0 0]) (t:=37) ?_;intro gb583 hg w36 hbox hb;have BK583:=am (hbox);have GW583:=am ((Y52:w.heap.size≤gb583));have GE583:=am ((Nat.le_trans HW0.out (Y52:w.heap.size≤gb583):w0.heap.size≤gb583));have NB578_583:=am ((Y112:gb578≠gb583));have NB583_578:=am ((Y113:gb583≠gb578));have NB0_583:=am ((Y114:g≠gb583));have NB583_0:=am ((Y115:gb583≠g));replace HO581:=am (Kd.jP (rq HO581.out) hb);replace BK578:=am (je (g:=gb578) (o:=.cells #[.slice none 0 0] 37 (0,0)) (kq BK578.out) hb);replace HK:=am (jh.trans (Y31) (jh.of_below hb g none) (.inl rfl));replace HB:=am (jl (Y51) hb);replace HI0:=am (jg.below (Y50) hb);clear hb hbox hg;obtain ⟨Ao37,co37,eo37⟩:=Kd.jaa HO581.out;subst eo37;have hnb38:=NB583_578.out;have hnc38:=NB578_583.out;have hnb39:=NB583_0.out;have hnc39:=NB0_583.out;have hcz40_0:=bc0 BK583.out;have hfz40_0:=jf BK583.out 0) |((with_reducible refine jC (f:=88) rfl ?_);refine gL (some 11) Try.func88 #[.pointer (some ⟨g,0,none⟩), .int .i64 (t579.length:Int)] ?_;(with_reducible refine (jq.calls k g s0_0 t582 (t579.length:Int) t584 t585 w0 _ ?side1 ?side2 A3.out).mono ?_);(case side1=>exact Y9);(case side2=>exact Y25);rintro e w41 ⟨rfl,hi,hb,hk⟩;refine ⟨_,rfl,?_⟩;replace BK578:=am (jh.blk hk (g':=gb578) (o:=.cells #[.slice none 0 0] 37 (0,0)) (Y116) NB578_0.out (by simp));replace HO581:=am (Kd.jD (Kd.jqa (jg.apart (show jg w0 _ g s0_0 t582 from Y9) (by (with_reducible repeat (first | apply Kd.jL | apply Kd.jM | apply Kd.jN));exact (Kd.jD (Kd.jX (p:=⟨gb583,0,none⟩) (Kd.jJ HO581.out BK583.out (by decide)) (fun _ hk=>hk.2) (.slice Ao37 t579.length co37)) (fun _ h_=>h_.1))) (by decide)) hk (fun _ h=>h.2)) (fun _ h=>h.1));replace BK583:=am (jh.blk hk (g':=gb583) (o:=.cells #[.slice Ao37 t579.length co37] 37 (0,0)) (Y117) NB583_0.out (by simp));replace HK:=am (jh.trans (Y19) hk (.inl rfl));replace HB:=am (hb);replace HI0:=am (hi);(try clear hb);(try clear hb2);(try clear hk);(try clear hi)) |((with_reducible refine jC (f:=88) rfl ?_);refine gL (some 13) Try.func88 #[.pointer (some ⟨g,0,none⟩), .int .i64 24] ?_;(with_reducible refine (jq.calls k g s0_0 t585 24 t586 t587 w0 _ ?side1 ?side2 A4.out).mono ?_);(case side1=>exact Y9);(case side2=>exact Y25);rintro e w42 ⟨rfl,hi,hb,hk⟩;refine ⟨_,rfl,?_⟩;replace BK578:=am (jh.blk hk (g':=gb578) (o:=.cells #[.slice none 0 0] 37 (0,0)) (kq BK578.out) NB578_0.out (by simp));replace HO581:=am (Kd.jD (Kd.jqa (jg.apart (show jg w0 _ g s0_0 t585 from Y9) (rq HO581.out) (by decide)) hk (fun _ h=>h.2)) (fun _ h=>h.1));replace BK583:=am (jh.blk hk (g':=gb583) (o:=.cells #[.slice Ao37 t579.length co37] 37 (0,0)) (kq BK583.out) NB583_0.out (by simp));replace HK:=am (jh.trans (Y19) hk (.inl rfl));replace HB:=am (hb);replace HI0:=am (hi);(try clear hb);(try clear hb2);(try clear hk);(try clear hi)))
     replace HO581:=am (Kd.jN HO581.out)
     replace BK578:=am (jd BK578.out)
     replace BK583:=am (jd BK583.out)
     replace HI0:=am (jg.drew HI0.out)
     replace HK:=am (jka HK.out)
     replace HB:=am (jr HB.out)
     refine jPb (n:=10) (S:=fun w'=>w'.cell? ⟨gb583,0,none⟩=some (.slice Ao37 t579.length co37)) (ds:=[9]) #[false,false,false,false,false,false,false,false,false,false] (by kernel_rfl) rfl rfl ((jH BK583.out 0).trans rfl) (fun hHeld=>?_);refine jvb jca.tab7 jca.bits7 (fun HT_ HW_=>?_)
     generalize w42.drew=w43 at HO581 BK578 BK583 HI0 HK HB hHeld ⊢
     refine pq (i:=0) (N:=some 26) #[true,false,false,false,false,false,false,false,false,false] ?_
     refine pq (i:=2) (N:=some 28) #[true,false,true,false,false,false,false,false,false,false] ?_
     refine pq (i:=3) (N:=some 29) #[true,false,true,true,false,false,false,false,false,false] ?_
     refine pq (i:=4) (N:=some 30) #[true,false,true,true,true,false,false,false,false,false] ?_
     refine jwb (i:=1) (N:=some 27) (v:=?_) (a':=?_) #[true,true,true,true,true,false,false,false,false,false] rfl rfl (jZa HT_.out HW_.out (by kernel_rfl)) (fun _ _ _ h=>h) (Or.inl ⟨by rfl,?_⟩) hHeld ?_ ?_
     rotate_left
     ·intro w' s0
      go_simp
      with_reducible rfl
     rotate_left
     ·exact sa
     refine one_ (i:=5) (N:=some 31) #[true,true,true,true,true,true,false,false,false,false] rfl rfl (jUa HT_.out (by kernel_rfl)) (by decide) (fun K hK=>?_)
     refine Kd.jIb (Kd.int .i64) _ 3 ?hg (N:=31) ?hd (xs:=([t584,(-1),8,(-2)]:List Int)) (inner:=[.int .i64 t584, .int .i64 (-1), .int .i64 8, .int .i64 (-2)]) (ok:=fun _=>True) (okp:=fun _=>True) ?hr ?hp (fun _ hk=>hk) trivial (Below.refl _ _) (Nat.le_refl _) (by simp) ?_;(case hd=>rfl);(case hg=>rfl);(case hr=>exact Y4);(case hp=>exact (Reps.one (show Kd.M (Kd.int .i64) _ _ _ t584 [.int .i64 t584] from rfl) (Reps.one (show Kd.M (Kd.int .i64) _ _ _ (-1) [.int .i64 (-1)] from rfl) (Reps.one (show Kd.M (Kd.int .i64) _ _ _ 8 [.int .i64 8] from rfl) (Reps.one (show Kd.M (Kd.int .i64) _ _ _ (-2) [.int .i64 (-2)] from rfl) (Reps.none _ _))))))
     intro v595 w44 ho45 hb hg_ hnew_
     clear hg_ hnew_
     (first | rw [← Ny594.out] at ho45 |(simp only [Int.reduceToNat] at ho45;rw [← Ny594.out] at ho45))
     have HO596:=am (Kd.jla ho45 (jma (w:=w) (g:=g) (row:=none) (Y19)))
     replace HO581:=am (Kd.jP (rq HO581.out) hb)
     replace BK578:=am (je (g:=gb578) (o:=.cells #[.slice none 0 0] 37 (0,0)) (kq BK578.out) hb)
     replace BK583:=am (je (g:=gb583) (o:=.cells #[.slice Ao37 t579.length co37] 37 (0,0)) (kq BK583.out) hb)
     replace HK:=am (jh.trans (Y19) (jh.of_below hb g none) (.inl rfl))
     replace HB:=am (jl (Y25) hb)
     replace HI0:=am (jg.below (Y9) hb)
     clear hb ho45
     obtain ⟨Ao46,co46,eo46⟩:=Kd.jaa HO596.out
     (first | subst eo46 |(injection eo46 with f1_ f2_ f3_;have f4_:=f1_.symm;have f5_:=f3_.symm;clear f1_ f2_ f3_;subst f4_;subst f5_))
     refine hK.out _ _ ((jH BK583.out 0).trans rfl) (fun hHeld=>?_)
     clear hK K
     refine jLb (a':=?_) ?_ ?_
     rotate_left
     ·show Act.put _ (some 31) _=_
      simp only [Act.put,List.setIfInBounds_toArray,List.set_cons_zero,List.set_cons_succ,jjb,job]
      rfl
     refine one_ (i:=6) (N:=some 32) #[true,true,true,true,true,true,true,false,false,false] rfl rfl (jUa HT_.out (by kernel_rfl)) (by decide) (fun K hK=>?_)
     refine goes_ Try.func89 (by kernel_rfl) rfl #[.pointer (some ⟨g,0,none⟩), .slice Ao46 y594.length co46] (by rfl) rfl rfl (aq) ?_
     with_reducible refine (jE.calls k g s0_0 t587 _ _ y594 t597 t598 w0 _ ?side1 ?side2 ?side3 ?side4 ?side5 A30.out).mono ?_
     (case side1=>exact Y9)
     (case side2=>exact Y25)
     (case side3=>exact cq (Kd.jB HO596.out).2.2)
     (case side4=>exact (Kd.jB HO596.out).2.1)
     (case side5=>exact jxb (jg.own_ne HI0.out HO596.out (by decide)))
     rintro e w47 ⟨rfl,hi,hb,hk⟩
     refine ⟨_,rfl,?_⟩
     replace BK578:=am (jh.blk hk (g':=gb578) (o:=.cells #[.slice none 0 0] 37 (0,0)) (kq BK578.out) NB578_0.out (by simp))
     replace HO581:=am (Kd.jD (Kd.jqa (jg.apart (show jg w0 _ g s0_0 t587 from Y9) (rq HO581.out) (by decide)) hk (fun _ h=>h.2)) (fun _ h=>h.1))
     replace BK583:=am (jh.blk hk (g':=gb583) (o:=.cells #[.slice Ao37 t579.length co37] 37 (0,0)) (kq BK583.out) NB583_0.out (by simp))
     replace HO596:=am (Kd.jD (Kd.jqa (jg.apart (show jg w0 _ g s0_0 t587 from Y9) (rq HO596.out) (by decide)) hk (fun _ h=>h.2)) (fun _ h=>h.1))
     replace HK:=am (jh.trans (Y19) hk (.inl rfl))
     replace HB:=am (hb)
     replace HI0:=am (hi)
     (try clear hb)
     (try clear hb2)
     (try clear hk)
     (try clear hi)
     have p33:0≤(t584:Int):=ozD (uq)
     have q33:(t584:Int)<((t579.length:Int):Int):=ozD (uq)
     obtain ⟨go33,co33,eo33,gb33,gl33,cl33,HG33⟩:=Kd.R_form HO581.out (by omega)
     (first | cases eo33 |(injection eo33 with ea_ en_ ec_;(first | subst ea_ |(injection ea_ with ea_;subst ea_));subst ec_;clear en_))
     have GB33:=am gb33
     have GG33:=am HG33
     clear gb33 gl33 HG33
     obtain ⟨ce33,hcl33,hM33,hcc33,hfr33⟩:=Kd.jub HO581.out z94 (t584:Int) p33 q33
     obtain rfl:=k94_openM hM33
     have hx33_0:World.cell? _ ⟨go33,(t584:Int).toNat * 2,none⟩=some (.string ((jZ t579 t584).f0)):=hcc33 0 _ rfl
     have hx33_1:World.cell? _ ⟨go33,(t584:Int).toNat * 2+1,none⟩=some (.int .i64 ((jZ t579 t584).f1)):=hcc33 1 _ rfl
     have hf33_0:World.frozen? _ ⟨go33,(t584:Int).toNat * 2,none⟩=false:=hfr33 0
     have hf33_1:World.frozen? _ ⟨go33,(t584:Int).toNat * 2+1,none⟩=false:=hfr33 1
     clear hcl33 hcc33 hfr33 hM33
     replace p33:=ezT p33
     replace q33:=ezT q33
     have HN0_go33:=am (show g≠go33 from by have h_:=jg.own_ne HI0.out HO581.out (by decide);intro e_;exact h_ (by rw [e_];rfl))
     obtain ⟨ce48,hcl48,hM48,hcc48,hfr48⟩:=Kd.jub HO581.out z94 (t584:Int) (ozD (uq)) (by have h_:(t584:Int)<((t579.length:Int):Int):=ozD (uq);first | exact h_ |(have e_:=(Kd.jB HO581.out).1;omega) | simpa using h_)
     obtain rfl:=k94_openM hM48
     have HP48:=(Kd.R_seg HO581.out (t584:Int) (ozD (uq)) (by have h_:(t584:Int)<((t579.length:Int):Int):=ozD (uq);first | exact h_ |(have e_:=(Kd.jB HO581.out).1;omega) | simpa using h_) (seg:=[.int .i64 t597]) (j:=1) hcl48 hcc48 (show 2≤2 from by decide) (x':=(⟨(jZ t579 t584).f0,t597⟩:S94)) (k94_mkM _ _ _ (⟨(jZ t579 t584).f0,t597⟩:S94) ) (fun _ hk=>hk)).1
     rw [← Ny599.out] at HP48
     have HQ48:=am HP48
     clear hcl48 hcc48 hfr48 hM48 HP48
     refine hK.out _ _ ((jH BK583.out 0).trans rfl) (fun hHeld=>?_)
     clear hK K
     refine jLb (a':=?_) ?_ ?_
     rotate_left
     ·show Act.put _ (some 32) _=_
      simp only [Act.put,List.setIfInBounds_toArray,List.set_cons_zero,List.set_cons_succ,jjb,job]
      rfl
     refine pq (i:=7) (N:=some 33) #[true,true,true,true,true,true,true,true,false,false] ?_
     refine pq (i:=8) (N:=some 34) #[true,true,true,true,true,true,true,true,true,false] ?_
     refine last_ (i:=9) (N:=none) #[true,true,true,true,true,true,true,true,true,true] rfl rfl (jUa HT_.out (by kernel_rfl)) (by decide) (fun K hK=>?_)
     refine jQb (w1:=?_) (by rfl) rfl ?_ ?_
     rotate_left
     ·go_simp
      rfl
     refine hK.out _ _ ?_
     clear hK K
     refine done_ (jWb HT_.out (by kernel_rfl)) ?_
     have n0_:jw (Kd.R k94 94 (w47.setCell ⟨go33,(t584:Int).toNat * 2+1,none⟩ (.int .i64 t597)) w.heap.size (fun _=>True) (.slice (some ⟨go33,0,none⟩) t579.length co37) y599):=⟨rq HQ48.out⟩
     have n1_:jw (Kd.R (Kd.int .i64) 3 (w47.setCell ⟨go33,(t584:Int).toNat * 2+1,none⟩ (.int .i64 t597)) w.heap.size (fun _=>True) (.slice Ao46 y594.length co46) y594):=⟨by (with_reducible repeat (first | apply Kd.jL | apply Kd.jM | apply Kd.jN));exact Kd.jD (Kd.jX (p:=⟨go33,(t584:Int).toNat * 2+1,none⟩) (Kd.jJ HO596.out GG33.out (by decide)) (fun _ hk=>hk.2) (.int .i64 t597)) (fun _ hk=>trivial)⟩
     have n2_:jw ((w47.setCell ⟨go33,(t584:Int).toNat * 2+1,none⟩ (.int .i64 t597)).heap[gb578]?=some (.cells #[.slice none 0 0] 37 (0,0))):=⟨by (with_reducible repeat (first | refine jb ?_ _ | refine jd ?_ | refine jc ?_ _));refine jA ?_ (by have h_:=Kd.R_ne HO581.out BK578.out (by decide);intro e_;exact h_ (by rw [e_];rfl)) _;(with_reducible repeat (first | refine jb ?_ _ | refine jd ?_ | refine jc ?_ _));exact BK578.out⟩
     have n3_:jw ((w47.setCell ⟨go33,(t584:Int).toNat * 2+1,none⟩ (.int .i64 t597)).heap[gb583]?=some (.cells #[.slice (some ⟨go33,0,none⟩) t579.length co37] 37 (0,0))):=⟨by (with_reducible repeat (first | refine jb ?_ _ | refine jd ?_ | refine jc ?_ _));refine jA ?_ (by have h_:=Kd.R_ne HO581.out BK583.out (by decide);intro e_;exact h_ (by rw [e_];rfl)) _;(with_reducible repeat (first | refine jb ?_ _ | refine jd ?_ | refine jc ?_ _));exact BK583.out⟩
     have n4_:jw (jg w0 (w47.setCell ⟨go33,(t584:Int).toNat * 2+1,none⟩ (.int .i64 t597)) g s0_0 t598):=⟨by repeat (first |(with_reducible first | exact HI0.out | apply jg.alloc | apply jg.drewN | apply jg.drew | apply jg.jmb | refine jg.far ?_ HN0_go33.out _ | refine jg.far ?_ NB0_578.out _ | refine jg.far ?_ NB0_583.out _) | exact HI0.out)⟩
     have n5_:jw (jh w (w47.setCell ⟨go33,(t584:Int).toNat * 2+1,none⟩ (.int .i64 t597)) g none):=⟨by repeat (first |(with_reducible first | exact HK.out | apply jh.set_ | apply jAa | apply jka | apply jBa | refine jba ?_ GB33.out _ | refine jba ?_ GW578.out _ | refine jba ?_ GW583.out _) | exact HK.out)⟩
     have n6_:jw (Below w0.heap.size w0 (w47.setCell ⟨go33,(t584:Int).toNat * 2+1,none⟩ (.int .i64 t597))):=⟨by repeat (first |(with_reducible first | exact HB.out | apply jy | apply jo | apply jr | refine jk ?_ (Nat.le_trans HL.out GB33.out) | refine jk ?_ (jg.ge HI0.out) | refine jk ?_ GE578.out | refine jk ?_ GE583.out) | exact HB.out)⟩
     (try clear HO581)
     (try clear HO596)
     (try clear BK578)
     (try clear BK583)
     (try clear HI0)
     (try clear HK)
     (try clear HB)
     generalize (w47.setCell ⟨go33,(t584:Int).toNat * 2+1,none⟩ (.int .i64 t597))=w49 at n0_ n1_ n2_ n3_ n4_ n5_ n6_ ⊢
     have HO581:=n0_
     have HO596:=n1_
     have BK578:=n2_
     have BK583:=n3_
     have HI0:=n4_
     have HK:=n5_
     have HB:=n6_
     clear n0_ n1_ n2_ n3_ n4_ n5_ n6_
     have hcz50_0:=bc0 BK583.out
     have hfz50_0:=jf BK583.out 0
     have hnb51:=NB578_0.out
     have hnc51:=NB0_578.out
     have hcz52_0:=bc0 BK578.out
     have hfz52_0:=jf BK578.out 0
     try go_wp2
     refine bodyPost_ret (results_cell_row rfl _ _ gb578 37 #[.slice (some ⟨go33,0,none⟩) t579.length co37] (0,0) _ rfl (Y118) Try.underlying37 rfl (by kernel_rfl)) rfl ?_
     exact ⟨_,Y2,by (with_reducible repeat (first | apply Kd.jL | apply Kd.jM | apply Kd.jN));exact Kd.jD (Kd.jX (p:=⟨gb578,0,none⟩) (Kd.jJ HO581.out BK578.out (by decide)) (fun _ hk=>hk.2) (.slice (some ⟨go33,0,none⟩) t579.length co37)) (fun _ hk=>trivial),Y9,Y25,Y19⟩
    ·rw [if_neg c32] at H
     exact absurd H (by simp)
   ·rw [if_neg c31] at H
    exact absurd H (by simp)
  ·rw [if_neg c29] at H
   have c29b0:(t586 == 1)=false:=beq_eq_false_iff_ne.mpr c29
   have c29b1:(t586 != 1)=true:=bne_iff_ne.mpr c29
   by_cases c53:t586=2
   ·rw [if_pos c53] at H
    have c53b0:(t586 == 2)=true:=beq_iff_eq.mpr c53
    have c53b1:(t586 != 2)=false:=bne_eq_false_iff_eq.mpr c53
    clear c53
    simp only [Option.some.injEq,Prod.mk.injEq] at H
    obtain ⟨rfl,rfl⟩:=H
    go_enter Try.func87,Try.ntmps87
    go_wp2_with (first |((with_reducible refine jI (N:=2) rfl ?_);refine bE (N:=2) (cs:=#[.slice none 0 0]) (t:=37) ?_;intro gb578 hg w54 hbox hb;have BK578:=am (hbox);have GW578:=am ((Y8:w.heap.size≤gb578));have GE578:=am ((Nat.le_trans HW0.out (Y8:w.heap.size≤gb578):w0.heap.size≤gb578));have NB0_578:=am ((Y26:g≠gb578));have NB578_0:=am ((Y27:gb578≠g));replace HK:=am (jh.trans (Y16) (jh.of_below hb g none) (.inl rfl));replace HB:=am (jl (Y17) hb);replace HI0:=am (jg.below (Y15) hb);clear hb hbox hg) |((with_reducible refine jC (f:=105) rfl ?_);refine gL (some 6) Try.func105 #[.pointer (some ⟨g,0,none⟩)] ?_;(with_reducible refine (jW.calls k g s0_0 s0_1 t579 t582 w0 _ ?side1 ?side2 A2.out).mono ?_);(case side1=>exact Y50);(case side2=>exact Y51);rintro e w55 ⟨v580,rfl,ho0,hi,hb,hk⟩;refine ⟨_,rfl,?_⟩;have HO581:=am (Kd.jla ho0 (jma (w:=w) (g:=g) (row:=none) (Y31)));replace BK578:=am (jh.blk hk (g':=gb578) (o:=.cells #[.slice none 0 0] 37 (0,0)) (kq BK578.out) NB578_0.out (by simp));replace HK:=am (jh.trans (Y31) hk (.inl rfl));replace HB:=am (hb);replace HI0:=am (hi);(try clear hb);(try clear hb2);(try clear hk);(try clear hi);(try clear ho0)) |((with_reducible refine jI (N:=3) rfl ?_);refine bE (N:=3) (cs:=#[.slice none 0 0]) (t:=37) ?_;intro gb583 hg w56 hbox hb;have BK583:=am (hbox);have GW583:=am ((Y52:w.heap.size≤gb583));have GE583:=am ((Nat.le_trans HW0.out (Y52:w.heap.size≤gb583):w0.heap.size≤gb583));have NB578_583:=am ((Y112:gb578≠gb583));have NB583_578:=am ((Y113:gb583≠gb578));have NB0_583:=am ((Y114:g≠gb583));have NB583_0:=am ((Y115:gb583≠g));replace HO581:=am (Kd.jP (rq HO581.out) hb);replace BK578:=am (je (g:=gb578) (o:=.cells #[.slice none 0 0] 37 (0,0)) (kq BK578.out) hb);replace HK:=am (jh.trans (Y31) (jh.of_below hb g none) (.inl rfl));replace HB:=am (jl (Y51) hb);replace HI0:=am (jg.below (Y50) hb);clear hb hbox hg;obtain ⟨Ao57,co57,eo57⟩:=Kd.jaa HO581.out;subst eo57;have hnb58:=NB583_578.out;have hnc58:=NB578_583.out;have hnb59:=NB583_0.out;have hnc59:=NB0_583.out;have hcz60_0:=bc0 BK583.out;have hfz60_0:=jf BK583.out 0) |((with_reducible refine jC (f:=88) rfl ?_);refine gL (some 11) Try.func88 #[.pointer (some ⟨g,0,none⟩), .int .i64 (t579.length:Int)] ?_;(with_reducible refine (jq.calls k g s0_0 t582 (t579.length:Int) t584 t585 w0 _ ?side1 ?side2 A3.out).mono ?_);(case side1=>exact Y9);(case side2=>exact Y25);rintro e w61 ⟨rfl,hi,hb,hk⟩;refine ⟨_,rfl,?_⟩;replace BK578:=am (jh.blk hk (g':=gb578) (o:=.cells #[.slice none 0 0] 37 (0,0)) (Y116) NB578_0.out (by simp));replace HO581:=am (Kd.jD (Kd.jqa (jg.apart (show jg w0 _ g s0_0 t582 from Y9) (by (with_reducible repeat (first | apply Kd.jL | apply Kd.jM | apply Kd.jN));exact (Kd.jD (Kd.jX (p:=⟨gb583,0,none⟩) (Kd.jJ HO581.out BK583.out (by decide)) (fun _ hk=>hk.2) (.slice Ao57 t579.length co57)) (fun _ h_=>h_.1))) (by decide)) hk (fun _ h=>h.2)) (fun _ h=>h.1));replace BK583:=am (jh.blk hk (g':=gb583) (o:=.cells #[.slice Ao57 t579.length co57] 37 (0,0)) (Y117) NB583_0.out (by simp));replace HK:=am (jh.trans (Y19) hk (.inl rfl));replace HB:=am (hb);replace HI0:=am (hi);(try clear hb);(try clear hb2);(try clear hk);(try clear hi)) |((with_reducible refine jC (f:=88) rfl ?_);refine gL (some 13) Try.func88 #[.pointer (some ⟨g,0,none⟩), .int .i64 24] ?_;(with_reducible refine (jq.calls k g s0_0 t585 24 t586 t587 w0 _ ?side1 ?side2 A4.out).mono ?_);(case side1=>exact Y9);(case side2=>exact Y25);rintro e w62 ⟨rfl,hi,hb,hk⟩;refine ⟨_,rfl,?_⟩;replace BK578:=am (jh.blk hk (g':=gb578) (o:=.cells #[.slice none 0 0] 37 (0,0)) (kq BK578.out) NB578_0.out (by simp));replace HO581:=am (Kd.jD (Kd.jqa (jg.apart (show jg w0 _ g s0_0 t585 from Y9) (rq HO581.out) (by decide)) hk (fun _ h=>h.2)) (fun _ h=>h.1));replace BK583:=am (jh.blk hk (g':=gb583) (o:=.cells #[.slice Ao57 t579.length co57] 37 (0,0)) (kq BK583.out) NB583_0.out (by simp));replace HK:=am (jh.trans (Y19) hk (.inl rfl));replace HB:=am (hb);replace HI0:=am (hi);(try clear hb);(try clear hb2);(try clear hk);(try clear hi);have hnb63:=NB578_0.out;have hnc63:=NB0_578.out;have hcz64_0:=bc0 BK578.out;have hfz64_0:=jf BK578.out 0))
    refine bodyPost_ret (results_cell_row rfl _ _ gb578 37 #[.slice none 0 0] (0,0) _ rfl (Y118) Try.underlying37 rfl (by kernel_rfl)) rfl ?_
    exact ⟨_,Y2,Y110,Y9,Y25,Y19⟩
   ·rw [if_neg c53] at H
    have c53b0:(t586 == 2)=false:=beq_eq_false_iff_ne.mpr c53
    have c53b1:(t586 != 2)=true:=bne_iff_ne.mpr c53
    simp only [Option.some.injEq,Prod.mk.injEq] at H
    obtain ⟨rfl,rfl⟩:=H
    go_enter Try.func87,Try.ntmps87
    go_wp2_with (first |((with_reducible refine jI (N:=2) rfl ?_);refine bE (N:=2) (cs:=#[.slice none 0 0]) (t:=37) ?_;intro gb578 hg w65 hbox hb;have BK578:=am (hbox);have GW578:=am ((Y8:w.heap.size≤gb578));have GE578:=am ((Nat.le_trans HW0.out (Y8:w.heap.size≤gb578):w0.heap.size≤gb578));have NB0_578:=am ((Y26:g≠gb578));have NB578_0:=am ((Y27:gb578≠g));replace HK:=am (jh.trans (Y16) (jh.of_below hb g none) (.inl rfl));replace HB:=am (jl (Y17) hb);replace HI0:=am (jg.below (Y15) hb);clear hb hbox hg) |((with_reducible refine jC (f:=105) rfl ?_);refine gL (some 6) Try.func105 #[.pointer (some ⟨g,0,none⟩)] ?_;(with_reducible refine (jW.calls k g s0_0 s0_1 t579 t582 w0 _ ?side1 ?side2 A2.out).mono ?_);(case side1=>exact Y50);(case side2=>exact Y51);rintro e w66 ⟨v580,rfl,ho0,hi,hb,hk⟩;refine ⟨_,rfl,?_⟩;have HO581:=am (Kd.jla ho0 (jma (w:=w) (g:=g) (row:=none) (Y31)));replace BK578:=am (jh.blk hk (g':=gb578) (o:=.cells #[.slice none 0 0] 37 (0,0)) (kq BK578.out) NB578_0.out (by simp));replace HK:=am (jh.trans (Y31) hk (.inl rfl));replace HB:=am (hb);replace HI0:=am (hi);(try clear hb);(try clear hb2);(try clear hk);(try clear hi);(try clear ho0)) |((with_reducible refine jI (N:=3) rfl ?_);refine bE (N:=3) (cs:=#[.slice none 0 0]) (t:=37) ?_;intro gb583 hg w67 hbox hb;have BK583:=am (hbox);have GW583:=am ((Y52:w.heap.size≤gb583));have GE583:=am ((Nat.le_trans HW0.out (Y52:w.heap.size≤gb583):w0.heap.size≤gb583));have NB578_583:=am ((Y112:gb578≠gb583));have NB583_578:=am ((Y113:gb583≠gb578));have NB0_583:=am ((Y114:g≠gb583));have NB583_0:=am ((Y115:gb583≠g));replace HO581:=am (Kd.jP (rq HO581.out) hb);replace BK578:=am (je (g:=gb578) (o:=.cells #[.slice none 0 0] 37 (0,0)) (kq BK578.out) hb);replace HK:=am (jh.trans (Y31) (jh.of_below hb g none) (.inl rfl));replace HB:=am (jl (Y51) hb);replace HI0:=am (jg.below (Y50) hb);clear hb hbox hg;obtain ⟨Ao68,co68,eo68⟩:=Kd.jaa HO581.out;subst eo68;have hnb69:=NB583_578.out;have hnc69:=NB578_583.out;have hnb70:=NB583_0.out;have hnc70:=NB0_583.out;have hcz71_0:=bc0 BK583.out;have hfz71_0:=jf BK583.out 0) |((with_reducible refine jC (f:=88) rfl ?_);refine gL (some 11) Try.func88 #[.pointer (some ⟨g,0,none⟩), .int .i64 (t579.length:Int)] ?_;(with_reducible refine (jq.calls k g s0_0 t582 (t579.length:Int) t584 t585 w0 _ ?side1 ?side2 A3.out).mono ?_);(case side1=>exact Y9);(case side2=>exact Y25);rintro e w72 ⟨rfl,hi,hb,hk⟩;refine ⟨_,rfl,?_⟩;replace BK578:=am (jh.blk hk (g':=gb578) (o:=.cells #[.slice none 0 0] 37 (0,0)) (Y116) NB578_0.out (by simp));replace HO581:=am (Kd.jD (Kd.jqa (jg.apart (show jg w0 _ g s0_0 t582 from Y9) (by (with_reducible repeat (first | apply Kd.jL | apply Kd.jM | apply Kd.jN));exact (Kd.jD (Kd.jX (p:=⟨gb583,0,none⟩) (Kd.jJ HO581.out BK583.out (by decide)) (fun _ hk=>hk.2) (.slice Ao68 t579.length co68)) (fun _ h_=>h_.1))) (by decide)) hk (fun _ h=>h.2)) (fun _ h=>h.1));replace BK583:=am (jh.blk hk (g':=gb583) (o:=.cells #[.slice Ao68 t579.length co68] 37 (0,0)) (Y117) NB583_0.out (by simp));replace HK:=am (jh.trans (Y19) hk (.inl rfl));replace HB:=am (hb);replace HI0:=am (hi);(try clear hb);(try clear hb2);(try clear hk);(try clear hi)) |((with_reducible refine jC (f:=88) rfl ?_);refine gL (some 13) Try.func88 #[.pointer (some ⟨g,0,none⟩), .int .i64 24] ?_;(with_reducible refine (jq.calls k g s0_0 t585 24 t586 t587 w0 _ ?side1 ?side2 A4.out).mono ?_);(case side1=>exact Y9);(case side2=>exact Y25);rintro e w73 ⟨rfl,hi,hb,hk⟩;refine ⟨_,rfl,?_⟩;replace BK578:=am (jh.blk hk (g':=gb578) (o:=.cells #[.slice none 0 0] 37 (0,0)) (kq BK578.out) NB578_0.out (by simp));replace HO581:=am (Kd.jD (Kd.jqa (jg.apart (show jg w0 _ g s0_0 t585 from Y9) (rq HO581.out) (by decide)) hk (fun _ h=>h.2)) (fun _ h=>h.1));replace BK583:=am (jh.blk hk (g':=gb583) (o:=.cells #[.slice Ao68 t579.length co68] 37 (0,0)) (kq BK583.out) NB583_0.out (by simp));replace HK:=am (jh.trans (Y19) hk (.inl rfl));replace HB:=am (hb);replace HI0:=am (hi);(try clear hb);(try clear hb2);(try clear hk);(try clear hi);have hcz74_0:=bc0 BK583.out;have hfz74_0:=jf BK583.out 0;have hnb75:=NB578_0.out;have hnc75:=NB0_578.out;have hcz76_0:=bc0 BK578.out;have hfz76_0:=jf BK578.out 0))
    refine bodyPost_ret (results_cell_row rfl _ _ gb578 37 #[.slice Ao68 t579.length co68] (0,0) _ rfl (Y118) Try.underlying37 rfl (by kernel_rfl)) rfl ?_
    exact ⟨_,Y2,by (with_reducible repeat (first | apply Kd.jL | apply Kd.jM | apply Kd.jN));exact Kd.jD (Kd.jX (p:=⟨gb578,0,none⟩) (Kd.jJ HO581.out BK578.out (by decide)) (fun _ hk=>hk.2) (.slice Ao68 t579.length co68)) (fun _ hk=>trivial),Y9,Y25,Y19⟩
def jdb.f (k : Nat) (s0_0 : List Int) (s0_1 : Int) (l1_0 : List (S94)) : Option (Int × Int) := (jq.f k s0_0 s0_1 16).bind fun bt601 => (if bt601.1 = 0 then ((jE.f k s0_0 bt601.2 (([(-1), (l1_0.length : Int), 8] : List Int))).bind fun bt606 => (some (bt606.1, bt606.2))) else ((jq.f k s0_0 bt601.2 (l1_0.length : Int)).bind fun bt608 => (some (bt608.1, bt608.2))))
set_option maxHeartbeats 8000000 in
set_option maxRecDepth 100000 in
theorem jdb.calls (k : Nat) (g : Nat) (s0_0 : List Int) (s0_1 : Int) (A1_0 : Option Addr) (c1_0 : Nat) (l1_0 : List (S94)) (r1 : Int) (r2 : Int) (w0 w : World) (hI : jg w0 w g s0_0 s0_1) (hB : Below w0.heap.size w0 w) (hr1_0 : ∀ W_, jh w W_ g none → Kd.C k94 W_ A1_0 l1_0.length l1_0) (hc1_0 : l1_0.length ≤ c1_0) (h : jdb.f k s0_0 s0_1 l1_0 = some (r1, r2)) :
  Calls Try.prog 90 #[.pointer (some ⟨g,0,none⟩), .agg #[.slice A1_0 l1_0.length c1_0]] w fun e w'=>e=.returned (.int .i64 r1)∧jg w0 w' g s0_0 r2∧Below w0.heap.size w0 w'∧jh w w' g none:=by
 have hu37:=Try.underlying37
 have HR1_0:=am hr1_0
 have HC1_0:=am hc1_0
 clear hr1_0 hc1_0
 have HI0:=am hI
 have HK:=am (jh.refl w g none)
 have HL:=am hB.size
 clear hI
 have HW0:=am hB.size
 have HB:=am hB
 clear hB
 have H:((jq.f k s0_0 s0_1 16).bind fun bt601=>(if bt601.1=0 then ((jE.f k s0_0 bt601.2 (([(-1),(l1_0.length:Int),8]:List Int))).bind fun bt606=>(some (bt606.1,bt606.2))) else ((jq.f k s0_0 bt601.2 (l1_0.length:Int)).bind fun bt608=>(some (bt608.1,bt608.2)))))=some (r1,r2):=h
 clear h
 replace H:=bzS H
 obtain ⟨⟨t601,t602⟩,A30,H⟩:=H
 replace H:(if t601=0 then ((jE.f k s0_0 t602 (([(-1),(l1_0.length:Int),8]:List Int))).bind fun bt606=>(some (bt606.1,bt606.2))) else ((jq.f k s0_0 t602 (l1_0.length:Int)).bind fun bt608=>(some (bt608.1,bt608.2))))=some (r1,r2):=H
 have A3:=am A30
 clear A30
 by_cases c4:t601=0
 ·rw [if_pos c4] at H
  have c4b0:(t601 == 0)=true:=beq_iff_eq.mpr c4
  have c4b1:(t601 != 0)=false:=bne_eq_false_iff_eq.mpr c4
  clear c4
  obtain ⟨y603,hy603⟩:∃ y_:List Int,y_=(([(-1),(l1_0.length:Int),8]:List Int)):=⟨_,rfl⟩
  replace H:((jE.f k s0_0 t602 y603).bind fun bt606=>(some (bt606.1,bt606.2)))=some (r1,r2):=by first |(rw [hy603];with_reducible exact H) |(have H2_:=(Option.bind_some _ _).symm.trans H;rw [hy603];with_reducible exact H2_) |(have H2_:=(Option.bind_some _ _).symm.trans H;with_reducible exact H2_) | with_reducible exact H |(rw [hy603];exact H) | exact H
  have Ny603:=am hy603
  clear hy603
  replace H:=bzS H
  obtain ⟨⟨t606,t607⟩,A50,H⟩:=H
  replace H:(some (t606,t607))=some (r1,r2):=H
  have A5:=am A50
  clear A50
  simp only [Option.some.injEq,Prod.mk.injEq] at H
  obtain ⟨rfl,rfl⟩:=H
  go_enter Try.func90,Try.ntmps90
  go_wp2_with (first |((with_reducible refine jI (N:=3) rfl ?_);refine bE (N:=3) (cs:=#[.slice A1_0 l1_0.length c1_0]) (t:=37) ?_;intro gb600 hg w6 hbox hb;have BK600:=am (hbox);have GW600:=am ((Y8:w.heap.size≤gb600));have GE600:=am ((Nat.le_trans HW0.out (Y8:w.heap.size≤gb600):w0.heap.size≤gb600));have NB0_600:=am ((Y26:g≠gb600));have NB600_0:=am ((Y27:gb600≠g));replace HK:=am (jh.trans (Y16) (jh.of_below hb g none) (.inl rfl));replace HB:=am (jl (Y17) hb);replace HI0:=am (jg.below (Y15) hb);clear hb hbox hg) |((with_reducible refine jC (f:=88) rfl ?_);refine gL (some 6) Try.func88 #[.pointer (some ⟨g,0,none⟩), .int .i64 16] ?_;(with_reducible refine (jq.calls k g s0_0 s0_1 16 t601 t602 w0 _ ?side1 ?side2 A3.out).mono ?_);(case side1=>exact Y53);(case side2=>exact Y58);rintro e w7 ⟨rfl,hi,hb,hk⟩;refine ⟨_,rfl,?_⟩;replace BK600:=am (jh.blk hk (g':=gb600) (o:=.cells #[.slice A1_0 l1_0.length c1_0] 37 (0,0)) (kq BK600.out) NB600_0.out (by simp));replace HK:=am (jh.trans (Y54) hk (.inl rfl));replace HB:=am (hb);replace HI0:=am (hi);(try clear hb);(try clear hb2);(try clear hk);(try clear hi);have hnb8:=NB600_0.out;have hnc8:=NB0_600.out;have hcz9_0:=bc0 BK600.out;have hfz9_0:=jf BK600.out 0) |((with_reducible refine jI (N:=12) rfl ?_);refine Kd.R_lit (Kd.int .i64) _ 3 ?hg (N:=12) ?hd (xs:=([(-1),(l1_0.length:Int),8]:List Int)) (inner:=[.int .i64 (-1), .int .i64 (l1_0.length:Int), .int .i64 8]) (ok:=fun _=>True) (okp:=fun _=>True) ?hr ?hp (fun _ hk=>hk) trivial (Below.refl _ _) (Nat.le_refl _) (by simp) ?_;(case hd=>rfl);(case hg=>rfl);(case hr=>exact Y4);(case hp=>exact (Reps.one (show Kd.M (Kd.int .i64) _ _ _ (-1) [.int .i64 (-1)] from rfl) (Reps.one (show Kd.M (Kd.int .i64) _ _ _ (l1_0.length:Int) [.int .i64 (l1_0.length:Int)] from rfl) (Reps.one (show Kd.M (Kd.int .i64) _ _ _ 8 [.int .i64 8] from rfl) (Reps.none _ _)))));intro v604 w10 ho11 hb hg_ hnew_;clear hg_ hnew_;(first | rw [← Ny603.out] at ho11 |(simp only [Int.reduceToNat] at ho11;rw [← Ny603.out] at ho11));have HO605:=am (Kd.jla ho11 (jma (w:=w) (g:=g) (row:=none) (Y54)));replace BK600:=am (je (g:=gb600) (o:=.cells #[.slice A1_0 l1_0.length c1_0] 37 (0,0)) (kq BK600.out) hb);replace HK:=am (jh.trans (Y54) (jh.of_below hb g none) (.inl rfl));replace HB:=am (jl (Y58) hb);replace HI0:=am (jg.below (Y53) hb);clear hb ho11;obtain ⟨Ao12,co12,eo12⟩:=Kd.jaa HO605.out;subst eo12) |((with_reducible refine jC (f:=89) rfl ?_);refine gL (some 13) Try.func89 #[.pointer (some ⟨g,0,none⟩), .slice Ao12 y603.length co12] ?_;(with_reducible refine (jE.calls k g s0_0 t602 _ _ y603 t606 t607 w0 _ ?side1 ?side2 ?side3 ?side4 ?side5 A5.out).mono ?_);(case side1=>exact Y53);(case side2=>exact Y58);(case side3=>exact cq (Kd.jB HO605.out).2.2);(case side4=>exact (Kd.jB HO605.out).2.1);(case side5=>exact jxb (jg.own_ne HI0.out HO605.out (by decide)));rintro e w13 ⟨rfl,hi,hb,hk⟩;refine ⟨_,rfl,?_⟩;replace BK600:=am (jh.blk hk (g':=gb600) (o:=.cells #[.slice A1_0 l1_0.length c1_0] 37 (0,0)) (kq BK600.out) NB600_0.out (by simp));replace HO605:=am (Kd.jD (Kd.jqa (jg.apart (show jg w0 _ g s0_0 t602 from Y53) (rq HO605.out) (by decide)) hk (fun _ h=>h.2)) (fun _ h=>h.1));replace HK:=am (jh.trans (Y54) hk (.inl rfl));replace HB:=am (hb);replace HI0:=am (hi);(try clear hb);(try clear hb2);(try clear hk);(try clear hi)))
  go_ret
  exact ⟨Y2,Y53,Y58,Y54⟩
 ·rw [if_neg c4] at H
  have c4b0:(t601 == 0)=false:=beq_eq_false_iff_ne.mpr c4
  have c4b1:(t601 != 0)=true:=bne_iff_ne.mpr c4
  replace H:=bzS H
  obtain ⟨⟨t608,t609⟩,A140,H⟩:=H
  replace H:(some (t608,t609))=some (r1,r2):=H
  have A14:=am A140
  clear A140
  simp only [Option.some.injEq,Prod.mk.injEq] at H
  obtain ⟨rfl,rfl⟩:=H
  go_enter Try.func90,Try.ntmps90
  go_wp2_with (first |((with_reducible refine jI (N:=3) rfl ?_);refine bE (N:=3) (cs:=#[.slice A1_0 l1_0.length c1_0]) (t:=37) ?_;intro gb600 hg w15 hbox hb;have BK600:=am (hbox);have GW600:=am ((Y8:w.heap.size≤gb600));have GE600:=am ((Nat.le_trans HW0.out (Y8:w.heap.size≤gb600):w0.heap.size≤gb600));have NB0_600:=am ((Y26:g≠gb600));have NB600_0:=am ((Y27:gb600≠g));replace HK:=am (jh.trans (Y16) (jh.of_below hb g none) (.inl rfl));replace HB:=am (jl (Y17) hb);replace HI0:=am (jg.below (Y15) hb);clear hb hbox hg) |((with_reducible refine jC (f:=88) rfl ?_);refine gL (some 6) Try.func88 #[.pointer (some ⟨g,0,none⟩), .int .i64 16] ?_;(with_reducible refine (jq.calls k g s0_0 s0_1 16 t601 t602 w0 _ ?side1 ?side2 A3.out).mono ?_);(case side1=>exact Y53);(case side2=>exact Y58);rintro e w16 ⟨rfl,hi,hb,hk⟩;refine ⟨_,rfl,?_⟩;replace BK600:=am (jh.blk hk (g':=gb600) (o:=.cells #[.slice A1_0 l1_0.length c1_0] 37 (0,0)) (kq BK600.out) NB600_0.out (by simp));replace HK:=am (jh.trans (Y54) hk (.inl rfl));replace HB:=am (hb);replace HI0:=am (hi);(try clear hb);(try clear hb2);(try clear hk);(try clear hi);have hnb17:=NB600_0.out;have hnc17:=NB0_600.out;have hcz18_0:=bc0 BK600.out;have hfz18_0:=jf BK600.out 0) |((with_reducible refine jC (f:=88) rfl ?_);refine gL (some 18) Try.func88 #[.pointer (some ⟨g,0,none⟩), .int .i64 (l1_0.length:Int)] ?_;(with_reducible refine (jq.calls k g s0_0 t602 (l1_0.length:Int) t608 t609 w0 _ ?side1 ?side2 A14.out).mono ?_);(case side1=>exact Y53);(case side2=>exact Y58);rintro e w19 ⟨rfl,hi,hb,hk⟩;refine ⟨_,rfl,?_⟩;replace BK600:=am (jh.blk hk (g':=gb600) (o:=.cells #[.slice A1_0 l1_0.length c1_0] 37 (0,0)) (kq BK600.out) NB600_0.out (by simp));replace HK:=am (jh.trans (Y54) hk (.inl rfl));replace HB:=am (hb);replace HI0:=am (hi);(try clear hb);(try clear hb2);(try clear hk);(try clear hi)))
  go_ret
  exact ⟨Y2,Y53,Y58,Y54⟩
end Go.Proofs.Ytecdfgejmbpclaa.P
end
