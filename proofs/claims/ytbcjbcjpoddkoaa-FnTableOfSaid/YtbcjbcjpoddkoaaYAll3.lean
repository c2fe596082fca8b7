/- One part of the proofs on this program: functions of the program as plain functions, that the code comes to them, and facts on them. -/
import Derived.Test.YtbcjbcjpoddkoaaYAll1
import Derived.Test.YtbcjbcjpoddkoaaYAll2
import Derived.Test.YtbcjbcjpoddkoaaYWAuto
section
namespace Go.Proofs.Ytbcjbcjpoddkoaa.P
open Go.RowKit Go.Proofs.YtbcjbcjpoddkoaaW.PrintWords Go.Proofs.YtbcjbcjpoddkoaaW.PrintLast Go.Proofs.YtbcjbcjpoddkoaaW.PrintMore
attribute [local go_sem] jla jja jya jxa jY jX jka jia jh
set_option linter.unusedVariables false
set_option linter.unusedSimpArgs false
def jZ.l0 : Nat → List ByteArray → Int → Int → List Int → Int → List (S98) → Option ((List (S98)) × Int)
 | 0,_,_,_,_,_,_=>none
 | k+1,x3,x5,x6,x1000,x1001,x378000=>if x6<x5 then (if 0≤x6 then (if x6<(x3.length:Int) then ((jf.f k x1000 x1001 x6).bind fun bt384=>((ji.f k x1000 bt384.2 (([0,bt384.1,wrap64 (x6 - 1)]:List Int))).bind fun bt389=>(if x378000.length<5864062014805 then (jZ.l0 k x3 x5 (wrap64 (x6+1)) x1000 bt389.2 (x378000 ++ [(⟨rdOf ByteArray.empty x3 x6,bt389.1⟩:S98)])) else (none)))) else (none)) else (none)) else (some (x378000,x1001))
def jZ.f (k : Nat) (s0_0 : List Int) (s0_1 : Int) : Option ((List (S98)) × Int) := (ji.f k s0_0 s0_1 (([4, 5, 3, 6, 2, 1, 8] : List Int))).bind fun bt381 => (jZ.l0 k (([(⟨#[97, 110, 121]⟩ : ByteArray), (⟨#[105, 111]⟩ : ByteArray), (⟨#[107, 101, 121]⟩ : ByteArray), (⟨#[116, 105, 109, 101]⟩ : ByteArray), (⟨#[110, 101, 116]⟩ : ByteArray), (⟨#[100, 105, 115, 107]⟩ : ByteArray), (⟨#[116, 121, 112, 101]⟩ : ByteArray), (⟨#[111, 100, 100]⟩ : ByteArray)] : List ByteArray)) bt381.1 1 s0_0 bt381.2 (([(⟨(⟨#[97, 110, 121]⟩ : ByteArray), (-1)⟩ : S98)] : List (S98))))
def jZ.T7 : Bool × List (List Nat × List Nat) := (true, [([], []), ([0], [0]), ([], []), ([], []), ([2, 3], [2, 3]), ([4], [4]), ([], []), ([], []), ([], []), ([7, 8], [7, 8]), ([], []), ([10], [10]), ([9, 11], [9, 11]), ([6, 12, 9], [6, 12]), ([5, 13], [5, 13]), ([14], [14]), ([1, 15, 13], [1, 15]), ([0, 1, 2, 3, 4, 5, 6, 7, 8, 9, 10, 11, 12, 13, 14, 15, 16], []), ([17, 16, 16, 0, 1, 2, 3, 4, 5, 6, 7, 8, 9, 10, 11, 12, 13, 14, 15, 16], [16, 17])])
def jZ.B7 : List Nat := [0, 1, 0, 0, 12, 28, 0, 0, 0, 384, 0, 1024, 3968, 8128, 16380, 32764, 65535, 131071, 262143]
theorem jZ.tab7 : rtab .any (opsOf Try.f95 7) = jZ.T7 := by kernel_rfl
theorem jZ.bits7 : jic jZ.T7.2 jZ.B7 = true := by kernel_rfl
set_option maxHeartbeats 8000000 in
set_option maxRecDepth 100000 in
theorem jZ.calls (k : Nat) (g : Nat) (s0_0 : List Int) (s0_1 : Int) (r1 : List (S98)) (r2 : Int) (w0 w : World) (hI : jc w0 w g s0_0 s0_1) (hB : Below w0.heap.size w0 w) (h : jZ.f k s0_0 s0_1 = some (r1, r2)) :
  Calls Try.prog 95 #[.pointer (some ⟨g,0,none⟩)] w fun e w'=>∃ v0_:Value,e=.returned (.agg #[v0_])∧Kd.R k98 98 w' w.heap.size (fun _=>True) v0_ r1∧jc w0 w' g s0_0 r2∧Below w0.heap.size w0 w'∧jb w w' g none:=by
 have hu32:=Try.underlying32
 have hu98:=Try.underlying98
 have HI0:=am hI
 have HK:=am (jb.refl w g none)
 have HL:=am hB.size
 clear hI
 have HW0:=am hB.size
 have HB:=am hB
 clear hB
 have H:((ji.f k s0_0 s0_1 (([4,5,3,6,2,1,8]:List Int))).bind fun bt381=>(jZ.l0 k (([(⟨#[97,110,121]⟩:ByteArray),(⟨#[105,111]⟩:ByteArray),(⟨#[107,101,121]⟩:ByteArray),(⟨#[116,105,109,101]⟩:ByteArray),(⟨#[110,101,116]⟩:ByteArray),(⟨#[100,105,115,107]⟩:ByteArray),(⟨#[116,121,112,101]⟩:ByteArray),(⟨#[111,100,100]⟩:ByteArray)]:List ByteArray)) bt381.1 1 s0_0 bt381.2 (([(⟨(⟨#[97,110,121]⟩:ByteArray),(-1)⟩:S98)]:List (S98)))))=some (r1,r2):=h
 clear h
 obtain ⟨y371,hy371⟩:∃ y_:List ByteArray,y_=(([(⟨#[97,110,121]⟩:ByteArray),(⟨#[105,111]⟩:ByteArray),(⟨#[107,101,121]⟩:ByteArray),(⟨#[116,105,109,101]⟩:ByteArray),(⟨#[110,101,116]⟩:ByteArray),(⟨#[100,105,115,107]⟩:ByteArray),(⟨#[116,121,112,101]⟩:ByteArray),(⟨#[111,100,100]⟩:ByteArray)]:List ByteArray)):=⟨_,rfl⟩
 replace H:((ji.f k s0_0 s0_1 (([4,5,3,6,2,1,8]:List Int))).bind fun bt381=>(jZ.l0 k y371 bt381.1 1 s0_0 bt381.2 (([(⟨(⟨#[97,110,121]⟩:ByteArray),(-1)⟩:S98)]:List (S98)))))=some (r1,r2):=by first |(rw [hy371];with_reducible exact H) |(have H2_:=(Option.bind_some _ _).symm.trans H;rw [hy371];with_reducible exact H2_) |(have H2_:=(Option.bind_some _ _).symm.trans H;with_reducible exact H2_) | with_reducible exact H |(rw [hy371];exact H) | exact H
 have Ny371:=am hy371
 clear hy371
 obtain ⟨y374,hy374⟩:∃ y_:List (S98),y_=(([(⟨(⟨#[97,110,121]⟩:ByteArray),(-1)⟩:S98)]:List (S98))):=⟨_,rfl⟩
 replace H:((ji.f k s0_0 s0_1 (([4,5,3,6,2,1,8]:List Int))).bind fun bt381=>(jZ.l0 k y371 bt381.1 1 s0_0 bt381.2 y374))=some (r1,r2):=by first |(rw [hy374];with_reducible exact H) |(have H2_:=(Option.bind_some _ _).symm.trans H;rw [hy374];with_reducible exact H2_) |(have H2_:=(Option.bind_some _ _).symm.trans H;with_reducible exact H2_) | with_reducible exact H |(rw [hy374];exact H) | exact H
 have Ny374:=am hy374
 clear hy374
 obtain ⟨y378,hy378⟩:∃ y_:List Int,y_=(([4,5,3,6,2,1,8]:List Int)):=⟨_,rfl⟩
 replace H:((ji.f k s0_0 s0_1 y378).bind fun bt381=>(jZ.l0 k y371 bt381.1 1 s0_0 bt381.2 y374))=some (r1,r2):=by first |(rw [hy378];with_reducible exact H) |(have H2_:=(Option.bind_some _ _).symm.trans H;rw [hy378];with_reducible exact H2_) |(have H2_:=(Option.bind_some _ _).symm.trans H;with_reducible exact H2_) | with_reducible exact H |(rw [hy378];exact H) | exact H
 have Ny378:=am hy378
 clear hy378
 replace H:=bzS H
 obtain ⟨⟨t381,t382⟩,A20,H⟩:=H
 replace H:(jZ.l0 k y371 t381 1 s0_0 t382 y374)=some (r1,r2):=H
 have A2:=am A20
 clear A20
 have H':=am H
 clear H
 go_enter Try.func95,Try.ntmps95
 go_wp2_with (first |((with_reducible refine jS (N:=2) rfl ?_);refine bE (N:=2) (cs:=#[.slice none 0 0]) (t:=32) ?_;intro gb370 hg w3 hbox hb;have BK370:=am (hbox);have GW370:=am ((Y12:w.heap.size≤gb370));have GE370:=am ((Nat.le_trans HW0.out (Y12:w.heap.size≤gb370):w0.heap.size≤gb370));have NB0_370:=am ((Y30:g≠gb370));have NB370_0:=am ((Y31:gb370≠g));replace HK:=am (jb.trans (Y16) (jb.of_below hb g none) (.inl rfl));replace HB:=am (jg (Y17) hb);replace HI0:=am (jc.below (Y15) hb);clear hb hbox hg) |((with_reducible refine jS (N:=7) rfl ?_);refine Kd.jWb Kd.string _ 9 ?hg (N:=7) ?hd (xs:=([(⟨#[97,110,121]⟩:ByteArray),(⟨#[105,111]⟩:ByteArray),(⟨#[107,101,121]⟩:ByteArray),(⟨#[116,105,109,101]⟩:ByteArray),(⟨#[110,101,116]⟩:ByteArray),(⟨#[100,105,115,107]⟩:ByteArray),(⟨#[116,121,112,101]⟩:ByteArray),(⟨#[111,100,100]⟩:ByteArray)]:List ByteArray)) (inner:=[.string (⟨#[97,110,121]⟩:ByteArray), .string (⟨#[105,111]⟩:ByteArray), .string (⟨#[107,101,121]⟩:ByteArray), .string (⟨#[116,105,109,101]⟩:ByteArray), .string (⟨#[110,101,116]⟩:ByteArray), .string (⟨#[100,105,115,107]⟩:ByteArray), .string (⟨#[116,121,112,101]⟩:ByteArray), .string (⟨#[111,100,100]⟩:ByteArray)]) (ok:=fun _=>True) (okp:=fun _=>True) ?hr ?hp (fun _ hk=>hk) trivial (Below.refl _ _) (Nat.le_refl _) (by simp) ?_;(case hd=>rfl);(case hg=>rfl);(case hr=>exact Y8);(case hp=>exact (Reps.one (show Kd.M Kd.string _ _ _ (⟨#[97,110,121]⟩:ByteArray) [.string (⟨#[97,110,121]⟩:ByteArray)] from rfl) (Reps.one (show Kd.M Kd.string _ _ _ (⟨#[105,111]⟩:ByteArray) [.string (⟨#[105,111]⟩:ByteArray)] from rfl) (Reps.one (show Kd.M Kd.string _ _ _ (⟨#[107,101,121]⟩:ByteArray) [.string (⟨#[107,101,121]⟩:ByteArray)] from rfl) (Reps.one (show Kd.M Kd.string _ _ _ (⟨#[116,105,109,101]⟩:ByteArray) [.string (⟨#[116,105,109,101]⟩:ByteArray)] from rfl) (Reps.one (show Kd.M Kd.string _ _ _ (⟨#[110,101,116]⟩:ByteArray) [.string (⟨#[110,101,116]⟩:ByteArray)] from rfl) (Reps.one (show Kd.M Kd.string _ _ _ (⟨#[100,105,115,107]⟩:ByteArray) [.string (⟨#[100,105,115,107]⟩:ByteArray)] from rfl) (Reps.one (show Kd.M Kd.string _ _ _ (⟨#[116,121,112,101]⟩:ByteArray) [.string (⟨#[116,121,112,101]⟩:ByteArray)] from rfl) (Reps.one (show Kd.M Kd.string _ _ _ (⟨#[111,100,100]⟩:ByteArray) [.string (⟨#[111,100,100]⟩:ByteArray)] from rfl) (Reps.none _ _))))))))));intro v372 w4 ho5 hb hg_ hnew_;clear hg_ hnew_;(first | rw [← Ny371.out] at ho5 |(simp only [Int.reduceToNat] at ho5;rw [← Ny371.out] at ho5));have HO373:=am (Kd.jea ho5 (jN (w:=w) (g:=g) (row:=none) (Y67)));replace BK370:=am (jo (g:=gb370) (o:=.cells #[.slice none 0 0] 32 (0,0)) (kq BK370.out) hb);replace HK:=am (jb.trans (Y67) (jb.of_below hb g none) (.inl rfl));replace HB:=am (jg (Y86) hb);replace HI0:=am (jc.below (Y87) hb);clear hb ho5) |((with_reducible refine jS (N:=9) rfl ?_);refine Kd.jWb k98 _ 98 ?hg (N:=9) ?hd (xs:=([(⟨(⟨#[97,110,121]⟩:ByteArray),(-1)⟩:S98)]:List (S98))) (inner:=[.string (⟨#[97,110,121]⟩:ByteArray), .int .i64 (-1)]) (ok:=fun _=>True) (okp:=fun _=>True) ?hr ?hp (fun _ hk=>hk) trivial (Below.refl _ _) (Nat.le_refl _) (by simp) ?_;(case hd=>rfl);(case hg=>rfl);(case hr=>exact Y8);(case hp=>exact (Reps.c2 (show Kd.M k98 _ _ _ (⟨(⟨#[97,110,121]⟩:ByteArray),(-1)⟩:S98) [.string (⟨#[97,110,121]⟩:ByteArray), .int .i64 (-1)] from (k98_mkM _ _ _ (⟨(⟨#[97,110,121]⟩:ByteArray),(-1)⟩:S98) )) (Reps.none _ _)));intro v375 w6 ho7 hb hg_ hnew_;clear hg_ hnew_;(first | rw [← Ny374.out] at ho7 |(simp only [Int.reduceToNat] at ho7;rw [← Ny374.out] at ho7));have HO376:=am (Kd.jea ho7 (jN (w:=w) (g:=g) (row:=none) (Y67)));replace HO373:=am (Kd.jva (rq HO373.out) hb);replace BK370:=am (jo (g:=gb370) (o:=.cells #[.slice none 0 0] 32 (0,0)) (kq BK370.out) hb);replace HK:=am (jb.trans (Y67) (jb.of_below hb g none) (.inl rfl));replace HB:=am (jg (Y86) hb);replace HI0:=am (jc.below (Y87) hb);clear hb ho7;obtain ⟨Ao8,co8,eo8⟩:=Kd.jsa HO376.out;subst eo8) |((with_reducible refine jS (N:=4) rfl ?_);refine bE (N:=4) (cs:=#[.slice none 0 0]) (t:=32) ?_;intro gb377 hg w9 hbox hb;have BK377:=am (hbox);have GW377:=am ((Y97:w.heap.size≤gb377));have GE377:=am ((Nat.le_trans HW0.out (Y97:w.heap.size≤gb377):w0.heap.size≤gb377));have NB370_377:=am ((by rw [hg];exact Nat.ne_of_lt (jrb (g:=gb370) (o:=.cells #[.slice none 0 0] 32 (0,0)) (kq BK370.out)):gb370≠gb377));have NB377_370:=am ((by rw [hg];exact Nat.ne_of_gt (jrb (g:=gb370) (o:=.cells #[.slice none 0 0] 32 (0,0)) (kq BK370.out)):gb377≠gb370));have NB0_377:=am ((by rw [hg];exact Nat.ne_of_lt (jc.lt (show jc w0 _ g s0_0 s0_1 from by repeat (first |(with_reducible first | exact HI0.out | apply jc.alloc | apply jc.drewN | apply jc.drew | apply jc.jjc | refine jc.far ?_ NB0_370.out _) | exact HI0.out))):g≠gb377));have NB377_0:=am ((by rw [hg];exact Nat.ne_of_gt (jc.lt (show jc w0 _ g s0_0 s0_1 from by repeat (first |(with_reducible first | exact HI0.out | apply jc.alloc | apply jc.drewN | apply jc.drew | apply jc.jjc | refine jc.far ?_ NB0_370.out _) | exact HI0.out))):gb377≠g));replace HO373:=am (Kd.jva (rq HO373.out) hb);replace HO376:=am (Kd.jva (rq HO376.out) hb);replace BK370:=am (jo (g:=gb370) (o:=.cells #[.slice none 0 0] 32 (0,0)) (kq BK370.out) hb);replace HK:=am (jb.trans (Y67) (jb.of_below hb g none) (.inl rfl));replace HB:=am (jg (Y86) hb);replace HI0:=am (jc.below (Y87) hb);clear hb hbox hg;have hnb10:=NB377_370.out;have hnc10:=NB370_377.out;have hnb11:=NB377_0.out;have hnc11:=NB0_377.out;have hcz12_0:=bc0 BK377.out;have hfz12_0:=ja BK377.out 0) |((with_reducible refine jS (N:=12) rfl ?_);refine Kd.jWb (Kd.int .i64) _ 3 ?hg (N:=12) ?hd (xs:=([4,5,3,6,2,1,8]:List Int)) (inner:=[.int .i64 4, .int .i64 5, .int .i64 3, .int .i64 6, .int .i64 2, .int .i64 1, .int .i64 8]) (ok:=fun _=>True) (okp:=fun _=>True) ?hr ?hp (fun _ hk=>hk) trivial (Below.refl _ _) (Nat.le_refl _) (by simp) ?_;(case hd=>rfl);(case hg=>rfl);(case hr=>exact Y8);(case hp=>exact (Reps.one (show Kd.M (Kd.int .i64) _ _ _ 4 [.int .i64 4] from rfl) (Reps.one (show Kd.M (Kd.int .i64) _ _ _ 5 [.int .i64 5] from rfl) (Reps.one (show Kd.M (Kd.int .i64) _ _ _ 3 [.int .i64 3] from rfl) (Reps.one (show Kd.M (Kd.int .i64) _ _ _ 6 [.int .i64 6] from rfl) (Reps.one (show Kd.M (Kd.int .i64) _ _ _ 2 [.int .i64 2] from rfl) (Reps.one (show Kd.M (Kd.int .i64) _ _ _ 1 [.int .i64 1] from rfl) (Reps.one (show Kd.M (Kd.int .i64) _ _ _ 8 [.int .i64 8] from rfl) (Reps.none _ _)))))))));intro v379 w13 ho14 hb hg_ hnew_;clear hg_ hnew_;(first | rw [← Ny378.out] at ho14 |(simp only [Int.reduceToNat] at ho14;rw [← Ny378.out] at ho14));have HO380:=am (Kd.jea ho14 (jN (w:=w) (g:=g) (row:=none) (Y36)));replace HO373:=am (Kd.jva (by (with_reducible repeat (first | apply Kd.jga | apply Kd.jha | apply Kd.jra));exact (Kd.jK (Kd.jHb (p:=⟨gb377,0,none⟩) (Kd.jPa HO373.out BK377.out (by decide)) (fun _ hk=>hk.2) (.slice Ao8 y374.length co8)) (fun _ h_=>h_.1))) hb);replace HO376:=am (Kd.jva (by (with_reducible repeat (first | apply Kd.jga | apply Kd.jha | apply Kd.jra));exact (Kd.jK (Kd.jHb (p:=⟨gb377,0,none⟩) (Kd.jPa HO376.out BK377.out (by decide)) (fun _ hk=>hk.2) (.slice Ao8 y374.length co8)) (fun _ h_=>h_.1))) hb);replace BK370:=am (jo (g:=gb370) (o:=.cells #[.slice none 0 0] 32 (0,0)) (by (with_reducible repeat (first | refine jr ?_ _ | refine jF ?_ | refine jB ?_ _));refine jjb ?_ NB370_377.out _;(with_reducible repeat (first | refine jr ?_ _ | refine jF ?_ | refine jB ?_ _));exact BK370.out) hb);replace BK377:=am (jo (g:=gb377) (o:=.cells #[.slice Ao8 y374.length co8] 32 (0,0)) (by (with_reducible repeat (first | refine jr ?_ _ | refine jF ?_ | refine jB ?_ _));refine jXa (cs:=#[.slice none 0 0]) ?_ 0 _ rfl;(with_reducible repeat (first | refine jr ?_ _ | refine jF ?_ | refine jB ?_ _));exact BK377.out) hb);replace HK:=am (jb.trans (Y36) (jb.of_below hb g none) (.inl rfl));replace HB:=am (jg (Y44) hb);replace HI0:=am (jc.below (show jc w0 (w9.setCell ⟨gb377,0,none⟩ (.slice Ao8 y374.length co8)) g s0_0 s0_1 from Y27) hb);clear hb ho14;obtain ⟨Ao15,co15,eo15⟩:=Kd.jsa HO380.out;subst eo15) |((with_reducible refine je (f:=56) rfl ?_);refine gL (some 13) Try.func56 #[.pointer (some ⟨g,0,none⟩), .slice Ao15 y378.length co15] ?_;(with_reducible refine (ji.calls k g s0_0 s0_1 _ _ y378 t381 t382 w0 _ ?side1 ?side2 ?side3 ?side4 ?side5 A2.out).mono ?_);(case side1=>exact Y27);(case side2=>exact Y44);(case side3=>exact cq (Kd.jE HO380.out).2.2);(case side4=>exact (Kd.jE HO380.out).2.1);(case side5=>exact jBb (jc.own_ne HI0.out HO380.out (by decide)));rintro e w16 ⟨rfl,hi,hb,hk⟩;refine ⟨_,rfl,?_⟩;replace BK370:=am (jb.blk hk (g':=gb370) (o:=.cells #[.slice none 0 0] 32 (0,0)) (kq BK370.out) NB370_0.out (by simp));replace HO373:=am (Kd.jK (Kd.jFa (jc.apart (show jc w0 _ g s0_0 s0_1 from Y27) (rq HO373.out) (by decide)) hk (fun _ h=>h.2)) (fun _ h=>h.1));replace HO376:=am (Kd.jK (Kd.jFa (jc.apart (show jc w0 _ g s0_0 s0_1 from Y27) (rq HO376.out) (by decide)) hk (fun _ h=>h.2)) (fun _ h=>h.1));replace BK377:=am (jb.blk hk (g':=gb377) (o:=.cells #[.slice Ao8 y374.length co8] 32 (0,0)) (kq BK377.out) NB377_0.out (by simp));replace HO380:=am (Kd.jK (Kd.jFa (jc.apart (show jc w0 _ g s0_0 s0_1 from Y27) (rq HO380.out) (by decide)) hk (fun _ h=>h.2)) (fun _ h=>h.1));replace HK:=am (jb.trans (Y36) hk (.inl rfl));replace HB:=am (hb);replace HI0:=am (hi);(try clear hb);(try clear hb2);(try clear hk);(try clear hi)))
 go_loopg [6] k (fun kq v6 w'=>∃ (x6_1:Int) (x1001_1:Int) (x378000_1:List (S98)) (u378000:Value),v6=.int .i64 x6_1∧jl (jZ.l0 kq y371 t381 x6_1 s0_0 x1001_1 x378000_1=some (r1,r2))∧jl (kq≤k)∧jl (Kd.R Kd.string 9 w' w.heap.size (fun _=>True) v372 y371)∧jl (Kd.R k98 98 w' w.heap.size (fun _=>True) u378000 x378000_1)∧jl (w'.heap[gb370]?=some (.cells #[(.slice none 0 0)] 32 (0,0)))∧jl (w'.heap[gb377]?=some (.cells #[u378000] 32 (0,0)))∧jl (jc w0 w' g s0_0 x1001_1)∧jl (jb w w' g none)∧jl (Below w0.heap.size w0 w'))
 case atStart=>exact ⟨(1),(t382),(y374),(.slice Ao8 y374.length co8),(sq),H',⟨Nat.le_refl _⟩,⟨rq HO373.out⟩,⟨rq HO376.out⟩,⟨kq BK370.out⟩,⟨kq BK377.out⟩,⟨Y27⟩,⟨Y36⟩,⟨Y44⟩⟩
 case round =>
  clear H'
  try clear c1
  try clear c2
  try clear p2
  try clear c5
  try clear c9
  try clear c10
  try clear c11
  try clear hcz12_0
  try clear hfz12_0
  obtain ⟨x6_1,x1001_1,x378000_1,u378000,rfl,HA,HK1,HO_3,HO_378000,BK370,BK377,HI0,HK,HB⟩:=hrel
  cases gk with
  | zero=>exact absurd HA.out (by simp [jZ.l0])
  | succ k1 =>
   have H:=HA.out
   clear HA
   simp only [jZ.l0] at H
   by_cases c17:x6_1<t381
   ·rw [if_pos c17] at H
    have c17b0:decide (x6_1<t381)=true:=dzT c17
    clear c17
    by_cases c18:0≤x6_1
    ·rw [if_pos c18] at H
     have c18b0:decide (0≤x6_1)=true:=dzT c18
     clear c18
     by_cases c19:x6_1<(y371.length:Int)
     ·rw [if_pos c19] at H
      have c19b0:decide (x6_1<(y371.length:Int))=true:=dzT c19
      clear c19
      replace H:=bzS H
      obtain ⟨⟨t384,t385⟩,A200,H⟩:=H
      replace H:((ji.f k1 s0_0 t385 (([0,t384,wrap64 (x6_1 - 1)]:List Int))).bind fun bt389=>(if x378000_1.length<5864062014805 then (jZ.l0 k1 y371 t381 (wrap64 (x6_1+1)) s0_0 bt389.2 (x378000_1 ++ [(⟨rdOf ByteArray.empty y371 x6_1,bt389.1⟩:S98)])) else (none)))=some (r1,r2):=H
      have A20:=am A200
      clear A200
      obtain ⟨y386,hy386⟩:∃ y_:List Int,y_=(([0,t384,wrap64 (x6_1 - 1)]:List Int)):=⟨_,rfl⟩
      replace H:((ji.f k1 s0_0 t385 y386).bind fun bt389=>(if x378000_1.length<5864062014805 then (jZ.l0 k1 y371 t381 (wrap64 (x6_1+1)) s0_0 bt389.2 (x378000_1 ++ [(⟨rdOf ByteArray.empty y371 x6_1,bt389.1⟩:S98)])) else (none)))=some (r1,r2):=by first |(rw [hy386];with_reducible exact H) |(have H2_:=(Option.bind_some _ _).symm.trans H;rw [hy386];with_reducible exact H2_) |(have H2_:=(Option.bind_some _ _).symm.trans H;with_reducible exact H2_) | with_reducible exact H |(rw [hy386];exact H) | exact H
      have Ny386:=am hy386
      clear hy386
      replace H:=bzS H
      obtain ⟨⟨t389,t390⟩,A210,H⟩:=H
      replace H:(if x378000_1.length<5864062014805 then (jZ.l0 k1 y371 t381 (wrap64 (x6_1+1)) s0_0 t390 (x378000_1 ++ [(⟨rdOf ByteArray.empty y371 x6_1,t389⟩:S98)])) else (none))=some (r1,r2):=H
      have A21:=am A210
      clear A210
      by_cases c22:x378000_1.length<5864062014805
      ·rw [if_pos c22] at H
       have LMc22:=am c22
       clear c22
       obtain ⟨y391,hy391⟩:∃ y_:List (S98),y_=(x378000_1 ++ [(⟨rdOf ByteArray.empty y371 x6_1,t389⟩:S98)]):=⟨_,rfl⟩
       replace H:(jZ.l0 k1 y371 t381 (wrap64 (x6_1+1)) s0_0 t390 y391)=some (r1,r2):=by first |(rw [hy391];with_reducible exact H) |(have H2_:=(Option.bind_some _ _).symm.trans H;rw [hy391];with_reducible exact H2_) |(have H2_:=(Option.bind_some _ _).symm.trans H;with_reducible exact H2_) | with_reducible exact H |(rw [hy391];exact H) | exact H
       have Ny391:=am hy391
       clear hy391
       have H':=am H
       clear H
       try go_wp2
       replace HO_3:=am (Kd.jra HO_3.out)
       replace HO_378000:=am (Kd.jra HO_378000.out)
       replace BK370:=am (jF BK370.out)
       replace BK377:=am (jF BK377.out)
       replace HI0:=am (jc.drew HI0.out)
       replace HK:=am (jWa HK.out)
       replace HB:=am (jR HB.out)
       obtain ⟨Ao24,co24,eo24⟩:=Kd.jsa HO_3.out
       (first | subst eo24 |(injection eo24 with f1_ f2_ f3_;have f4_:=f1_.symm;have f5_:=f3_.symm;clear f1_ f2_ f3_;subst f4_;subst f5_))
       have p383:0≤(x6_1:Int):=ozD (uq)
       have q383:x6_1<(y371.length:Int):=ozD (uq)
       obtain ⟨ad383,e383,hx383_0⟩:=Kd.at_string (Kd.jE HO_3.out).2.2 x6_1 p383 q383
       cases e383
       replace p383:=ezT p383
       replace q383:=ezT q383
       refine start_ (n:=19) (S:=fun w'=>w'.cell? ⟨gb377,0,none⟩=some (u378000)∧w'.cell? (ad383.add (x6_1).toNat)=some (.string (rdOf ByteArray.empty y371 x6_1))) (ds:=[16,18]) #[false,false,false,false,false,false,false,false,false,false,false,false,false,false,false,false,false,false,false] (by kernel_rfl) rfl rfl ⟨(jA BK377.out 0).trans rfl,hx383_0⟩ (fun hHeld=>?_);refine jTb jZ.tab7 jZ.bits7 (fun HT_ HW_=>?_)
       generalize wr.drew=w23 at HO_3 HO_378000 BK370 BK377 HI0 HK HB hx383_0 hHeld ⊢
       refine pq (i:=0) (N:=some 19) #[true,false,false,false,false,false,false,false,false,false,false,false,false,false,false,false,false,false,false] ?_
       refine pq (i:=2) (N:=some 21) #[true,false,true,false,false,false,false,false,false,false,false,false,false,false,false,false,false,false,false] ?_
       refine pq (i:=3) (N:=some 22) #[true,false,true,true,false,false,false,false,false,false,false,false,false,false,false,false,false,false,false] ?_
       refine pq (i:=4) (N:=some 23) #[true,false,true,true,true,false,false,false,false,false,false,false,false,false,false,false,false,false,false] ?_
       refine pq (i:=6) (N:=some 25) #[true,false,true,true,true,false,true,false,false,false,false,false,false,false,false,false,false,false,false] ?_
       refine pq (i:=7) (N:=some 26) #[true,false,true,true,true,false,true,true,false,false,false,false,false,false,false,false,false,false,false] ?_
       refine pq (i:=8) (N:=some 27) #[true,false,true,true,true,false,true,true,true,false,false,false,false,false,false,false,false,false,false] ?_
       refine pq (i:=10) (N:=some 29) #[true,false,true,true,true,false,true,true,true,false,true,false,false,false,false,false,false,false,false] ?_
       refine pq (i:=11) (N:=some 30) #[true,false,true,true,true,false,true,true,true,false,true,true,false,false,false,false,false,false,false] ?_
       refine jrc (i:=1) (N:=some 20) (v:=?_) (a':=?_) #[true,true,true,true,true,false,true,true,true,false,true,true,false,false,false,false,false,false,false] rfl rfl (jub HT_.out HW_.out (by kernel_rfl)) (fun _ _ _ h=>h) (Or.inl ⟨by rfl,?_⟩) hHeld ?_ ?_
       rotate_left
       ·rintro w' ⟨s0,s1⟩
        go_simp
        with_reducible rfl
       rotate_left
       ·exact sa
       refine jrc (i:=5) (N:=some 24) (v:=?_) (a':=?_) #[true,true,true,true,true,true,true,true,true,false,true,true,false,false,false,false,false,false,false] rfl rfl (jub HT_.out HW_.out (by kernel_rfl)) (fun _ _ _ h=>h) (Or.inl ⟨by rfl,?_⟩) hHeld ?_ ?_
       rotate_left
       ·rintro w' ⟨s0,s1⟩
        go_simp
        with_reducible rfl
       rotate_left
       ·exact sa
       refine one_ (i:=9) (N:=some 28) #[true,true,true,true,true,true,true,true,true,true,true,true,false,false,false,false,false,false,false] rfl rfl (jJb HT_.out (by kernel_rfl)) (by decide) (fun K hK=>?_)
       refine goes_ Try.func55 (by kernel_rfl) rfl #[.pointer (some ⟨g,0,none⟩), .int .i64 x6_1] (by rfl) rfl rfl (aq) ?_
       with_reducible refine (jf.calls k1 g s0_0 x1001_1 x6_1 t384 t385 w0 _ ?side1 ?side2 A20.out).mono ?_
       (case side1=>exact Y27)
       (case side2=>exact Y44)
       rintro e w25 ⟨rfl,hi,hb,hk⟩
       have HS1_:=keep_cell hk (hHeld.2) (Y98)
       refine ⟨_,rfl,?_⟩
       replace HO_3:=am (Kd.jK (Kd.jFa (jc.apart (show jc w0 _ g s0_0 x1001_1 from Y27) (rq HO_3.out) (by decide)) hk (fun _ h=>h.2)) (fun _ h=>h.1))
       replace HO_378000:=am (Kd.jK (Kd.jFa (jc.apart (show jc w0 _ g s0_0 x1001_1 from Y27) (rq HO_378000.out) (by decide)) hk (fun _ h=>h.2)) (fun _ h=>h.1))
       replace BK370:=am (jb.blk hk (g':=gb370) (o:=.cells #[.slice none 0 0] 32 (0,0)) (kq BK370.out) NB370_0.out (by simp))
       replace BK377:=am (jb.blk hk (g':=gb377) (o:=.cells #[u378000] 32 (0,0)) (kq BK377.out) NB377_0.out (by simp))
       replace HK:=am (jb.trans (Y36) hk (.inl rfl))
       replace HB:=am (hb)
       replace HI0:=am (hi)
       (try clear hb)
       (try clear hb2)
       (try clear hk)
       (try clear hi)
       refine hK.out _ _ ⟨(jA BK377.out 0).trans rfl,HS1_⟩ (fun hHeld=>?_)
       clear hK K
       refine jUb (a':=?_) ?_ ?_
       rotate_left
       ·show Act.put _ (some 28) _=_
        simp only [Act.put,List.setIfInBounds_toArray,List.set_cons_zero,List.set_cons_succ,jlb,jmb]
        rfl
       refine one_ (i:=12) (N:=some 31) #[true,true,true,true,true,true,true,true,true,true,true,true,true,false,false,false,false,false,false] rfl rfl (jJb HT_.out (by kernel_rfl)) (by decide) (fun K hK=>?_)
       refine Kd.jdc (Kd.int .i64) _ 3 ?hg (N:=31) ?hd (xs:=([0,t384,wrap64 (x6_1 - 1)]:List Int)) (inner:=[.int .i64 0, .int .i64 t384, .int .i64 (wrap64 (x6_1 - 1))]) (ok:=fun _=>True) (okp:=fun _=>True) ?hr ?hp (fun _ hk=>hk) trivial (Below.refl _ _) (Nat.le_refl _) (by simp) ?_;(case hd=>rfl);(case hg=>rfl);(case hr=>exact Y8);(case hp=>exact (Reps.one (show Kd.M (Kd.int .i64) _ _ _ 0 [.int .i64 0] from rfl) (Reps.one (show Kd.M (Kd.int .i64) _ _ _ t384 [.int .i64 t384] from rfl) (Reps.one (show Kd.M (Kd.int .i64) _ _ _ (wrap64 (x6_1 - 1)) [.int .i64 (wrap64 (x6_1 - 1))] from rfl) (Reps.none _ _)))))
       intro v387 w26 ho27 hb hg_ hnew_
       have HS1_:=(hb.cell (World.block_lt_of_cell? _ _ (hHeld.2))).trans (hHeld.2)
       clear hg_ hnew_
       (first | rw [← Ny386.out] at ho27 |(simp only [Int.reduceToNat] at ho27;rw [← Ny386.out] at ho27))
       have HO388:=am (Kd.jea ho27 (jN (w:=w) (g:=g) (row:=none) (Y36)))
       replace HO_3:=am (Kd.jva (rq HO_3.out) hb)
       replace HO_378000:=am (Kd.jva (rq HO_378000.out) hb)
       replace BK370:=am (jo (g:=gb370) (o:=.cells #[.slice none 0 0] 32 (0,0)) (kq BK370.out) hb)
       replace BK377:=am (jo (g:=gb377) (o:=.cells #[u378000] 32 (0,0)) (kq BK377.out) hb)
       replace HK:=am (jb.trans (Y36) (jb.of_below hb g none) (.inl rfl))
       replace HB:=am (jg (Y44) hb)
       replace HI0:=am (jc.below (Y27) hb)
       clear hb ho27
       obtain ⟨Ao28,co28,eo28⟩:=Kd.jsa HO388.out
       (first | subst eo28 |(injection eo28 with f1_ f2_ f3_;have f4_:=f1_.symm;have f5_:=f3_.symm;clear f1_ f2_ f3_;subst f4_;subst f5_))
       refine hK.out _ _ ⟨(jA BK377.out 0).trans rfl,HS1_⟩ (fun hHeld=>?_)
       clear hK K
       refine jUb (a':=?_) ?_ ?_
       rotate_left
       ·show Act.put _ (some 31) _=_
        simp only [Act.put,List.setIfInBounds_toArray,List.set_cons_zero,List.set_cons_succ,jlb,jmb]
        rfl
       refine one_ (i:=13) (N:=some 32) #[true,true,true,true,true,true,true,true,true,true,true,true,true,true,false,false,false,false,false] rfl rfl (jJb HT_.out (by kernel_rfl)) (by decide) (fun K hK=>?_)
       refine goes_ Try.func56 (by kernel_rfl) rfl #[.pointer (some ⟨g,0,none⟩), .slice Ao28 y386.length co28] (by rfl) rfl rfl (aq) ?_
       with_reducible refine (ji.calls k1 g s0_0 t385 _ _ y386 t389 t390 w0 _ ?side1 ?side2 ?side3 ?side4 ?side5 A21.out).mono ?_
       (case side1=>exact Y27)
       (case side2=>exact Y44)
       (case side3=>exact cq (Kd.jE HO388.out).2.2)
       (case side4=>exact (Kd.jE HO388.out).2.1)
       (case side5=>exact jBb (jc.own_ne HI0.out HO388.out (by decide)))
       rintro e w29 ⟨rfl,hi,hb,hk⟩
       have HS1_:=keep_cell hk (hHeld.2) (Y98)
       refine ⟨_,rfl,?_⟩
       replace HO_3:=am (Kd.jK (Kd.jFa (jc.apart (show jc w0 _ g s0_0 t385 from Y27) (rq HO_3.out) (by decide)) hk (fun _ h=>h.2)) (fun _ h=>h.1))
       replace HO_378000:=am (Kd.jK (Kd.jFa (jc.apart (show jc w0 _ g s0_0 t385 from Y27) (rq HO_378000.out) (by decide)) hk (fun _ h=>h.2)) (fun _ h=>h.1))
       replace BK370:=am (jb.blk hk (g':=gb370) (o:=.cells #[.slice none 0 0] 32 (0,0)) (kq BK370.out) NB370_0.out (by simp))
       replace BK377:=am (jb.blk hk (g':=gb377) (o:=.cells #[u378000] 32 (0,0)) (kq BK377.out) NB377_0.out (by simp))
       replace HO388:=am (Kd.jK (Kd.jFa (jc.apart (show jc w0 _ g s0_0 t385 from Y27) (rq HO388.out) (by decide)) hk (fun _ h=>h.2)) (fun _ h=>h.1))
       replace HK:=am (jb.trans (Y36) hk (.inl rfl))
       replace HB:=am (hb)
       replace HI0:=am (hi)
       (try clear hb)
       (try clear hb2)
       (try clear hk)
       (try clear hi)
       refine hK.out _ _ ⟨(jA BK377.out 0).trans rfl,HS1_⟩ (fun hHeld=>?_)
       clear hK K
       refine jUb (a':=?_) ?_ ?_
       rotate_left
       ·show Act.put _ (some 32) _=_
        simp only [Act.put,List.setIfInBounds_toArray,List.set_cons_zero,List.set_cons_succ,jlb,jmb]
        rfl
       refine pq (i:=14) (N:=some 33) #[true,true,true,true,true,true,true,true,true,true,true,true,true,true,true,false,false,false,false] ?_
       refine one_ (i:=15) (N:=some 34) #[true,true,true,true,true,true,true,true,true,true,true,true,true,true,true,true,false,false,false] rfl rfl (jJb HT_.out (by kernel_rfl)) (by decide) (fun K hK=>?_)
       refine value_ (w1:=?_) (v:=?_) (by rfl) rfl ?_ ?_
       rotate_left 2
       ·go_simp
        constructor
        ·rfl
        ·rfl
       refine hK.out _ _ ⟨(jA (jB BK377.out _) 0).trans rfl,(World.cell?_alloc_lt _ _ _ (World.block_lt_of_cell? _ _ (hHeld.2))).trans (hHeld.2)⟩ (fun hHeld=>?_)
       clear hK K
       refine jUb (a':=?_) ?_ ?_
       rotate_left
       ·show Act.put _ (some 34) _=_
        simp only [Act.put,List.setIfInBounds_toArray,List.set_cons_zero,List.set_cons_succ,jlb,jmb]
        rfl
       refine last_ (i:=16) (N:=some 35) #[true,true,true,true,true,true,true,true,true,true,true,true,true,true,true,true,true,false,false] rfl rfl (jJb HT_.out (by kernel_rfl)) (by decide) (fun K hK=>?_)
       refine Kd.R_append_step k98 w.heap.size (by rfl) (.tmp 20) (.tmp 34) 30 98 (.agg #[(.string ⟨#[]⟩),(.int .i64 0)]) 24 rfl Try.underlying30 info98 rfl (by decide) (by omega) u378000 x378000_1 (⟨rdOf ByteArray.empty y371 x6_1,t389⟩:S98) [.string (rdOf ByteArray.empty y371 x6_1), .int .i64 t389] (fun _=>True) (fun _=>False) rfl rfl ?aP (fun _ hk=>hk.elim) ?aF ?aO (Below.refl _ _) ?aS ?aL ?_
       (case aP=>exact k98_mkM _ _ _ (⟨rdOf ByteArray.empty y371 x6_1,t389⟩:S98))
       (case aF=>exact (fun _ _=>trivial))
       (case aO=>exact (rq HO_378000.out))
       (case aS=>exact (jN (w:=w) (g:=g) (row:=none) (Y36)))
       (case aL=>have:=LMc22.out;omega)
       intro v392 w30 ho hb hg hat
       rw [← Ny391.out] at ho
       have n0_:=am (Kd.jlc (rq HO_3.out) (Kd.jkc (rq HO_378000.out)) (by decide) hg)
       have n1_:=am (jVa (g:=gb370) (o:=.cells #[.slice none 0 0] 32 (0,0)) (kq BK370.out) hg (Kd.R_ne HO_378000.out BK370.out (by decide)))
       have n2_:=am (jVa (g:=gb377) (o:=.cells #[u378000] 32 (0,0)) (kq BK377.out) hg (Kd.R_ne HO_378000.out BK377.out (by decide)))
       have n3_:=am (jc.grown (Y27) hg (jc.own_ne HI0.out HO_378000.out (by decide)))
       have n4_:=am (Kd.jlc (rq HO388.out) (Kd.jkc (rq HO_378000.out)) (by decide) hg)
       have n5_:=am (jcb (Y44) HL.out hb)
       have n6_:=am (jb.trans (Y36) (jb.jxb hg g) (Kd.jQb HO_378000.out))
       have n7_:=am (ho)
       clear HO_3
       clear BK370
       clear BK377
       clear HI0
       clear HO388
       clear HB
       clear HK
       clear HO_378000
       have HO_3:=n0_
       have BK370:=n1_
       have BK377:=n2_
       have HI0:=n3_
       have HO388:=n4_
       have HB:=n5_
       have HK:=n6_
       have HO393:=n7_
       clear n0_ n1_ n2_ n3_ n4_ n5_ n6_ n7_
       clear ho hb hg hat
       obtain ⟨Ao31,co31,eo31⟩:=Kd.jsa HO393.out
       (first | subst eo31 |(injection eo31 with f1_ f2_ f3_;have f4_:=f1_.symm;have f5_:=f3_.symm;clear f1_ f2_ f3_;subst f4_;subst f5_))
       refine hK.out _ _ ?_
       clear hK K
       refine jUb (a':=?_) ?_ ?_
       rotate_left
       ·show Act.put _ (some 35) _=_
        simp only [Act.put,List.setIfInBounds_toArray,List.set_cons_zero,List.set_cons_succ,jlb,jmb]
        rfl
       refine pq (i:=17) (N:=some 36) #[true,true,true,true,true,true,true,true,true,true,true,true,true,true,true,true,true,true,false] ?_
       refine last_ (i:=18) (N:=none) #[true,true,true,true,true,true,true,true,true,true,true,true,true,true,true,true,true,true,true] rfl rfl (jJb HT_.out (by kernel_rfl)) (by decide) (fun K hK=>?_)
       have hs32:w30.cell? ⟨gb377,0,none⟩=some (u378000):=(jA BK377.out 0).trans rfl
       have hfs32:=ja BK377.out 0
       have hns32_0:=NB370_377.out
       have hms32_0:=NB377_370.out
       refine skip_ (w1:=?_) (by rfl) rfl ?_ ?_
       rotate_left
       ·go_simp
        rfl
       refine hK.out _ _ ?_
       clear hK K
       refine done_ (jGc HT_.out (by kernel_rfl)) ?_
       try go_wp2
       go_roundg k1
       case measure=>have:=HK1.out;omega
       case rel=>exact ⟨(wrap64 (x6_1+1)),(t390),(y391),(.slice Ao31 y391.length co31),(sq),H',⟨by have:=HK1.out;omega⟩,⟨by (with_reducible repeat (first | apply Kd.jga | apply Kd.jha | apply Kd.jra));exact Kd.jK (Kd.jHb (p:=⟨gb377,0,none⟩) (Kd.jPa HO_3.out BK377.out (by decide)) (fun _ hk=>hk.2) (.slice Ao31 y391.length co31)) (fun _ hk=>trivial)⟩,⟨by (with_reducible repeat (first | apply Kd.jga | apply Kd.jha | apply Kd.jra));exact Kd.jK (Kd.jHb (p:=⟨gb377,0,none⟩) (Kd.jPa HO393.out BK377.out (by decide)) (fun _ hk=>hk.2) (.slice Ao31 y391.length co31)) (fun _ hk=>trivial)⟩,⟨by (with_reducible repeat (first | refine jr ?_ _ | refine jF ?_ | refine jB ?_ _));refine jjb ?_ NB370_377.out _;(with_reducible repeat (first | refine jr ?_ _ | refine jF ?_ | refine jB ?_ _));exact BK370.out⟩,⟨by (with_reducible repeat (first | refine jr ?_ _ | refine jF ?_ | refine jB ?_ _));refine jXa (cs:=#[u378000]) ?_ 0 _ rfl;(with_reducible repeat (first | refine jr ?_ _ | refine jF ?_ | refine jB ?_ _));exact BK377.out⟩,⟨Y27⟩,⟨Y36⟩,⟨Y44⟩⟩
      ·rw [if_neg c22] at H
       exact absurd H (by simp)
     ·rw [if_neg c19] at H
      exact absurd H (by simp)
    ·rw [if_neg c18] at H
     exact absurd H (by simp)
   ·rw [if_neg c17] at H
    have c17b0:decide (x6_1<t381)=false:=dzF c17
    clear c17
    simp only [Option.some.injEq,Prod.mk.injEq] at H
    obtain ⟨rfl,rfl⟩:=H
    have hnb33:=NB377_370.out
    have hnc33:=NB370_377.out
    have hnb34:=NB377_0.out
    have hnc34:=NB0_377.out
    have hcz35_0:=bc0 BK377.out
    have hfz35_0:=ja BK377.out 0
    obtain ⟨Ao36,co36,eo36⟩:=Kd.jsa HO_378000.out
    subst eo36
    have hnb37:=NB370_0.out
    have hnc37:=NB0_370.out
    have hcz38_0:=bc0 BK370.out
    have hfz38_0:=ja BK370.out 0
    go_wp2
    refine bodyPost_ret (results_cell_row rfl _ _ gb370 32 #[.slice Ao36 x378000_1.length co36] (0,0) _ rfl (by (with_reducible repeat (first | refine jr ?_ _ | refine jF ?_ | refine jB ?_ _));refine jXa (cs:=#[.slice none 0 0]) ?_ 0 _ rfl;(with_reducible repeat (first | refine jr ?_ _ | refine jF ?_ | refine jB ?_ _));exact BK370.out) Try.underlying32 rfl (by kernel_rfl)) rfl ?_
    exact ⟨_,Y0,by (with_reducible repeat (first | apply Kd.jga | apply Kd.jha | apply Kd.jra));exact Kd.jK (Kd.jHb (p:=⟨gb370,0,none⟩) (Kd.jPa HO_378000.out BK370.out (by decide)) (fun _ hk=>hk.2) (.slice Ao36 x378000_1.length co36)) (fun _ hk=>trivial),Y27,Y44,Y36⟩
def jdb.f (k : Nat) (s0_0 : List Int) (s0_1 : Int) (l1 : List ByteArray) : Option (ByteArray × Int) := (jf.f k s0_0 s0_1 (l1.length : Int)).bind fun bt394 => (if 0 ≤ bt394.1 then (if bt394.1 < (l1.length : Int) then (some (rdOf ByteArray.empty l1 bt394.1, bt394.2)) else (none)) else (none))
set_option maxHeartbeats 8000000 in
set_option maxRecDepth 100000 in
theorem jdb.calls (k : Nat) (g : Nat) (s0_0 : List Int) (s0_1 : Int) (A1 : Option Addr) (c1 : Nat) (l1 : List ByteArray) (r1 : ByteArray) (r2 : Int) (w0 w : World) (hI : jc w0 w g s0_0 s0_1) (hB : Below w0.heap.size w0 w) (hr1 : Kd.C Kd.string w A1 l1.length l1) (hc1 : l1.length ≤ c1) (hf1 : ∀ ad, A1 = some ad → 0 < l1.length → ad.block ≠ g) (h : jdb.f k s0_0 s0_1 l1 = some (r1, r2)) :
  Calls Try.prog 96 #[.pointer (some ⟨g,0,none⟩), .slice A1 l1.length c1] w fun e w'=>e=.returned (.string r1)∧jc w0 w' g s0_0 r2∧Below w0.heap.size w0 w'∧jb w w' g none:=by
 have HR1:=am hr1
 have HC1:=am hc1
 clear hr1 hc1
 have HI0:=am hI
 have HK:=am (jb.refl w g none)
 have HL:=am hB.size
 clear hI
 have HW0:=am hB.size
 have HB:=am hB
 clear hB
 have H:((jf.f k s0_0 s0_1 (l1.length:Int)).bind fun bt394=>(if 0≤bt394.1 then (if bt394.1<(l1.length:Int) then (some (rdOf ByteArray.empty l1 bt394.1,bt394.2)) else (none)) else (none)))=some (r1,r2):=h
 clear h
 replace H:=bzS H
 obtain ⟨⟨t394,t395⟩,A30,H⟩:=H
 replace H:(if 0≤t394 then (if t394<(l1.length:Int) then (some (rdOf ByteArray.empty l1 t394,t395)) else (none)) else (none))=some (r1,r2):=H
 have A3:=am A30
 clear A30
 by_cases c4:0≤t394
 ·rw [if_pos c4] at H
  have c4b0:decide (0≤t394)=true:=dzT c4
  clear c4
  by_cases c5:t394<(l1.length:Int)
  ·rw [if_pos c5] at H
   have c5b0:decide (t394<(l1.length:Int))=true:=dzT c5
   clear c5
   simp only [Option.some.injEq,Prod.mk.injEq] at H
   obtain ⟨rfl,rfl⟩:=H
   go_enter Try.func96,Try.ntmps96
   go_wp2_with (first |((with_reducible refine je (f:=55) rfl ?_);refine gL (some 9) Try.func55 #[.pointer (some ⟨g,0,none⟩), .int .i64 (l1.length:Int)] ?_;(with_reducible refine (jf.calls k g s0_0 s0_1 (l1.length:Int) t394 t395 w0 _ ?side1 ?side2 A3.out).mono ?_);(case side1=>exact Y15);(case side2=>exact Y17);rintro e w6 ⟨rfl,hi,hb,hk⟩;refine ⟨_,rfl,?_⟩;replace HK:=am (jb.trans (Y16) hk (.inl rfl));replace HB:=am (hb);replace HI0:=am (hi);(try clear hb);(try clear hb2);(try clear hk);(try clear hi);have p396:0≤(t394:Int):=ozD (uq);have q396:t394<(l1.length:Int):=ozD (uq);obtain ⟨ad396,e396,hx396_0⟩:=Kd.at_string HR1.out t394 p396 q396;cases e396;replace hx396_0:=keep_cell HK.out hx396_0 (by first |(rw [add_block];exact hf1 _ rfl (by omega)) | exact hf1 _ rfl (by omega) | exact hf1 ad396 rfl (by omega));replace p396:=ezT p396;replace q396:=ezT q396))
   go_ret
   exact ⟨Y0,Y15,Y17,Y16⟩
  ·rw [if_neg c5] at H
   exact absurd H (by simp)
 ·rw [if_neg c4] at H
  exact absurd H (by simp)
def jpa.f (k : Nat) (s0_0 : List Int) (s0_1 : Int) : Option ((List (S98)) × Int) := (jZ.f k s0_0 s0_1).bind fun bt398 => ((jf.f k s0_0 bt398.2 (bt398.1.length : Int)).bind fun bt403 => ((jf.f k s0_0 bt403.2 24).bind fun bt405 => (if bt405.1 = 0 then ((jdb.f k s0_0 bt405.2 (([(⟨#[]⟩ : ByteArray), (⟨#[97, 110, 121]⟩ : ByteArray), (⟨#[65]⟩ : ByteArray), (⟨#[116, 111, 111, 108, 111, 110, 103]⟩ : ByteArray)] : List ByteArray))).bind fun bt410 => (if 0 ≤ bt403.1 then (if bt403.1 < (bt398.1.length : Int) then (some ((bt398.1.set (bt403.1 : Int).toNat (⟨bt410.1, (jba bt398.1 bt403.1).f1⟩ : S98)), bt410.2)) else (none)) else (none))) else (if bt405.1 = 1 then ((ji.f k s0_0 bt405.2 (([bt403.1, (-1), 8, (-2)] : List Int))).bind fun bt416 => (if 0 ≤ bt403.1 then (if bt403.1 < (bt398.1.length : Int) then (some ((bt398.1.set (bt403.1 : Int).toNat (⟨(jba bt398.1 bt403.1).f0, bt416.1⟩ : S98)), bt416.2)) else (none)) else (none))) else (if bt405.1 = 2 then (some (([] : List (S98)), bt405.2)) else (some (bt398.1, bt405.2)))))))
def jpa.T5 : Bool × List (List Nat × List Nat) := (true, [([], []), ([0], [0]), ([], []), ([], []), ([], []), ([3, 4], [3, 4]), ([1, 2, 0, 1, 2, 3, 4, 5], [1, 2]), ([6, 0, 1, 2, 3, 4, 5], [6]), ([7, 5, 5, 0, 1, 2, 3, 4, 5], [5, 7])])
def jpa.B5 : List Nat := [0, 1, 0, 0, 0, 24, 63, 127, 255]
theorem jpa.tab5 : rtab .any (opsOf Try.f71 5) = jpa.T5 := by kernel_rfl
theorem jpa.bits5 : jic jpa.T5.2 jpa.B5 = true := by kernel_rfl
def jpa.T7 : Bool × List (List Nat × List Nat) := (true, [([], []), ([0], [0]), ([], []), ([], []), ([], []), ([4], [4]), ([3, 5], [3, 5]), ([1, 2, 0, 1, 2, 3, 4, 5, 6], [1, 2]), ([7, 0, 1, 2, 3, 4, 5, 6], [7]), ([8, 6, 6, 0, 1, 2, 3, 4, 5, 6], [6, 8])])
def jpa.B7 : List Nat := [0, 1, 0, 0, 0, 16, 56, 127, 255, 511]
theorem jpa.tab7 : rtab .any (opsOf Try.f71 7) = jpa.T7 := by kernel_rfl
theorem jpa.bits7 : jic jpa.T7.2 jpa.B7 = true := by kernel_rfl
set_option maxHeartbeats 8000000 in
set_option maxRecDepth 100000 in
theorem jpa.calls (k : Nat) (g : Nat) (s0_0 : List Int) (s0_1 : Int) (r1 : List (S98)) (r2 : Int) (w0 w : World) (hI : jc w0 w g s0_0 s0_1) (hB : Below w0.heap.size w0 w) (h : jpa.f k s0_0 s0_1 = some (r1, r2)) :
  Calls Try.prog 71 #[.pointer (some ⟨g,0,none⟩)] w fun e w'=>∃ v0_:Value,e=.returned (.agg #[v0_])∧Kd.R k98 98 w' w.heap.size (fun _=>True) v0_ r1∧jc w0 w' g s0_0 r2∧Below w0.heap.size w0 w'∧jb w w' g none:=by
 have hu32:=Try.underlying32
 have HI0:=am hI
 have HK:=am (jb.refl w g none)
 have HL:=am hB.size
 clear hI
 have HW0:=am hB.size
 have HB:=am hB
 clear hB
 have H:((jZ.f k s0_0 s0_1).bind fun bt398=>((jf.f k s0_0 bt398.2 (bt398.1.length:Int)).bind fun bt403=>((jf.f k s0_0 bt403.2 24).bind fun bt405=>(if bt405.1=0 then ((jdb.f k s0_0 bt405.2 (([(⟨#[]⟩:ByteArray),(⟨#[97,110,121]⟩:ByteArray),(⟨#[65]⟩:ByteArray),(⟨#[116,111,111,108,111,110,103]⟩:ByteArray)]:List ByteArray))).bind fun bt410=>(if 0≤bt403.1 then (if bt403.1<(bt398.1.length:Int) then (some ((bt398.1.set (bt403.1:Int).toNat (⟨bt410.1,(jba bt398.1 bt403.1).f1⟩:S98)),bt410.2)) else (none)) else (none))) else (if bt405.1=1 then ((ji.f k s0_0 bt405.2 (([bt403.1,(-1),8,(-2)]:List Int))).bind fun bt416=>(if 0≤bt403.1 then (if bt403.1<(bt398.1.length:Int) then (some ((bt398.1.set (bt403.1:Int).toNat (⟨(jba bt398.1 bt403.1).f0,bt416.1⟩:S98)),bt416.2)) else (none)) else (none))) else (if bt405.1=2 then (some (([]:List (S98)),bt405.2)) else (some (bt398.1,bt405.2))))))))=some (r1,r2):=h
 clear h
 replace H:=bzS H
 obtain ⟨⟨t398,t401⟩,A20,H⟩:=H
 replace H:((jf.f k s0_0 t401 (t398.length:Int)).bind fun bt403=>((jf.f k s0_0 bt403.2 24).bind fun bt405=>(if bt405.1=0 then ((jdb.f k s0_0 bt405.2 (([(⟨#[]⟩:ByteArray),(⟨#[97,110,121]⟩:ByteArray),(⟨#[65]⟩:ByteArray),(⟨#[116,111,111,108,111,110,103]⟩:ByteArray)]:List ByteArray))).bind fun bt410=>(if 0≤bt403.1 then (if bt403.1<(t398.length:Int) then (some ((t398.set (bt403.1:Int).toNat (⟨bt410.1,(jba t398 bt403.1).f1⟩:S98)),bt410.2)) else (none)) else (none))) else (if bt405.1=1 then ((ji.f k s0_0 bt405.2 (([bt403.1,(-1),8,(-2)]:List Int))).bind fun bt416=>(if 0≤bt403.1 then (if bt403.1<(t398.length:Int) then (some ((t398.set (bt403.1:Int).toNat (⟨(jba t398 bt403.1).f0,bt416.1⟩:S98)),bt416.2)) else (none)) else (none))) else (if bt405.1=2 then (some (([]:List (S98)),bt405.2)) else (some (t398,bt405.2)))))))=some (r1,r2):=H
 have A2:=am A20
 clear A20
 replace H:=bzS H
 obtain ⟨⟨t403,t404⟩,A30,H⟩:=H
 replace H:((jf.f k s0_0 t404 24).bind fun bt405=>(if bt405.1=0 then ((jdb.f k s0_0 bt405.2 (([(⟨#[]⟩:ByteArray),(⟨#[97,110,121]⟩:ByteArray),(⟨#[65]⟩:ByteArray),(⟨#[116,111,111,108,111,110,103]⟩:ByteArray)]:List ByteArray))).bind fun bt410=>(if 0≤t403 then (if t403<(t398.length:Int) then (some ((t398.set (t403:Int).toNat (⟨bt410.1,(jba t398 t403).f1⟩:S98)),bt410.2)) else (none)) else (none))) else (if bt405.1=1 then ((ji.f k s0_0 bt405.2 (([t403,(-1),8,(-2)]:List Int))).bind fun bt416=>(if 0≤t403 then (if t403<(t398.length:Int) then (some ((t398.set (t403:Int).toNat (⟨(jba t398 t403).f0,bt416.1⟩:S98)),bt416.2)) else (none)) else (none))) else (if bt405.1=2 then (some (([]:List (S98)),bt405.2)) else (some (t398,bt405.2))))))=some (r1,r2):=H
 have A3:=am A30
 clear A30
 replace H:=bzS H
 obtain ⟨⟨t405,t406⟩,A40,H⟩:=H
 replace H:(if t405=0 then ((jdb.f k s0_0 t406 (([(⟨#[]⟩:ByteArray),(⟨#[97,110,121]⟩:ByteArray),(⟨#[65]⟩:ByteArray),(⟨#[116,111,111,108,111,110,103]⟩:ByteArray)]:List ByteArray))).bind fun bt410=>(if 0≤t403 then (if t403<(t398.length:Int) then (some ((t398.set (t403:Int).toNat (⟨bt410.1,(jba t398 t403).f1⟩:S98)),bt410.2)) else (none)) else (none))) else (if t405=1 then ((ji.f k s0_0 t406 (([t403,(-1),8,(-2)]:List Int))).bind fun bt416=>(if 0≤t403 then (if t403<(t398.length:Int) then (some ((t398.set (t403:Int).toNat (⟨(jba t398 t403).f0,bt416.1⟩:S98)),bt416.2)) else (none)) else (none))) else (if t405=2 then (some (([]:List (S98)),t406)) else (some (t398,t406)))))=some (r1,r2):=H
 have A4:=am A40
 clear A40
 by_cases c5:t405=0
 ·rw [if_pos c5] at H
  have c5b0:(t405 == 0)=true:=beq_iff_eq.mpr c5
  have c5b1:(t405 != 0)=false:=bne_eq_false_iff_eq.mpr c5
  clear c5
  obtain ⟨y407,hy407⟩:∃ y_:List ByteArray,y_=(([(⟨#[]⟩:ByteArray),(⟨#[97,110,121]⟩:ByteArray),(⟨#[65]⟩:ByteArray),(⟨#[116,111,111,108,111,110,103]⟩:ByteArray)]:List ByteArray)):=⟨_,rfl⟩
  replace H:((jdb.f k s0_0 t406 y407).bind fun bt410=>(if 0≤t403 then (if t403<(t398.length:Int) then (some ((t398.set (t403:Int).toNat (⟨bt410.1,(jba t398 t403).f1⟩:S98)),bt410.2)) else (none)) else (none)))=some (r1,r2):=by first |(rw [hy407];with_reducible exact H) |(have H2_:=(Option.bind_some _ _).symm.trans H;rw [hy407];with_reducible exact H2_) |(have H2_:=(Option.bind_some _ _).symm.trans H;with_reducible exact H2_) | with_reducible exact H |(rw [hy407];exact H) | exact H
  have Ny407:=am hy407
  clear hy407
  replace H:=bzS H
  obtain ⟨⟨t410,t411⟩,A60,H⟩:=H
  replace H:(if 0≤t403 then (if t403<(t398.length:Int) then (some ((t398.set (t403:Int).toNat (⟨t410,(jba t398 t403).f1⟩:S98)),t411)) else (none)) else (none))=some (r1,r2):=H
  have A6:=am A60
  clear A60
  by_cases c7:0≤t403
  ·rw [if_pos c7] at H
   have c7b0:decide (0≤t403)=true:=dzT c7
   clear c7
   by_cases c8:t403<(t398.length:Int)
   ·rw [if_pos c8] at H
    have c8b0:decide (t403<(t398.length:Int))=true:=dzT c8
    clear c8
    obtain ⟨y412,hy412⟩:∃ y_:List (S98),y_=(t398.set (t403:Int).toNat (⟨t410,(jba t398 t403).f1⟩:S98)):=⟨_,rfl⟩
    replace H:(some (y412,t411))=some (r1,r2):=by first |(rw [hy412];with_reducible exact H) |(have H2_:=(Option.bind_some _ _).symm.trans H;rw [hy412];with_reducible exact H2_) |(have H2_:=(Option.bind_some _ _).symm.trans H;with_reducible exact H2_) | with_reducible exact H |(rw [hy412];exact H) | exact H
    have Ny412:=am hy412
    clear hy412
    simp only [Option.some.injEq,Prod.mk.injEq] at H
    obtain ⟨rfl,rfl⟩:=H
    go_enter Try.func71,Try.ntmps71
    try go_wp2_with (first |((with_reducible refine jS (N:=2) rfl ?_);refine bE (N:=2) (cs:=#[.slice none 0 0]) (t:=32) ?_;intro gb397 hg w10 hbox hb;have BK397:=am (hbox);have GW397:=am ((Y12:w.heap.size≤gb397));have GE397:=am ((Nat.le_trans HW0.out (Y12:w.heap.size≤gb397):w0.heap.size≤gb397));have NB0_397:=am ((Y30:g≠gb397));have NB397_0:=am ((Y31:gb397≠g));replace HK:=am (jb.trans (Y16) (jb.of_below hb g none) (.inl rfl));replace HB:=am (jg (Y17) hb);replace HI0:=am (jc.below (Y15) hb);clear hb hbox hg) |((with_reducible refine je (f:=95) rfl ?_);refine gL (some 6) Try.func95 #[.pointer (some ⟨g,0,none⟩)] ?_;(with_reducible refine (jZ.calls k g s0_0 s0_1 t398 t401 w0 _ ?side1 ?side2 A2.out).mono ?_);(case side1=>exact Y46);(case side2=>exact Y47);rintro e w11 ⟨v399,rfl,ho0,hi,hb,hk⟩;refine ⟨_,rfl,?_⟩;have HO400:=am (Kd.jea ho0 (jN (w:=w) (g:=g) (row:=none) (Y37)));replace BK397:=am (jb.blk hk (g':=gb397) (o:=.cells #[.slice none 0 0] 32 (0,0)) (kq BK397.out) NB397_0.out (by simp));replace HK:=am (jb.trans (Y37) hk (.inl rfl));replace HB:=am (hb);replace HI0:=am (hi);(try clear hb);(try clear hb2);(try clear hk);(try clear hi);(try clear ho0)) |((with_reducible refine jS (N:=3) rfl ?_);refine bE (N:=3) (cs:=#[.slice none 0 0]) (t:=32) ?_;intro gb402 hg w12 hbox hb;have BK402:=am (hbox);have GW402:=am ((Y48:w.heap.size≤gb402));have GE402:=am ((Nat.le_trans HW0.out (Y48:w.heap.size≤gb402):w0.heap.size≤gb402));have NB397_402:=am ((Y68:gb397≠gb402));have NB402_397:=am ((Y69:gb402≠gb397));have NB0_402:=am ((Y70:g≠gb402));have NB402_0:=am ((Y71:gb402≠g));replace HO400:=am (Kd.jva (rq HO400.out) hb);replace BK397:=am (jo (g:=gb397) (o:=.cells #[.slice none 0 0] 32 (0,0)) (kq BK397.out) hb);replace HK:=am (jb.trans (Y37) (jb.of_below hb g none) (.inl rfl));replace HB:=am (jg (Y47) hb);replace HI0:=am (jc.below (Y46) hb);clear hb hbox hg;obtain ⟨Ao13,co13,eo13⟩:=Kd.jsa HO400.out;subst eo13;have hnb14:=NB402_397.out;have hnc14:=NB397_402.out;have hnb15:=NB402_0.out;have hnc15:=NB0_402.out;have hcz16_0:=bc0 BK402.out;have hfz16_0:=ja BK402.out 0) |((with_reducible refine je (f:=55) rfl ?_);refine gL (some 11) Try.func55 #[.pointer (some ⟨g,0,none⟩), .int .i64 (t398.length:Int)] ?_;(with_reducible refine (jf.calls k g s0_0 t401 (t398.length:Int) t403 t404 w0 _ ?side1 ?side2 A3.out).mono ?_);(case side1=>exact Y13);(case side2=>exact Y28);rintro e w17 ⟨rfl,hi,hb,hk⟩;refine ⟨_,rfl,?_⟩;replace BK397:=am (jb.blk hk (g':=gb397) (o:=.cells #[.slice none 0 0] 32 (0,0)) (Y72) NB397_0.out (by simp));replace HO400:=am (Kd.jK (Kd.jFa (jc.apart (show jc w0 _ g s0_0 t401 from Y13) (by (with_reducible repeat (first | apply Kd.jga | apply Kd.jha | apply Kd.jra));exact (Kd.jK (Kd.jHb (p:=⟨gb402,0,none⟩) (Kd.jPa HO400.out BK402.out (by decide)) (fun _ hk=>hk.2) (.slice Ao13 t398.length co13)) (fun _ h_=>h_.1))) (by decide)) hk (fun _ h=>h.2)) (fun _ h=>h.1));replace BK402:=am (jb.blk hk (g':=gb402) (o:=.cells #[.slice Ao13 t398.length co13] 32 (0,0)) (Y73) NB402_0.out (by simp));replace HK:=am (jb.trans (Y24) hk (.inl rfl));replace HB:=am (hb);replace HI0:=am (hi);(try clear hb);(try clear hb2);(try clear hk);(try clear hi)) |((with_reducible refine je (f:=55) rfl ?_);refine gL (some 13) Try.func55 #[.pointer (some ⟨g,0,none⟩), .int .i64 24] ?_;(with_reducible refine (jf.calls k g s0_0 t404 24 t405 t406 w0 _ ?side1 ?side2 A4.out).mono ?_);(case side1=>exact Y13);(case side2=>exact Y28);rintro e w18 ⟨rfl,hi,hb,hk⟩;refine ⟨_,rfl,?_⟩;replace BK397:=am (jb.blk hk (g':=gb397) (o:=.cells #[.slice none 0 0] 32 (0,0)) (kq BK397.out) NB397_0.out (by simp));replace HO400:=am (Kd.jK (Kd.jFa (jc.apart (show jc w0 _ g s0_0 t404 from Y13) (rq HO400.out) (by decide)) hk (fun _ h=>h.2)) (fun _ h=>h.1));replace BK402:=am (jb.blk hk (g':=gb402) (o:=.cells #[.slice Ao13 t398.length co13] 32 (0,0)) (kq BK402.out) NB402_0.out (by simp));replace HK:=am (jb.trans (Y24) hk (.inl rfl));replace HB:=am (hb);replace HI0:=am (hi);(try clear hb);(try clear hb2);(try clear hk);(try clear hi)))
    replace HO400:=am (Kd.jra HO400.out)
    replace BK397:=am (jF BK397.out)
    replace BK402:=am (jF BK402.out)
    replace HI0:=am (jc.drew HI0.out)
    replace HK:=am (jWa HK.out)
    replace HB:=am (jR HB.out)
    refine start_ (n:=9) (S:=fun w'=>w'.cell? ⟨gb402,0,none⟩=some (.slice Ao13 t398.length co13)) (ds:=[8]) #[false,false,false,false,false,false,false,false,false] (by kernel_rfl) rfl rfl ((jA BK402.out 0).trans rfl) (fun hHeld=>?_);refine jTb jpa.tab5 jpa.bits5 (fun HT_ HW_=>?_)
    generalize w18.drew=w19 at HO400 BK397 BK402 HI0 HK HB hHeld ⊢
    refine pq (i:=0) (N:=some 16) #[true,false,false,false,false,false,false,false,false] ?_
    refine pq (i:=2) (N:=some 18) #[true,false,true,false,false,false,false,false,false] ?_
    refine pq (i:=3) (N:=some 19) #[true,false,true,true,false,false,false,false,false] ?_
    refine jrc (i:=1) (N:=some 17) (v:=?_) (a':=?_) #[true,true,true,true,false,false,false,false,false] rfl rfl (jub HT_.out HW_.out (by kernel_rfl)) (fun _ _ _ h=>h) (Or.inl ⟨by rfl,?_⟩) hHeld ?_ ?_
    rotate_left
    ·intro w' s0
     go_simp
     with_reducible rfl
    rotate_left
    ·exact sa
    refine one_ (i:=4) (N:=some 20) #[true,true,true,true,true,false,false,false,false] rfl rfl (jJb HT_.out (by kernel_rfl)) (by decide) (fun K hK=>?_)
    refine Kd.jdc Kd.string _ 9 ?hg (N:=20) ?hd (xs:=([(⟨#[]⟩:ByteArray),(⟨#[97,110,121]⟩:ByteArray),(⟨#[65]⟩:ByteArray),(⟨#[116,111,111,108,111,110,103]⟩:ByteArray)]:List ByteArray)) (inner:=[.string (⟨#[]⟩:ByteArray), .string (⟨#[97,110,121]⟩:ByteArray), .string (⟨#[65]⟩:ByteArray), .string (⟨#[116,111,111,108,111,110,103]⟩:ByteArray)]) (ok:=fun _=>True) (okp:=fun _=>True) ?hr ?hp (fun _ hk=>hk) trivial (Below.refl _ _) (Nat.le_refl _) (by simp) ?_;(case hd=>rfl);(case hg=>rfl);(case hr=>exact Y8);(case hp=>exact (Reps.one (show Kd.M Kd.string _ _ _ (⟨#[]⟩:ByteArray) [.string (⟨#[]⟩:ByteArray)] from rfl) (Reps.one (show Kd.M Kd.string _ _ _ (⟨#[97,110,121]⟩:ByteArray) [.string (⟨#[97,110,121]⟩:ByteArray)] from rfl) (Reps.one (show Kd.M Kd.string _ _ _ (⟨#[65]⟩:ByteArray) [.string (⟨#[65]⟩:ByteArray)] from rfl) (Reps.one (show Kd.M Kd.string _ _ _ (⟨#[116,111,111,108,111,110,103]⟩:ByteArray) [.string (⟨#[116,111,111,108,111,110,103]⟩:ByteArray)] from rfl) (Reps.none _ _))))))
    intro v408 w20 ho21 hb hg_ hnew_
    clear hg_ hnew_
    (first | rw [← Ny407.out] at ho21 |(simp only [Int.reduceToNat] at ho21;rw [← Ny407.out] at ho21))
    have HO409:=am (Kd.jea ho21 (jN (w:=w) (g:=g) (row:=none) (Y24)))
    replace HO400:=am (Kd.jva (rq HO400.out) hb)
    replace BK397:=am (jo (g:=gb397) (o:=.cells #[.slice none 0 0] 32 (0,0)) (kq BK397.out) hb)
    replace BK402:=am (jo (g:=gb402) (o:=.cells #[.slice Ao13 t398.length co13] 32 (0,0)) (kq BK402.out) hb)
    replace HK:=am (jb.trans (Y24) (jb.of_below hb g none) (.inl rfl))
    replace HB:=am (jg (Y28) hb)
    replace HI0:=am (jc.below (Y13) hb)
    clear hb ho21
    obtain ⟨Ao22,co22,eo22⟩:=Kd.jsa HO409.out
    (first | subst eo22 |(injection eo22 with f1_ f2_ f3_;have f4_:=f1_.symm;have f5_:=f3_.symm;clear f1_ f2_ f3_;subst f4_;subst f5_))
    refine hK.out _ _ ((jA BK402.out 0).trans rfl) (fun hHeld=>?_)
    clear hK K
    refine jUb (a':=?_) ?_ ?_
    rotate_left
    ·show Act.put _ (some 20) _=_
     simp only [Act.put,List.setIfInBounds_toArray,List.set_cons_zero,List.set_cons_succ,jlb,jmb]
     rfl
    refine one_ (i:=5) (N:=some 21) #[true,true,true,true,true,true,false,false,false] rfl rfl (jJb HT_.out (by kernel_rfl)) (by decide) (fun K hK=>?_)
    refine goes_ Try.func96 (by kernel_rfl) rfl #[.pointer (some ⟨g,0,none⟩), .slice Ao22 y407.length co22] (by rfl) rfl rfl (aq) ?_
    with_reducible refine (jdb.calls k g s0_0 t406 _ _ y407 t410 t411 w0 _ ?side1 ?side2 ?side3 ?side4 ?side5 A6.out).mono ?_
    (case side1=>exact Y13)
    (case side2=>exact Y28)
    (case side3=>exact cq (Kd.jE HO409.out).2.2)
    (case side4=>exact (Kd.jE HO409.out).2.1)
    (case side5=>exact jBb (jc.own_ne HI0.out HO409.out (by decide)))
    rintro e w23 ⟨rfl,hi,hb,hk⟩
    refine ⟨_,rfl,?_⟩
    replace BK397:=am (jb.blk hk (g':=gb397) (o:=.cells #[.slice none 0 0] 32 (0,0)) (kq BK397.out) NB397_0.out (by simp))
    replace HO400:=am (Kd.jK (Kd.jFa (jc.apart (show jc w0 _ g s0_0 t406 from Y13) (rq HO400.out) (by decide)) hk (fun _ h=>h.2)) (fun _ h=>h.1))
    replace BK402:=am (jb.blk hk (g':=gb402) (o:=.cells #[.slice Ao13 t398.length co13] 32 (0,0)) (kq BK402.out) NB402_0.out (by simp))
    replace HO409:=am (Kd.jK (Kd.jFa (jc.apart (show jc w0 _ g s0_0 t406 from Y13) (rq HO409.out) (by decide)) hk (fun _ h=>h.2)) (fun _ h=>h.1))
    replace HK:=am (jb.trans (Y24) hk (.inl rfl))
    replace HB:=am (hb)
    replace HI0:=am (hi)
    (try clear hb)
    (try clear hb2)
    (try clear hk)
    (try clear hi)
    have p9:0≤(t403:Int):=ozD (uq)
    have q9:(t403:Int)<((t398.length:Int):Int):=ozD (uq)
    obtain ⟨go9,co9,eo9,gb9,gl9,cl9,HG9⟩:=Kd.R_form HO400.out (by omega)
    (first | cases eo9 |(injection eo9 with ea_ en_ ec_;(first | subst ea_ |(injection ea_ with ea_;subst ea_));subst ec_;clear en_))
    have GB9:=am gb9
    have GG9:=am HG9
    clear gb9 gl9 HG9
    obtain ⟨ce9,hcl9,hM9,hcc9,hfr9⟩:=Kd.R_elem HO400.out z98 (t403:Int) p9 q9
    obtain rfl:=k98_openM hM9
    have hx9_0:World.cell? _ ⟨go9,(t403:Int).toNat * 2,none⟩=some (.string ((jba t398 t403).f0)):=hcc9 0 _ rfl
    have hx9_1:World.cell? _ ⟨go9,(t403:Int).toNat * 2+1,none⟩=some (.int .i64 ((jba t398 t403).f1)):=hcc9 1 _ rfl
    have hf9_0:World.frozen? _ ⟨go9,(t403:Int).toNat * 2,none⟩=false:=hfr9 0
    have hf9_1:World.frozen? _ ⟨go9,(t403:Int).toNat * 2+1,none⟩=false:=hfr9 1
    clear hcl9 hcc9 hfr9 hM9
    replace p9:=ezT p9
    replace q9:=ezT q9
    have HN0_go9:=am (show g≠go9 from by have h_:=jc.own_ne HI0.out HO400.out (by decide);intro e_;exact h_ (by rw [e_];rfl))
    obtain ⟨ce24,hcl24,hM24,hcc24,hfr24⟩:=Kd.R_elem HO400.out z98 (t403:Int) (ozD (uq)) (by have h_:(t403:Int)<((t398.length:Int):Int):=ozD (uq);first | exact h_ |(have e_:=(Kd.jE HO400.out).1;omega) | simpa using h_)
    obtain rfl:=k98_openM hM24
    have HP24:=(Kd.R_seg HO400.out (t403:Int) (ozD (uq)) (by have h_:(t403:Int)<((t398.length:Int):Int):=ozD (uq);first | exact h_ |(have e_:=(Kd.jE HO400.out).1;omega) | simpa using h_) (seg:=[.string t410]) (j:=0) hcl24 hcc24 (show 1≤2 from by decide) (x':=(⟨t410,(jba t398 t403).f1⟩:S98)) (k98_mkM _ _ _ (⟨t410,(jba t398 t403).f1⟩:S98) ) (fun _ hk=>hk)).1
    rw [← Ny412.out] at HP24
    have HQ24:=am HP24
    clear hcl24 hcc24 hfr24 hM24 HP24
    refine hK.out _ _ ((jA BK402.out 0).trans rfl) (fun hHeld=>?_)
    clear hK K
    refine jUb (a':=?_) ?_ ?_
    rotate_left
    ·show Act.put _ (some 21) _=_
     simp only [Act.put,List.setIfInBounds_toArray,List.set_cons_zero,List.set_cons_succ,jlb,jmb]
     rfl
    refine pq (i:=6) (N:=some 22) #[true,true,true,true,true,true,true,false,false] ?_
    refine pq (i:=7) (N:=some 23) #[true,true,true,true,true,true,true,true,false] ?_
    refine last_ (i:=8) (N:=none) #[true,true,true,true,true,true,true,true,true] rfl rfl (jJb HT_.out (by kernel_rfl)) (by decide) (fun K hK=>?_)
    refine skip_ (w1:=?_) (by rfl) rfl ?_ ?_
    rotate_left
    ·go_simp
     rfl
    refine hK.out _ _ ?_
    clear hK K
    refine done_ (jGc HT_.out (by kernel_rfl)) ?_
    have n0_:jl (Kd.R k98 98 (w23.setCell ⟨go9,(t403:Int).toNat * 2,none⟩ (.string t410)) w.heap.size (fun _=>True) (.slice (some ⟨go9,0,none⟩) t398.length co13) y412):=⟨rq HQ24.out⟩
    have n1_:jl (Kd.R Kd.string 9 (w23.setCell ⟨go9,(t403:Int).toNat * 2,none⟩ (.string t410)) w.heap.size (fun _=>True) (.slice Ao22 y407.length co22) y407):=⟨by (with_reducible repeat (first | apply Kd.jga | apply Kd.jha | apply Kd.jra));exact Kd.jK (Kd.jHb (p:=⟨go9,(t403:Int).toNat * 2,none⟩) (Kd.jPa HO409.out GG9.out (by decide)) (fun _ hk=>hk.2) (.string t410)) (fun _ hk=>trivial)⟩
    have n2_:jl ((w23.setCell ⟨go9,(t403:Int).toNat * 2,none⟩ (.string t410)).heap[gb397]?=some (.cells #[.slice none 0 0] 32 (0,0))):=⟨by (with_reducible repeat (first | refine jr ?_ _ | refine jF ?_ | refine jB ?_ _));refine jjb ?_ (by have h_:=Kd.R_ne HO400.out BK397.out (by decide);intro e_;exact h_ (by rw [e_];rfl)) _;(with_reducible repeat (first | refine jr ?_ _ | refine jF ?_ | refine jB ?_ _));exact BK397.out⟩
    have n3_:jl ((w23.setCell ⟨go9,(t403:Int).toNat * 2,none⟩ (.string t410)).heap[gb402]?=some (.cells #[.slice (some ⟨go9,0,none⟩) t398.length co13] 32 (0,0))):=⟨by (with_reducible repeat (first | refine jr ?_ _ | refine jF ?_ | refine jB ?_ _));refine jjb ?_ (by have h_:=Kd.R_ne HO400.out BK402.out (by decide);intro e_;exact h_ (by rw [e_];rfl)) _;(with_reducible repeat (first | refine jr ?_ _ | refine jF ?_ | refine jB ?_ _));exact BK402.out⟩
    have n4_:jl (jc w0 (w23.setCell ⟨go9,(t403:Int).toNat * 2,none⟩ (.string t410)) g s0_0 t411):=⟨by repeat (first |(with_reducible first | exact HI0.out | apply jc.alloc | apply jc.drewN | apply jc.drew | apply jc.jjc | refine jc.far ?_ HN0_go9.out _ | refine jc.far ?_ NB0_397.out _ | refine jc.far ?_ NB0_402.out _) | exact HI0.out)⟩
    have n5_:jl (jb w (w23.setCell ⟨go9,(t403:Int).toNat * 2,none⟩ (.string t410)) g none):=⟨by repeat (first |(with_reducible first | exact HK.out | apply jb.set_ | apply jab | apply jWa | apply jbb | refine jhb ?_ GB9.out _ | refine jhb ?_ GW397.out _ | refine jhb ?_ GW402.out _) | exact HK.out)⟩
    have n6_:jl (Below w0.heap.size w0 (w23.setCell ⟨go9,(t403:Int).toNat * 2,none⟩ (.string t410))):=⟨by repeat (first |(with_reducible first | exact HB.out | apply jU | apply jm | apply jR | refine jT ?_ (Nat.le_trans HL.out GB9.out) | refine jT ?_ (jc.ge HI0.out) | refine jT ?_ GE397.out | refine jT ?_ GE402.out) | exact HB.out)⟩
    (try clear HO400)
    (try clear HO409)
    (try clear BK397)
    (try clear BK402)
    (try clear HI0)
    (try clear HK)
    (try clear HB)
    generalize (w23.setCell ⟨go9,(t403:Int).toNat * 2,none⟩ (.string t410))=w25 at n0_ n1_ n2_ n3_ n4_ n5_ n6_ ⊢
    have HO400:=n0_
    have HO409:=n1_
    have BK397:=n2_
    have BK402:=n3_
    have HI0:=n4_
    have HK:=n5_
    have HB:=n6_
    clear n0_ n1_ n2_ n3_ n4_ n5_ n6_
    have hcz26_0:=bc0 BK402.out
    have hfz26_0:=ja BK402.out 0
    have hnb27:=NB397_0.out
    have hnc27:=NB0_397.out
    have hcz28_0:=bc0 BK397.out
    have hfz28_0:=ja BK397.out 0
    try go_wp2
    refine bodyPost_ret (results_cell_row rfl _ _ gb397 32 #[.slice (some ⟨go9,0,none⟩) t398.length co13] (0,0) _ rfl (Y74) Try.underlying32 rfl (by kernel_rfl)) rfl ?_
    exact ⟨_,Y0,by (with_reducible repeat (first | apply Kd.jga | apply Kd.jha | apply Kd.jra));exact Kd.jK (Kd.jHb (p:=⟨gb397,0,none⟩) (Kd.jPa HO400.out BK397.out (by decide)) (fun _ hk=>hk.2) (.slice (some ⟨go9,0,none⟩) t398.length co13)) (fun _ hk=>trivial),Y13,Y28,Y24⟩
   ·rw [if_neg c8] at H
    exact absurd H (by simp)
  ·rw [if_neg c7] at H
   exact absurd H (by simp)
 ·rw [if_neg c5] at H
  have c5b0:(t405 == 0)=false:=beq_eq_false_iff_ne.mpr c5
  have c5b1:(t405 != 0)=true:=bne_iff_ne.mpr c5
  by_cases c29:t405=1
  ·rw [if_pos c29] at H
   have c29b0:(t405 == 1)=true:=beq_iff_eq.mpr c29
   have c29b1:(t405 != 1)=false:=bne_eq_false_iff_eq.mpr c29
   clear c29
   obtain ⟨y413,hy413⟩:∃ y_:List Int,y_=(([t403,(-1),8,(-2)]:List Int)):=⟨_,rfl⟩
   replace H:((ji.f k s0_0 t406 y413).bind fun bt416=>(if 0≤t403 then (if t403<(t398.length:Int) then (some ((t398.set (t403:Int).toNat (⟨(jba t398 t403).f0,bt416.1⟩:S98)),bt416.2)) else (none)) else (none)))=some (r1,r2):=by first |(rw [hy413];with_reducible exact H) |(have H2_:=(Option.bind_some _ _).symm.trans H;rw [hy413];with_reducible exact H2_) |(have H2_:=(Option.bind_some _ _).symm.trans H;with_reducible exact H2_) | with_reducible exact H |(rw [hy413];exact H) | exact H
   have Ny413:=am hy413
   clear hy413
   replace H:=bzS H
   obtain ⟨⟨t416,t417⟩,A300,H⟩:=H
   replace H:(if 0≤t403 then (if t403<(t398.length:Int) then (some ((t398.set (t403:Int).toNat (⟨(jba t398 t403).f0,t416⟩:S98)),t417)) else (none)) else (none))=some (r1,r2):=H
   have A30:=am A300
   clear A300
   by_cases c31:0≤t403
   ·rw [if_pos c31] at H
    have c31b0:decide (0≤t403)=true:=dzT c31
    clear c31
    by_cases c32:t403<(t398.length:Int)
    ·rw [if_pos c32] at H
     have c32b0:decide (t403<(t398.length:Int))=true:=dzT c32
     clear c32
     obtain ⟨y418,hy418⟩:∃ y_:List (S98),y_=(t398.set (t403:Int).toNat (⟨(jba t398 t403).f0,t416⟩:S98)):=⟨_,rfl⟩
     replace H:(some (y418,t417))=some (r1,r2):=by first |(rw [hy418];with_reducible exact H) |(have H2_:=(Option.bind_some _ _).symm.trans H;rw [hy418];with_reducible exact H2_) |(have H2_:=(Option.bind_some _ _).symm.trans H;with_reducible exact H2_) | with_reducible exact H |(rw [hy418];exact H) | exact H
     have Ny418:=am hy418
     clear hy418
     simp only [Option.some.injEq,Prod.mk.injEq] at H
     obtain ⟨rfl,rfl⟩:=H
     go_enter Try.func71,Try.ntmps71
     try go_wp2_with (first |((with_reducible refine jS (N:=2) rfl ?_);refine bE (N:=2) (cs:=#[.slice none 0 0]) (t:=32) ?_;intro gb397 hg w34 hbox hb;have BK397:=am (hbox);have GW397:=am ((Y12:w.heap.size≤gb397));have GE397:=am ((Nat.le_trans HW0.out (Y12:w.heap.size≤gb397):w0.heap.size≤gb397));have NB0_397:=am ((Y30:g≠gb397));have NB397_0:=am ((Y31:gb397≠g));replace HK:=am (jb.trans (Y16) (jb.of_below hb g none) (.inl rfl));replace HB:=am (jg (Y17) hb);replace HI0:=am (jc.below (Y15) hb);clear hb hbox hg) |((with_reducible refine je (f:=95) rfl ?_);refine gL (some 6) Try.func95 #[.pointer (some ⟨g,0,none⟩)] ?_;(with_reducible refine (jZ.calls k g s0_0 s0_1 t398 t401 w0 _ ?side1 ?side2 A2.out).mono ?_);(case side1=>exact Y46);(case side2=>exact Y47);rintro e w35 ⟨v399,rfl,ho0,hi,hb,hk⟩;refine ⟨_,rfl,?_⟩;have HO400:=am (Kd.jea ho0 (jN (w:=w) (g:=g) (row:=none) (Y37)));replace BK397:=am (jb.blk hk (g':=gb397) (o:=.cells #[.slice none 0 0] 32 (0,0)) (kq BK397.out) NB397_0.out (by simp));replace HK:=am (jb.trans (Y37) hk (.inl rfl));replace HB:=am (hb);replace HI0:=am (hi);(try clear hb);(try clear hb2);(try clear hk);(try clear hi);(try clear ho0)) |((with_reducible refine jS (N:=3) rfl ?_);refine bE (N:=3) (cs:=#[.slice none 0 0]) (t:=32) ?_;intro gb402 hg w36 hbox hb;have BK402:=am (hbox);have GW402:=am ((Y48:w.heap.size≤gb402));have GE402:=am ((Nat.le_trans HW0.out (Y48:w.heap.size≤gb402):w0.heap.size≤gb402));have NB397_402:=am ((Y68:gb397≠gb402));have NB402_397:=am ((Y69:gb402≠gb397));have NB0_402:=am ((Y70:g≠gb402));have NB402_0:=am ((Y71:gb402≠g));replace HO400:=am (Kd.jva (rq HO400.out) hb);replace BK397:=am (jo (g:=gb397) (o:=.cells #[.slice none 0 0] 32 (0,0)) (kq BK397.out) hb);replace HK:=am (jb.trans (Y37) (jb.of_below hb g none) (.inl rfl));replace HB:=am (jg (Y47) hb);replace HI0:=am (jc.below (Y46) hb);clear hb hbox hg;obtain ⟨Ao37,co37,eo37⟩:=Kd.jsa HO400.out;subst eo37;have hnb38:=NB402_397.out;have hnc38:=NB397_402.out;have hnb39:=NB402_0.out;have hnc39:=NB0_402.out;have hcz40_0:=bc0 BK402.out;have hfz40_0:=ja BK402.out 0) |((with_reducible refine je (f:=55) rfl ?_);refine gL (some 11) Try.func55 #[.pointer (some ⟨g,0,none⟩), .int .i64 (t398.length:Int)] ?_;(with_reducible refine (jf.calls k g s0_0 t401 (t398.length:Int) t403 t404 w0 _ ?side1 ?side2 A3.out).mono ?_);(case side1=>exact Y13);(case side2=>exact Y28);rintro e w41 ⟨rfl,hi,hb,hk⟩;refine ⟨_,rfl,?_⟩;replace BK397:=am (jb.blk hk (g':=gb397) (o:=.cells #[.slice none 0 0] 32 (0,0)) (Y72) NB397_0.out (by simp));replace HO400:=am (Kd.jK (Kd.jFa (jc.apart (show jc w0 _ g s0_0 t401 from Y13) (by (with_reducible repeat (first | apply Kd.jga | apply Kd.jha | apply Kd.jra));exact (Kd.jK (Kd.jHb (p:=⟨gb402,0,none⟩) (Kd.jPa HO400.out BK402.out (by decide)) (fun _ hk=>hk.2) (.slice Ao37 t398.length co37)) (fun _ h_=>h_.1))) (by decide)) hk (fun _ h=>h.2)) (fun _ h=>h.1));replace BK402:=am (jb.blk hk (g':=gb402) (o:=.cells #[.slice Ao37 t398.length co37] 32 (0,0)) (Y73) NB402_0.out (by simp));replace HK:=am (jb.trans (Y24) hk (.inl rfl));replace HB:=am (hb);replace HI0:=am (hi);(try clear hb);(try clear hb2);(try clear hk);(try clear hi)) |((with_reducible refine je (f:=55) rfl ?_);refine gL (some 13) Try.func55 #[.pointer (some ⟨g,0,none⟩), .int .i64 24] ?_;(with_reducible refine (jf.calls k g s0_0 t404 24 t405 t406 w0 _ ?side1 ?side2 A4.out).mono ?_);(case side1=>exact Y13);(case side2=>exact Y28);rintro e w42 ⟨rfl,hi,hb,hk⟩;refine ⟨_,rfl,?_⟩;replace BK397:=am (jb.blk hk (g':=gb397) (o:=.cells #[.slice none 0 0] 32 (0,0)) (kq BK397.out) NB397_0.out (by simp));replace HO400:=am (Kd.jK (Kd.jFa (jc.apart (show jc w0 _ g s0_0 t404 from Y13) (rq HO400.out) (by decide)) hk (fun _ h=>h.2)) (fun _ h=>h.1));replace BK402:=am (jb.blk hk (g':=gb402) (o:=.cells #[.slice Ao37 t398.length co37] 32 (0,0)) (kq BK402.out) NB402_0.out (by simp));replace HK:=am (jb.trans (Y24) hk (.inl rfl));replace HB:=am (hb);replace HI0:=am (hi);(try clear hb);(try clear hb2);(try clear hk);(try clear hi)))
     replace HO400:=am (Kd.jra HO400.out)
     replace BK397:=am (jF BK397.out)
     replace BK402:=am (jF BK402.out)
     replace HI0:=am (jc.drew HI0.out)
     replace HK:=am (jWa HK.out)
     replace HB:=am (jR HB.out)
     refine start_ (n:=10) (S:=fun w'=>w'.cell? ⟨gb402,0,none⟩=some (.slice Ao37 t398.length co37)) (ds:=[9]) #[false,false,false,false,false,false,false,false,false,false] (by kernel_rfl) rfl rfl ((jA BK402.out 0).trans rfl) (fun hHeld=>?_);refine jTb jpa.tab7 jpa.bits7 (fun HT_ HW_=>?_)
     generalize w42.drew=w43 at HO400 BK397 BK402 HI0 HK HB hHeld ⊢
     refine pq (i:=0) (N:=some 26) #[true,false,false,false,false,false,false,false,false,false] ?_
     refine pq (i:=2) (N:=some 28) #[true,false,true,false,false,false,false,false,false,false] ?_
     refine pq (i:=3) (N:=some 29) #[true,false,true,true,false,false,false,false,false,false] ?_
     refine pq (i:=4) (N:=some 30) #[true,false,true,true,true,false,false,false,false,false] ?_
     refine jrc (i:=1) (N:=some 27) (v:=?_) (a':=?_) #[true,true,true,true,true,false,false,false,false,false] rfl rfl (jub HT_.out HW_.out (by kernel_rfl)) (fun _ _ _ h=>h) (Or.inl ⟨by rfl,?_⟩) hHeld ?_ ?_
     rotate_left
     ·intro w' s0
      go_simp
      with_reducible rfl
     rotate_left
     ·exact sa
     refine one_ (i:=5) (N:=some 31) #[true,true,true,true,true,true,false,false,false,false] rfl rfl (jJb HT_.out (by kernel_rfl)) (by decide) (fun K hK=>?_)
     refine Kd.jdc (Kd.int .i64) _ 3 ?hg (N:=31) ?hd (xs:=([t403,(-1),8,(-2)]:List Int)) (inner:=[.int .i64 t403, .int .i64 (-1), .int .i64 8, .int .i64 (-2)]) (ok:=fun _=>True) (okp:=fun _=>True) ?hr ?hp (fun _ hk=>hk) trivial (Below.refl _ _) (Nat.le_refl _) (by simp) ?_;(case hd=>rfl);(case hg=>rfl);(case hr=>exact Y8);(case hp=>exact (Reps.one (show Kd.M (Kd.int .i64) _ _ _ t403 [.int .i64 t403] from rfl) (Reps.one (show Kd.M (Kd.int .i64) _ _ _ (-1) [.int .i64 (-1)] from rfl) (Reps.one (show Kd.M (Kd.int .i64) _ _ _ 8 [.int .i64 8] from rfl) (Reps.one (show Kd.M (Kd.int .i64) _ _ _ (-2) [.int .i64 (-2)] from rfl) (Reps.none _ _))))))
     intro v414 w44 ho45 hb hg_ hnew_
     clear hg_ hnew_
     (first | rw [← Ny413.out] at ho45 |(simp only [Int.reduceToNat] at ho45;rw [← Ny413.out] at ho45))
     have HO415:=am (Kd.jea ho45 (jN (w:=w) (g:=g) (row:=none) (Y24)))
     replace HO400:=am (Kd.jva (rq HO400.out) hb)
     replace BK397:=am (jo (g:=gb397) (o:=.cells #[.slice none 0 0] 32 (0,0)) (kq BK397.out) hb)
     replace BK402:=am (jo (g:=gb402) (o:=.cells #[.slice Ao37 t398.length co37] 32 (0,0)) (kq BK402.out) hb)
     replace HK:=am (jb.trans (Y24) (jb.of_below hb g none) (.inl rfl))
     replace HB:=am (jg (Y28) hb)
     replace HI0:=am (jc.below (Y13) hb)
     clear hb ho45
     obtain ⟨Ao46,co46,eo46⟩:=Kd.jsa HO415.out
     (first | subst eo46 |(injection eo46 with f1_ f2_ f3_;have f4_:=f1_.symm;have f5_:=f3_.symm;clear f1_ f2_ f3_;subst f4_;subst f5_))
     refine hK.out _ _ ((jA BK402.out 0).trans rfl) (fun hHeld=>?_)
     clear hK K
     refine jUb (a':=?_) ?_ ?_
     rotate_left
     ·show Act.put _ (some 31) _=_
      simp only [Act.put,List.setIfInBounds_toArray,List.set_cons_zero,List.set_cons_succ,jlb,jmb]
      rfl
     refine one_ (i:=6) (N:=some 32) #[true,true,true,true,true,true,true,false,false,false] rfl rfl (jJb HT_.out (by kernel_rfl)) (by decide) (fun K hK=>?_)
     refine goes_ Try.func56 (by kernel_rfl) rfl #[.pointer (some ⟨g,0,none⟩), .slice Ao46 y413.length co46] (by rfl) rfl rfl (aq) ?_
     with_reducible refine (ji.calls k g s0_0 t406 _ _ y413 t416 t417 w0 _ ?side1 ?side2 ?side3 ?side4 ?side5 A30.out).mono ?_
     (case side1=>exact Y13)
     (case side2=>exact Y28)
     (case side3=>exact cq (Kd.jE HO415.out).2.2)
     (case side4=>exact (Kd.jE HO415.out).2.1)
     (case side5=>exact jBb (jc.own_ne HI0.out HO415.out (by decide)))
     rintro e w47 ⟨rfl,hi,hb,hk⟩
     refine ⟨_,rfl,?_⟩
     replace BK397:=am (jb.blk hk (g':=gb397) (o:=.cells #[.slice none 0 0] 32 (0,0)) (kq BK397.out) NB397_0.out (by simp))
     replace HO400:=am (Kd.jK (Kd.jFa (jc.apart (show jc w0 _ g s0_0 t406 from Y13) (rq HO400.out) (by decide)) hk (fun _ h=>h.2)) (fun _ h=>h.1))
     replace BK402:=am (jb.blk hk (g':=gb402) (o:=.cells #[.slice Ao37 t398.length co37] 32 (0,0)) (kq BK402.out) NB402_0.out (by simp))
     replace HO415:=am (Kd.jK (Kd.jFa (jc.apart (show jc w0 _ g s0_0 t406 from Y13) (rq HO415.out) (by decide)) hk (fun _ h=>h.2)) (fun _ h=>h.1))
     replace HK:=am (jb.trans (Y24) hk (.inl rfl))
     replace HB:=am (hb)
     replace HI0:=am (hi)
     (try clear hb)
     (try clear hb2)
     (try clear hk)
     (try clear hi)
     have p33:0≤(t403:Int):=ozD (uq)
     have q33:(t403:Int)<((t398.length:Int):Int):=ozD (uq)
     obtain ⟨go33,co33,eo33,gb33,gl33,cl33,HG33⟩:=Kd.R_form HO400.out (by omega)
     (first | cases eo33 |(injection eo33 with ea_ en_ ec_;(first | subst ea_ |(injection ea_ with ea_;subst ea_));subst ec_;clear en_))
     have GB33:=am gb33
     have GG33:=am HG33
     clear gb33 gl33 HG33
     obtain ⟨ce33,hcl33,hM33,hcc33,hfr33⟩:=Kd.R_elem HO400.out z98 (t403:Int) p33 q33
     obtain rfl:=k98_openM hM33
     have hx33_0:World.cell? _ ⟨go33,(t403:Int).toNat * 2,none⟩=some (.string ((jba t398 t403).f0)):=hcc33 0 _ rfl
     have hx33_1:World.cell? _ ⟨go33,(t403:Int).toNat * 2+1,none⟩=some (.int .i64 ((jba t398 t403).f1)):=hcc33 1 _ rfl
     have hf33_0:World.frozen? _ ⟨go33,(t403:Int).toNat * 2,none⟩=false:=hfr33 0
     have hf33_1:World.frozen? _ ⟨go33,(t403:Int).toNat * 2+1,none⟩=false:=hfr33 1
     clear hcl33 hcc33 hfr33 hM33
     replace p33:=ezT p33
     replace q33:=ezT q33
     have HN0_go33:=am (show g≠go33 from by have h_:=jc.own_ne HI0.out HO400.out (by decide);intro e_;exact h_ (by rw [e_];rfl))
     obtain ⟨ce48,hcl48,hM48,hcc48,hfr48⟩:=Kd.R_elem HO400.out z98 (t403:Int) (ozD (uq)) (by have h_:(t403:Int)<((t398.length:Int):Int):=ozD (uq);first | exact h_ |(have e_:=(Kd.jE HO400.out).1;omega) | simpa using h_)
     obtain rfl:=k98_openM hM48
     have HP48:=(Kd.R_seg HO400.out (t403:Int) (ozD (uq)) (by have h_:(t403:Int)<((t398.length:Int):Int):=ozD (uq);first | exact h_ |(have e_:=(Kd.jE HO400.out).1;omega) | simpa using h_) (seg:=[.int .i64 t416]) (j:=1) hcl48 hcc48 (show 2≤2 from by decide) (x':=(⟨(jba t398 t403).f0,t416⟩:S98)) (k98_mkM _ _ _ (⟨(jba t398 t403).f0,t416⟩:S98) ) (fun _ hk=>hk)).1
     rw [← Ny418.out] at HP48
     have HQ48:=am HP48
     clear hcl48 hcc48 hfr48 hM48 HP48
     refine hK.out _ _ ((jA BK402.out 0).trans rfl) (fun hHeld=>?_)
     clear hK K
     refine jUb (a':=?_) ?_ ?_
     rotate_left
     ·show Act.put _ (some 32) _=_
      simp only [Act.put,List.setIfInBounds_toArray,List.set_cons_zero,List.set_cons_succ,jlb,jmb]
      rfl
     refine pq (i:=7) (N:=some 33) #[true,true,true,true,true,true,true,true,false,false] ?_
     refine pq (i:=8) (N:=some 34) #[true,true,true,true,true,true,true,true,true,false] ?_
     refine last_ (i:=9) (N:=none) #[true,true,true,true,true,true,true,true,true,true] rfl rfl (jJb HT_.out (by kernel_rfl)) (by decide) (fun K hK=>?_)
     refine skip_ (w1:=?_) (by rfl) rfl ?_ ?_
     rotate_left
     ·go_simp
      rfl
     refine hK.out _ _ ?_
     clear hK K
     refine done_ (jGc HT_.out (by kernel_rfl)) ?_
     have n0_:jl (Kd.R k98 98 (w47.setCell ⟨go33,(t403:Int).toNat * 2+1,none⟩ (.int .i64 t416)) w.heap.size (fun _=>True) (.slice (some ⟨go33,0,none⟩) t398.length co37) y418):=⟨rq HQ48.out⟩
     have n1_:jl (Kd.R (Kd.int .i64) 3 (w47.setCell ⟨go33,(t403:Int).toNat * 2+1,none⟩ (.int .i64 t416)) w.heap.size (fun _=>True) (.slice Ao46 y413.length co46) y413):=⟨by (with_reducible repeat (first | apply Kd.jga | apply Kd.jha | apply Kd.jra));exact Kd.jK (Kd.jHb (p:=⟨go33,(t403:Int).toNat * 2+1,none⟩) (Kd.jPa HO415.out GG33.out (by decide)) (fun _ hk=>hk.2) (.int .i64 t416)) (fun _ hk=>trivial)⟩
     have n2_:jl ((w47.setCell ⟨go33,(t403:Int).toNat * 2+1,none⟩ (.int .i64 t416)).heap[gb397]?=some (.cells #[.slice none 0 0] 32 (0,0))):=⟨by (with_reducible repeat (first | refine jr ?_ _ | refine jF ?_ | refine jB ?_ _));refine jjb ?_ (by have h_:=Kd.R_ne HO400.out BK397.out (by decide);intro e_;exact h_ (by rw [e_];rfl)) _;(with_reducible repeat (first | refine jr ?_ _ | refine jF ?_ | refine jB ?_ _));exact BK397.out⟩
     have n3_:jl ((w47.setCell ⟨go33,(t403:Int).toNat * 2+1,none⟩ (.int .i64 t416)).heap[gb402]?=some (.cells #[.slice (some ⟨go33,0,none⟩) t398.length co37] 32 (0,0))):=⟨by (with_reducible repeat (first | refine jr ?_ _ | refine jF ?_ | refine jB ?_ _));refine jjb ?_ (by have h_:=Kd.R_ne HO400.out BK402.out (by decide);intro e_;exact h_ (by rw [e_];rfl)) _;(with_reducible repeat (first | refine jr ?_ _ | refine jF ?_ | refine jB ?_ _));exact BK402.out⟩
     have n4_:jl (jc w0 (w47.setCell ⟨go33,(t403:Int).toNat * 2+1,none⟩ (.int .i64 t416)) g s0_0 t417):=⟨by repeat (first |(with_reducible first | exact HI0.out | apply jc.alloc | apply jc.drewN | apply jc.drew | apply jc.jjc | refine jc.far ?_ HN0_go33.out _ | refine jc.far ?_ NB0_397.out _ | refine jc.far ?_ NB0_402.out _) | exact HI0.out)⟩
     have n5_:jl (jb w (w47.setCell ⟨go33,(t403:Int).toNat * 2+1,none⟩ (.int .i64 t416)) g none):=⟨by repeat (first |(with_reducible first | exact HK.out | apply jb.set_ | apply jab | apply jWa | apply jbb | refine jhb ?_ GB33.out _ | refine jhb ?_ GW397.out _ | refine jhb ?_ GW402.out _) | exact HK.out)⟩
     have n6_:jl (Below w0.heap.size w0 (w47.setCell ⟨go33,(t403:Int).toNat * 2+1,none⟩ (.int .i64 t416))):=⟨by repeat (first |(with_reducible first | exact HB.out | apply jU | apply jm | apply jR | refine jT ?_ (Nat.le_trans HL.out GB33.out) | refine jT ?_ (jc.ge HI0.out) | refine jT ?_ GE397.out | refine jT ?_ GE402.out) | exact HB.out)⟩
     (try clear HO400)
     (try clear HO415)
     (try clear BK397)
     (try clear BK402)
     (try clear HI0)
     (try clear HK)
     (try clear HB)
     generalize (w47.setCell ⟨go33,(t403:Int).toNat * 2+1,none⟩ (.int .i64 t416))=w49 at n0_ n1_ n2_ n3_ n4_ n5_ n6_ ⊢
     have HO400:=n0_
     have HO415:=n1_
     have BK397:=n2_
     have BK402:=n3_
     have HI0:=n4_
     have HK:=n5_
     have HB:=n6_
     clear n0_ n1_ n2_ n3_ n4_ n5_ n6_
     have hcz50_0:=bc0 BK402.out
     have hfz50_0:=ja BK402.out 0
     have hnb51:=NB397_0.out
     have hnc51:=NB0_397.out
     have hcz52_0:=bc0 BK397.out
     have hfz52_0:=ja BK397.out 0
     try go_wp2
     refine bodyPost_ret (results_cell_row rfl _ _ gb397 32 #[.slice (some ⟨go33,0,none⟩) t398.length co37] (0,0) _ rfl (Y74) Try.underlying32 rfl (by kernel_rfl)) rfl ?_
     exact ⟨_,Y0,by (with_reducible repeat (first | apply Kd.jga | apply Kd.jha | apply Kd.jra));exact Kd.jK (Kd.jHb (p:=⟨gb397,0,none⟩) (Kd.jPa HO400.out BK397.out (by decide)) (fun _ hk=>hk.2) (.slice (some ⟨go33,0,none⟩) t398.length co37)) (fun _ hk=>trivial),Y13,Y28,Y24⟩
    ·rw [if_neg c32] at H
     exact absurd H (by simp)
   ·rw [if_neg c31] at H
    exact absurd H (by simp)
  ·rw [if_neg c29] at H
   have c29b0:(t405 == 1)=false:=beq_eq_false_iff_ne.mpr c29
   have c29b1:(t405 != 1)=true:=bne_iff_ne.mpr c29
   by_cases c53:t405=2
   ·rw [if_pos c53] at H
    have c53b0:(t405 == 2)=true:=beq_iff_eq.mpr c53
    have c53b1:(t405 != 2)=false:=bne_eq_false_iff_eq.mpr c53
    clear c53
    simp only [Option.some.injEq,Prod.mk.injEq] at H
    obtain ⟨rfl,rfl⟩:=H
    go_enter Try.func71,Try.ntmps71
    go_wp2_with (first |((with_reducible refine jS (N:=2) rfl ?_);refine bE (N:=2) (cs:=#[.slice none 0 0]) (t:=32) ?_;intro gb397 hg w54 hbox hb;have BK397:=am (hbox);have GW397:=am ((Y12:w.heap.size≤gb397));have GE397:=am ((Nat.le_trans HW0.out (Y12:w.heap.size≤gb397):w0.heap.size≤gb397));have NB0_397:=am ((Y30:g≠gb397));have NB397_0:=am ((Y31:gb397≠g));replace HK:=am (jb.trans (Y16) (jb.of_below hb g none) (.inl rfl));replace HB:=am (jg (Y17) hb);replace HI0:=am (jc.below (Y15) hb);clear hb hbox hg) |((with_reducible refine je (f:=95) rfl ?_);refine gL (some 6) Try.func95 #[.pointer (some ⟨g,0,none⟩)] ?_;(with_reducible refine (jZ.calls k g s0_0 s0_1 t398 t401 w0 _ ?side1 ?side2 A2.out).mono ?_);(case side1=>exact Y46);(case side2=>exact Y47);rintro e w55 ⟨v399,rfl,ho0,hi,hb,hk⟩;refine ⟨_,rfl,?_⟩;have HO400:=am (Kd.jea ho0 (jN (w:=w) (g:=g) (row:=none) (Y37)));replace BK397:=am (jb.blk hk (g':=gb397) (o:=.cells #[.slice none 0 0] 32 (0,0)) (kq BK397.out) NB397_0.out (by simp));replace HK:=am (jb.trans (Y37) hk (.inl rfl));replace HB:=am (hb);replace HI0:=am (hi);(try clear hb);(try clear hb2);(try clear hk);(try clear hi);(try clear ho0)) |((with_reducible refine jS (N:=3) rfl ?_);refine bE (N:=3) (cs:=#[.slice none 0 0]) (t:=32) ?_;intro gb402 hg w56 hbox hb;have BK402:=am (hbox);have GW402:=am ((Y48:w.heap.size≤gb402));have GE402:=am ((Nat.le_trans HW0.out (Y48:w.heap.size≤gb402):w0.heap.size≤gb402));have NB397_402:=am ((Y68:gb397≠gb402));have NB402_397:=am ((Y69:gb402≠gb397));have NB0_402:=am ((Y70:g≠gb402));have NB402_0:=am ((Y71:gb402≠g));replace HO400:=am (Kd.jva (rq HO400.out) hb);replace BK397:=am (jo (g:=gb397) (o:=.cells #[.slice none 0 0] 32 (0,0)) (kq BK397.out) hb);replace HK:=am (jb.trans (Y37) (jb.of_below hb g none) (.inl rfl));replace HB:=am (jg (Y47) hb);replace HI0:=am (jc.below (Y46) hb);clear hb hbox hg;obtain ⟨Ao57,co57,eo57⟩:=Kd.jsa HO400.out;subst eo57;have hnb58:=NB402_397.out;have hnc58:=NB397_402.out;have hnb59:=NB402_0.out;have hnc59:=NB0_402.out;have hcz60_0:=bc0 BK402.out;have hfz60_0:=ja BK402.out 0) |((with_reducible refine je (f:=55) rfl ?_);refine gL (some 11) Try.func55 #[.pointer (some ⟨g,0,none⟩), .int .i64 (t398.length:Int)] ?_;(with_reducible refine (jf.calls k g s0_0 t401 (t398.length:Int) t403 t404 w0 _ ?side1 ?side2 A3.out).mono ?_);(case side1=>exact Y13);(case side2=>exact Y28);rintro e w61 ⟨rfl,hi,hb,hk⟩;refine ⟨_,rfl,?_⟩;replace BK397:=am (jb.blk hk (g':=gb397) (o:=.cells #[.slice none 0 0] 32 (0,0)) (Y72) NB397_0.out (by simp));replace HO400:=am (Kd.jK (Kd.jFa (jc.apart (show jc w0 _ g s0_0 t401 from Y13) (by (with_reducible repeat (first | apply Kd.jga | apply Kd.jha | apply Kd.jra));exact (Kd.jK (Kd.jHb (p:=⟨gb402,0,none⟩) (Kd.jPa HO400.out BK402.out (by decide)) (fun _ hk=>hk.2) (.slice Ao57 t398.length co57)) (fun _ h_=>h_.1))) (by decide)) hk (fun _ h=>h.2)) (fun _ h=>h.1));replace BK402:=am (jb.blk hk (g':=gb402) (o:=.cells #[.slice Ao57 t398.length co57] 32 (0,0)) (Y73) NB402_0.out (by simp));replace HK:=am (jb.trans (Y24) hk (.inl rfl));replace HB:=am (hb);replace HI0:=am (hi);(try clear hb);(try clear hb2);(try clear hk);(try clear hi)) |((with_reducible refine je (f:=55) rfl ?_);refine gL (some 13) Try.func55 #[.pointer (some ⟨g,0,none⟩), .int .i64 24] ?_;(with_reducible refine (jf.calls k g s0_0 t404 24 t405 t406 w0 _ ?side1 ?side2 A4.out).mono ?_);(case side1=>exact Y13);(case side2=>exact Y28);rintro e w62 ⟨rfl,hi,hb,hk⟩;refine ⟨_,rfl,?_⟩;replace BK397:=am (jb.blk hk (g':=gb397) (o:=.cells #[.slice none 0 0] 32 (0,0)) (kq BK397.out) NB397_0.out (by simp));replace HO400:=am (Kd.jK (Kd.jFa (jc.apart (show jc w0 _ g s0_0 t404 from Y13) (rq HO400.out) (by decide)) hk (fun _ h=>h.2)) (fun _ h=>h.1));replace BK402:=am (jb.blk hk (g':=gb402) (o:=.cells #[.slice Ao57 t398.length co57] 32 (0,0)) (kq BK402.out) NB402_0.out (by simp));replace HK:=am (jb.trans (Y24) hk (.inl rfl));replace HB:=am (hb);replace HI0:=am (hi);(try clear hb);(try clear hb2);(try clear hk);(try clear hi);have hnb63:=NB397_0.out;have hnc63:=NB0_397.out;have hcz64_0:=bc0 BK397.out;have hfz64_0:=ja BK397.out 0))
    refine bodyPost_ret (results_cell_row rfl _ _ gb397 32 #[.slice none 0 0] (0,0) _ rfl (Y74) Try.underlying32 rfl (by kernel_rfl)) rfl ?_
    exact ⟨_,Y0,Y93,Y13,Y28,Y24⟩
   ·rw [if_neg c53] at H
    have c53b0:(t405 == 2)=false:=beq_eq_false_iff_ne.mpr c53
    have c53b1:(t405 != 2)=true:=bne_iff_ne.mpr c53
    simp only [Option.some.injEq,Prod.mk.injEq] at H
    obtain ⟨rfl,rfl⟩:=H
    go_enter Try.func71,Try.ntmps71
    go_wp2_with (first |((with_reducible refine jS (N:=2) rfl ?_);refine bE (N:=2) (cs:=#[.slice none 0 0]) (t:=32) ?_;intro gb397 hg w65 hbox hb;have BK397:=am (hbox);have GW397:=am ((Y12:w.heap.size≤gb397));have GE397:=am ((Nat.le_trans HW0.out (Y12:w.heap.size≤gb397):w0.heap.size≤gb397));have NB0_397:=am ((Y30:g≠gb397));have NB397_0:=am ((Y31:gb397≠g));replace HK:=am (jb.trans (Y16) (jb.of_below hb g none) (.inl rfl));replace HB:=am (jg (Y17) hb);replace HI0:=am (jc.below (Y15) hb);clear hb hbox hg) |((with_reducible refine je (f:=95) rfl ?_);refine gL (some 6) Try.func95 #[.pointer (some ⟨g,0,none⟩)] ?_;(with_reducible refine (jZ.calls k g s0_0 s0_1 t398 t401 w0 _ ?side1 ?side2 A2.out).mono ?_);(case side1=>exact Y46);(case side2=>exact Y47);rintro e w66 ⟨v399,rfl,ho0,hi,hb,hk⟩;refine ⟨_,rfl,?_⟩;have HO400:=am (Kd.jea ho0 (jN (w:=w) (g:=g) (row:=none) (Y37)));replace BK397:=am (jb.blk hk (g':=gb397) (o:=.cells #[.slice none 0 0] 32 (0,0)) (kq BK397.out) NB397_0.out (by simp));replace HK:=am (jb.trans (Y37) hk (.inl rfl));replace HB:=am (hb);replace HI0:=am (hi);(try clear hb);(try clear hb2);(try clear hk);(try clear hi);(try clear ho0)) |((with_reducible refine jS (N:=3) rfl ?_);refine bE (N:=3) (cs:=#[.slice none 0 0]) (t:=32) ?_;intro gb402 hg w67 hbox hb;have BK402:=am (hbox);have GW402:=am ((Y48:w.heap.size≤gb402));have GE402:=am ((Nat.le_trans HW0.out (Y48:w.heap.size≤gb402):w0.heap.size≤gb402));have NB397_402:=am ((Y68:gb397≠gb402));have NB402_397:=am ((Y69:gb402≠gb397));have NB0_402:=am ((Y70:g≠gb402));have NB402_0:=am ((Y71:gb402≠g));replace HO400:=am (Kd.jva (rq HO400.out) hb);replace BK397:=am (jo (g:=gb397) (o:=.cells #[.slice none 0 0] 32 (0,0)) (kq BK397.out) hb);replace HK:=am (jb.trans (Y37) (jb.of_below hb g none) (.inl rfl));replace HB:=am (jg (Y47) hb);replace HI0:=am (jc.below (Y46) hb);clear hb hbox hg;obtain ⟨Ao68,co68,eo68⟩:=Kd.jsa HO400.out;subst eo68;have hnb69:=NB402_397.out;have hnc69:=NB397_402.out;have hnb70:=NB402_0.out;have hnc70:=NB0_402.out;have hcz71_0:=bc0 BK402.out;have hfz71_0:=ja BK402.out 0) |((with_reducible refine je (f:=55) rfl ?_);refine gL (some 11) Try.func55 #[.pointer (some ⟨g,0,none⟩), .int .i64 (t398.length:Int)] ?_;(with_reducible refine (jf.calls k g s0_0 t401 (t398.length:Int) t403 t404 w0 _ ?side1 ?side2 A3.out).mono ?_);(case side1=>exact Y13);(case side2=>exact Y28);rintro e w72 ⟨rfl,hi,hb,hk⟩;refine ⟨_,rfl,?_⟩;replace BK397:=am (jb.blk hk (g':=gb397) (o:=.cells #[.slice none 0 0] 32 (0,0)) (Y72) NB397_0.out (by simp));replace HO400:=am (Kd.jK (Kd.jFa (jc.apart (show jc w0 _ g s0_0 t401 from Y13) (by (with_reducible repeat (first | apply Kd.jga | apply Kd.jha | apply Kd.jra));exact (Kd.jK (Kd.jHb (p:=⟨gb402,0,none⟩) (Kd.jPa HO400.out BK402.out (by decide)) (fun _ hk=>hk.2) (.slice Ao68 t398.length co68)) (fun _ h_=>h_.1))) (by decide)) hk (fun _ h=>h.2)) (fun _ h=>h.1));replace BK402:=am (jb.blk hk (g':=gb402) (o:=.cells #[.slice Ao68 t398.length co68] 32 (0,0)) (Y73) NB402_0.out (by simp));replace HK:=am (jb.trans (Y24) hk (.inl rfl));replace HB:=am (hb);replace HI0:=am (hi);(try clear hb);(try clear hb2);(try clear hk);(try clear hi)) |((with_reducible refine je (f:=55) rfl ?_);refine gL (some 13) Try.func55 #[.pointer (some ⟨g,0,none⟩), .int .i64 24] ?_;(with_reducible refine (jf.calls k g s0_0 t404 24 t405 t406 w0 _ ?side1 ?side2 A4.out).mono ?_);(case side1=>exact Y13);(case side2=>exact Y28);rintro e w73 ⟨rfl,hi,hb,hk⟩;refine ⟨_,rfl,?_⟩;replace BK397:=am (jb.blk hk (g':=gb397) (o:=.cells #[.slice none 0 0] 32 (0,0)) (kq BK397.out) NB397_0.out (by simp));replace HO400:=am (Kd.jK (Kd.jFa (jc.apart (show jc w0 _ g s0_0 t404 from Y13) (rq HO400.out) (by decide)) hk (fun _ h=>h.2)) (fun _ h=>h.1));replace BK402:=am (jb.blk hk (g':=gb402) (o:=.cells #[.slice Ao68 t398.length co68] 32 (0,0)) (kq BK402.out) NB402_0.out (by simp));replace HK:=am (jb.trans (Y24) hk (.inl rfl));replace HB:=am (hb);replace HI0:=am (hi);(try clear hb);(try clear hb2);(try clear hk);(try clear hi);have hcz74_0:=bc0 BK402.out;have hfz74_0:=ja BK402.out 0;have hnb75:=NB397_0.out;have hnc75:=NB0_397.out;have hcz76_0:=bc0 BK397.out;have hfz76_0:=ja BK397.out 0))
    refine bodyPost_ret (results_cell_row rfl _ _ gb397 32 #[.slice Ao68 t398.length co68] (0,0) _ rfl (Y74) Try.underlying32 rfl (by kernel_rfl)) rfl ?_
    exact ⟨_,Y0,by (with_reducible repeat (first | apply Kd.jga | apply Kd.jha | apply Kd.jra));exact Kd.jK (Kd.jHb (p:=⟨gb397,0,none⟩) (Kd.jPa HO400.out BK397.out (by decide)) (fun _ hk=>hk.2) (.slice Ao68 t398.length co68)) (fun _ hk=>trivial),Y13,Y28,Y24⟩
mutual
def jy.j0 : Nat → Int → Bool → Int → List Int → Int → List (S98) → Option ((List (S59)) × Int)
 | 0,_,_,_,_,_,_=>none
 | k+1,x2,x3,x9,x1000,x1001,x420000=>if x9<4 then ((ji.f k x1000 x1001 (([1,2,3,4,5]:List Int))).bind fun bt428=>(some ((([(⟨x2,1,bt428.1,0⟩:S59)]:List (S59))),bt428.2))) else (if x9<6 then ((jf.f k x1000 x1001 (x420000.length:Int)).bind fun bt433=>((ji.f k x1000 bt433.2 (([1,2,3]:List Int))).bind fun bt438=>(some ((([(⟨x2,2,bt433.1,bt438.1⟩:S59)]:List (S59))),bt438.2)))) else (if x9=6 then (some ((([(⟨x2,3,0,0⟩:S59)]:List (S59))),x1001)) else (if x9=7 then (jy.j1 k x2 x3 x9 x3 x1000 x1001 x420000 x2 0 0 0) else (jy.j1 k x2 x3 x9 false x1000 x1001 x420000 x2 0 0 0))))
def jy.j1 : Nat → Int → Bool → Int → Bool → List Int → Int → List (S98) → Int → Int → Int → Int → Option ((List (S59)) × Int)
 | 0,_,_,_,_,_,_,_,_,_,_,_=>none
 | k+1,x2,x3,x9,x50,x1000,x1001,x420000,x425000,x425001,x425002,x425003=>if x50=true then ((ji.f k x1000 x1001 (([5,6]:List Int))).bind fun bt449=>(some ((([(⟨x425000,bt449.1,x425002,x425003⟩:S59)]:List (S59))),bt449.2))) else (if x9=7 then ((ji.f k x1000 x1001 (([7,8]:List Int))).bind fun bt457=>(some ((([(⟨x425000,4,bt457.1,x425003⟩:S59)]:List (S59))),bt457.2))) else (if x9=8 then (some ((([(⟨x425000,0,x425002,x425003⟩:S59)]:List (S59))),x1001)) else (if x9<11 then ((jf.f k x1000 x1001 4).bind fun bt465=>((jf.f k x1000 bt465.2 2).bind fun bt467=>((some (([(⟨x425000,11,bt465.1,bt467.1⟩:S59)]:List (S59)):List (S59))).bind fun y469=>((jL.f k x1000 bt467.2 x420000 (wrap64 (x2+1)) x3).bind fun bt472=>(if y469.length+bt472.1.length<4398046511104 then (some ((y469 ++ bt472.1),bt472.2)) else (none)))))) else (if x9=11 then ((ji.f k x1000 x1001 (([2,1,3,0]:List Int))).bind fun bt482=>((some (([(⟨x425000,12,bt482.1,x425003⟩:S59)]:List (S59)):List (S59))).bind fun y484=>((jL.f k x1000 bt482.2 x420000 (wrap64 (x2+1)) true).bind fun bt487=>(if y484.length+bt487.1.length<4398046511104 then (some ((y484 ++ bt487.1),bt487.2)) else (none))))) else ((jW.f k x1000 x1001 x420000 x2 x3).bind fun bt494=>(some (bt494.1,bt494.2)))))))
def jy.f : Nat → List Int → Int → List (S98) → Int → Bool → Option ((List (S59)) × Int)
 | 0,_,_,_,_,_=>none
 | k+1,s0_0,s0_1,l1_0,a2,a3=>(jf.f k s0_0 s0_1 16).bind fun bt420=>(if a2≥3 then ((jf.f k s0_0 bt420.2 9).bind fun bt422=>(jy.j0 k a2 a3 bt422.1 s0_0 bt422.2 l1_0)) else (jy.j0 k a2 a3 bt420.1 s0_0 bt420.2 l1_0))
def jL.l0 : Nat → Int → Bool → List (S59) → Int → List Int → Int → List (S98) → Option ((List (S59)) × Int)
 | 0,_,_,_,_,_,_,_=>none
 | k+1,x2,x3,x9,x10,x1000,x1001,x499000=>if x10 > 0 then ((jy.f k x1000 x1001 x499000 x2 x3).bind fun bt507=>(if x9.length+bt507.1.length<4398046511104 then (jL.l0 k x2 x3 (x9 ++ bt507.1) (wrap64 (x10 - 1)) x1000 bt507.2 x499000) else (none))) else (some (x9,x1001))
def jL.f : Nat → List Int → Int → List (S98) → Int → Bool → Option ((List (S59)) × Int)
 | 0,_,_,_,_,_=>none
 | k+1,s0_0,s0_1,l1_0,a2,a3=>(ji.f k s0_0 s0_1 (([1,2,1,2,3]:List Int))).bind fun bt505=>(jL.l0 k a2 a3 (([]:List (S59))) bt505.1 s0_0 bt505.2 l1_0)
def jW.l0 : Nat → Int → Bool → List (S59) → Int → Int → List Int → Int → List (S98) → Option ((List (S59)) × Int)
 | 0,_,_,_,_,_,_,_,_=>none
 | k+1,x2,x3,x9,x10,x11,x1000,x1001,x515000=>if x11 > 0 then ((jf.f k x1000 x1001 (x515000.length:Int)).bind fun bt530=>((ji.f k x1000 bt530.2 (([bt530.1,0]:List Int))).bind fun bt535=>(if x9.length<4398046511104 then ((some (x9 ++ [(⟨x2,8,bt535.1,0⟩:S59)]:List (S59))).bind fun y537=>((jL.f k x1000 bt535.2 x515000 (wrap64 (x2+1)) x3).bind fun bt540=>(if y537.length+bt540.1.length<4398046511104 then (jW.l0 k x2 x3 (y537 ++ bt540.1) x10 (wrap64 (x11 - 1)) x1000 bt540.2 x515000) else (none)))) else (none)))) else (if x10 > 0 then ((jf.f k x1000 x1001 3).bind fun bt547=>(jW.j1 k x2 x3 x9 x10 (bt547.1 == 0) x1000 bt547.2 x515000)) else (jW.j1 k x2 x3 x9 x10 false x1000 x1001 x515000))
def jW.j1 : Nat → Int → Bool → List (S59) → Int → Bool → List Int → Int → List (S98) → Option ((List (S59)) × Int)
 | 0,_,_,_,_,_,_,_,_=>none
 | k+1,x2,x3,x9,x10,x57,x1000,x1001,x515000=>if x57=true then (if x9.length<4398046511104 then ((some (x9 ++ [(⟨x2,9,0,0⟩:S59)]:List (S59))).bind fun y549=>((jL.f k x1000 x1001 x515000 (wrap64 (x2+1)) x3).bind fun bt552=>(if y549.length+bt552.1.length<4398046511104 then (jW.j2 k x2 x3 (y549 ++ bt552.1) x10 x1000 bt552.2 x515000) else (none)))) else (none)) else (jW.j2 k x2 x3 x9 x10 x1000 x1001 x515000)
def jW.j2 : Nat → Int → Bool → List (S59) → Int → List Int → Int → List (S98) → Option ((List (S59)) × Int)
 | 0,_,_,_,_,_,_,_=>none
 | k+1,x2,x3,x9,x10,x1000,x1001,x515000=>if x10=0 then (if x9.length<4398046511104 then ((some (x9 ++ [(⟨x2,10,0,0⟩:S59)]:List (S59))).bind fun y561=>((jL.f k x1000 x1001 x515000 (wrap64 (x2+1)) x3).bind fun bt564=>(if y561.length+bt564.1.length<4398046511104 then (some ((y561 ++ bt564.1),bt564.2)) else (none)))) else (none)) else ((jf.f k x1000 x1001 2).bind fun bt559=>(if bt559.1=0 then (if x9.length<4398046511104 then ((some (x9 ++ [(⟨x2,10,0,0⟩:S59)]:List (S59))).bind fun y571=>((jL.f k x1000 bt559.2 x515000 (wrap64 (x2+1)) x3).bind fun bt574=>(if y571.length+bt574.1.length<4398046511104 then (some ((y571 ++ bt574.1),bt574.2)) else (none)))) else (none)) else (some (x9,bt559.2))))
def jW.f : Nat → List Int → Int → List (S98) → Int → Bool → Option ((List (S59)) × Int)
 | 0,_,_,_,_,_=>none
 | k+1,s0_0,s0_1,l1_0,a2,a3=>(some (([(⟨a2,7,0,0⟩:S59)]:List (S59)):List (S59))).bind fun y515=>((jL.f k s0_0 s0_1 l1_0 (wrap64 (a2+1)) a3).bind fun bt518=>(if y515.length+bt518.1.length<4398046511104 then ((ji.f k s0_0 bt518.2 (([1,2,0,1]:List Int))).bind fun bt528=>(jW.l0 k a2 a3 (y515 ++ bt518.1) bt528.1 bt528.1 s0_0 bt528.2 l1_0)) else (none)))
end
def jy.T26 : Bool × List (List Nat × List Nat) := (true, [([], []), ([0], [0]), ([], []), ([], []), ([], []), ([4], [4]), ([], []), ([2, 3, 5, 6], [2, 3, 5, 6]), ([1, 7, 7], [1, 7]), ([8, 8, 0, 1, 2, 3, 4, 5, 6, 7, 8], [8])])
def jy.B26 : List Nat := [0, 1, 0, 0, 0, 16, 0, 124, 255, 511]
theorem jy.tab26 : rtab .any (opsOf Try.f104 26) = jy.T26 := by kernel_rfl
theorem jy.bits26 : jic jy.T26.2 jy.B26 = true := by kernel_rfl
def jy.T30 : Bool × List (List Nat × List Nat) := (true, [([], []), ([0], [0]), ([], []), ([], []), ([], []), ([4], [4]), ([2, 3, 5], [2, 3, 5]), ([1, 6, 6], [1, 6]), ([7, 7, 0, 1, 2, 3, 4, 5, 6, 7], [7])])
def jy.B30 : List Nat := [0, 1, 0, 0, 0, 16, 60, 127, 255]
theorem jy.tab30 : rtab .any (opsOf Try.f104 30) = jy.T30 := by kernel_rfl
theorem jy.bits30 : jic jy.T30.2 jy.B30 = true := by kernel_rfl
set_option maxHeartbeats 8000000 in
set_option maxRecDepth 100000 in
theorem jy.calls_of (k : Nat) (ih104 : ∀ k_, k_ < k → ∀ (g : Nat) (s0_0 : List Int) (s0_1 : Int) (A1_0 : Option Addr) (c1_0 : Nat) (l1_0 : List (S98)) (a2 : Int) (a3 : Bool) (r1 : List (S59)) (r2 : Int) (w0 w : World) (hI : jc w0 w g s0_0 s0_1) (hB : Below w0.heap.size w0 w) (hr1_0 : ∀ W_, jb w W_ g none → Kd.C k98 W_ A1_0 l1_0.length l1_0) (hc1_0 : l1_0.length ≤ c1_0) (h : jy.f k_ s0_0 s0_1 l1_0 a2 a3 = some (r1, r2)), Calls Try.prog 104 #[.pointer (some ⟨g, 0, none⟩), .agg #[.slice A1_0 l1_0.length c1_0], .int .i64 a2, .bool a3] w fun e w' => ∃ v0_ : Value, e = .returned (v0_) ∧ Kd.R k59 59 w' w.heap.size (fun _ => True) v0_ r1 ∧ jc w0 w' g s0_0 r2 ∧ Below w0.heap.size w0 w' ∧ jb w w' g none) (ih98 : ∀ k_, k_ < k → ∀ (g : Nat) (s0_0 : List Int) (s0_1 : Int) (A1_0 : Option Addr) (c1_0 : Nat) (l1_0 : List (S98)) (a2 : Int) (a3 : Bool) (r1 : List (S59)) (r2 : Int) (w0 w : World) (hI : jc w0 w g s0_0 s0_1) (hB : Below w0.heap.size w0 w) (hr1_0 : ∀ W_, jb w W_ g none → Kd.C k98 W_ A1_0 l1_0.length l1_0) (hc1_0 : l1_0.length ≤ c1_0) (h : jL.f k_ s0_0 s0_1 l1_0 a2 a3 = some (r1, r2)), Calls Try.prog 98 #[.pointer (some ⟨g, 0, none⟩), .agg #[.slice A1_0 l1_0.length c1_0], .int .i64 a2, .bool a3] w fun e w' => ∃ v0_ : Value, e = .returned (v0_) ∧ Kd.R k59 59 w' w.heap.size (fun _ => True) v0_ r1 ∧ jc w0 w' g s0_0 r2 ∧ Below w0.heap.size w0 w' ∧ jb w w' g none) (ih97 : ∀ k_, k_ < k → ∀ (g : Nat) (s0_0 : List Int) (s0_1 : Int) (A1_0 : Option Addr) (c1_0 : Nat) (l1_0 : List (S98)) (a2 : Int) (a3 : Bool) (r1 : List (S59)) (r2 : Int) (w0 w : World) (hI : jc w0 w g s0_0 s0_1) (hB : Below w0.heap.size w0 w) (hr1_0 : ∀ W_, jb w W_ g none → Kd.C k98 W_ A1_0 l1_0.length l1_0) (hc1_0 : l1_0.length ≤ c1_0) (h : jW.f k_ s0_0 s0_1 l1_0 a2 a3 = some (r1, r2)), Calls Try.prog 97 #[.pointer (some ⟨g, 0, none⟩), .agg #[.slice A1_0 l1_0.length c1_0], .int .i64 a2, .bool a3] w fun e w' => ∃ v0_ : Value, e = .returned (v0_) ∧ Kd.R k59 59 w' w.heap.size (fun _ => True) v0_ r1 ∧ jc w0 w' g s0_0 r2 ∧ Below w0.heap.size w0 w' ∧ jb w w' g none) : ∀ (g : Nat) (s0_0 : List Int) (s0_1 : Int) (A1_0 : Option Addr) (c1_0 : Nat) (l1_0 : List (S98)) (a2 : Int) (a3 : Bool) (r1 : List (S59)) (r2 : Int) (w0 w : World) (hI : jc w0 w g s0_0 s0_1) (hB : Below w0.heap.size w0 w) (hr1_0 : ∀ W_, jb w W_ g none → Kd.C k98 W_ A1_0 l1_0.length l1_0) (hc1_0 : l1_0.length ≤ c1_0) (h : jy.f k s0_0 s0_1 l1_0 a2 a3 = some (r1, r2)),
  Calls Try.prog 104 #[.pointer (some ⟨g,0,none⟩), .agg #[.slice A1_0 l1_0.length c1_0], .int .i64 a2, .bool a3] w fun e w'=>∃ v0_:Value,e=.returned (v0_)∧Kd.R k59 59 w' w.heap.size (fun _=>True) v0_ r1∧jc w0 w' g s0_0 r2∧Below w0.heap.size w0 w'∧jb w w' g none:=by
 intro g s0_0 s0_1 A1_0 c1_0 l1_0 a2 a3 r1 r2 w0 w hI hB hr1_0 hc1_0 h
 cases k with
 | zero=>exact absurd h (by simp [jy.f])
 | succ k =>
 simp only [jy.f] at h
 have hu32:=Try.underlying32
 have hu59:=Try.underlying59
 have HR1_0:=am hr1_0
 have HC1_0:=am hc1_0
 clear hr1_0 hc1_0
 have HI0:=am hI
 have HK:=am (jb.refl w g none)
 have HL:=am hB.size
 clear hI
 have HW0:=am hB.size
 have HB:=am hB
 clear hB
 have H:((jf.f k s0_0 s0_1 16).bind fun bt420=>(if a2≥3 then ((jf.f k s0_0 bt420.2 9).bind fun bt422=>(jy.j0 k a2 a3 bt422.1 s0_0 bt422.2 l1_0)) else (jy.j0 k a2 a3 bt420.1 s0_0 bt420.2 l1_0)))=some (r1,r2):=h
 clear h
 replace H:=bzS H
 obtain ⟨⟨t420,t421⟩,A50,H⟩:=H
 replace H:(if a2≥3 then ((jf.f k s0_0 t421 9).bind fun bt422=>(jy.j0 k a2 a3 bt422.1 s0_0 bt422.2 l1_0)) else (jy.j0 k a2 a3 t420 s0_0 t421 l1_0))=some (r1,r2):=H
 have A5:=am A50
 clear A50
 have HC6:=am H
 clear H
 go_enter Try.func104,Try.ntmps104
 go_upto_if 14 with (first |((with_reducible refine jS (N:=5) rfl ?_);refine bE (N:=5) (cs:=#[.slice A1_0 l1_0.length c1_0]) (t:=32) ?_;intro gb419 hg w7 hbox hb;have BK419:=am (hbox);have GW419:=am ((Y12:w.heap.size≤gb419));have GE419:=am ((Nat.le_trans HW0.out (Y12:w.heap.size≤gb419):w0.heap.size≤gb419));have NB0_419:=am ((Y30:g≠gb419));have NB419_0:=am ((Y31:gb419≠g));replace HK:=am (jb.trans (Y16) (jb.of_below hb g none) (.inl rfl));replace HB:=am (jg (Y17) hb);replace HI0:=am (jc.below (Y15) hb);clear hb hbox hg) |((with_reducible refine je (f:=55) rfl ?_);refine gL (some 12) Try.func55 #[.pointer (some ⟨g,0,none⟩), .int .i64 16] ?_;(with_reducible refine (jf.calls k g s0_0 s0_1 16 t420 t421 w0 _ ?side1 ?side2 A5.out).mono ?_);(case side1=>exact Y49);(case side2=>exact Y50);rintro e w8 ⟨rfl,hi,hb,hk⟩;refine ⟨_,rfl,?_⟩;replace BK419:=am (jb.blk hk (g':=gb419) (o:=.cells #[.slice A1_0 l1_0.length c1_0] 32 (0,0)) (kq BK419.out) NB419_0.out (by simp));replace HK:=am (jb.trans (Y51) hk (.inl rfl));replace HB:=am (hb);replace HI0:=am (hi);(try clear hb);(try clear hb2);(try clear hk);(try clear hi)))
 (try simp only [Act.put,List.setIfInBounds_toArray,List.set_cons_zero,List.set_cons_succ])
 go_cut [9] (fun v9 wc=>∃ (kq:Nat) (x9_5:Int) (x1001_5:Int),v9=.int .i64 x9_5∧jl (jy.j0 kq a2 a3 x9_5 s0_0 x1001_5 l1_0=some (r1,r2))∧jl (kq≤k)∧jl (wc.heap[gb419]?=some (.cells #[(.slice A1_0 l1_0.length c1_0)] 32 (0,0)))∧jl (jc w0 wc g s0_0 x1001_5)∧jl (jb w wc g none)∧jl (Below w0.heap.size w0 wc))
 case first =>
  have H:=HC6.out
  clear HC6
  by_cases c9:a2≥3
  ·rw [if_pos c9] at H
   have c9b0:decide (3≤a2)=true:=dzT c9
   clear c9
   (first | rw [c9b0] |(simp only [jlb,jmb];rw [c9b0]) | skip)
   replace H:=bzS H
   obtain ⟨⟨t422,t423⟩,A100,H⟩:=H
   replace H:(jy.j0 k a2 a3 t422 s0_0 t423 l1_0)=some (r1,r2):=H
   have A10:=am A100
   clear A100
   have H':=am H
   clear H
   go_wp2_with (first |((with_reducible refine je (f:=55) rfl ?_);refine gL (some 16) Try.func55 #[.pointer (some ⟨g,0,none⟩), .int .i64 9] ?_;(with_reducible refine (jf.calls k g s0_0 t421 9 t422 t423 w0 _ ?side1 ?side2 A10.out).mono ?_);(case side1=>exact Y49);(case side2=>exact Y50);rintro e w11 ⟨rfl,hi,hb,hk⟩;refine ⟨_,rfl,?_⟩;replace BK419:=am (jb.blk hk (g':=gb419) (o:=.cells #[.slice A1_0 l1_0.length c1_0] 32 (0,0)) (kq BK419.out) NB419_0.out (by simp));replace HK:=am (jb.trans (Y51) hk (.inl rfl));replace HB:=am (hb);replace HI0:=am (hi);(try clear hb);(try clear hb2);(try clear hk);(try clear hi)))
   go_meet
   case rel=>exact ⟨_,(t422),(t423),(sq),H',⟨Y42⟩,⟨kq BK419.out⟩,⟨Y49⟩,⟨Y51⟩,⟨Y50⟩⟩
  ·rw [if_neg c9] at H
   have c9b0:decide (3≤a2)=false:=dzF c9
   clear c9
   (first | rw [c9b0] |(simp only [jlb,jmb];rw [c9b0]) | skip)
   have H':=am H
   clear H
   go_wp2
   go_meet
   case rel=>exact ⟨_,(t420),(t421),(sq),H',⟨Y42⟩,⟨kq BK419.out⟩,⟨Y49⟩,⟨Y51⟩,⟨Y50⟩⟩
 case rest =>
  clear HC6
  try clear c1
  try clear p2
  try clear c5
  try clear c9
  try clear c9b0
  try clear c10
  obtain ⟨kq,x9_5,x1001_5,rfl,HA,HJ5,BK419,HI0,HK,HB⟩:=hcut
  cases kq with
  | zero=>exact absurd HA.out (by simp [jy.j0])
  | succ kj5 =>
   have H:=HA.out
   clear HA
   simp only [jy.j0] at H
   by_cases c12:x9_5<4
   ·rw [if_pos c12] at H
    have c12b0:decide (x9_5<4)=true:=dzT c12
    clear c12
    obtain ⟨y425,hy425⟩:∃ y_:List Int,y_=(([1,2,3,4,5]:List Int)):=⟨_,rfl⟩
    replace H:((ji.f kj5 s0_0 x1001_5 y425).bind fun bt428=>(some ((([(⟨a2,1,bt428.1,0⟩:S59)]:List (S59))),bt428.2)))=some (r1,r2):=by first |(rw [hy425];with_reducible exact H) |(have H2_:=(Option.bind_some _ _).symm.trans H;rw [hy425];with_reducible exact H2_) |(have H2_:=(Option.bind_some _ _).symm.trans H;with_reducible exact H2_) | with_reducible exact H |(rw [hy425];exact H) | exact H
    have Ny425:=am hy425
    clear hy425
    replace H:=bzS H
    obtain ⟨⟨t428,t429⟩,A130,H⟩:=H
    replace H:(some ((([(⟨a2,1,t428,0⟩:S59)]:List (S59))),t429))=some (r1,r2):=H
    have A13:=am A130
    clear A130
    obtain ⟨y430,hy430⟩:∃ y_:List (S59),y_=(([(⟨a2,1,t428,0⟩:S59)]:List (S59))):=⟨_,rfl⟩
    replace H:(some (y430,t429))=some (r1,r2):=by first |(rw [hy430];with_reducible exact H) |(have H2_:=(Option.bind_some _ _).symm.trans H;rw [hy430];with_reducible exact H2_) |(have H2_:=(Option.bind_some _ _).symm.trans H;with_reducible exact H2_) | with_reducible exact H |(rw [hy430];exact H) | exact H
    have Ny430:=am hy430
    clear hy430
    simp only [Option.some.injEq,Prod.mk.injEq] at H
    obtain ⟨rfl,rfl⟩:=H
    go_wp2_with (first |((with_reducible refine jS (N:=10) rfl ?_);refine bE (N:=10) (cs:=#[.int .i64 0, .int .i64 0, .int .i64 0, .int .i64 0]) (t:=59) ?_;intro gb424 hg w14 hbox hb;have BK424:=am (hbox);have GW424:=am ((Y52:w.heap.size≤gb424));have GE424:=am ((Nat.le_trans HW0.out (Y52:w.heap.size≤gb424):w0.heap.size≤gb424));have NB419_424:=am ((Y75:gb419≠gb424));have NB424_419:=am ((Y76:gb424≠gb419));have NB0_424:=am ((Y77:g≠gb424));have NB424_0:=am ((Y78:gb424≠g));replace BK419:=am (jo (g:=gb419) (o:=.cells #[.slice A1_0 l1_0.length c1_0] 32 (0,0)) (kq BK419.out) hb);replace HK:=am (jb.trans (Y51) (jb.of_below hb g none) (.inl rfl));replace HB:=am (jg (Y50) hb);replace HI0:=am (jc.below (Y49) hb);clear hb hbox hg;have hnb15:=NB424_419.out;have hnc15:=NB419_424.out;have hnb16:=NB424_0.out;have hnc16:=NB0_424.out;have hcz17_0:=bc0 BK424.out;have hcz17_1:=bc1 BK424.out;have hcz17_2:=bc2 BK424.out;have hcz17_3:=bc3 BK424.out;have hfz17_0:=ja BK424.out 0;have hfz17_1:=ja BK424.out 1;have hfz17_2:=ja BK424.out 2;have hfz17_3:=ja BK424.out 3) |((with_reducible refine jS (N:=29) rfl ?_);refine Kd.jWb (Kd.int .i64) _ 3 ?hg (N:=29) ?hd (xs:=([1,2,3,4,5]:List Int)) (inner:=[.int .i64 1, .int .i64 2, .int .i64 3, .int .i64 4, .int .i64 5]) (ok:=fun _=>True) (okp:=fun _=>True) ?hr ?hp (fun _ hk=>hk) trivial (Below.refl _ _) (Nat.le_refl _) (by simp) ?_;(case hd=>rfl);(case hg=>rfl);(case hr=>exact Y8);(case hp=>exact (Reps.one (show Kd.M (Kd.int .i64) _ _ _ 1 [.int .i64 1] from rfl) (Reps.one (show Kd.M (Kd.int .i64) _ _ _ 2 [.int .i64 2] from rfl) (Reps.one (show Kd.M (Kd.int .i64) _ _ _ 3 [.int .i64 3] from rfl) (Reps.one (show Kd.M (Kd.int .i64) _ _ _ 4 [.int .i64 4] from rfl) (Reps.one (show Kd.M (Kd.int .i64) _ _ _ 5 [.int .i64 5] from rfl) (Reps.none _ _)))))));intro v426 w18 ho19 hb hg_ hnew_;clear hg_ hnew_;(first | rw [← Ny425.out] at ho19 |(simp only [Int.reduceToNat] at ho19;rw [← Ny425.out] at ho19));have HO427:=am (Kd.jea ho19 (jN (w:=w) (g:=g) (row:=none) (Y1)));replace BK419:=am (jo (g:=gb419) (o:=.cells #[.slice A1_0 l1_0.length c1_0] 32 (0,0)) (Y88) hb);replace BK424:=am (jo (g:=gb424) (o:=.cells #[.int .i64 a2, .int .i64 1, .int .i64 0, .int .i64 0] 59 (0,0)) (Y79) hb);replace HK:=am (jb.trans (Y1) (jb.of_below hb g none) (.inl rfl));replace HB:=am (jg (Y6) hb);replace HI0:=am (jc.below (show jc w0 (((((w14.setCell ⟨gb424,0,none⟩ (.int .i64 a2)).setCell ⟨gb424,1,none⟩ (.int .i64 0)).setCell ⟨gb424,2,none⟩ (.int .i64 0)).setCell ⟨gb424,3,none⟩ (.int .i64 0)).setCell ⟨gb424,1,none⟩ (.int .i64 1)) g s0_0 x1001_5 from Y3) hb);clear hb ho19;obtain ⟨Ao20,co20,eo20⟩:=Kd.jsa HO427.out;subst eo20) |((with_reducible refine je (f:=56) rfl ?_);refine gL (some 30) Try.func56 #[.pointer (some ⟨g,0,none⟩), .slice Ao20 y425.length co20] ?_;(with_reducible refine (ji.calls kj5 g s0_0 x1001_5 _ _ y425 t428 t429 w0 _ ?side1 ?side2 ?side3 ?side4 ?side5 A13.out).mono ?_);(case side1=>exact Y3);(case side2=>exact Y6);(case side3=>exact cq (Kd.jE HO427.out).2.2);(case side4=>exact (Kd.jE HO427.out).2.1);(case side5=>exact jBb (jc.own_ne HI0.out HO427.out (by decide)));rintro e w21 ⟨rfl,hi,hb,hk⟩;refine ⟨_,rfl,?_⟩;replace BK419:=am (jb.blk hk (g':=gb419) (o:=.cells #[.slice A1_0 l1_0.length c1_0] 32 (0,0)) (kq BK419.out) NB419_0.out (by simp));replace BK424:=am (jb.blk hk (g':=gb424) (o:=.cells #[.int .i64 a2, .int .i64 1, .int .i64 0, .int .i64 0] 59 (0,0)) (kq BK424.out) NB424_0.out (by simp));replace HO427:=am (Kd.jK (Kd.jFa (jc.apart (show jc w0 _ g s0_0 x1001_5 from Y3) (rq HO427.out) (by decide)) hk (fun _ h=>h.2)) (fun _ h=>h.1));replace HK:=am (jb.trans (Y1) hk (.inl rfl));replace HB:=am (hb);replace HI0:=am (hi);(try clear hb);(try clear hb2);(try clear hk);(try clear hi);have hcz22_0:=bc0 BK424.out;have hcz22_1:=bc1 BK424.out;have hcz22_2:=bc2 BK424.out;have hcz22_3:=bc3 BK424.out;have hfz22_0:=ja BK424.out 0;have hfz22_1:=ja BK424.out 1;have hfz22_2:=ja BK424.out 2;have hfz22_3:=ja BK424.out 3) |((with_reducible refine jS (N:=108) rfl ?_);refine Kd.jWb k59 _ 59 ?hg (N:=108) ?hd (xs:=([(⟨a2,1,t428,0⟩:S59)]:List (S59))) (inner:=[.int .i64 a2, .int .i64 1, .int .i64 t428, .int .i64 0]) (ok:=fun _=>True) (okp:=fun _=>True) ?hr ?hp (fun _ hk=>hk) trivial (Below.refl _ _) (Nat.le_refl _) (by simp) ?_;(case hd=>rfl);(case hg=>rfl);(case hr=>exact Y8);(case hp=>exact (Reps.c4 (show Kd.M k59 _ _ _ (⟨a2,1,t428,0⟩:S59) [.int .i64 a2, .int .i64 1, .int .i64 t428, .int .i64 0] from (jAb _ _ _ (⟨a2,1,t428,0⟩:S59) )) (Reps.none _ _)));intro v431 w23 ho24 hb hg_ hnew_;clear hg_ hnew_;(first | rw [← Ny430.out] at ho24 |(simp only [Int.reduceToNat] at ho24;rw [← Ny430.out] at ho24));have HO432:=am (Kd.jea (Kd.juc ho24 (g:=gb424) (o:=.cells #[.int .i64 a2, .int .i64 1, .int .i64 t428, .int .i64 0] 59 (0,0)) (Y99)) (jN (w:=w) (g:=g) (row:=none) (Y1)));replace HO427:=am (Kd.jva (by (with_reducible repeat (first | apply Kd.jga | apply Kd.jha | apply Kd.jra));exact (Kd.jK (Kd.jHb (p:=⟨gb424,2,none⟩) (Kd.jPa HO427.out BK424.out (by decide)) (fun _ hk=>hk.2) (.int .i64 t428)) (fun _ h_=>h_.1))) hb);replace BK419:=am (jo (g:=gb419) (o:=.cells #[.slice A1_0 l1_0.length c1_0] 32 (0,0)) (Y43) hb);replace BK424:=am (jo (g:=gb424) (o:=.cells #[.int .i64 a2, .int .i64 1, .int .i64 t428, .int .i64 0] 59 (0,0)) (Y99) hb);replace HK:=am (jb.trans (Y1) (jb.of_below hb g none) (.inl rfl));replace HB:=am (jg (Y6) hb);replace HI0:=am (jc.below (show jc w0 (w21.setCell ⟨gb424,2,none⟩ (.int .i64 t428)) g s0_0 t429 from Y3) hb);clear hb ho24))
    go_ret
    exact ⟨_,Y0,by (with_reducible repeat (first | apply Kd.jga | apply Kd.jha | apply Kd.jra));exact Kd.jK HO432.out (fun _ hk=>trivial),Y3,Y6,Y1⟩
   ·rw [if_neg c12] at H
    have c12b0:decide (x9_5<4)=false:=dzF c12
    clear c12
    by_cases c25:x9_5<6
    ·rw [if_pos c25] at H
     have c25b0:decide (x9_5<6)=true:=dzT c25
     clear c25
     replace H:=bzS H
     obtain ⟨⟨t433,t434⟩,A260,H⟩:=H
     replace H:((ji.f kj5 s0_0 t434 (([1,2,3]:List Int))).bind fun bt438=>(some ((([(⟨a2,2,t433,bt438.1⟩:S59)]:List (S59))),bt438.2)))=some (r1,r2):=H
     have A26:=am A260
     clear A260
     obtain ⟨y435,hy435⟩:∃ y_:List Int,y_=(([1,2,3]:List Int)):=⟨_,rfl⟩
     replace H:((ji.f kj5 s0_0 t434 y435).bind fun bt438=>(some ((([(⟨a2,2,t433,bt438.1⟩:S59)]:List (S59))),bt438.2)))=some (r1,r2):=by first |(rw [hy435];with_reducible exact H) |(have H2_:=(Option.bind_some _ _).symm.trans H;rw [hy435];with_reducible exact H2_) |(have H2_:=(Option.bind_some _ _).symm.trans H;with_reducible exact H2_) | with_reducible exact H |(rw [hy435];exact H) | exact H
     have Ny435:=am hy435
     clear hy435
     replace H:=bzS H
     obtain ⟨⟨t438,t439⟩,A270,H⟩:=H
     replace H:(some ((([(⟨a2,2,t433,t438⟩:S59)]:List (S59))),t439))=some (r1,r2):=H
     have A27:=am A270
     clear A270
     obtain ⟨y440,hy440⟩:∃ y_:List (S59),y_=(([(⟨a2,2,t433,t438⟩:S59)]:List (S59))):=⟨_,rfl⟩
     replace H:(some (y440,t439))=some (r1,r2):=by first |(rw [hy440];with_reducible exact H) |(have H2_:=(Option.bind_some _ _).symm.trans H;rw [hy440];with_reducible exact H2_) |(have H2_:=(Option.bind_some _ _).symm.trans H;with_reducible exact H2_) | with_reducible exact H |(rw [hy440];exact H) | exact H
     have Ny440:=am hy440
     clear hy440
     simp only [Option.some.injEq,Prod.mk.injEq] at H
     obtain ⟨rfl,rfl⟩:=H
     go_wp2_with (first |((with_reducible refine jS (N:=10) rfl ?_);refine bE (N:=10) (cs:=#[.int .i64 0, .int .i64 0, .int .i64 0, .int .i64 0]) (t:=59) ?_;intro gb424 hg w28 hbox hb;have BK424:=am (hbox);have GW424:=am ((Y52:w.heap.size≤gb424));have GE424:=am ((Nat.le_trans HW0.out (Y52:w.heap.size≤gb424):w0.heap.size≤gb424));have NB419_424:=am ((Y75:gb419≠gb424));have NB424_419:=am ((Y76:gb424≠gb419));have NB0_424:=am ((Y77:g≠gb424));have NB424_0:=am ((Y78:gb424≠g));replace BK419:=am (jo (g:=gb419) (o:=.cells #[.slice A1_0 l1_0.length c1_0] 32 (0,0)) (kq BK419.out) hb);replace HK:=am (jb.trans (Y51) (jb.of_below hb g none) (.inl rfl));replace HB:=am (jg (Y50) hb);replace HI0:=am (jc.below (Y49) hb);clear hb hbox hg;have hnb29:=NB424_419.out;have hnc29:=NB419_424.out;have hnb30:=NB424_0.out;have hnc30:=NB0_424.out;have hcz31_0:=bc0 BK424.out;have hcz31_1:=bc1 BK424.out;have hcz31_2:=bc2 BK424.out;have hcz31_3:=bc3 BK424.out;have hfz31_0:=ja BK424.out 0;have hfz31_1:=ja BK424.out 1;have hfz31_2:=ja BK424.out 2;have hfz31_3:=ja BK424.out 3;have hnb32:=NB419_0.out;have hnc32:=NB0_419.out;have hcz33_0:=bc0 BK419.out;have hfz33_0:=ja BK419.out 0) |((with_reducible refine je (f:=55) rfl ?_);refine gL (some 40) Try.func55 #[.pointer (some ⟨g,0,none⟩), .int .i64 (l1_0.length:Int)] ?_;(with_reducible refine (jf.calls kj5 g s0_0 x1001_5 (l1_0.length:Int) t433 t434 w0 _ ?side1 ?side2 A26.out).mono ?_);(case side1=>exact Y3);(case side2=>exact Y6);rintro e w34 ⟨rfl,hi,hb,hk⟩;refine ⟨_,rfl,?_⟩;replace BK419:=am (jb.blk hk (g':=gb419) (o:=.cells #[.slice A1_0 l1_0.length c1_0] 32 (0,0)) (Y88) NB419_0.out (by simp));replace BK424:=am (jb.blk hk (g':=gb424) (o:=.cells #[.int .i64 a2, .int .i64 2, .int .i64 0, .int .i64 0] 59 (0,0)) (Y79) NB424_0.out (by simp));replace HK:=am (jb.trans (Y1) hk (.inl rfl));replace HB:=am (hb);replace HI0:=am (hi);(try clear hb);(try clear hb2);(try clear hk);(try clear hi);have hcz35_0:=bc0 BK424.out;have hcz35_1:=bc1 BK424.out;have hcz35_2:=bc2 BK424.out;have hcz35_3:=bc3 BK424.out;have hfz35_0:=ja BK424.out 0;have hfz35_1:=ja BK424.out 1;have hfz35_2:=ja BK424.out 2;have hfz35_3:=ja BK424.out 3) |((with_reducible refine jS (N:=43) rfl ?_);refine Kd.jWb (Kd.int .i64) _ 3 ?hg (N:=43) ?hd (xs:=([1,2,3]:List Int)) (inner:=[.int .i64 1, .int .i64 2, .int .i64 3]) (ok:=fun _=>True) (okp:=fun _=>True) ?hr ?hp (fun _ hk=>hk) trivial (Below.refl _ _) (Nat.le_refl _) (by simp) ?_;(case hd=>rfl);(case hg=>rfl);(case hr=>exact Y8);(case hp=>exact (Reps.one (show Kd.M (Kd.int .i64) _ _ _ 1 [.int .i64 1] from rfl) (Reps.one (show Kd.M (Kd.int .i64) _ _ _ 2 [.int .i64 2] from rfl) (Reps.one (show Kd.M (Kd.int .i64) _ _ _ 3 [.int .i64 3] from rfl) (Reps.none _ _)))));intro v436 w36 ho37 hb hg_ hnew_;clear hg_ hnew_;(first | rw [← Ny435.out] at ho37 |(simp only [Int.reduceToNat] at ho37;rw [← Ny435.out] at ho37));have HO437:=am (Kd.jea ho37 (jN (w:=w) (g:=g) (row:=none) (Y1)));replace BK419:=am (jo (g:=gb419) (o:=.cells #[.slice A1_0 l1_0.length c1_0] 32 (0,0)) (Y43) hb);replace BK424:=am (jo (g:=gb424) (o:=.cells #[.int .i64 a2, .int .i64 2, .int .i64 t433, .int .i64 0] 59 (0,0)) (by (with_reducible repeat (first | refine jr ?_ _ | refine jF ?_ | refine jB ?_ _));refine jXa (cs:=#[.int .i64 a2, .int .i64 2, .int .i64 0, .int .i64 0]) ?_ 2 _ rfl;(with_reducible repeat (first | refine jr ?_ _ | refine jF ?_ | refine jB ?_ _));exact BK424.out) hb);replace HK:=am (jb.trans (Y1) (jb.of_below hb g none) (.inl rfl));replace HB:=am (jg (Y6) hb);replace HI0:=am (jc.below (show jc w0 (w34.setCell ⟨gb424,2,none⟩ (.int .i64 t433)) g s0_0 t434 from Y3) hb);clear hb ho37;obtain ⟨Ao38,co38,eo38⟩:=Kd.jsa HO437.out;subst eo38) |((with_reducible refine je (f:=56) rfl ?_);refine gL (some 44) Try.func56 #[.pointer (some ⟨g,0,none⟩), .slice Ao38 y435.length co38] ?_;(with_reducible refine (ji.calls kj5 g s0_0 t434 _ _ y435 t438 t439 w0 _ ?side1 ?side2 ?side3 ?side4 ?side5 A27.out).mono ?_);(case side1=>exact Y3);(case side2=>exact Y6);(case side3=>exact cq (Kd.jE HO437.out).2.2);(case side4=>exact (Kd.jE HO437.out).2.1);(case side5=>exact jBb (jc.own_ne HI0.out HO437.out (by decide)));rintro e w39 ⟨rfl,hi,hb,hk⟩;refine ⟨_,rfl,?_⟩;replace BK419:=am (jb.blk hk (g':=gb419) (o:=.cells #[.slice A1_0 l1_0.length c1_0] 32 (0,0)) (kq BK419.out) NB419_0.out (by simp));replace BK424:=am (jb.blk hk (g':=gb424) (o:=.cells #[.int .i64 a2, .int .i64 2, .int .i64 t433, .int .i64 0] 59 (0,0)) (kq BK424.out) NB424_0.out (by simp));replace HO437:=am (Kd.jK (Kd.jFa (jc.apart (show jc w0 _ g s0_0 t434 from Y3) (rq HO437.out) (by decide)) hk (fun _ h=>h.2)) (fun _ h=>h.1));replace HK:=am (jb.trans (Y1) hk (.inl rfl));replace HB:=am (hb);replace HI0:=am (hi);(try clear hb);(try clear hb2);(try clear hk);(try clear hi);have hcz40_0:=bc0 BK424.out;have hcz40_1:=bc1 BK424.out;have hcz40_2:=bc2 BK424.out;have hcz40_3:=bc3 BK424.out;have hfz40_0:=ja BK424.out 0;have hfz40_1:=ja BK424.out 1;have hfz40_2:=ja BK424.out 2;have hfz40_3:=ja BK424.out 3) |((with_reducible refine jS (N:=108) rfl ?_);refine Kd.jWb k59 _ 59 ?hg (N:=108) ?hd (xs:=([(⟨a2,2,t433,t438⟩:S59)]:List (S59))) (inner:=[.int .i64 a2, .int .i64 2, .int .i64 t433, .int .i64 t438]) (ok:=fun _=>True) (okp:=fun _=>True) ?hr ?hp (fun _ hk=>hk) trivial (Below.refl _ _) (Nat.le_refl _) (by simp) ?_;(case hd=>rfl);(case hg=>rfl);(case hr=>exact Y8);(case hp=>exact (Reps.c4 (show Kd.M k59 _ _ _ (⟨a2,2,t433,t438⟩:S59) [.int .i64 a2, .int .i64 2, .int .i64 t433, .int .i64 t438] from (jAb _ _ _ (⟨a2,2,t433,t438⟩:S59) )) (Reps.none _ _)));intro v441 w41 ho42 hb hg_ hnew_;clear hg_ hnew_;(first | rw [← Ny440.out] at ho42 |(simp only [Int.reduceToNat] at ho42;rw [← Ny440.out] at ho42));have HO442:=am (Kd.jea (Kd.juc ho42 (g:=gb424) (o:=.cells #[.int .i64 a2, .int .i64 2, .int .i64 t433, .int .i64 t438] 59 (0,0)) (Y100)) (jN (w:=w) (g:=g) (row:=none) (Y1)));replace HO437:=am (Kd.jva (by (with_reducible repeat (first | apply Kd.jga | apply Kd.jha | apply Kd.jra));exact (Kd.jK (Kd.jHb (p:=⟨gb424,3,none⟩) (Kd.jPa HO437.out BK424.out (by decide)) (fun _ hk=>hk.2) (.int .i64 t438)) (fun _ h_=>h_.1))) hb);replace BK419:=am (jo (g:=gb419) (o:=.cells #[.slice A1_0 l1_0.length c1_0] 32 (0,0)) (Y43) hb);replace BK424:=am (jo (g:=gb424) (o:=.cells #[.int .i64 a2, .int .i64 2, .int .i64 t433, .int .i64 t438] 59 (0,0)) (Y100) hb);replace HK:=am (jb.trans (Y1) (jb.of_below hb g none) (.inl rfl));replace HB:=am (jg (Y6) hb);replace HI0:=am (jc.below (show jc w0 (w39.setCell ⟨gb424,3,none⟩ (.int .i64 t438)) g s0_0 t439 from Y3) hb);clear hb ho42))
     go_ret
     exact ⟨_,Y0,by (with_reducible repeat (first | apply Kd.jga | apply Kd.jha | apply Kd.jra));exact Kd.jK HO442.out (fun _ hk=>trivial),Y3,Y6,Y1⟩
    ·rw [if_neg c25] at H
     have c25b0:decide (x9_5<6)=false:=dzF c25
     clear c25
     by_cases c43:x9_5=6
     ·rw [if_pos c43] at H
      have c43b0:(x9_5 == 6)=true:=beq_iff_eq.mpr c43
      have c43b1:(x9_5 != 6)=false:=bne_eq_false_iff_eq.mpr c43
      clear c43
      obtain ⟨y443,hy443⟩:∃ y_:List (S59),y_=(([(⟨a2,3,0,0⟩:S59)]:List (S59))):=⟨_,rfl⟩
      replace H:(some (y443,x1001_5))=some (r1,r2):=by first |(rw [hy443];with_reducible exact H) |(have H2_:=(Option.bind_some _ _).symm.trans H;rw [hy443];with_reducible exact H2_) |(have H2_:=(Option.bind_some _ _).symm.trans H;with_reducible exact H2_) | with_reducible exact H |(rw [hy443];exact H) | exact H
      have Ny443:=am hy443
      clear hy443
      simp only [Option.some.injEq,Prod.mk.injEq] at H
      obtain ⟨rfl,rfl⟩:=H
      go_wp2_with (first |((with_reducible refine jS (N:=10) rfl ?_);refine bE (N:=10) (cs:=#[.int .i64 0, .int .i64 0, .int .i64 0, .int .i64 0]) (t:=59) ?_;intro gb424 hg w44 hbox hb;have BK424:=am (hbox);have GW424:=am ((Y52:w.heap.size≤gb424));have GE424:=am ((Nat.le_trans HW0.out (Y52:w.heap.size≤gb424):w0.heap.size≤gb424));have NB419_424:=am ((Y75:gb419≠gb424));have NB424_419:=am ((Y76:gb424≠gb419));have NB0_424:=am ((Y77:g≠gb424));have NB424_0:=am ((Y78:gb424≠g));replace BK419:=am (jo (g:=gb419) (o:=.cells #[.slice A1_0 l1_0.length c1_0] 32 (0,0)) (kq BK419.out) hb);replace HK:=am (jb.trans (Y51) (jb.of_below hb g none) (.inl rfl));replace HB:=am (jg (Y50) hb);replace HI0:=am (jc.below (Y49) hb);clear hb hbox hg;have hnb45:=NB424_419.out;have hnc45:=NB419_424.out;have hnb46:=NB424_0.out;have hnc46:=NB0_424.out;have hcz47_0:=bc0 BK424.out;have hcz47_1:=bc1 BK424.out;have hcz47_2:=bc2 BK424.out;have hcz47_3:=bc3 BK424.out;have hfz47_0:=ja BK424.out 0;have hfz47_1:=ja BK424.out 1;have hfz47_2:=ja BK424.out 2;have hfz47_3:=ja BK424.out 3) |((with_reducible refine jS (N:=108) rfl ?_);refine Kd.jWb k59 _ 59 ?hg (N:=108) ?hd (xs:=([(⟨a2,3,0,0⟩:S59)]:List (S59))) (inner:=[.int .i64 a2, .int .i64 3, .int .i64 0, .int .i64 0]) (ok:=fun _=>True) (okp:=fun _=>True) ?hr ?hp (fun _ hk=>hk) trivial (Below.refl _ _) (Nat.le_refl _) (by simp) ?_;(case hd=>rfl);(case hg=>rfl);(case hr=>exact Y8);(case hp=>exact (Reps.c4 (show Kd.M k59 _ _ _ (⟨a2,3,0,0⟩:S59) [.int .i64 a2, .int .i64 3, .int .i64 0, .int .i64 0] from (jAb _ _ _ (⟨a2,3,0,0⟩:S59) )) (Reps.none _ _)));intro v444 w48 ho49 hb hg_ hnew_;clear hg_ hnew_;(first | rw [← Ny443.out] at ho49 |(simp only [Int.reduceToNat] at ho49;rw [← Ny443.out] at ho49));have HO445:=am (Kd.jea (Kd.juc ho49 (g:=gb424) (o:=.cells #[.int .i64 a2, .int .i64 3, .int .i64 0, .int .i64 0] 59 (0,0)) (Y79)) (jN (w:=w) (g:=g) (row:=none) (Y1)));replace BK419:=am (jo (g:=gb419) (o:=.cells #[.slice A1_0 l1_0.length c1_0] 32 (0,0)) (Y88) hb);replace BK424:=am (jo (g:=gb424) (o:=.cells #[.int .i64 a2, .int .i64 3, .int .i64 0, .int .i64 0] 59 (0,0)) (Y79) hb);replace HK:=am (jb.trans (Y1) (jb.of_below hb g none) (.inl rfl));replace HB:=am (jg (Y6) hb);replace HI0:=am (jc.below (show jc w0 (((((w44.setCell ⟨gb424,0,none⟩ (.int .i64 a2)).setCell ⟨gb424,1,none⟩ (.int .i64 0)).setCell ⟨gb424,2,none⟩ (.int .i64 0)).setCell ⟨gb424,3,none⟩ (.int .i64 0)).setCell ⟨gb424,1,none⟩ (.int .i64 3)) g s0_0 x1001_5 from Y3) hb);clear hb ho49))
      go_ret
      exact ⟨_,Y0,by (with_reducible repeat (first | apply Kd.jga | apply Kd.jha | apply Kd.jra));exact Kd.jK HO445.out (fun _ hk=>trivial),Y3,Y6,Y1⟩
     ·rw [if_neg c43] at H
      have c43b0:(x9_5 == 6)=false:=beq_eq_false_iff_ne.mpr c43
      have c43b1:(x9_5 != 6)=true:=bne_iff_ne.mpr c43
      have HC50:=am H
      clear H
      go_upto_region 15 with (first |((with_reducible refine jS (N:=10) rfl ?_);refine bE (N:=10) (cs:=#[.int .i64 0, .int .i64 0, .int .i64 0, .int .i64 0]) (t:=59) ?_;intro gb424 hg w51 hbox hb;have BK424:=am (hbox);have GW424:=am ((Y52:w.heap.size≤gb424));have GE424:=am ((Nat.le_trans HW0.out (Y52:w.heap.size≤gb424):w0.heap.size≤gb424));have NB419_424:=am ((Y75:gb419≠gb424));have NB424_419:=am ((Y76:gb424≠gb419));have NB0_424:=am ((Y77:g≠gb424));have NB424_0:=am ((Y78:gb424≠g));replace BK419:=am (jo (g:=gb419) (o:=.cells #[.slice A1_0 l1_0.length c1_0] 32 (0,0)) (kq BK419.out) hb);replace HK:=am (jb.trans (Y51) (jb.of_below hb g none) (.inl rfl));replace HB:=am (jg (Y50) hb);replace HI0:=am (jc.below (Y49) hb);clear hb hbox hg;have hnb52:=NB424_419.out;have hnc52:=NB419_424.out;have hnb53:=NB424_0.out;have hnc53:=NB0_424.out;have hcz54_0:=bc0 BK424.out;have hcz54_1:=bc1 BK424.out;have hcz54_2:=bc2 BK424.out;have hcz54_3:=bc3 BK424.out;have hfz54_0:=ja BK424.out 0;have hfz54_1:=ja BK424.out 1;have hfz54_2:=ja BK424.out 2;have hfz54_3:=ja BK424.out 3))
      (try simp only [Act.put,List.setIfInBounds_toArray,List.set_cons_zero,List.set_cons_succ])
      go_cut [50] (fun v50 wc=>∃ (kq:Nat) (x50_49:Bool),v50=.bool x50_49∧jl (jy.j1 kq a2 a3 x9_5 x50_49 s0_0 x1001_5 l1_0 a2 0 0 0=some (r1,r2))∧jl (kq≤kj5)∧jl (wc.heap[gb419]?=some (.cells #[(.slice A1_0 l1_0.length c1_0)] 32 (0,0)))∧jl (wc.heap[gb424]?=some (.cells #[.int .i64 a2, .int .i64 0, .int .i64 0, .int .i64 0] 59 (0,0)))∧jl (jc w0 wc g s0_0 x1001_5)∧jl (jb w wc g none)∧jl (Below w0.heap.size w0 wc))
      case first =>
       have H:=HC50.out
       clear HC50
       by_cases c55:x9_5=7
       ·rw [if_pos c55] at H
        have c55b0:(x9_5 == 7)=true:=beq_iff_eq.mpr c55
        have c55b1:(x9_5 != 7)=false:=bne_eq_false_iff_eq.mpr c55
        clear c55
        (first | rw [c55b0] |(simp only [jlb,jmb];rw [c55b0]) | skip)
        have H':=am H
        clear H
        go_wp2
        go_meet
        case rel=>exact ⟨_,(a3),(sq),H',⟨by have:=HJ5.out;first | omega | exact Nat.le_refl _⟩,⟨by (with_reducible repeat (first | refine jr ?_ _ | refine jF ?_ | refine jB ?_ _));refine jjb ?_ NB419_424.out _;(with_reducible repeat (first | refine jr ?_ _ | refine jF ?_ | refine jB ?_ _));refine jjb ?_ NB419_424.out _;(with_reducible repeat (first | refine jr ?_ _ | refine jF ?_ | refine jB ?_ _));refine jjb ?_ NB419_424.out _;(with_reducible repeat (first | refine jr ?_ _ | refine jF ?_ | refine jB ?_ _));refine jjb ?_ NB419_424.out _;(with_reducible repeat (first | refine jr ?_ _ | refine jF ?_ | refine jB ?_ _));exact BK419.out⟩,⟨by (with_reducible repeat (first | refine jr ?_ _ | refine jF ?_ | refine jB ?_ _));refine jXa (cs:=#[.int .i64 a2, .int .i64 0, .int .i64 0, .int .i64 0]) ?_ 3 _ rfl;(with_reducible repeat (first | refine jr ?_ _ | refine jF ?_ | refine jB ?_ _));refine jXa (cs:=#[.int .i64 a2, .int .i64 0, .int .i64 0, .int .i64 0]) ?_ 2 _ rfl;(with_reducible repeat (first | refine jr ?_ _ | refine jF ?_ | refine jB ?_ _));refine jXa (cs:=#[.int .i64 a2, .int .i64 0, .int .i64 0, .int .i64 0]) ?_ 1 _ rfl;(with_reducible repeat (first | refine jr ?_ _ | refine jF ?_ | refine jB ?_ _));refine jXa (cs:=#[.int .i64 0, .int .i64 0, .int .i64 0, .int .i64 0]) ?_ 0 _ rfl;(with_reducible repeat (first | refine jr ?_ _ | refine jF ?_ | refine jB ?_ _));exact BK424.out⟩,⟨Y3⟩,⟨Y1⟩,⟨Y6⟩⟩
       ·rw [if_neg c55] at H
        have c55b0:(x9_5 == 7)=false:=beq_eq_false_iff_ne.mpr c55
        have c55b1:(x9_5 != 7)=true:=bne_iff_ne.mpr c55
        (first | rw [c55b0] |(simp only [jlb,jmb];rw [c55b0]) | skip)
        have H':=am H
        clear H
        go_wp2
        go_meet
        case rel=>exact ⟨_,(false),(sq),H',⟨by have:=HJ5.out;first | omega | exact Nat.le_refl _⟩,⟨by (with_reducible repeat (first | refine jr ?_ _ | refine jF ?_ | refine jB ?_ _));refine jjb ?_ NB419_424.out _;(with_reducible repeat (first | refine jr ?_ _ | refine jF ?_ | refine jB ?_ _));refine jjb ?_ NB419_424.out _;(with_reducible repeat (first | refine jr ?_ _ | refine jF ?_ | refine jB ?_ _));refine jjb ?_ NB419_424.out _;(with_reducible repeat (first | refine jr ?_ _ | refine jF ?_ | refine jB ?_ _));refine jjb ?_ NB419_424.out _;(with_reducible repeat (first | refine jr ?_ _ | refine jF ?_ | refine jB ?_ _));exact BK419.out⟩,⟨by (with_reducible repeat (first | refine jr ?_ _ | refine jF ?_ | refine jB ?_ _));refine jXa (cs:=#[.int .i64 a2, .int .i64 0, .int .i64 0, .int .i64 0]) ?_ 3 _ rfl;(with_reducible repeat (first | refine jr ?_ _ | refine jF ?_ | refine jB ?_ _));refine jXa (cs:=#[.int .i64 a2, .int .i64 0, .int .i64 0, .int .i64 0]) ?_ 2 _ rfl;(with_reducible repeat (first | refine jr ?_ _ | refine jF ?_ | refine jB ?_ _));refine jXa (cs:=#[.int .i64 a2, .int .i64 0, .int .i64 0, .int .i64 0]) ?_ 1 _ rfl;(with_reducible repeat (first | refine jr ?_ _ | refine jF ?_ | refine jB ?_ _));refine jXa (cs:=#[.int .i64 0, .int .i64 0, .int .i64 0, .int .i64 0]) ?_ 0 _ rfl;(with_reducible repeat (first | refine jr ?_ _ | refine jF ?_ | refine jB ?_ _));exact BK424.out⟩,⟨Y3⟩,⟨Y1⟩,⟨Y6⟩⟩
      case rest =>
       clear HC50
       try clear c1
       try clear c2
       try clear p2
       try clear c3
       try clear c4
       try clear c5
       try clear c9
       try clear c9b0
       try clear c10
       try clear c12
       try clear c12b0
       try clear c15
       try clear c16
       try clear c25
       try clear c25b0
       try clear c29
       try clear c30
       try clear c32
       try clear c43
       try clear c43b0
       try clear c43b1
       try clear c45
       try clear c46
       try clear c52
       try clear c53
       try clear c55
       try clear c55b0
       try clear c55b1
       try clear hcz17_0
       try clear hcz17_1
       try clear hcz17_2
       try clear hcz17_3
       try clear hcz22_0
       try clear hcz22_1
       try clear hcz22_2
       try clear hcz22_3
       try clear hcz31_0
       try clear hcz31_1
       try clear hcz31_2
       try clear hcz31_3
       try clear hcz33_0
       try clear hcz35_0
       try clear hcz35_1
       try clear hcz35_2
       try clear hcz35_3
       try clear hcz40_0
       try clear hcz40_1
       try clear hcz40_2
       try clear hcz40_3
       try clear hcz47_0
       try clear hcz47_1
       try clear hcz47_2
       try clear hcz47_3
       try clear hcz54_0
       try clear hcz54_1
       try clear hcz54_2
       try clear hcz54_3
       try clear hfz17_0
       try clear hfz17_1
       try clear hfz17_2
       try clear hfz17_3
       try clear hfz22_0
       try clear hfz22_1
       try clear hfz22_2
       try clear hfz22_3
       try clear hfz31_0
       try clear hfz31_1
       try clear hfz31_2
       try clear hfz31_3
       try clear hfz33_0
       try clear hfz35_0
       try clear hfz35_1
       try clear hfz35_2
       try clear hfz35_3
       try clear hfz40_0
       try clear hfz40_1
       try clear hfz40_2
       try clear hfz40_3
       try clear hfz47_0
       try clear hfz47_1
       try clear hfz47_2
       try clear hfz47_3
       try clear hfz54_0
       try clear hfz54_1
       try clear hfz54_2
       try clear hfz54_3
       try clear p2
       obtain ⟨kq,x50_49,rfl,HA,HJ49,BK419,BK424,HI0,HK,HB⟩:=hcut
       cases kq with
       | zero=>exact absurd HA.out (by simp [jy.j1])
       | succ kj49 =>
        have H:=HA.out
        clear HA
        simp only [jy.j1] at H
        by_cases c56:x50_49=true
        ·subst c56
         have H1:((ji.f kj49 s0_0 x1001_5 (([5,6]:List Int))).bind fun bt449=>(some ((([(⟨a2,bt449.1,0,0⟩:S59)]:List (S59))),bt449.2)))=some (r1,r2):=by rw [if_pos rfl] at H;exact H
         clear H
         have H:=H1
         clear H1
         obtain ⟨y446,hy446⟩:∃ y_:List Int,y_=(([5,6]:List Int)):=⟨_,rfl⟩
         replace H:((ji.f kj49 s0_0 x1001_5 y446).bind fun bt449=>(some ((([(⟨a2,bt449.1,0,0⟩:S59)]:List (S59))),bt449.2)))=some (r1,r2):=by first |(rw [hy446];with_reducible exact H) |(have H2_:=(Option.bind_some _ _).symm.trans H;rw [hy446];with_reducible exact H2_) |(have H2_:=(Option.bind_some _ _).symm.trans H;with_reducible exact H2_) | with_reducible exact H |(rw [hy446];exact H) | exact H
         have Ny446:=am hy446
         clear hy446
         replace H:=bzS H
         obtain ⟨⟨t449,t450⟩,A570,H⟩:=H
         replace H:(some ((([(⟨a2,t449,0,0⟩:S59)]:List (S59))),t450))=some (r1,r2):=H
         have A57:=am A570
         clear A570
         obtain ⟨y451,hy451⟩:∃ y_:List (S59),y_=(([(⟨a2,t449,0,0⟩:S59)]:List (S59))):=⟨_,rfl⟩
         replace H:(some (y451,t450))=some (r1,r2):=by first |(rw [hy451];with_reducible exact H) |(have H2_:=(Option.bind_some _ _).symm.trans H;rw [hy451];with_reducible exact H2_) |(have H2_:=(Option.bind_some _ _).symm.trans H;with_reducible exact H2_) | with_reducible exact H |(rw [hy451];exact H) | exact H
         have Ny451:=am hy451
         clear hy451
         simp only [Option.some.injEq,Prod.mk.injEq] at H
         obtain ⟨rfl,rfl⟩:=H
         go_wp2_with (first |((with_reducible refine jS (N:=57) rfl ?_);refine Kd.jWb (Kd.int .i64) _ 3 ?hg (N:=57) ?hd (xs:=([5,6]:List Int)) (inner:=[.int .i64 5, .int .i64 6]) (ok:=fun _=>True) (okp:=fun _=>True) ?hr ?hp (fun _ hk=>hk) trivial (Below.refl _ _) (Nat.le_refl _) (by simp) ?_;(case hd=>rfl);(case hg=>rfl);(case hr=>exact Y8);(case hp=>exact (Reps.one (show Kd.M (Kd.int .i64) _ _ _ 5 [.int .i64 5] from rfl) (Reps.one (show Kd.M (Kd.int .i64) _ _ _ 6 [.int .i64 6] from rfl) (Reps.none _ _))));intro v447 w58 ho59 hb hg_ hnew_;clear hg_ hnew_;(first | rw [← Ny446.out] at ho59 |(simp only [Int.reduceToNat] at ho59;rw [← Ny446.out] at ho59));have HO448:=am (Kd.jea ho59 (jN (w:=w) (g:=g) (row:=none) (Y1)));replace BK419:=am (jo (g:=gb419) (o:=.cells #[.slice A1_0 l1_0.length c1_0] 32 (0,0)) (kq BK419.out) hb);replace BK424:=am (jo (g:=gb424) (o:=.cells #[.int .i64 a2, .int .i64 0, .int .i64 0, .int .i64 0] 59 (0,0)) (kq BK424.out) hb);replace HK:=am (jb.trans (Y1) (jb.of_below hb g none) (.inl rfl));replace HB:=am (jg (Y6) hb);replace HI0:=am (jc.below (Y3) hb);clear hb ho59;obtain ⟨Ao60,co60,eo60⟩:=Kd.jsa HO448.out;subst eo60) |((with_reducible refine je (f:=56) rfl ?_);refine gL (some 58) Try.func56 #[.pointer (some ⟨g,0,none⟩), .slice Ao60 y446.length co60] ?_;(with_reducible refine (ji.calls kj49 g s0_0 x1001_5 _ _ y446 t449 t450 w0 _ ?side1 ?side2 ?side3 ?side4 ?side5 A57.out).mono ?_);(case side1=>exact Y3);(case side2=>exact Y6);(case side3=>exact cq (Kd.jE HO448.out).2.2);(case side4=>exact (Kd.jE HO448.out).2.1);(case side5=>exact jBb (jc.own_ne HI0.out HO448.out (by decide)));rintro e w61 ⟨rfl,hi,hb,hk⟩;refine ⟨_,rfl,?_⟩;replace BK419:=am (jb.blk hk (g':=gb419) (o:=.cells #[.slice A1_0 l1_0.length c1_0] 32 (0,0)) (kq BK419.out) NB419_0.out (by simp));replace BK424:=am (jb.blk hk (g':=gb424) (o:=.cells #[.int .i64 a2, .int .i64 0, .int .i64 0, .int .i64 0] 59 (0,0)) (kq BK424.out) NB424_0.out (by simp));replace HO448:=am (Kd.jK (Kd.jFa (jc.apart (show jc w0 _ g s0_0 x1001_5 from Y3) (rq HO448.out) (by decide)) hk (fun _ h=>h.2)) (fun _ h=>h.1));replace HK:=am (jb.trans (Y1) hk (.inl rfl));replace HB:=am (hb);replace HI0:=am (hi);(try clear hb);(try clear hb2);(try clear hk);(try clear hi);have hnb62:=NB424_419.out;have hnc62:=NB419_424.out;have hnb63:=NB424_0.out;have hnc63:=NB0_424.out;have hcz64_0:=bc0 BK424.out;have hcz64_1:=bc1 BK424.out;have hcz64_2:=bc2 BK424.out;have hcz64_3:=bc3 BK424.out;have hfz64_0:=ja BK424.out 0;have hfz64_1:=ja BK424.out 1;have hfz64_2:=ja BK424.out 2;have hfz64_3:=ja BK424.out 3) |((with_reducible refine jS (N:=108) rfl ?_);refine Kd.jWb k59 _ 59 ?hg (N:=108) ?hd (xs:=([(⟨a2,t449,0,0⟩:S59)]:List (S59))) (inner:=[.int .i64 a2, .int .i64 t449, .int .i64 0, .int .i64 0]) (ok:=fun _=>True) (okp:=fun _=>True) ?hr ?hp (fun _ hk=>hk) trivial (Below.refl _ _) (Nat.le_refl _) (by simp) ?_;(case hd=>rfl);(case hg=>rfl);(case hr=>exact Y8);(case hp=>exact (Reps.c4 (show Kd.M k59 _ _ _ (⟨a2,t449,0,0⟩:S59) [.int .i64 a2, .int .i64 t449, .int .i64 0, .int .i64 0] from (jAb _ _ _ (⟨a2,t449,0,0⟩:S59) )) (Reps.none _ _)));intro v452 w65 ho66 hb hg_ hnew_;clear hg_ hnew_;(first | rw [← Ny451.out] at ho66 |(simp only [Int.reduceToNat] at ho66;rw [← Ny451.out] at ho66));have HO453:=am (Kd.jea (Kd.juc ho66 (g:=gb424) (o:=.cells #[.int .i64 a2, .int .i64 t449, .int .i64 0, .int .i64 0] 59 (0,0)) (Y54)) (jN (w:=w) (g:=g) (row:=none) (Y1)));replace HO448:=am (Kd.jva (by (with_reducible repeat (first | apply Kd.jga | apply Kd.jha | apply Kd.jra));exact (Kd.jK (Kd.jHb (p:=⟨gb424,1,none⟩) (Kd.jPa HO448.out BK424.out (by decide)) (fun _ hk=>hk.2) (.int .i64 t449)) (fun _ h_=>h_.1))) hb);replace BK419:=am (jo (g:=gb419) (o:=.cells #[.slice A1_0 l1_0.length c1_0] 32 (0,0)) (Y43) hb);replace BK424:=am (jo (g:=gb424) (o:=.cells #[.int .i64 a2, .int .i64 t449, .int .i64 0, .int .i64 0] 59 (0,0)) (Y54) hb);replace HK:=am (jb.trans (Y1) (jb.of_below hb g none) (.inl rfl));replace HB:=am (jg (Y6) hb);replace HI0:=am (jc.below (show jc w0 (w61.setCell ⟨gb424,1,none⟩ (.int .i64 t449)) g s0_0 t450 from Y3) hb);clear hb ho66))
         go_ret
         exact ⟨_,Y0,by (with_reducible repeat (first | apply Kd.jga | apply Kd.jha | apply Kd.jra));exact Kd.jK HO453.out (fun _ hk=>trivial),Y3,Y6,Y1⟩
        ·replace c56:=Bool.eq_false_iff.mpr c56
         subst c56
         have H1:(if x9_5=7 then ((ji.f kj49 s0_0 x1001_5 (([7,8]:List Int))).bind fun bt457=>(some ((([(⟨a2,4,bt457.1,0⟩:S59)]:List (S59))),bt457.2))) else (if x9_5=8 then (some ((([(⟨a2,0,0,0⟩:S59)]:List (S59))),x1001_5)) else (if x9_5<11 then ((jf.f kj49 s0_0 x1001_5 4).bind fun bt465=>((jf.f kj49 s0_0 bt465.2 2).bind fun bt467=>((some (([(⟨a2,11,bt465.1,bt467.1⟩:S59)]:List (S59)):List (S59))).bind fun y469=>((jL.f kj49 s0_0 bt467.2 l1_0 (wrap64 (a2+1)) a3).bind fun bt472=>(if y469.length+bt472.1.length<4398046511104 then (some ((y469 ++ bt472.1),bt472.2)) else (none)))))) else (if x9_5=11 then ((ji.f kj49 s0_0 x1001_5 (([2,1,3,0]:List Int))).bind fun bt482=>((some (([(⟨a2,12,bt482.1,0⟩:S59)]:List (S59)):List (S59))).bind fun y484=>((jL.f kj49 s0_0 bt482.2 l1_0 (wrap64 (a2+1)) true).bind fun bt487=>(if y484.length+bt487.1.length<4398046511104 then (some ((y484 ++ bt487.1),bt487.2)) else (none))))) else ((jW.f kj49 s0_0 x1001_5 l1_0 a2 a3).bind fun bt494=>(some (bt494.1,bt494.2)))))))=some (r1,r2):=by rw [if_neg (show ¬ (false=true) by decide)] at H;exact H
         clear H
         have H:=H1
         clear H1
         by_cases c67:x9_5=7
         ·rw [if_pos c67] at H
          have c67b0:(x9_5 == 7)=true:=beq_iff_eq.mpr c67
          have c67b1:(x9_5 != 7)=false:=bne_eq_false_iff_eq.mpr c67
          clear c67
          obtain ⟨y454,hy454⟩:∃ y_:List Int,y_=(([7,8]:List Int)):=⟨_,rfl⟩
          replace H:((ji.f kj49 s0_0 x1001_5 y454).bind fun bt457=>(some ((([(⟨a2,4,bt457.1,0⟩:S59)]:List (S59))),bt457.2)))=some (r1,r2):=by first |(rw [hy454];with_reducible exact H) |(have H2_:=(Option.bind_some _ _).symm.trans H;rw [hy454];with_reducible exact H2_) |(have H2_:=(Option.bind_some _ _).symm.trans H;with_reducible exact H2_) | with_reducible exact H |(rw [hy454];exact H) | exact H
          have Ny454:=am hy454
          clear hy454
          replace H:=bzS H
          obtain ⟨⟨t457,t458⟩,A680,H⟩:=H
          replace H:(some ((([(⟨a2,4,t457,0⟩:S59)]:List (S59))),t458))=some (r1,r2):=H
          have A68:=am A680
          clear A680
          obtain ⟨y459,hy459⟩:∃ y_:List (S59),y_=(([(⟨a2,4,t457,0⟩:S59)]:List (S59))):=⟨_,rfl⟩
          replace H:(some (y459,t458))=some (r1,r2):=by first |(rw [hy459];with_reducible exact H) |(have H2_:=(Option.bind_some _ _).symm.trans H;rw [hy459];with_reducible exact H2_) |(have H2_:=(Option.bind_some _ _).symm.trans H;with_reducible exact H2_) | with_reducible exact H |(rw [hy459];exact H) | exact H
          have Ny459:=am hy459
          clear hy459
          simp only [Option.some.injEq,Prod.mk.injEq] at H
          obtain ⟨rfl,rfl⟩:=H
          have hnb69:=NB424_419.out
          have hnc69:=NB419_424.out
          have hnb70:=NB424_0.out
          have hnc70:=NB0_424.out
          have hcz71_0:=bc0 BK424.out
          have hcz71_1:=bc1 BK424.out
          have hcz71_2:=bc2 BK424.out
          have hcz71_3:=bc3 BK424.out
          have hfz71_0:=ja BK424.out 0
          have hfz71_1:=ja BK424.out 1
          have hfz71_2:=ja BK424.out 2
          have hfz71_3:=ja BK424.out 3
          go_wp2_with (first |((with_reducible refine jS (N:=65) rfl ?_);refine Kd.jWb (Kd.int .i64) _ 3 ?hg (N:=65) ?hd (xs:=([7,8]:List Int)) (inner:=[.int .i64 7, .int .i64 8]) (ok:=fun _=>True) (okp:=fun _=>True) ?hr ?hp (fun _ hk=>hk) trivial (Below.refl _ _) (Nat.le_refl _) (by simp) ?_;(case hd=>rfl);(case hg=>rfl);(case hr=>exact Y8);(case hp=>exact (Reps.one (show Kd.M (Kd.int .i64) _ _ _ 7 [.int .i64 7] from rfl) (Reps.one (show Kd.M (Kd.int .i64) _ _ _ 8 [.int .i64 8] from rfl) (Reps.none _ _))));intro v455 w72 ho73 hb hg_ hnew_;clear hg_ hnew_;(first | rw [← Ny454.out] at ho73 |(simp only [Int.reduceToNat] at ho73;rw [← Ny454.out] at ho73));have HO456:=am (Kd.jea ho73 (jN (w:=w) (g:=g) (row:=none) (Y1)));replace BK419:=am (jo (g:=gb419) (o:=.cells #[.slice A1_0 l1_0.length c1_0] 32 (0,0)) (Y43) hb);replace BK424:=am (jo (g:=gb424) (o:=.cells #[.int .i64 a2, .int .i64 4, .int .i64 0, .int .i64 0] 59 (0,0)) (Y54) hb);replace HK:=am (jb.trans (Y1) (jb.of_below hb g none) (.inl rfl));replace HB:=am (jg (Y6) hb);replace HI0:=am (jc.below (show jc w0 (wc.setCell ⟨gb424,1,none⟩ (.int .i64 4)) g s0_0 x1001_5 from Y3) hb);clear hb ho73;obtain ⟨Ao74,co74,eo74⟩:=Kd.jsa HO456.out;subst eo74) |((with_reducible refine je (f:=56) rfl ?_);refine gL (some 66) Try.func56 #[.pointer (some ⟨g,0,none⟩), .slice Ao74 y454.length co74] ?_;(with_reducible refine (ji.calls kj49 g s0_0 x1001_5 _ _ y454 t457 t458 w0 _ ?side1 ?side2 ?side3 ?side4 ?side5 A68.out).mono ?_);(case side1=>exact Y3);(case side2=>exact Y6);(case side3=>exact cq (Kd.jE HO456.out).2.2);(case side4=>exact (Kd.jE HO456.out).2.1);(case side5=>exact jBb (jc.own_ne HI0.out HO456.out (by decide)));rintro e w75 ⟨rfl,hi,hb,hk⟩;refine ⟨_,rfl,?_⟩;replace BK419:=am (jb.blk hk (g':=gb419) (o:=.cells #[.slice A1_0 l1_0.length c1_0] 32 (0,0)) (kq BK419.out) NB419_0.out (by simp));replace BK424:=am (jb.blk hk (g':=gb424) (o:=.cells #[.int .i64 a2, .int .i64 4, .int .i64 0, .int .i64 0] 59 (0,0)) (kq BK424.out) NB424_0.out (by simp));replace HO456:=am (Kd.jK (Kd.jFa (jc.apart (show jc w0 _ g s0_0 x1001_5 from Y3) (rq HO456.out) (by decide)) hk (fun _ h=>h.2)) (fun _ h=>h.1));replace HK:=am (jb.trans (Y1) hk (.inl rfl));replace HB:=am (hb);replace HI0:=am (hi);(try clear hb);(try clear hb2);(try clear hk);(try clear hi);have hcz76_0:=bc0 BK424.out;have hcz76_1:=bc1 BK424.out;have hcz76_2:=bc2 BK424.out;have hcz76_3:=bc3 BK424.out;have hfz76_0:=ja BK424.out 0;have hfz76_1:=ja BK424.out 1;have hfz76_2:=ja BK424.out 2;have hfz76_3:=ja BK424.out 3) |((with_reducible refine jS (N:=108) rfl ?_);refine Kd.jWb k59 _ 59 ?hg (N:=108) ?hd (xs:=([(⟨a2,4,t457,0⟩:S59)]:List (S59))) (inner:=[.int .i64 a2, .int .i64 4, .int .i64 t457, .int .i64 0]) (ok:=fun _=>True) (okp:=fun _=>True) ?hr ?hp (fun _ hk=>hk) trivial (Below.refl _ _) (Nat.le_refl _) (by simp) ?_;(case hd=>rfl);(case hg=>rfl);(case hr=>exact Y8);(case hp=>exact (Reps.c4 (show Kd.M k59 _ _ _ (⟨a2,4,t457,0⟩:S59) [.int .i64 a2, .int .i64 4, .int .i64 t457, .int .i64 0] from (jAb _ _ _ (⟨a2,4,t457,0⟩:S59) )) (Reps.none _ _)));intro v460 w77 ho78 hb hg_ hnew_;clear hg_ hnew_;(first | rw [← Ny459.out] at ho78 |(simp only [Int.reduceToNat] at ho78;rw [← Ny459.out] at ho78));have HO461:=am (Kd.jea (Kd.juc ho78 (g:=gb424) (o:=.cells #[.int .i64 a2, .int .i64 4, .int .i64 t457, .int .i64 0] 59 (0,0)) (Y101)) (jN (w:=w) (g:=g) (row:=none) (Y1)));replace HO456:=am (Kd.jva (by (with_reducible repeat (first | apply Kd.jga | apply Kd.jha | apply Kd.jra));exact (Kd.jK (Kd.jHb (p:=⟨gb424,2,none⟩) (Kd.jPa HO456.out BK424.out (by decide)) (fun _ hk=>hk.2) (.int .i64 t457)) (fun _ h_=>h_.1))) hb);replace BK419:=am (jo (g:=gb419) (o:=.cells #[.slice A1_0 l1_0.length c1_0] 32 (0,0)) (Y43) hb);replace BK424:=am (jo (g:=gb424) (o:=.cells #[.int .i64 a2, .int .i64 4, .int .i64 t457, .int .i64 0] 59 (0,0)) (Y101) hb);replace HK:=am (jb.trans (Y1) (jb.of_below hb g none) (.inl rfl));replace HB:=am (jg (Y6) hb);replace HI0:=am (jc.below (show jc w0 (w75.setCell ⟨gb424,2,none⟩ (.int .i64 t457)) g s0_0 t458 from Y3) hb);clear hb ho78))
          go_ret
          exact ⟨_,Y0,by (with_reducible repeat (first | apply Kd.jga | apply Kd.jha | apply Kd.jra));exact Kd.jK HO461.out (fun _ hk=>trivial),Y3,Y6,Y1⟩
         ·rw [if_neg c67] at H
          have c67b0:(x9_5 == 7)=false:=beq_eq_false_iff_ne.mpr c67
          have c67b1:(x9_5 != 7)=true:=bne_iff_ne.mpr c67
          by_cases c79:x9_5=8
          ·rw [if_pos c79] at H
           have c79b0:(x9_5 == 8)=true:=beq_iff_eq.mpr c79
           have c79b1:(x9_5 != 8)=false:=bne_eq_false_iff_eq.mpr c79
           clear c79
           obtain ⟨y462,hy462⟩:∃ y_:List (S59),y_=(([(⟨a2,0,0,0⟩:S59)]:List (S59))):=⟨_,rfl⟩
           replace H:(some (y462,x1001_5))=some (r1,r2):=by first |(rw [hy462];with_reducible exact H) |(have H2_:=(Option.bind_some _ _).symm.trans H;rw [hy462];with_reducible exact H2_) |(have H2_:=(Option.bind_some _ _).symm.trans H;with_reducible exact H2_) | with_reducible exact H |(rw [hy462];exact H) | exact H
           have Ny462:=am hy462
           clear hy462
           simp only [Option.some.injEq,Prod.mk.injEq] at H
           obtain ⟨rfl,rfl⟩:=H
           have hnb80:=NB424_419.out
           have hnc80:=NB419_424.out
           have hnb81:=NB424_0.out
           have hnc81:=NB0_424.out
           have hcz82_0:=bc0 BK424.out
           have hcz82_1:=bc1 BK424.out
           have hcz82_2:=bc2 BK424.out
           have hcz82_3:=bc3 BK424.out
           have hfz82_0:=ja BK424.out 0
           have hfz82_1:=ja BK424.out 1
           have hfz82_2:=ja BK424.out 2
           have hfz82_3:=ja BK424.out 3
           go_wp2_with (first |((with_reducible refine jS (N:=108) rfl ?_);refine Kd.jWb k59 _ 59 ?hg (N:=108) ?hd (xs:=([(⟨a2,0,0,0⟩:S59)]:List (S59))) (inner:=[.int .i64 a2, .int .i64 0, .int .i64 0, .int .i64 0]) (ok:=fun _=>True) (okp:=fun _=>True) ?hr ?hp (fun _ hk=>hk) trivial (Below.refl _ _) (Nat.le_refl _) (by simp) ?_;(case hd=>rfl);(case hg=>rfl);(case hr=>exact Y8);(case hp=>exact (Reps.c4 (show Kd.M k59 _ _ _ (⟨a2,0,0,0⟩:S59) [.int .i64 a2, .int .i64 0, .int .i64 0, .int .i64 0] from (jAb _ _ _ (⟨a2,0,0,0⟩:S59) )) (Reps.none _ _)));intro v463 w83 ho84 hb hg_ hnew_;clear hg_ hnew_;(first | rw [← Ny462.out] at ho84 |(simp only [Int.reduceToNat] at ho84;rw [← Ny462.out] at ho84));have HO464:=am (Kd.jea (Kd.juc ho84 (g:=gb424) (o:=.cells #[.int .i64 a2, .int .i64 0, .int .i64 0, .int .i64 0] 59 (0,0)) (Y54)) (jN (w:=w) (g:=g) (row:=none) (Y1)));replace BK419:=am (jo (g:=gb419) (o:=.cells #[.slice A1_0 l1_0.length c1_0] 32 (0,0)) (Y43) hb);replace BK424:=am (jo (g:=gb424) (o:=.cells #[.int .i64 a2, .int .i64 0, .int .i64 0, .int .i64 0] 59 (0,0)) (Y54) hb);replace HK:=am (jb.trans (Y1) (jb.of_below hb g none) (.inl rfl));replace HB:=am (jg (Y6) hb);replace HI0:=am (jc.below (show jc w0 (wc.setCell ⟨gb424,1,none⟩ (.int .i64 0)) g s0_0 x1001_5 from Y3) hb);clear hb ho84))
           go_ret
           exact ⟨_,Y0,by (with_reducible repeat (first | apply Kd.jga | apply Kd.jha | apply Kd.jra));exact Kd.jK HO464.out (fun _ hk=>trivial),Y3,Y6,Y1⟩
          ·rw [if_neg c79] at H
           have c79b0:(x9_5 == 8)=false:=beq_eq_false_iff_ne.mpr c79
           have c79b1:(x9_5 != 8)=true:=bne_iff_ne.mpr c79
           by_cases c85:x9_5<11
           ·rw [if_pos c85] at H
            have c85b0:decide (x9_5<11)=true:=dzT c85
            clear c85
            replace H:=bzS H
            obtain ⟨⟨t465,t466⟩,A860,H⟩:=H
            replace H:((jf.f kj49 s0_0 t466 2).bind fun bt467=>((some (([(⟨a2,11,t465,bt467.1⟩:S59)]:List (S59)):List (S59))).bind fun y469=>((jL.f kj49 s0_0 bt467.2 l1_0 (wrap64 (a2+1)) a3).bind fun bt472=>(if y469.length+bt472.1.length<4398046511104 then (some ((y469 ++ bt472.1),bt472.2)) else (none)))))=some (r1,r2):=H
            have A86:=am A860
            clear A860
            replace H:=bzS H
            obtain ⟨⟨t467,t468⟩,A870,H⟩:=H
            replace H:((some (([(⟨a2,11,t465,t467⟩:S59)]:List (S59)):List (S59))).bind fun y469=>((jL.f kj49 s0_0 t468 l1_0 (wrap64 (a2+1)) a3).bind fun bt472=>(if y469.length+bt472.1.length<4398046511104 then (some ((y469 ++ bt472.1),bt472.2)) else (none))))=some (r1,r2):=H
            have A87:=am A870
            clear A870
            obtain ⟨y469,hy469⟩:∃ y_:List (S59),y_=(([(⟨a2,11,t465,t467⟩:S59)]:List (S59))):=⟨_,rfl⟩
            replace H:((jL.f kj49 s0_0 t468 l1_0 (wrap64 (a2+1)) a3).bind fun bt472=>(if y469.length+bt472.1.length<4398046511104 then (some ((y469 ++ bt472.1),bt472.2)) else (none)))=some (r1,r2):=by first |(rw [hy469];with_reducible exact H) |(have H2_:=(Option.bind_some _ _).symm.trans H;rw [hy469];with_reducible exact H2_) |(have H2_:=(Option.bind_some _ _).symm.trans H;with_reducible exact H2_) | with_reducible exact H |(rw [hy469];exact H) | exact H
            have Ny469:=am hy469
            clear hy469
            replace H:=bzS H
            obtain ⟨⟨t472,t475⟩,A880,H⟩:=H
            replace H:(if y469.length+t472.length<4398046511104 then (some ((y469 ++ t472),t475)) else (none))=some (r1,r2):=H
            have A88:=am A880
            clear A880
            by_cases c89:y469.length+t472.length<4398046511104
            ·rw [if_pos c89] at H
             have LMc89:=am c89
             clear c89
             obtain ⟨y476,hy476⟩:∃ y_:List (S59),y_=(y469 ++ t472):=⟨_,rfl⟩
             replace H:(some (y476,t475))=some (r1,r2):=by first |(rw [hy476];with_reducible exact H) |(have H2_:=(Option.bind_some _ _).symm.trans H;rw [hy476];with_reducible exact H2_) |(have H2_:=(Option.bind_some _ _).symm.trans H;with_reducible exact H2_) | with_reducible exact H |(rw [hy476];exact H) | exact H
             have Ny476:=am hy476
             clear hy476
             simp only [Option.some.injEq,Prod.mk.injEq] at H
             obtain ⟨rfl,rfl⟩:=H
             have hnb90:=NB424_419.out
             have hnc90:=NB419_424.out
             have hnb91:=NB424_0.out
             have hnc91:=NB0_424.out
             have hcz92_0:=bc0 BK424.out
             have hcz92_1:=bc1 BK424.out
             have hcz92_2:=bc2 BK424.out
             have hcz92_3:=bc3 BK424.out
             have hfz92_0:=ja BK424.out 0
             have hfz92_1:=ja BK424.out 1
             have hfz92_2:=ja BK424.out 2
             have hfz92_3:=ja BK424.out 3
             try go_wp2_with (first |((with_reducible refine je (f:=55) rfl ?_);refine gL (some 77) Try.func55 #[.pointer (some ⟨g,0,none⟩), .int .i64 4] ?_;(with_reducible refine (jf.calls kj49 g s0_0 x1001_5 4 t465 t466 w0 _ ?side1 ?side2 A86.out).mono ?_);(case side1=>exact Y3);(case side2=>exact Y6);rintro e w93 ⟨rfl,hi,hb,hk⟩;refine ⟨_,rfl,?_⟩;replace BK419:=am (jb.blk hk (g':=gb419) (o:=.cells #[.slice A1_0 l1_0.length c1_0] 32 (0,0)) (Y43) NB419_0.out (by simp));replace BK424:=am (jb.blk hk (g':=gb424) (o:=.cells #[.int .i64 a2, .int .i64 11, .int .i64 0, .int .i64 0] 59 (0,0)) (Y54) NB424_0.out (by simp));replace HK:=am (jb.trans (Y1) hk (.inl rfl));replace HB:=am (hb);replace HI0:=am (hi);(try clear hb);(try clear hb2);(try clear hk);(try clear hi);have hcz94_0:=bc0 BK424.out;have hcz94_1:=bc1 BK424.out;have hcz94_2:=bc2 BK424.out;have hcz94_3:=bc3 BK424.out;have hfz94_0:=ja BK424.out 0;have hfz94_1:=ja BK424.out 1;have hfz94_2:=ja BK424.out 2;have hfz94_3:=ja BK424.out 3) |((with_reducible refine je (f:=55) rfl ?_);refine gL (some 80) Try.func55 #[.pointer (some ⟨g,0,none⟩), .int .i64 2] ?_;(with_reducible refine (jf.calls kj49 g s0_0 t466 2 t467 t468 w0 _ ?side1 ?side2 A87.out).mono ?_);(case side1=>exact Y3);(case side2=>exact Y6);rintro e w95 ⟨rfl,hi,hb,hk⟩;refine ⟨_,rfl,?_⟩;replace BK419:=am (jb.blk hk (g':=gb419) (o:=.cells #[.slice A1_0 l1_0.length c1_0] 32 (0,0)) (Y43) NB419_0.out (by simp));replace BK424:=am (jb.blk hk (g':=gb424) (o:=.cells #[.int .i64 a2, .int .i64 11, .int .i64 t465, .int .i64 0] 59 (0,0)) (by (with_reducible repeat (first | refine jr ?_ _ | refine jF ?_ | refine jB ?_ _));refine jXa (cs:=#[.int .i64 a2, .int .i64 11, .int .i64 0, .int .i64 0]) ?_ 2 _ rfl;(with_reducible repeat (first | refine jr ?_ _ | refine jF ?_ | refine jB ?_ _));exact BK424.out) NB424_0.out (by simp));replace HK:=am (jb.trans (Y1) hk (.inl rfl));replace HB:=am (hb);replace HI0:=am (hi);(try clear hb);(try clear hb2);(try clear hk);(try clear hi);have hcz96_0:=bc0 BK424.out;have hcz96_1:=bc1 BK424.out;have hcz96_2:=bc2 BK424.out;have hcz96_3:=bc3 BK424.out;have hfz96_0:=ja BK424.out 0;have hfz96_1:=ja BK424.out 1;have hfz96_2:=ja BK424.out 2;have hfz96_3:=ja BK424.out 3))
             have n0_:jl ((w95.setCell ⟨gb424,3,none⟩ (.int .i64 t467)).heap[gb419]?=some (.cells #[.slice A1_0 l1_0.length c1_0] 32 (0,0))):=⟨by (with_reducible repeat (first | refine jr ?_ _ | refine jF ?_ | refine jB ?_ _));refine jjb ?_ NB419_424.out _;(with_reducible repeat (first | refine jr ?_ _ | refine jF ?_ | refine jB ?_ _));exact BK419.out⟩
             have n1_:jl ((w95.setCell ⟨gb424,3,none⟩ (.int .i64 t467)).heap[gb424]?=some (.cells #[.int .i64 a2, .int .i64 11, .int .i64 t465, .int .i64 t467] 59 (0,0))):=⟨by (with_reducible repeat (first | refine jr ?_ _ | refine jF ?_ | refine jB ?_ _));refine jXa (cs:=#[.int .i64 a2, .int .i64 11, .int .i64 t465, .int .i64 0]) ?_ 3 _ rfl;(with_reducible repeat (first | refine jr ?_ _ | refine jF ?_ | refine jB ?_ _));exact BK424.out⟩
             have n2_:jl (jc w0 (w95.setCell ⟨gb424,3,none⟩ (.int .i64 t467)) g s0_0 t468):=⟨Y3⟩
             have n3_:jl (jb w (w95.setCell ⟨gb424,3,none⟩ (.int .i64 t467)) g none):=⟨Y1⟩
             have n4_:jl (Below w0.heap.size w0 (w95.setCell ⟨gb424,3,none⟩ (.int .i64 t467))):=⟨Y6⟩
             (try clear BK419)
             (try clear BK424)
             (try clear HI0)
             (try clear HK)
             (try clear HB)
             generalize (w95.setCell ⟨gb424,3,none⟩ (.int .i64 t467))=w97 at n0_ n1_ n2_ n3_ n4_ ⊢
             have BK419:=n0_
             have BK424:=n1_
             have HI0:=n2_
             have HK:=n3_
             have HB:=n4_
             clear n0_ n1_ n2_ n3_ n4_
             replace BK419:=am (jF BK419.out)
             replace BK424:=am (jF BK424.out)
             replace HI0:=am (jc.drew HI0.out)
             replace HK:=am (jWa HK.out)
             replace HB:=am (jR HB.out)
             refine start_ (n:=10) (S:=fun w'=>w'.cell? ⟨gb424,0,none⟩=some (.int .i64 a2)∧w'.cell? ⟨gb424,1,none⟩=some (.int .i64 11)∧w'.cell? ⟨gb424,2,none⟩=some (.int .i64 t465)∧w'.cell? ⟨gb424,3,none⟩=some (.int .i64 t467)∧w'.cell? ⟨gb419,0,none⟩=some (.slice A1_0 l1_0.length c1_0)) (ds:=[]) #[false,false,false,false,false,false,false,false,false,false] (by kernel_rfl) rfl rfl ⟨(jA BK424.out 0).trans rfl,(jA BK424.out 1).trans rfl,(jA BK424.out 2).trans rfl,(jA BK424.out 3).trans rfl,(jA BK419.out 0).trans rfl⟩ (fun hHeld=>?_);refine jTb jy.tab26 jy.bits26 (fun HT_ HW_=>?_)
             generalize w97.drew=w98 at BK419 BK424 HI0 HK HB hHeld ⊢
             refine pq (i:=2) (N:=some 84) #[false,false,true,false,false,false,false,false,false,false] ?_
             refine pq (i:=4) (N:=some 86) #[false,false,true,false,true,false,false,false,false,false] ?_
             refine pq (i:=5) (N:=some 87) #[false,false,true,false,true,true,false,false,false,false] ?_
             refine pq (i:=6) (N:=some 88) #[false,false,true,false,true,true,true,false,false,false] ?_
             refine jrc (i:=0) (N:=some 82) (v:=?_) (a':=?_) #[true,false,true,false,true,true,true,false,false,false] rfl rfl (jub HT_.out HW_.out (by kernel_rfl)) (fun _ _ _ h=>h) (Or.inl ⟨by rfl,?_⟩) hHeld ?_ ?_
             rotate_left
             ·rintro w' ⟨s0,s1,s2,s3,s4⟩
              go_simp
              with_reducible rfl
             rotate_left
             ·exact sa
             refine jrc (i:=3) (N:=some 85) (v:=?_) (a':=?_) #[true,false,true,true,true,true,true,false,false,false] rfl rfl (jub HT_.out HW_.out (by kernel_rfl)) (fun _ _ _ h=>h) (Or.inl ⟨by rfl,?_⟩) hHeld ?_ ?_
             rotate_left
             ·rintro w' ⟨s0,s1,s2,s3,s4⟩
              go_simp
              with_reducible rfl
             rotate_left
             ·exact sa
             refine join_ (σ:=Value × Value) 2 #[true,true,true,true,true,true,true,true,false,false] (fun s_=>[(83,s_.1),(89,s_.2)]) (fun s_ w'=>(w'.cell? ⟨gb424,0,none⟩=some (.int .i64 a2)∧w'.cell? ⟨gb424,1,none⟩=some (.int .i64 11)∧w'.cell? ⟨gb424,2,none⟩=some (.int .i64 t465)∧w'.cell? ⟨gb424,3,none⟩=some (.int .i64 t467)∧w'.cell? ⟨gb419,0,none⟩=some (.slice A1_0 l1_0.length c1_0))∧(Kd.R k59 59 w' w.heap.size (fun k_=>some k_≠(s_.2:Value).ownBlock∧k_≠gb424) s_.1 y469)∧(Kd.R k59 59 w' w.heap.size (fun k_=>some k_≠(s_.1:Value).ownBlock∧k_≠gb424) s_.2 t472)∧(w'.heap[gb419]?=some (.cells #[.slice A1_0 l1_0.length c1_0] 32 (0,0)))∧(w'.heap[gb424]?=some (.cells #[.int .i64 a2, .int .i64 11, .int .i64 t465, .int .i64 t467] 59 (0,0)))∧(jc w0 w' g s0_0 t475)∧(jb w w' g none)∧(Below w0.heap.size w0 w')) ?_ ?_
             rotate_left
             ·intro hCont
              refine two_ (i:=1) (j:=7) (Ni:=some 83) (Nj:=some 89) #[true,true,true,true,true,true,true,false,false,false] #[true,false,true,true,true,true,true,true,false,false] rfl rfl rfl rfl (two_of HT_.out (by kernel_rfl)) (by decide) (by decide) (fun K hK=>?_) (fun K hK=>?_)
              ·skip
               refine Kd.jdc k59 _ 59 ?hg (N:=83) ?hd (xs:=([(⟨a2,11,t465,t467⟩:S59)]:List (S59))) (inner:=[.int .i64 a2, .int .i64 11, .int .i64 t465, .int .i64 t467]) (ok:=fun _=>True) (okp:=fun _=>True) ?hr ?hp (fun _ hk=>hk) trivial (Below.refl _ _) (Nat.le_refl _) (by simp) ?_;(case hd=>rfl);(case hg=>rfl);(case hr=>exact Y8);(case hp=>exact (Reps.c4 (show Kd.M k59 _ _ _ (⟨a2,11,t465,t467⟩:S59) [.int .i64 a2, .int .i64 11, .int .i64 t465, .int .i64 t467] from (jAb _ _ _ (⟨a2,11,t465,t467⟩:S59) )) (Reps.none _ _)))
               intro v470 w99 ho100 hb hg_ hnew_
               clear hg_ hnew_
               (first | rw [← Ny469.out] at ho100 |(simp only [Int.reduceToNat] at ho100;rw [← Ny469.out] at ho100))
               have HO471:=am (Kd.jea (Kd.juc ho100 (g:=gb424) (o:=.cells #[.int .i64 a2, .int .i64 11, .int .i64 t465, .int .i64 t467] 59 (0,0)) (kq BK424.out)) (jN (w:=w) (g:=g) (row:=none) (Y1)))
               replace BK419:=am (jo (g:=gb419) (o:=.cells #[.slice A1_0 l1_0.length c1_0] 32 (0,0)) (kq BK419.out) hb)
               replace BK424:=am (jo (g:=gb424) (o:=.cells #[.int .i64 a2, .int .i64 11, .int .i64 t465, .int .i64 t467] 59 (0,0)) (kq BK424.out) hb)
               replace HK:=am (jb.trans (Y1) (jb.of_below hb g none) (.inl rfl))
               replace HB:=am (jg (Y6) hb)
               replace HI0:=am (jc.below (Y3) hb)
               clear hb ho100
               refine hK.out _ _ ⟨(jA BK424.out 0).trans rfl,(jA BK424.out 1).trans rfl,(jA BK424.out 2).trans rfl,(jA BK424.out 3).trans rfl,(jA BK419.out 0).trans rfl⟩ (fun hHeld=>?_)
               clear hK K
               refine jUb (a':=?_) ?_ ?_
               rotate_left
               ·show Act.put _ (some 83) _=_
                simp only [Act.put,List.setIfInBounds_toArray,List.set_cons_zero,List.set_cons_succ,jlb,jmb]
                rfl
               refine one_ (i:=7) (N:=some 89) #[true,true,true,true,true,true,true,true,false,false] rfl rfl (jJb HT_.out (by kernel_rfl)) (by decide) (fun K hK=>?_)
               refine goes_ Try.func98 (by kernel_rfl) rfl #[.pointer (some ⟨g,0,none⟩), .agg #[.slice A1_0 l1_0.length c1_0], .int .i64 (wrap64 (a2+1)), .bool a3] (by rfl) rfl rfl (aq) ?_
               with_reducible refine (ih98 kj49 (by have:=HJ5.out;have:=HJ49.out;omega) g s0_0 t468 _ _ l1_0 (wrap64 (a2+1)) a3 t472 t475 w0 _ ?side1 ?side2 ?side3 ?side4 A88.out).mono ?_
               (case side1=>exact Y3)
               (case side2=>exact Y6)
               (case side3=>exact Kd.job HR1_0.out (Y1))
               (case side4=>exact HC1_0.out)
               rintro e w101 ⟨v473,rfl,ho0,hi,hb,hk⟩
               refine ⟨_,rfl,?_⟩
               have HO474:=am (Kd.jea (Kd.juc (Kd.jac ho0 (Kd.R_lt (rq HO471.out))) (g:=gb424) (o:=.cells #[.int .i64 a2, .int .i64 11, .int .i64 t465, .int .i64 t467] 59 (0,0)) (kq BK424.out)) (jN (w:=w) (g:=g) (row:=none) (Y1)))
               replace BK419:=am (jb.blk hk (g':=gb419) (o:=.cells #[.slice A1_0 l1_0.length c1_0] 32 (0,0)) (kq BK419.out) NB419_0.out (by simp))
               replace BK424:=am (jb.blk hk (g':=gb424) (o:=.cells #[.int .i64 a2, .int .i64 11, .int .i64 t465, .int .i64 t467] 59 (0,0)) (kq BK424.out) NB424_0.out (by simp))
               replace HO471:=am (Kd.jK (Kd.R_told (Kd.R_oldK (jc.apart (show jc w0 _ g s0_0 t468 from Y3) (rq HO471.out) (by decide)) hk) (Kd.jbc ho0)) (fun _ h_=>h_.1))
               replace HK:=am (jb.trans (Y1) hk (.inl rfl))
               replace HB:=am (hb)
               replace HI0:=am (hi)
               (try clear hb)
               (try clear hb2)
               (try clear hk)
               (try clear hi)
               (try clear ho0)
               refine hK.out _ _ ⟨(jA BK424.out 0).trans rfl,(jA BK424.out 1).trans rfl,(jA BK424.out 2).trans rfl,(jA BK424.out 3).trans rfl,(jA BK419.out 0).trans rfl⟩ (fun hHeld=>?_)
               clear hK K
               refine jUb (a':=?_) ?_ ?_
               rotate_left
               ·show Act.put _ (some 89) _=_
                simp only [Act.put,List.setIfInBounds_toArray,List.set_cons_zero,List.set_cons_succ,jlb,jmb]
                rfl
               exact jUb (by simp only [putAll,Act.put,List.setIfInBounds_toArray,List.set_cons_zero,List.set_cons_succ]) (hCont (v470,v473) _ ⟨hHeld,(by (with_reducible repeat (first | apply Kd.jga | apply Kd.jha | apply Kd.jra));exact Kd.jK HO471.out (fun _ hk=>⟨hk.2,hk.1.2⟩)),(by (with_reducible repeat (first | apply Kd.jga | apply Kd.jha | apply Kd.jra));exact Kd.jK HO474.out (fun _ hk=>⟨hk.1.2,hk.2⟩)),(kq BK419.out),(kq BK424.out),(Y3),(Y1),(Y6)⟩)
              ·skip
               refine goes_ Try.func98 (by kernel_rfl) rfl #[.pointer (some ⟨g,0,none⟩), .agg #[.slice A1_0 l1_0.length c1_0], .int .i64 (wrap64 (a2+1)), .bool a3] (by rfl) rfl rfl (aq) ?_
               with_reducible refine (ih98 kj49 (by have:=HJ5.out;have:=HJ49.out;omega) g s0_0 t468 _ _ l1_0 (wrap64 (a2+1)) a3 t472 t475 w0 _ ?side1 ?side2 ?side3 ?side4 A88.out).mono ?_
               (case side1=>exact Y3)
               (case side2=>exact Y6)
               (case side3=>exact Kd.job HR1_0.out (Y1))
               (case side4=>exact HC1_0.out)
               rintro e w99 ⟨v473,rfl,ho0,hi,hb,hk⟩
               refine ⟨_,rfl,?_⟩
               have HO474:=am (Kd.jea (Kd.juc ho0 (g:=gb424) (o:=.cells #[.int .i64 a2, .int .i64 11, .int .i64 t465, .int .i64 t467] 59 (0,0)) (kq BK424.out)) (jN (w:=w) (g:=g) (row:=none) (Y1)))
               replace BK419:=am (jb.blk hk (g':=gb419) (o:=.cells #[.slice A1_0 l1_0.length c1_0] 32 (0,0)) (kq BK419.out) NB419_0.out (by simp))
               replace BK424:=am (jb.blk hk (g':=gb424) (o:=.cells #[.int .i64 a2, .int .i64 11, .int .i64 t465, .int .i64 t467] 59 (0,0)) (kq BK424.out) NB424_0.out (by simp))
               replace HK:=am (jb.trans (Y1) hk (.inl rfl))
               replace HB:=am (hb)
               replace HI0:=am (hi)
               (try clear hb)
               (try clear hb2)
               (try clear hk)
               (try clear hi)
               (try clear ho0)
               refine hK.out _ _ ⟨(jA BK424.out 0).trans rfl,(jA BK424.out 1).trans rfl,(jA BK424.out 2).trans rfl,(jA BK424.out 3).trans rfl,(jA BK419.out 0).trans rfl⟩ (fun hHeld=>?_)
               clear hK K
               refine jUb (a':=?_) ?_ ?_
               rotate_left
               ·show Act.put _ (some 89) _=_
                simp only [Act.put,List.setIfInBounds_toArray,List.set_cons_zero,List.set_cons_succ,jlb,jmb]
                rfl
               refine one_ (i:=1) (N:=some 83) #[true,true,true,true,true,true,true,true,false,false] rfl rfl (jJb HT_.out (by kernel_rfl)) (by decide) (fun K hK=>?_)
               refine Kd.jdc k59 _ 59 ?hg (N:=83) ?hd (xs:=([(⟨a2,11,t465,t467⟩:S59)]:List (S59))) (inner:=[.int .i64 a2, .int .i64 11, .int .i64 t465, .int .i64 t467]) (ok:=fun _=>True) (okp:=fun _=>True) ?hr ?hp (fun _ hk=>hk) trivial (Below.refl _ _) (Nat.le_refl _) (by simp) ?_;(case hd=>rfl);(case hg=>rfl);(case hr=>exact Y8);(case hp=>exact (Reps.c4 (show Kd.M k59 _ _ _ (⟨a2,11,t465,t467⟩:S59) [.int .i64 a2, .int .i64 11, .int .i64 t465, .int .i64 t467] from (jAb _ _ _ (⟨a2,11,t465,t467⟩:S59) )) (Reps.none _ _)))
               intro v470 w100 ho101 hb hg_ hnew_
               clear hg_ hnew_
               (first | rw [← Ny469.out] at ho101 |(simp only [Int.reduceToNat] at ho101;rw [← Ny469.out] at ho101))
               have HO471:=am (Kd.jea (Kd.juc (Kd.jac ho101 (Kd.R_lt (rq HO474.out))) (g:=gb424) (o:=.cells #[.int .i64 a2, .int .i64 11, .int .i64 t465, .int .i64 t467] 59 (0,0)) (kq BK424.out)) (jN (w:=w) (g:=g) (row:=none) (Y1)))
               replace HO474:=am (Kd.jEc (rq HO474.out) (Kd.jbc ho101) hb)
               replace BK419:=am (jo (g:=gb419) (o:=.cells #[.slice A1_0 l1_0.length c1_0] 32 (0,0)) (kq BK419.out) hb)
               replace BK424:=am (jo (g:=gb424) (o:=.cells #[.int .i64 a2, .int .i64 11, .int .i64 t465, .int .i64 t467] 59 (0,0)) (kq BK424.out) hb)
               replace HK:=am (jb.trans (Y1) (jb.of_below hb g none) (.inl rfl))
               replace HB:=am (jg (Y6) hb)
               replace HI0:=am (jc.below (Y3) hb)
               clear hb ho101
               refine hK.out _ _ ⟨(jA BK424.out 0).trans rfl,(jA BK424.out 1).trans rfl,(jA BK424.out 2).trans rfl,(jA BK424.out 3).trans rfl,(jA BK419.out 0).trans rfl⟩ (fun hHeld=>?_)
               clear hK K
               refine jUb (a':=?_) ?_ ?_
               rotate_left
               ·show Act.put _ (some 83) _=_
                simp only [Act.put,List.setIfInBounds_toArray,List.set_cons_zero,List.set_cons_succ,jlb,jmb]
                rfl
               exact jUb (by simp only [putAll,Act.put,List.setIfInBounds_toArray,List.set_cons_zero,List.set_cons_succ]) (hCont (v470,v473) _ ⟨hHeld,(by (with_reducible repeat (first | apply Kd.jga | apply Kd.jha | apply Kd.jra));exact Kd.jK HO471.out (fun _ hk=>⟨hk.1.2,hk.2⟩)),(by (with_reducible repeat (first | apply Kd.jga | apply Kd.jha | apply Kd.jra));exact Kd.jK HO474.out (fun _ hk=>⟨hk.2,hk.1.2⟩)),(kq BK419.out),(kq BK424.out),(Y3),(Y1),(Y6)⟩)
             rintro ⟨v470,v473⟩ w102 ⟨hS_,h0_,h1_,h2_,h3_,h4_,h5_,h6_⟩
             have n0_:jl (Kd.R k59 59 w102 w.heap.size (fun k_=>some k_≠(v473:Value).ownBlock∧k_≠gb424) v470 y469):=⟨h0_⟩
             have n1_:jl (Kd.R k59 59 w102 w.heap.size (fun k_=>some k_≠(v470:Value).ownBlock∧k_≠gb424) v473 t472):=⟨h1_⟩
             have n2_:jl (w102.heap[gb419]?=some (.cells #[.slice A1_0 l1_0.length c1_0] 32 (0,0))):=⟨h2_⟩
             have n3_:jl (w102.heap[gb424]?=some (.cells #[.int .i64 a2, .int .i64 11, .int .i64 t465, .int .i64 t467] 59 (0,0))):=⟨h3_⟩
             have n4_:jl (jc w0 w102 g s0_0 t475):=⟨h4_⟩
             have n5_:jl (jb w w102 g none):=⟨h5_⟩
             have n6_:jl (Below w0.heap.size w0 w102):=⟨h6_⟩
             clear BK419
             clear BK424
             clear HI0
             clear HK
             clear HB
             clear h0_ h1_ h2_ h3_ h4_ h5_ h6_
             have HO471:=n0_
             have HO474:=n1_
             have BK419:=n2_
             have BK424:=n3_
             have HI0:=n4_
             have HK:=n5_
             have HB:=n6_
             clear n0_ n1_ n2_ n3_ n4_ n5_ n6_
             have hHeld:w102.cell? ⟨gb424,0,none⟩=some (.int .i64 a2)∧w102.cell? ⟨gb424,1,none⟩=some (.int .i64 11)∧w102.cell? ⟨gb424,2,none⟩=some (.int .i64 t465)∧w102.cell? ⟨gb424,3,none⟩=some (.int .i64 t467)∧w102.cell? ⟨gb419,0,none⟩=some (.slice A1_0 l1_0.length c1_0):=hS_
             obtain ⟨Ao104,co104,eo104⟩:=Kd.jsa HO474.out
             (first | subst eo104 |(injection eo104 with f1_ f2_ f3_;have f4_:=f1_.symm;have f5_:=f3_.symm;clear f1_ f2_ f3_;subst f4_;subst f5_))
             refine jUb (a':=?_) ?_ ?_
             rotate_left
             ·simp only [putAll,Act.put,List.setIfInBounds_toArray,List.set_cons_zero,List.set_cons_succ]
              rfl
             refine one_ (i:=8) (N:=some 90) #[true,true,true,true,true,true,true,true,true,false] rfl rfl (jJb HT_.out (by kernel_rfl)) (by decide) (fun K hK=>?_)
             refine Kd.jFc k59 w.heap.size (by rfl) (.tmp 83) (.tmp 89) 34 59 (.agg #[(.int .i64 0),(.int .i64 0),(.int .i64 0),(.int .i64 0)]) 32 rfl Try.underlying34 jBc rfl (by decide) (by omega) v470 y469 t472 _ _ _ (fun k_=>some k_≠(.slice Ao104 t472.length co104:Value).ownBlock∧k_≠gb424) (fun _=>False) rfl rfl ?aO ?aR (fun _ _ h=>h) (fun _ h=>h.elim) ?aF (Below.refl _ _) ?aS ?aL ?_
             (case aR=>repeat (first | exact (Kd.jE HO474.out).2.2 |(with_reducible refine Kd.jyc ?_ _) |(with_reducible refine Kd.jmc ?_ _) |(with_reducible refine Kd.C_drew ?_)))
             (case aF=>exact (fun k_ hk=>⟨Kd.fresh' (Kd.R_lt (rq HO474.out)) k_ hk,Kd.freshB (g:=gb424) (o:=.cells #[.int .i64 a2, .int .i64 11, .int .i64 t465, .int .i64 t467] 59 (0,0)) (kq BK424.out) k_ hk⟩))
             (case aO=>exact (rq HO471.out))
             (case aS=>exact (jN (w:=w) (g:=g) (row:=none) (Y1)))
             (case aL=>have:=LMc89.out;omega)
             intro v477 w103 ho hb hg hat
             rw [← Ny476.out] at ho
             have n0_:=am (jVa (g:=gb419) (o:=.cells #[.slice A1_0 l1_0.length c1_0] 32 (0,0)) (kq BK419.out) hg (Kd.R_ne HO471.out BK419.out (by decide)))
             have n1_:=am (jVa (g:=gb424) (o:=.cells #[.int .i64 a2, .int .i64 11, .int .i64 t465, .int .i64 t467] 59 (0,0)) (kq BK424.out) hg (Kd.R_away HO471.out (fun _ hk=>hk.2)))
             have n2_:=am (jc.grown (Y3) hg (jc.own_ne HI0.out HO471.out (by decide)))
             have n3_:=am (Kd.jUc (ok:=(fun k_=>k_≠gb424)) (by (with_reducible repeat (first | apply Kd.jga | apply Kd.jha | apply Kd.jra));exact Kd.jK HO474.out (fun _ hk=>⟨hk.2,hk.1⟩)) hg hat)
             have n4_:=am (jcb (Y6) HL.out hb)
             have n5_:=am (jb.trans (Y1) (jb.jxb hg g) (Kd.jQb HO471.out))
             have n6_:=am (ho)
             clear BK419
             clear BK424
             clear HI0
             clear HO474
             clear HB
             clear HK
             clear HO471
             have BK419:=n0_
             have BK424:=n1_
             have HI0:=n2_
             have HO474:=n3_
             have HB:=n4_
             have HK:=n5_
             have HO478:=n6_
             clear n0_ n1_ n2_ n3_ n4_ n5_ n6_
             clear ho hb hg hat
             refine hK.out _ _ ⟨(jA BK424.out 0).trans rfl,(jA BK424.out 1).trans rfl,(jA BK424.out 2).trans rfl,(jA BK424.out 3).trans rfl,(jA BK419.out 0).trans rfl⟩ (fun hHeld=>?_)
             clear hK K
             refine jUb (a':=?_) ?_ ?_
             rotate_left
             ·show Act.put _ (some 90) _=_
              simp only [Act.put,List.setIfInBounds_toArray,List.set_cons_zero,List.set_cons_succ,jlb,jmb]
              rfl
             refine pq (i:=9) (N:=some 8) #[true,true,true,true,true,true,true,true,true,true] ?_
             refine done_ (jGc HT_.out (by kernel_rfl)) ?_
             try go_wp2
             go_ret
             exact ⟨_,Y0,by (with_reducible repeat (first | apply Kd.jga | apply Kd.jha | apply Kd.jra));exact Kd.jK HO478.out (fun _ hk=>trivial),Y3,Y6,Y1⟩
            ·rw [if_neg c89] at H
             exact absurd H (by simp)
           ·rw [if_neg c85] at H
            have c85b0:decide (x9_5<11)=false:=dzF c85
            clear c85
            by_cases c105:x9_5=11
            ·rw [if_pos c105] at H
             have c105b0:(x9_5 == 11)=true:=beq_iff_eq.mpr c105
             have c105b1:(x9_5 != 11)=false:=bne_eq_false_iff_eq.mpr c105
             clear c105
             obtain ⟨y479,hy479⟩:∃ y_:List Int,y_=(([2,1,3,0]:List Int)):=⟨_,rfl⟩
             replace H:((ji.f kj49 s0_0 x1001_5 y479).bind fun bt482=>((some (([(⟨a2,12,bt482.1,0⟩:S59)]:List (S59)):List (S59))).bind fun y484=>((jL.f kj49 s0_0 bt482.2 l1_0 (wrap64 (a2+1)) true).bind fun bt487=>(if y484.length+bt487.1.length<4398046511104 then (some ((y484 ++ bt487.1),bt487.2)) else (none)))))=some (r1,r2):=by first |(rw [hy479];with_reducible exact H) |(have H2_:=(Option.bind_some _ _).symm.trans H;rw [hy479];with_reducible exact H2_) |(have H2_:=(Option.bind_some _ _).symm.trans H;with_reducible exact H2_) | with_reducible exact H |(rw [hy479];exact H) | exact H
             have Ny479:=am hy479
             clear hy479
             replace H:=bzS H
             obtain ⟨⟨t482,t483⟩,A1060,H⟩:=H
             replace H:((some (([(⟨a2,12,t482,0⟩:S59)]:List (S59)):List (S59))).bind fun y484=>((jL.f kj49 s0_0 t483 l1_0 (wrap64 (a2+1)) true).bind fun bt487=>(if y484.length+bt487.1.length<4398046511104 then (some ((y484 ++ bt487.1),bt487.2)) else (none))))=some (r1,r2):=H
             have A106:=am A1060
             clear A1060
             obtain ⟨y484,hy484⟩:∃ y_:List (S59),y_=(([(⟨a2,12,t482,0⟩:S59)]:List (S59))):=⟨_,rfl⟩
             replace H:((jL.f kj49 s0_0 t483 l1_0 (wrap64 (a2+1)) true).bind fun bt487=>(if y484.length+bt487.1.length<4398046511104 then (some ((y484 ++ bt487.1),bt487.2)) else (none)))=some (r1,r2):=by first |(rw [hy484];with_reducible exact H) |(have H2_:=(Option.bind_some _ _).symm.trans H;rw [hy484];with_reducible exact H2_) |(have H2_:=(Option.bind_some _ _).symm.trans H;with_reducible exact H2_) | with_reducible exact H |(rw [hy484];exact H) | exact H
             have Ny484:=am hy484
             clear hy484
             replace H:=bzS H
             obtain ⟨⟨t487,t490⟩,A1070,H⟩:=H
             replace H:(if y484.length+t487.length<4398046511104 then (some ((y484 ++ t487),t490)) else (none))=some (r1,r2):=H
             have A107:=am A1070
             clear A1070
             by_cases c108:y484.length+t487.length<4398046511104
             ·rw [if_pos c108] at H
              have LMc108:=am c108
              clear c108
              obtain ⟨y491,hy491⟩:∃ y_:List (S59),y_=(y484 ++ t487):=⟨_,rfl⟩
              replace H:(some (y491,t490))=some (r1,r2):=by first |(rw [hy491];with_reducible exact H) |(have H2_:=(Option.bind_some _ _).symm.trans H;rw [hy491];with_reducible exact H2_) |(have H2_:=(Option.bind_some _ _).symm.trans H;with_reducible exact H2_) | with_reducible exact H |(rw [hy491];exact H) | exact H
              have Ny491:=am hy491
              clear hy491
              simp only [Option.some.injEq,Prod.mk.injEq] at H
              obtain ⟨rfl,rfl⟩:=H
              have hnb109:=NB424_419.out
              have hnc109:=NB419_424.out
              have hnb110:=NB424_0.out
              have hnc110:=NB0_424.out
              have hcz111_0:=bc0 BK424.out
              have hcz111_1:=bc1 BK424.out
              have hcz111_2:=bc2 BK424.out
              have hcz111_3:=bc3 BK424.out
              have hfz111_0:=ja BK424.out 0
              have hfz111_1:=ja BK424.out 1
              have hfz111_2:=ja BK424.out 2
              have hfz111_3:=ja BK424.out 3
              try go_wp2_with (first |((with_reducible refine jS (N:=96) rfl ?_);refine Kd.jWb (Kd.int .i64) _ 3 ?hg (N:=96) ?hd (xs:=([2,1,3,0]:List Int)) (inner:=[.int .i64 2, .int .i64 1, .int .i64 3, .int .i64 0]) (ok:=fun _=>True) (okp:=fun _=>True) ?hr ?hp (fun _ hk=>hk) trivial (Below.refl _ _) (Nat.le_refl _) (by simp) ?_;(case hd=>rfl);(case hg=>rfl);(case hr=>exact Y8);(case hp=>exact (Reps.one (show Kd.M (Kd.int .i64) _ _ _ 2 [.int .i64 2] from rfl) (Reps.one (show Kd.M (Kd.int .i64) _ _ _ 1 [.int .i64 1] from rfl) (Reps.one (show Kd.M (Kd.int .i64) _ _ _ 3 [.int .i64 3] from rfl) (Reps.one (show Kd.M (Kd.int .i64) _ _ _ 0 [.int .i64 0] from rfl) (Reps.none _ _))))));intro v480 w112 ho113 hb hg_ hnew_;clear hg_ hnew_;(first | rw [← Ny479.out] at ho113 |(simp only [Int.reduceToNat] at ho113;rw [← Ny479.out] at ho113));have HO481:=am (Kd.jea ho113 (jN (w:=w) (g:=g) (row:=none) (Y1)));replace BK419:=am (jo (g:=gb419) (o:=.cells #[.slice A1_0 l1_0.length c1_0] 32 (0,0)) (Y43) hb);replace BK424:=am (jo (g:=gb424) (o:=.cells #[.int .i64 a2, .int .i64 12, .int .i64 0, .int .i64 0] 59 (0,0)) (Y54) hb);replace HK:=am (jb.trans (Y1) (jb.of_below hb g none) (.inl rfl));replace HB:=am (jg (Y6) hb);replace HI0:=am (jc.below (show jc w0 (wc.setCell ⟨gb424,1,none⟩ (.int .i64 12)) g s0_0 x1001_5 from Y3) hb);clear hb ho113;obtain ⟨Ao114,co114,eo114⟩:=Kd.jsa HO481.out;subst eo114) |((with_reducible refine je (f:=56) rfl ?_);refine gL (some 97) Try.func56 #[.pointer (some ⟨g,0,none⟩), .slice Ao114 y479.length co114] ?_;(with_reducible refine (ji.calls kj49 g s0_0 x1001_5 _ _ y479 t482 t483 w0 _ ?side1 ?side2 ?side3 ?side4 ?side5 A106.out).mono ?_);(case side1=>exact Y3);(case side2=>exact Y6);(case side3=>exact cq (Kd.jE HO481.out).2.2);(case side4=>exact (Kd.jE HO481.out).2.1);(case side5=>exact jBb (jc.own_ne HI0.out HO481.out (by decide)));rintro e w115 ⟨rfl,hi,hb,hk⟩;refine ⟨_,rfl,?_⟩;replace BK419:=am (jb.blk hk (g':=gb419) (o:=.cells #[.slice A1_0 l1_0.length c1_0] 32 (0,0)) (kq BK419.out) NB419_0.out (by simp));replace BK424:=am (jb.blk hk (g':=gb424) (o:=.cells #[.int .i64 a2, .int .i64 12, .int .i64 0, .int .i64 0] 59 (0,0)) (kq BK424.out) NB424_0.out (by simp));replace HO481:=am (Kd.jK (Kd.jFa (jc.apart (show jc w0 _ g s0_0 x1001_5 from Y3) (rq HO481.out) (by decide)) hk (fun _ h=>h.2)) (fun _ h=>h.1));replace HK:=am (jb.trans (Y1) hk (.inl rfl));replace HB:=am (hb);replace HI0:=am (hi);(try clear hb);(try clear hb2);(try clear hk);(try clear hi);have hcz116_0:=bc0 BK424.out;have hcz116_1:=bc1 BK424.out;have hcz116_2:=bc2 BK424.out;have hcz116_3:=bc3 BK424.out;have hfz116_0:=ja BK424.out 0;have hfz116_1:=ja BK424.out 1;have hfz116_2:=ja BK424.out 2;have hfz116_3:=ja BK424.out 3))
              have n0_:jl (Kd.R (Kd.int .i64) 3 (w115.setCell ⟨gb424,2,none⟩ (.int .i64 t482)) w.heap.size (fun _=>True) (.slice Ao114 y479.length co114) y479):=⟨by (with_reducible repeat (first | apply Kd.jga | apply Kd.jha | apply Kd.jra));exact Kd.jK (Kd.jHb (p:=⟨gb424,2,none⟩) (Kd.jPa HO481.out BK424.out (by decide)) (fun _ hk=>hk.2) (.int .i64 t482)) (fun _ hk=>trivial)⟩
              have n1_:jl ((w115.setCell ⟨gb424,2,none⟩ (.int .i64 t482)).heap[gb419]?=some (.cells #[.slice A1_0 l1_0.length c1_0] 32 (0,0))):=⟨by (with_reducible repeat (first | refine jr ?_ _ | refine jF ?_ | refine jB ?_ _));refine jjb ?_ NB419_424.out _;(with_reducible repeat (first | refine jr ?_ _ | refine jF ?_ | refine jB ?_ _));exact BK419.out⟩
              have n2_:jl ((w115.setCell ⟨gb424,2,none⟩ (.int .i64 t482)).heap[gb424]?=some (.cells #[.int .i64 a2, .int .i64 12, .int .i64 t482, .int .i64 0] 59 (0,0))):=⟨by (with_reducible repeat (first | refine jr ?_ _ | refine jF ?_ | refine jB ?_ _));refine jXa (cs:=#[.int .i64 a2, .int .i64 12, .int .i64 0, .int .i64 0]) ?_ 2 _ rfl;(with_reducible repeat (first | refine jr ?_ _ | refine jF ?_ | refine jB ?_ _));exact BK424.out⟩
              have n3_:jl (jc w0 (w115.setCell ⟨gb424,2,none⟩ (.int .i64 t482)) g s0_0 t483):=⟨Y3⟩
              have n4_:jl (jb w (w115.setCell ⟨gb424,2,none⟩ (.int .i64 t482)) g none):=⟨Y1⟩
              have n5_:jl (Below w0.heap.size w0 (w115.setCell ⟨gb424,2,none⟩ (.int .i64 t482))):=⟨Y6⟩
              (try clear HO481)
              (try clear BK419)
              (try clear BK424)
              (try clear HI0)
              (try clear HK)
              (try clear HB)
              generalize (w115.setCell ⟨gb424,2,none⟩ (.int .i64 t482))=w117 at n0_ n1_ n2_ n3_ n4_ n5_ ⊢
              have HO481:=n0_
              have BK419:=n1_
              have BK424:=n2_
              have HI0:=n3_
              have HK:=n4_
              have HB:=n5_
              clear n0_ n1_ n2_ n3_ n4_ n5_
              replace HO481:=am (Kd.jra HO481.out)
              replace BK419:=am (jF BK419.out)
              replace BK424:=am (jF BK424.out)
              replace HI0:=am (jc.drew HI0.out)
              replace HK:=am (jWa HK.out)
              replace HB:=am (jR HB.out)
              refine start_ (n:=9) (S:=fun w'=>w'.cell? ⟨gb424,0,none⟩=some (.int .i64 a2)∧w'.cell? ⟨gb424,1,none⟩=some (.int .i64 12)∧w'.cell? ⟨gb424,2,none⟩=some (.int .i64 t482)∧w'.cell? ⟨gb424,3,none⟩=some (.int .i64 0)∧w'.cell? ⟨gb419,0,none⟩=some (.slice A1_0 l1_0.length c1_0)) (ds:=[]) #[false,false,false,false,false,false,false,false,false] (by kernel_rfl) rfl rfl ⟨(jA BK424.out 0).trans rfl,(jA BK424.out 1).trans rfl,(jA BK424.out 2).trans rfl,(jA BK424.out 3).trans rfl,(jA BK419.out 0).trans rfl⟩ (fun hHeld=>?_);refine jTb jy.tab30 jy.bits30 (fun HT_ HW_=>?_)
              generalize w117.drew=w118 at HO481 BK419 BK424 HI0 HK HB hHeld ⊢
              refine pq (i:=2) (N:=some 101) #[false,false,true,false,false,false,false,false,false] ?_
              refine pq (i:=4) (N:=some 103) #[false,false,true,false,true,false,false,false,false] ?_
              refine pq (i:=5) (N:=some 104) #[false,false,true,false,true,true,false,false,false] ?_
              refine jrc (i:=0) (N:=some 99) (v:=?_) (a':=?_) #[true,false,true,false,true,true,false,false,false] rfl rfl (jub HT_.out HW_.out (by kernel_rfl)) (fun _ _ _ h=>h) (Or.inl ⟨by rfl,?_⟩) hHeld ?_ ?_
              rotate_left
              ·rintro w' ⟨s0,s1,s2,s3,s4⟩
               go_simp
               with_reducible rfl
              rotate_left
              ·exact sa
              refine jrc (i:=3) (N:=some 102) (v:=?_) (a':=?_) #[true,false,true,true,true,true,false,false,false] rfl rfl (jub HT_.out HW_.out (by kernel_rfl)) (fun _ _ _ h=>h) (Or.inl ⟨by rfl,?_⟩) hHeld ?_ ?_
              rotate_left
              ·rintro w' ⟨s0,s1,s2,s3,s4⟩
               go_simp
               with_reducible rfl
              rotate_left
              ·exact sa
              refine join_ (σ:=Value × Value) 2 #[true,true,true,true,true,true,true,false,false] (fun s_=>[(100,s_.1),(105,s_.2)]) (fun s_ w'=>(w'.cell? ⟨gb424,0,none⟩=some (.int .i64 a2)∧w'.cell? ⟨gb424,1,none⟩=some (.int .i64 12)∧w'.cell? ⟨gb424,2,none⟩=some (.int .i64 t482)∧w'.cell? ⟨gb424,3,none⟩=some (.int .i64 0)∧w'.cell? ⟨gb419,0,none⟩=some (.slice A1_0 l1_0.length c1_0))∧(Kd.R (Kd.int .i64) 3 w' w.heap.size (fun _=>True) (.slice Ao114 y479.length co114) y479)∧(Kd.R k59 59 w' w.heap.size (fun k_=>some k_≠(s_.2:Value).ownBlock∧k_≠gb424) s_.1 y484)∧(Kd.R k59 59 w' w.heap.size (fun k_=>some k_≠(s_.1:Value).ownBlock∧k_≠gb424) s_.2 t487)∧(w'.heap[gb419]?=some (.cells #[.slice A1_0 l1_0.length c1_0] 32 (0,0)))∧(w'.heap[gb424]?=some (.cells #[.int .i64 a2, .int .i64 12, .int .i64 t482, .int .i64 0] 59 (0,0)))∧(jc w0 w' g s0_0 t490)∧(jb w w' g none)∧(Below w0.heap.size w0 w')) ?_ ?_
              rotate_left
              ·intro hCont
               refine two_ (i:=1) (j:=6) (Ni:=some 100) (Nj:=some 105) #[true,true,true,true,true,true,false,false,false] #[true,false,true,true,true,true,true,false,false] rfl rfl rfl rfl (two_of HT_.out (by kernel_rfl)) (by decide) (by decide) (fun K hK=>?_) (fun K hK=>?_)
               ·skip
                refine Kd.jdc k59 _ 59 ?hg (N:=100) ?hd (xs:=([(⟨a2,12,t482,0⟩:S59)]:List (S59))) (inner:=[.int .i64 a2, .int .i64 12, .int .i64 t482, .int .i64 0]) (ok:=fun _=>True) (okp:=fun _=>True) ?hr ?hp (fun _ hk=>hk) trivial (Below.refl _ _) (Nat.le_refl _) (by simp) ?_;(case hd=>rfl);(case hg=>rfl);(case hr=>exact Y8);(case hp=>exact (Reps.c4 (show Kd.M k59 _ _ _ (⟨a2,12,t482,0⟩:S59) [.int .i64 a2, .int .i64 12, .int .i64 t482, .int .i64 0] from (jAb _ _ _ (⟨a2,12,t482,0⟩:S59) )) (Reps.none _ _)))
                intro v485 w119 ho120 hb hg_ hnew_
                clear hg_ hnew_
                (first | rw [← Ny484.out] at ho120 |(simp only [Int.reduceToNat] at ho120;rw [← Ny484.out] at ho120))
                have HO486:=am (Kd.jea (Kd.juc ho120 (g:=gb424) (o:=.cells #[.int .i64 a2, .int .i64 12, .int .i64 t482, .int .i64 0] 59 (0,0)) (kq BK424.out)) (jN (w:=w) (g:=g) (row:=none) (Y1)))
                replace HO481:=am (Kd.jva (rq HO481.out) hb)
                replace BK419:=am (jo (g:=gb419) (o:=.cells #[.slice A1_0 l1_0.length c1_0] 32 (0,0)) (kq BK419.out) hb)
                replace BK424:=am (jo (g:=gb424) (o:=.cells #[.int .i64 a2, .int .i64 12, .int .i64 t482, .int .i64 0] 59 (0,0)) (kq BK424.out) hb)
                replace HK:=am (jb.trans (Y1) (jb.of_below hb g none) (.inl rfl))
                replace HB:=am (jg (Y6) hb)
                replace HI0:=am (jc.below (Y3) hb)
                clear hb ho120
                refine hK.out _ _ ⟨(jA BK424.out 0).trans rfl,(jA BK424.out 1).trans rfl,(jA BK424.out 2).trans rfl,(jA BK424.out 3).trans rfl,(jA BK419.out 0).trans rfl⟩ (fun hHeld=>?_)
                clear hK K
                refine jUb (a':=?_) ?_ ?_
                rotate_left
                ·show Act.put _ (some 100) _=_
                 simp only [Act.put,List.setIfInBounds_toArray,List.set_cons_zero,List.set_cons_succ,jlb,jmb]
                 rfl
                refine one_ (i:=6) (N:=some 105) #[true,true,true,true,true,true,true,false,false] rfl rfl (jJb HT_.out (by kernel_rfl)) (by decide) (fun K hK=>?_)
                refine goes_ Try.func98 (by kernel_rfl) rfl #[.pointer (some ⟨g,0,none⟩), .agg #[.slice A1_0 l1_0.length c1_0], .int .i64 (wrap64 (a2+1)), .bool true] (by rfl) rfl rfl (aq) ?_
                with_reducible refine (ih98 kj49 (by have:=HJ5.out;have:=HJ49.out;omega) g s0_0 t483 _ _ l1_0 (wrap64 (a2+1)) true t487 t490 w0 _ ?side1 ?side2 ?side3 ?side4 A107.out).mono ?_
                (case side1=>exact Y3)
                (case side2=>exact Y6)
                (case side3=>exact Kd.job HR1_0.out (Y1))
                (case side4=>exact HC1_0.out)
                rintro e w121 ⟨v488,rfl,ho0,hi,hb,hk⟩
                refine ⟨_,rfl,?_⟩
                have HO489:=am (Kd.jea (Kd.juc (Kd.jac ho0 (Kd.R_lt (rq HO486.out))) (g:=gb424) (o:=.cells #[.int .i64 a2, .int .i64 12, .int .i64 t482, .int .i64 0] 59 (0,0)) (kq BK424.out)) (jN (w:=w) (g:=g) (row:=none) (Y1)))
                replace BK419:=am (jb.blk hk (g':=gb419) (o:=.cells #[.slice A1_0 l1_0.length c1_0] 32 (0,0)) (kq BK419.out) NB419_0.out (by simp))
                replace BK424:=am (jb.blk hk (g':=gb424) (o:=.cells #[.int .i64 a2, .int .i64 12, .int .i64 t482, .int .i64 0] 59 (0,0)) (kq BK424.out) NB424_0.out (by simp))
                replace HO481:=am (Kd.jK (Kd.jFa (jc.apart (show jc w0 _ g s0_0 t483 from Y3) (rq HO481.out) (by decide)) hk (fun _ h=>h.2)) (fun _ h=>h.1))
                replace HO486:=am (Kd.jK (Kd.R_told (Kd.R_oldK (jc.apart (show jc w0 _ g s0_0 t483 from Y3) (rq HO486.out) (by decide)) hk) (Kd.jbc ho0)) (fun _ h_=>h_.1))
                replace HK:=am (jb.trans (Y1) hk (.inl rfl))
                replace HB:=am (hb)
                replace HI0:=am (hi)
                (try clear hb)
                (try clear hb2)
                (try clear hk)
                (try clear hi)
                (try clear ho0)
                refine hK.out _ _ ⟨(jA BK424.out 0).trans rfl,(jA BK424.out 1).trans rfl,(jA BK424.out 2).trans rfl,(jA BK424.out 3).trans rfl,(jA BK419.out 0).trans rfl⟩ (fun hHeld=>?_)
                clear hK K
                refine jUb (a':=?_) ?_ ?_
                rotate_left
                ·show Act.put _ (some 105) _=_
                 simp only [Act.put,List.setIfInBounds_toArray,List.set_cons_zero,List.set_cons_succ,jlb,jmb]
                 rfl
                exact jUb (by simp only [putAll,Act.put,List.setIfInBounds_toArray,List.set_cons_zero,List.set_cons_succ]) (hCont (v485,v488) _ ⟨hHeld,(rq HO481.out),(by (with_reducible repeat (first | apply Kd.jga | apply Kd.jha | apply Kd.jra));exact Kd.jK HO486.out (fun _ hk=>⟨hk.2,hk.1.2⟩)),(by (with_reducible repeat (first | apply Kd.jga | apply Kd.jha | apply Kd.jra));exact Kd.jK HO489.out (fun _ hk=>⟨hk.1.2,hk.2⟩)),(kq BK419.out),(kq BK424.out),(Y3),(Y1),(Y6)⟩)
               ·skip
                refine goes_ Try.func98 (by kernel_rfl) rfl #[.pointer (some ⟨g,0,none⟩), .agg #[.slice A1_0 l1_0.length c1_0], .int .i64 (wrap64 (a2+1)), .bool true] (by rfl) rfl rfl (aq) ?_
                with_reducible refine (ih98 kj49 (by have:=HJ5.out;have:=HJ49.out;omega) g s0_0 t483 _ _ l1_0 (wrap64 (a2+1)) true t487 t490 w0 _ ?side1 ?side2 ?side3 ?side4 A107.out).mono ?_
                (case side1=>exact Y3)
                (case side2=>exact Y6)
                (case side3=>exact Kd.job HR1_0.out (Y1))
                (case side4=>exact HC1_0.out)
                rintro e w119 ⟨v488,rfl,ho0,hi,hb,hk⟩
                refine ⟨_,rfl,?_⟩
                have HO489:=am (Kd.jea (Kd.juc ho0 (g:=gb424) (o:=.cells #[.int .i64 a2, .int .i64 12, .int .i64 t482, .int .i64 0] 59 (0,0)) (kq BK424.out)) (jN (w:=w) (g:=g) (row:=none) (Y1)))
                replace BK419:=am (jb.blk hk (g':=gb419) (o:=.cells #[.slice A1_0 l1_0.length c1_0] 32 (0,0)) (kq BK419.out) NB419_0.out (by simp))
                replace BK424:=am (jb.blk hk (g':=gb424) (o:=.cells #[.int .i64 a2, .int .i64 12, .int .i64 t482, .int .i64 0] 59 (0,0)) (kq BK424.out) NB424_0.out (by simp))
                replace HO481:=am (Kd.jK (Kd.jFa (jc.apart (show jc w0 _ g s0_0 t483 from Y3) (rq HO481.out) (by decide)) hk (fun _ h=>h.2)) (fun _ h=>h.1))
                replace HK:=am (jb.trans (Y1) hk (.inl rfl))
                replace HB:=am (hb)
                replace HI0:=am (hi)
                (try clear hb)
                (try clear hb2)
                (try clear hk)
                (try clear hi)
                (try clear ho0)
                refine hK.out _ _ ⟨(jA BK424.out 0).trans rfl,(jA BK424.out 1).trans rfl,(jA BK424.out 2).trans rfl,(jA BK424.out 3).trans rfl,(jA BK419.out 0).trans rfl⟩ (fun hHeld=>?_)
                clear hK K
                refine jUb (a':=?_) ?_ ?_
                rotate_left
                ·show Act.put _ (some 105) _=_
                 simp only [Act.put,List.setIfInBounds_toArray,List.set_cons_zero,List.set_cons_succ,jlb,jmb]
                 rfl
                refine one_ (i:=1) (N:=some 100) #[true,true,true,true,true,true,true,false,false] rfl rfl (jJb HT_.out (by kernel_rfl)) (by decide) (fun K hK=>?_)
                refine Kd.jdc k59 _ 59 ?hg (N:=100) ?hd (xs:=([(⟨a2,12,t482,0⟩:S59)]:List (S59))) (inner:=[.int .i64 a2, .int .i64 12, .int .i64 t482, .int .i64 0]) (ok:=fun _=>True) (okp:=fun _=>True) ?hr ?hp (fun _ hk=>hk) trivial (Below.refl _ _) (Nat.le_refl _) (by simp) ?_;(case hd=>rfl);(case hg=>rfl);(case hr=>exact Y8);(case hp=>exact (Reps.c4 (show Kd.M k59 _ _ _ (⟨a2,12,t482,0⟩:S59) [.int .i64 a2, .int .i64 12, .int .i64 t482, .int .i64 0] from (jAb _ _ _ (⟨a2,12,t482,0⟩:S59) )) (Reps.none _ _)))
                intro v485 w120 ho121 hb hg_ hnew_
                clear hg_ hnew_
                (first | rw [← Ny484.out] at ho121 |(simp only [Int.reduceToNat] at ho121;rw [← Ny484.out] at ho121))
                have HO486:=am (Kd.jea (Kd.juc (Kd.jac ho121 (Kd.R_lt (rq HO489.out))) (g:=gb424) (o:=.cells #[.int .i64 a2, .int .i64 12, .int .i64 t482, .int .i64 0] 59 (0,0)) (kq BK424.out)) (jN (w:=w) (g:=g) (row:=none) (Y1)))
                replace HO481:=am (Kd.jva (rq HO481.out) hb)
                replace HO489:=am (Kd.jEc (rq HO489.out) (Kd.jbc ho121) hb)
                replace BK419:=am (jo (g:=gb419) (o:=.cells #[.slice A1_0 l1_0.length c1_0] 32 (0,0)) (kq BK419.out) hb)
                replace BK424:=am (jo (g:=gb424) (o:=.cells #[.int .i64 a2, .int .i64 12, .int .i64 t482, .int .i64 0] 59 (0,0)) (kq BK424.out) hb)
                replace HK:=am (jb.trans (Y1) (jb.of_below hb g none) (.inl rfl))
                replace HB:=am (jg (Y6) hb)
                replace HI0:=am (jc.below (Y3) hb)
                clear hb ho121
                refine hK.out _ _ ⟨(jA BK424.out 0).trans rfl,(jA BK424.out 1).trans rfl,(jA BK424.out 2).trans rfl,(jA BK424.out 3).trans rfl,(jA BK419.out 0).trans rfl⟩ (fun hHeld=>?_)
                clear hK K
                refine jUb (a':=?_) ?_ ?_
                rotate_left
                ·show Act.put _ (some 100) _=_
                 simp only [Act.put,List.setIfInBounds_toArray,List.set_cons_zero,List.set_cons_succ,jlb,jmb]
                 rfl
                exact jUb (by simp only [putAll,Act.put,List.setIfInBounds_toArray,List.set_cons_zero,List.set_cons_succ]) (hCont (v485,v488) _ ⟨hHeld,(rq HO481.out),(by (with_reducible repeat (first | apply Kd.jga | apply Kd.jha | apply Kd.jra));exact Kd.jK HO486.out (fun _ hk=>⟨hk.1.2,hk.2⟩)),(by (with_reducible repeat (first | apply Kd.jga | apply Kd.jha | apply Kd.jra));exact Kd.jK HO489.out (fun _ hk=>⟨hk.2,hk.1.2⟩)),(kq BK419.out),(kq BK424.out),(Y3),(Y1),(Y6)⟩)
              rintro ⟨v485,v488⟩ w122 ⟨hS_,h0_,h1_,h2_,h3_,h4_,h5_,h6_,h7_⟩
              have n0_:jl (Kd.R (Kd.int .i64) 3 w122 w.heap.size (fun _=>True) (.slice Ao114 y479.length co114) y479):=⟨h0_⟩
              have n1_:jl (Kd.R k59 59 w122 w.heap.size (fun k_=>some k_≠(v488:Value).ownBlock∧k_≠gb424) v485 y484):=⟨h1_⟩
              have n2_:jl (Kd.R k59 59 w122 w.heap.size (fun k_=>some k_≠(v485:Value).ownBlock∧k_≠gb424) v488 t487):=⟨h2_⟩
              have n3_:jl (w122.heap[gb419]?=some (.cells #[.slice A1_0 l1_0.length c1_0] 32 (0,0))):=⟨h3_⟩
              have n4_:jl (w122.heap[gb424]?=some (.cells #[.int .i64 a2, .int .i64 12, .int .i64 t482, .int .i64 0] 59 (0,0))):=⟨h4_⟩
              have n5_:jl (jc w0 w122 g s0_0 t490):=⟨h5_⟩
              have n6_:jl (jb w w122 g none):=⟨h6_⟩
              have n7_:jl (Below w0.heap.size w0 w122):=⟨h7_⟩
              clear HO481
              clear BK419
              clear BK424
              clear HI0
              clear HK
              clear HB
              clear h0_ h1_ h2_ h3_ h4_ h5_ h6_ h7_
              have HO481:=n0_
              have HO486:=n1_
              have HO489:=n2_
              have BK419:=n3_
              have BK424:=n4_
              have HI0:=n5_
              have HK:=n6_
              have HB:=n7_
              clear n0_ n1_ n2_ n3_ n4_ n5_ n6_ n7_
              have hHeld:w122.cell? ⟨gb424,0,none⟩=some (.int .i64 a2)∧w122.cell? ⟨gb424,1,none⟩=some (.int .i64 12)∧w122.cell? ⟨gb424,2,none⟩=some (.int .i64 t482)∧w122.cell? ⟨gb424,3,none⟩=some (.int .i64 0)∧w122.cell? ⟨gb419,0,none⟩=some (.slice A1_0 l1_0.length c1_0):=hS_
              obtain ⟨Ao124,co124,eo124⟩:=Kd.jsa HO489.out
              (first | subst eo124 |(injection eo124 with f1_ f2_ f3_;have f4_:=f1_.symm;have f5_:=f3_.symm;clear f1_ f2_ f3_;subst f4_;subst f5_))
              refine jUb (a':=?_) ?_ ?_
              rotate_left
              ·simp only [putAll,Act.put,List.setIfInBounds_toArray,List.set_cons_zero,List.set_cons_succ]
               rfl
              refine one_ (i:=7) (N:=some 106) #[true,true,true,true,true,true,true,true,false] rfl rfl (jJb HT_.out (by kernel_rfl)) (by decide) (fun K hK=>?_)
              refine Kd.jFc k59 w.heap.size (by rfl) (.tmp 100) (.tmp 105) 34 59 (.agg #[(.int .i64 0),(.int .i64 0),(.int .i64 0),(.int .i64 0)]) 32 rfl Try.underlying34 jBc rfl (by decide) (by omega) v485 y484 t487 _ _ _ (fun k_=>some k_≠(.slice Ao124 t487.length co124:Value).ownBlock∧k_≠gb424) (fun _=>False) rfl rfl ?aO ?aR (fun _ _ h=>h) (fun _ h=>h.elim) ?aF (Below.refl _ _) ?aS ?aL ?_
              (case aR=>repeat (first | exact (Kd.jE HO489.out).2.2 |(with_reducible refine Kd.jyc ?_ _) |(with_reducible refine Kd.jmc ?_ _) |(with_reducible refine Kd.C_drew ?_)))
              (case aF=>exact (fun k_ hk=>⟨Kd.fresh' (Kd.R_lt (rq HO489.out)) k_ hk,Kd.freshB (g:=gb424) (o:=.cells #[.int .i64 a2, .int .i64 12, .int .i64 t482, .int .i64 0] 59 (0,0)) (kq BK424.out) k_ hk⟩))
              (case aO=>exact (rq HO486.out))
              (case aS=>exact (jN (w:=w) (g:=g) (row:=none) (Y1)))
              (case aL=>have:=LMc108.out;omega)
              intro v492 w123 ho hb hg hat
              rw [← Ny491.out] at ho
              have n0_:=am (jVa (g:=gb419) (o:=.cells #[.slice A1_0 l1_0.length c1_0] 32 (0,0)) (kq BK419.out) hg (Kd.R_ne HO486.out BK419.out (by decide)))
              have n1_:=am (jVa (g:=gb424) (o:=.cells #[.int .i64 a2, .int .i64 12, .int .i64 t482, .int .i64 0] 59 (0,0)) (kq BK424.out) hg (Kd.R_away HO486.out (fun _ hk=>hk.2)))
              have n2_:=am (jc.grown (Y3) hg (jc.own_ne HI0.out HO486.out (by decide)))
              have n3_:=am (Kd.jlc (rq HO481.out) (Kd.jkc (rq HO486.out)) (by decide) hg)
              have n4_:=am (Kd.jUc (ok:=(fun k_=>k_≠gb424)) (by (with_reducible repeat (first | apply Kd.jga | apply Kd.jha | apply Kd.jra));exact Kd.jK HO489.out (fun _ hk=>⟨hk.2,hk.1⟩)) hg hat)
              have n5_:=am (jcb (Y6) HL.out hb)
              have n6_:=am (jb.trans (Y1) (jb.jxb hg g) (Kd.jQb HO486.out))
              have n7_:=am (ho)
              clear BK419
              clear BK424
              clear HI0
              clear HO481
              clear HO489
              clear HB
              clear HK
              clear HO486
              have BK419:=n0_
              have BK424:=n1_
              have HI0:=n2_
              have HO481:=n3_
              have HO489:=n4_
              have HB:=n5_
              have HK:=n6_
              have HO493:=n7_
              clear n0_ n1_ n2_ n3_ n4_ n5_ n6_ n7_
              clear ho hb hg hat
              refine hK.out _ _ ⟨(jA BK424.out 0).trans rfl,(jA BK424.out 1).trans rfl,(jA BK424.out 2).trans rfl,(jA BK424.out 3).trans rfl,(jA BK419.out 0).trans rfl⟩ (fun hHeld=>?_)
              clear hK K
              refine jUb (a':=?_) ?_ ?_
              rotate_left
              ·show Act.put _ (some 106) _=_
               simp only [Act.put,List.setIfInBounds_toArray,List.set_cons_zero,List.set_cons_succ,jlb,jmb]
               rfl
              refine pq (i:=8) (N:=some 8) #[true,true,true,true,true,true,true,true,true] ?_
              refine done_ (jGc HT_.out (by kernel_rfl)) ?_
              try go_wp2
              go_ret
              exact ⟨_,Y0,by (with_reducible repeat (first | apply Kd.jga | apply Kd.jha | apply Kd.jra));exact Kd.jK HO493.out (fun _ hk=>trivial),Y3,Y6,Y1⟩
             ·rw [if_neg c108] at H
              exact absurd H (by simp)
            ·rw [if_neg c105] at H
             have c105b0:(x9_5 == 11)=false:=beq_eq_false_iff_ne.mpr c105
             have c105b1:(x9_5 != 11)=true:=bne_iff_ne.mpr c105
             replace H:=bzS H
             obtain ⟨⟨t494,t497⟩,A1250,H⟩:=H
             replace H:(some (t494,t497))=some (r1,r2):=H
             have A125:=am A1250
             clear A1250
             simp only [Option.some.injEq,Prod.mk.injEq] at H
             obtain ⟨rfl,rfl⟩:=H
             have hnb126:=NB419_424.out
             have hnc126:=NB424_419.out
             have hnb127:=NB419_0.out
             have hnc127:=NB0_419.out
             have hcz128_0:=bc0 BK419.out
             have hfz128_0:=ja BK419.out 0
             go_wp2_with (first |((with_reducible refine je (f:=97) rfl ?_);refine gL (some 23) Try.func97 #[.pointer (some ⟨g,0,none⟩), .agg #[.slice A1_0 l1_0.length c1_0], .int .i64 a2, .bool a3] ?_;(with_reducible refine (ih97 kj49 (by have:=HJ5.out;have:=HJ49.out;omega) g s0_0 x1001_5 _ _ l1_0 a2 a3 t494 t497 w0 _ ?side1 ?side2 ?side3 ?side4 A125.out).mono ?_);(case side1=>exact Y3);(case side2=>exact Y6);(case side3=>exact Kd.job HR1_0.out (Y1));(case side4=>exact HC1_0.out);rintro e w129 ⟨v495,rfl,ho0,hi,hb,hk⟩;refine ⟨_,rfl,?_⟩;have HO496:=am (Kd.jea (Kd.juc ho0 (g:=gb424) (o:=.cells #[.int .i64 a2, .int .i64 0, .int .i64 0, .int .i64 0] 59 (0,0)) (kq BK424.out)) (jN (w:=w) (g:=g) (row:=none) (Y1)));replace BK419:=am (jb.blk hk (g':=gb419) (o:=.cells #[.slice A1_0 l1_0.length c1_0] 32 (0,0)) (kq BK419.out) NB419_0.out (by simp));replace BK424:=am (jb.blk hk (g':=gb424) (o:=.cells #[.int .i64 a2, .int .i64 0, .int .i64 0, .int .i64 0] 59 (0,0)) (kq BK424.out) NB424_0.out (by simp));replace HK:=am (jb.trans (Y1) hk (.inl rfl));replace HB:=am (hb);replace HI0:=am (hi);(try clear hb);(try clear hb2);(try clear hk);(try clear hi);(try clear ho0)))
             go_ret
             exact ⟨_,Y0,by (with_reducible repeat (first | apply Kd.jga | apply Kd.jha | apply Kd.jra));exact Kd.jK HO496.out (fun _ hk=>trivial),Y3,Y6,Y1⟩
set_option maxHeartbeats 8000000 in
set_option maxRecDepth 100000 in
theorem jL.calls_of (k : Nat) (ih104 : ∀ k_, k_ < k → ∀ (g : Nat) (s0_0 : List Int) (s0_1 : Int) (A1_0 : Option Addr) (c1_0 : Nat) (l1_0 : List (S98)) (a2 : Int) (a3 : Bool) (r1 : List (S59)) (r2 : Int) (w0 w : World) (hI : jc w0 w g s0_0 s0_1) (hB : Below w0.heap.size w0 w) (hr1_0 : ∀ W_, jb w W_ g none → Kd.C k98 W_ A1_0 l1_0.length l1_0) (hc1_0 : l1_0.length ≤ c1_0) (h : jy.f k_ s0_0 s0_1 l1_0 a2 a3 = some (r1, r2)), Calls Try.prog 104 #[.pointer (some ⟨g, 0, none⟩), .agg #[.slice A1_0 l1_0.length c1_0], .int .i64 a2, .bool a3] w fun e w' => ∃ v0_ : Value, e = .returned (v0_) ∧ Kd.R k59 59 w' w.heap.size (fun _ => True) v0_ r1 ∧ jc w0 w' g s0_0 r2 ∧ Below w0.heap.size w0 w' ∧ jb w w' g none) (ih98 : ∀ k_, k_ < k → ∀ (g : Nat) (s0_0 : List Int) (s0_1 : Int) (A1_0 : Option Addr) (c1_0 : Nat) (l1_0 : List (S98)) (a2 : Int) (a3 : Bool) (r1 : List (S59)) (r2 : Int) (w0 w : World) (hI : jc w0 w g s0_0 s0_1) (hB : Below w0.heap.size w0 w) (hr1_0 : ∀ W_, jb w W_ g none → Kd.C k98 W_ A1_0 l1_0.length l1_0) (hc1_0 : l1_0.length ≤ c1_0) (h : jL.f k_ s0_0 s0_1 l1_0 a2 a3 = some (r1, r2)), Calls Try.prog 98 #[.pointer (some ⟨g, 0, none⟩), .agg #[.slice A1_0 l1_0.length c1_0], .int .i64 a2, .bool a3] w fun e w' => ∃ v0_ : Value, e = .returned (v0_) ∧ Kd.R k59 59 w' w.heap.size (fun _ => True) v0_ r1 ∧ jc w0 w' g s0_0 r2 ∧ Below w0.heap.size w0 w' ∧ jb w w' g none) (ih97 : ∀ k_, k_ < k → ∀ (g : Nat) (s0_0 : List Int) (s0_1 : Int) (A1_0 : Option Addr) (c1_0 : Nat) (l1_0 : List (S98)) (a2 : Int) (a3 : Bool) (r1 : List (S59)) (r2 : Int) (w0 w : World) (hI : jc w0 w g s0_0 s0_1) (hB : Below w0.heap.size w0 w) (hr1_0 : ∀ W_, jb w W_ g none → Kd.C k98 W_ A1_0 l1_0.length l1_0) (hc1_0 : l1_0.length ≤ c1_0) (h : jW.f k_ s0_0 s0_1 l1_0 a2 a3 = some (r1, r2)), Calls Try.prog 97 #[.pointer (some ⟨g, 0, none⟩), .agg #[.slice A1_0 l1_0.length c1_0], .int .i64 a2, .bool a3] w fun e w' => ∃ v0_ : Value, e = .returned (v0_) ∧ Kd.R k59 59 w' w.heap.size (fun _ => True) v0_ r1 ∧ jc w0 w' g s0_0 r2 ∧ Below w0.heap.size w0 w' ∧ jb w w' g none) : ∀ (g : Nat) (s0_0 : List Int) (s0_1 : Int) (A1_0 : Option Addr) (c1_0 : Nat) (l1_0 : List (S98)) (a2 : Int) (a3 : Bool) (r1 : List (S59)) (r2 : Int) (w0 w : World) (hI : jc w0 w g s0_0 s0_1) (hB : Below w0.heap.size w0 w) (hr1_0 : ∀ W_, jb w W_ g none → Kd.C k98 W_ A1_0 l1_0.length l1_0) (hc1_0 : l1_0.length ≤ c1_0) (h : jL.f k s0_0 s0_1 l1_0 a2 a3 = some (r1, r2)),
  Calls Try.prog 98 #[.pointer (some ⟨g,0,none⟩), .agg #[.slice A1_0 l1_0.length c1_0], .int .i64 a2, .bool a3] w fun e w'=>∃ v0_:Value,e=.returned (v0_)∧Kd.R k59 59 w' w.heap.size (fun _=>True) v0_ r1∧jc w0 w' g s0_0 r2∧Below w0.heap.size w0 w'∧jb w w' g none:=by
 intro g s0_0 s0_1 A1_0 c1_0 l1_0 a2 a3 r1 r2 w0 w hI hB hr1_0 hc1_0 h
 cases k with
 | zero=>exact absurd h (by simp [jL.f])
 | succ k =>
 simp only [jL.f] at h
 have hu32:=Try.underlying32
 have HR1_0:=am hr1_0
 have HC1_0:=am hc1_0
 clear hr1_0 hc1_0
 have HI0:=am hI
 have HK:=am (jb.refl w g none)
 have HL:=am hB.size
 clear hI
 have HW0:=am hB.size
 have HB:=am hB
 clear hB
 have H:((ji.f k s0_0 s0_1 (([1,2,1,2,3]:List Int))).bind fun bt505=>(jL.l0 k a2 a3 (([]:List (S59))) bt505.1 s0_0 bt505.2 l1_0))=some (r1,r2):=h
 clear h
 obtain ⟨y499,hy499⟩:∃ y_:List (S59),y_=(([]:List (S59))):=⟨_,rfl⟩
 replace H:((ji.f k s0_0 s0_1 (([1,2,1,2,3]:List Int))).bind fun bt505=>(jL.l0 k a2 a3 y499 bt505.1 s0_0 bt505.2 l1_0))=some (r1,r2):=by first |(rw [hy499];with_reducible exact H) |(have H2_:=(Option.bind_some _ _).symm.trans H;rw [hy499];with_reducible exact H2_) |(have H2_:=(Option.bind_some _ _).symm.trans H;with_reducible exact H2_) | with_reducible exact H |(rw [hy499];exact H) | exact H
 have Ny499:=am hy499
 clear hy499
 obtain ⟨y502,hy502⟩:∃ y_:List Int,y_=(([1,2,1,2,3]:List Int)):=⟨_,rfl⟩
 replace H:((ji.f k s0_0 s0_1 y502).bind fun bt505=>(jL.l0 k a2 a3 y499 bt505.1 s0_0 bt505.2 l1_0))=some (r1,r2):=by first |(rw [hy502];with_reducible exact H) |(have H2_:=(Option.bind_some _ _).symm.trans H;rw [hy502];with_reducible exact H2_) |(have H2_:=(Option.bind_some _ _).symm.trans H;with_reducible exact H2_) | with_reducible exact H |(rw [hy502];exact H) | exact H
 have Ny502:=am hy502
 clear hy502
 replace H:=bzS H
 obtain ⟨⟨t505,t506⟩,A50,H⟩:=H
 replace H:(jL.l0 k a2 a3 y499 t505 s0_0 t506 l1_0)=some (r1,r2):=H
 have A5:=am A50
 clear A50
 have H':=am H
 clear H
 go_enter Try.func98,Try.ntmps98
 go_wp2_with (first |((with_reducible refine jS (N:=5) rfl ?_);refine bE (N:=5) (cs:=#[.slice A1_0 l1_0.length c1_0]) (t:=32) ?_;intro gb498 hg w6 hbox hb;have BK498:=am (hbox);have GW498:=am ((Y12:w.heap.size≤gb498));have GE498:=am ((Nat.le_trans HW0.out (Y12:w.heap.size≤gb498):w0.heap.size≤gb498));have NB0_498:=am ((Y30:g≠gb498));have NB498_0:=am ((Y31:gb498≠g));replace HK:=am (jb.trans (Y16) (jb.of_below hb g none) (.inl rfl));replace HB:=am (jg (Y17) hb);replace HI0:=am (jc.below (Y15) hb);clear hb hbox hg) |((with_reducible refine jS (N:=11) rfl ?_);refine Kd.jWb k59 _ 59 ?hg (N:=11) ?hd (xs:=([]:List (S59))) (inner:=[]) (ok:=fun _=>True) (okp:=fun _=>True) ?hr ?hp (fun _ hk=>hk) trivial (Below.refl _ _) (Nat.le_refl _) (by simp) ?_;(case hd=>rfl);(case hg=>rfl);(case hr=>exact Y8);(case hp=>exact (Reps.none _ _));intro v500 w7 ho8 hb hg_ hnew_;clear hg_ hnew_;(first | rw [← Ny499.out] at ho8 |(simp only [Int.reduceToNat] at ho8;rw [← Ny499.out] at ho8));have HO501:=am (Kd.jea ho8 (jN (w:=w) (g:=g) (row:=none) (Y34)));replace BK498:=am (jo (g:=gb498) (o:=.cells #[.slice A1_0 l1_0.length c1_0] 32 (0,0)) (kq BK498.out) hb);replace HK:=am (jb.trans (Y34) (jb.of_below hb g none) (.inl rfl));replace HB:=am (jg (Y53) hb);replace HI0:=am (jc.below (Y41) hb);clear hb ho8) |((with_reducible refine jS (N:=13) rfl ?_);refine Kd.jWb (Kd.int .i64) _ 3 ?hg (N:=13) ?hd (xs:=([1,2,1,2,3]:List Int)) (inner:=[.int .i64 1, .int .i64 2, .int .i64 1, .int .i64 2, .int .i64 3]) (ok:=fun _=>True) (okp:=fun _=>True) ?hr ?hp (fun _ hk=>hk) trivial (Below.refl _ _) (Nat.le_refl _) (by simp) ?_;(case hd=>rfl);(case hg=>rfl);(case hr=>exact Y8);(case hp=>exact (Reps.one (show Kd.M (Kd.int .i64) _ _ _ 1 [.int .i64 1] from rfl) (Reps.one (show Kd.M (Kd.int .i64) _ _ _ 2 [.int .i64 2] from rfl) (Reps.one (show Kd.M (Kd.int .i64) _ _ _ 1 [.int .i64 1] from rfl) (Reps.one (show Kd.M (Kd.int .i64) _ _ _ 2 [.int .i64 2] from rfl) (Reps.one (show Kd.M (Kd.int .i64) _ _ _ 3 [.int .i64 3] from rfl) (Reps.none _ _)))))));intro v503 w9 ho10 hb hg_ hnew_;clear hg_ hnew_;(first | rw [← Ny502.out] at ho10 |(simp only [Int.reduceToNat] at ho10;rw [← Ny502.out] at ho10));have HO504:=am (Kd.jea ho10 (jN (w:=w) (g:=g) (row:=none) (Y34)));replace HO501:=am (Kd.jva (rq HO501.out) hb);replace BK498:=am (jo (g:=gb498) (o:=.cells #[.slice A1_0 l1_0.length c1_0] 32 (0,0)) (kq BK498.out) hb);replace HK:=am (jb.trans (Y34) (jb.of_below hb g none) (.inl rfl));replace HB:=am (jg (Y53) hb);replace HI0:=am (jc.below (Y41) hb);clear hb ho10;obtain ⟨Ao11,co11,eo11⟩:=Kd.jsa HO504.out;subst eo11) |((with_reducible refine je (f:=56) rfl ?_);refine gL (some 14) Try.func56 #[.pointer (some ⟨g,0,none⟩), .slice Ao11 y502.length co11] ?_;(with_reducible refine (ji.calls k g s0_0 s0_1 _ _ y502 t505 t506 w0 _ ?side1 ?side2 ?side3 ?side4 ?side5 A5.out).mono ?_);(case side1=>exact Y41);(case side2=>exact Y53);(case side3=>exact cq (Kd.jE HO504.out).2.2);(case side4=>exact (Kd.jE HO504.out).2.1);(case side5=>exact jBb (jc.own_ne HI0.out HO504.out (by decide)));rintro e w12 ⟨rfl,hi,hb,hk⟩;refine ⟨_,rfl,?_⟩;replace BK498:=am (jb.blk hk (g':=gb498) (o:=.cells #[.slice A1_0 l1_0.length c1_0] 32 (0,0)) (kq BK498.out) NB498_0.out (by simp));replace HO501:=am (Kd.jK (Kd.jFa (jc.apart (show jc w0 _ g s0_0 s0_1 from Y41) (rq HO501.out) (by decide)) hk (fun _ h=>h.2)) (fun _ h=>h.1));replace HO504:=am (Kd.jK (Kd.jFa (jc.apart (show jc w0 _ g s0_0 s0_1 from Y41) (rq HO504.out) (by decide)) hk (fun _ h=>h.2)) (fun _ h=>h.1));replace HK:=am (jb.trans (Y34) hk (.inl rfl));replace HB:=am (hb);replace HI0:=am (hi);(try clear hb);(try clear hb2);(try clear hk);(try clear hi)))
 go_loopg [9,10] k (fun kq v9 v10 w'=>∃ (x9_1:List (S59)) (x10_1:Int) (x1001_1:Int),v10=.int .i64 x10_1∧jl (jL.l0 kq a2 a3 x9_1 x10_1 s0_0 x1001_1 l1_0=some (r1,r2))∧jl (kq≤k)∧jl (Kd.R k59 59 w' w.heap.size (fun _=>True) v9 x9_1)∧jl (w'.heap[gb498]?=some (.cells #[(.slice A1_0 l1_0.length c1_0)] 32 (0,0)))∧jl (jc w0 w' g s0_0 x1001_1)∧jl (jb w w' g none)∧jl (Below w0.heap.size w0 w'))
 case atStart=>exact ⟨(y499),(t505),(t506),(sq),H',⟨Nat.le_refl _⟩,⟨rq HO501.out⟩,⟨kq BK498.out⟩,⟨Y41⟩,⟨Y34⟩,⟨Y53⟩⟩
 case round =>
  clear H'
  try clear c1
  try clear p2
  try clear c5
  try clear c9
  obtain ⟨x9_1,x10_1,x1001_1,rfl,HA,HK1,HO_9,BK498,HI0,HK,HB⟩:=hrel
  cases gk with
  | zero=>exact absurd HA.out (by simp [jL.l0])
  | succ k1 =>
   have H:=HA.out
   clear HA
   simp only [jL.l0] at H
   by_cases c13:x10_1 > 0
   ·rw [if_pos c13] at H
    have c13b0:decide (0<x10_1)=true:=dzT c13
    clear c13
    replace H:=bzS H
    obtain ⟨⟨t507,t510⟩,A140,H⟩:=H
    replace H:(if x9_1.length+t507.length<4398046511104 then (jL.l0 k1 a2 a3 (x9_1 ++ t507) (wrap64 (x10_1 - 1)) s0_0 t510 l1_0) else (none))=some (r1,r2):=H
    have A14:=am A140
    clear A140
    by_cases c15:x9_1.length+t507.length<4398046511104
    ·rw [if_pos c15] at H
     have LMc15:=am c15
     clear c15
     obtain ⟨y511,hy511⟩:∃ y_:List (S59),y_=(x9_1 ++ t507):=⟨_,rfl⟩
     replace H:(jL.l0 k1 a2 a3 y511 (wrap64 (x10_1 - 1)) s0_0 t510 l1_0)=some (r1,r2):=by first |(rw [hy511];with_reducible exact H) |(have H2_:=(Option.bind_some _ _).symm.trans H;rw [hy511];with_reducible exact H2_) |(have H2_:=(Option.bind_some _ _).symm.trans H;with_reducible exact H2_) | with_reducible exact H |(rw [hy511];exact H) | exact H
     have Ny511:=am hy511
     clear hy511
     have H':=am H
     clear H
     have hnb16:=NB498_0.out
     have hnc16:=NB0_498.out
     have hcz17_0:=bc0 BK498.out
     have hfz17_0:=ja BK498.out 0
     go_wp2_with (first |((with_reducible refine je (f:=104) rfl ?_);refine gL (some 24) Try.func104 #[.pointer (some ⟨g,0,none⟩), .agg #[.slice A1_0 l1_0.length c1_0], .int .i64 a2, .bool a3] ?_;(with_reducible refine (ih104 k1 (by have:=HK1.out;omega) g s0_0 x1001_1 _ _ l1_0 a2 a3 t507 t510 w0 _ ?side1 ?side2 ?side3 ?side4 A14.out).mono ?_);(case side1=>exact Y41);(case side2=>exact Y53);(case side3=>exact Kd.job HR1_0.out (Y34));(case side4=>exact HC1_0.out);rintro e w18 ⟨v508,rfl,ho0,hi,hb,hk⟩;refine ⟨_,rfl,?_⟩;have HO509:=am (Kd.jea (Kd.jac ho0 (Kd.R_lt (rq HO_9.out))) (jN (w:=w) (g:=g) (row:=none) (Y34)));replace HO_9:=am (Kd.jK (Kd.R_told (Kd.R_oldK (jc.apart (show jc w0 _ g s0_0 x1001_1 from Y41) (rq HO_9.out) (by decide)) hk) (Kd.jbc ho0)) (fun _ h_=>h_.1));replace BK498:=am (jb.blk hk (g':=gb498) (o:=.cells #[.slice A1_0 l1_0.length c1_0] 32 (0,0)) (kq BK498.out) NB498_0.out (by simp));replace HK:=am (jb.trans (Y34) hk (.inl rfl));replace HB:=am (hb);replace HI0:=am (hi);(try clear hb);(try clear hb2);(try clear hk);(try clear hi);(try clear ho0);obtain ⟨Ao20,co20,eo20⟩:=Kd.jsa HO509.out;subst eo20) |((with_reducible refine jLa (b:=.append) (xs:=#[.tmp 19, .tmp 24]) rfl ?_);at_builtin;refine Kd.jIb k59 w.heap.size rfl (.tmp 19) (.tmp 24) 34 59 (.agg #[(.int .i64 0),(.int .i64 0),(.int .i64 0),(.int .i64 0)]) 32 rfl Try.underlying34 jBc rfl (by decide) (by omega) u9 x9_1 t507 _ _ _ (fun k_=>some k_≠(.slice Ao20 t507.length co20:Value).ownBlock) (fun _=>False) rfl rfl ?aO ?aR (fun _ _ h=>h) (fun _ h=>h.elim) ?aF (Below.refl _ _) ?aS ?aL ?_;(case aR=>repeat (first | exact (Kd.jE HO509.out).2.2 |(with_reducible refine Kd.jyc ?_ _) |(with_reducible refine Kd.jmc ?_ _) |(with_reducible refine Kd.C_drew ?_)));(case aF=>exact (fun k_ hk=>Kd.fresh' (Kd.R_lt (rq HO509.out)) k_ hk));(case aO=>exact (by (with_reducible repeat (first | apply Kd.jga | apply Kd.jha | apply Kd.jra));exact Kd.jK HO_9.out (fun _ hk=>hk.2)));(case aS=>exact (jN (w:=w) (g:=g) (row:=none) (Y34)));(case aL=>have:=LMc15.out;omega);intro v512 w19 ho hb hg hat;rw [← Ny511.out] at ho;have n0_:=am (jVa (g:=gb498) (o:=.cells #[.slice A1_0 l1_0.length c1_0] 32 (0,0)) (kq BK498.out) hg (Kd.R_ne HO_9.out BK498.out (by decide)));have n1_:=am (jc.grown (Y41) hg (jc.own_ne HI0.out HO_9.out (by decide)));have n2_:=am (Kd.jUc (ok:=(fun _=>True)) (rq HO509.out) hg hat);have n3_:=am (jcb (Y53) HL.out hb);have n4_:=am (jb.trans (Y34) (jb.jxb hg g) (Kd.jQb HO_9.out));have n5_:=am (ho);clear BK498 HI0 HO509 HB HK HO_9;have BK498:=n0_;have HI0:=n1_;have HO509:=n2_;have HB:=n3_;have HK:=n4_;have HO513:=n5_;clear n0_ n1_ n2_ n3_ n4_ n5_ ho hb hg hat))
     go_roundg k1
     case measure=>have:=HK1.out;omega
     case rel=>exact ⟨(y511),(wrap64 (x10_1 - 1)),(t510),(sq),H',⟨by have:=HK1.out;omega⟩,⟨by (with_reducible repeat (first | apply Kd.jga | apply Kd.jha | apply Kd.jra));exact Kd.jK HO513.out (fun _ hk=>trivial)⟩,⟨kq BK498.out⟩,⟨Y41⟩,⟨Y34⟩,⟨Y53⟩⟩
    ·rw [if_neg c15] at H
     exact absurd H (by simp)
   ·rw [if_neg c13] at H
    have c13b0:decide (0<x10_1)=false:=dzF c13
    clear c13
    simp only [Option.some.injEq,Prod.mk.injEq] at H
    obtain ⟨rfl,rfl⟩:=H
    go_wp2
    go_ret
    exact ⟨_,Y0,rq HO_9.out,Y41,Y53,Y34⟩
end Go.Proofs.Ytbcjbcjpoddkoaa.P
end
