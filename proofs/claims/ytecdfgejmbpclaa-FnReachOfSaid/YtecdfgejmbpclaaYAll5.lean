/- One part of the proofs on this program: functions of the program as plain functions, that the code comes to them, and facts on them. -/
import Derived.Test.YtecdfgejmbpclaaYAll1
import Derived.Test.YtecdfgejmbpclaaYAll3
import Derived.Test.YtecdfgejmbpclaaYAll4
import Derived.Test.YtecdfgejmbpclaaYWAuto
section
namespace Go.Proofs.Ytecdfgejmbpclaa.P
open Go.RowKit Go.Proofs.YtecdfgejmbpclaaW.PrintWords Go.Proofs.YtecdfgejmbpclaaW.PrintLast Go.Proofs.YtecdfgejmbpclaaW.PrintMore
attribute [local go_sem] jxa jva jEa jDa jka jja jwa jua jD
set_option linter.unusedVariables false
set_option linter.unusedSimpArgs false
def jR.l0 : Nat → List ByteArray → Int → Int → List Int → Int → List (S94) → Option ((List (S94)) × Int)
 | 0,_,_,_,_,_,_=>none
 | k+1,x3,x5,x6,x1000,x1001,x378000=>if x6<x5 then (if 0≤x6 then (if x6<(x3.length:Int) then ((jl.f k x1000 x1001 x6).bind fun bt384=>((jy.f k x1000 bt384.2 (([0,bt384.1,wrap64 (x6 - 1)]:List Int))).bind fun bt389=>(if x378000.length<5864062014805 then (jR.l0 k x3 x5 (wrap64 (x6+1)) x1000 bt389.2 (x378000 ++ [(⟨rdOf ByteArray.empty x3 x6,bt389.1⟩:S94)])) else (none)))) else (none)) else (none)) else (some (x378000,x1001))
def jR.f (k : Nat) (s0_0 : List Int) (s0_1 : Int) : Option ((List (S94)) × Int) := (jy.f k s0_0 s0_1 (([4, 5, 3, 6, 2, 1, 8] : List Int))).bind fun bt381 => (jR.l0 k (([(⟨#[97, 110, 121]⟩ : ByteArray), (⟨#[105, 111]⟩ : ByteArray), (⟨#[107, 101, 121]⟩ : ByteArray), (⟨#[116, 105, 109, 101]⟩ : ByteArray), (⟨#[110, 101, 116]⟩ : ByteArray), (⟨#[100, 105, 115, 107]⟩ : ByteArray), (⟨#[116, 121, 112, 101]⟩ : ByteArray), (⟨#[111, 100, 100]⟩ : ByteArray)] : List ByteArray)) bt381.1 1 s0_0 bt381.2 (([(⟨(⟨#[97, 110, 121]⟩ : ByteArray), (-1)⟩ : S94)] : List (S94))))
def jR.T7 : Bool × List (List Nat × List Nat) := (true, [([], []), ([0], [0]), ([], []), ([], []), ([2, 3], [2, 3]), ([4], [4]), ([], []), ([], []), ([], []), ([7, 8], [7, 8]), ([], []), ([10], [10]), ([9, 11], [9, 11]), ([6, 12, 9], [6, 12]), ([5, 13], [5, 13]), ([14], [14]), ([1, 15, 13], [1, 15]), ([0, 1, 2, 3, 4, 5, 6, 7, 8, 9, 10, 11, 12, 13, 14, 15, 16], []), ([17, 16, 16, 0, 1, 2, 3, 4, 5, 6, 7, 8, 9, 10, 11, 12, 13, 14, 15, 16], [16, 17])])
def jR.B7 : List Nat := [0, 1, 0, 0, 12, 28, 0, 0, 0, 384, 0, 1024, 3968, 8128, 16380, 32764, 65535, 131071, 262143]
theorem jR.tab7 : rtab .any (opsOf Try.f105 7) = jR.T7 := by kernel_rfl
theorem jR.bits7 : jxb jR.T7.2 jR.B7 = true := by kernel_rfl
set_option maxHeartbeats 8000000 in
set_option maxRecDepth 100000 in
theorem jR.calls (k : Nat) (g : Nat) (s0_0 : List Int) (s0_1 : Int) (r1 : List (S94)) (r2 : Int) (w0 w : World) (hI : jb w0 w g s0_0 s0_1) (hB : Below w0.heap.size w0 w) (h : jR.f k s0_0 s0_1 = some (r1, r2)) :
  Calls Try.prog 105 #[.pointer (some ⟨g,0,none⟩)] w fun e w'=>∃ v0_:Value,e=.returned (.agg #[v0_])∧Kd.R k94 94 w' w.heap.size (fun _=>True) v0_ r1∧jb w0 w' g s0_0 r2∧Below w0.heap.size w0 w'∧jd w w' g none:=by
 have hu37:=Try.underlying37
 have hu94:=Try.underlying94
 have HI0:=am hI
 have HK:=am (jd.refl w g none)
 have HL:=am hB.size
 clear hI
 have HW0:=am hB.size
 have HB:=am hB
 clear hB
 have H:((jy.f k s0_0 s0_1 (([4,5,3,6,2,1,8]:List Int))).bind fun bt381=>(jR.l0 k (([(⟨#[97,110,121]⟩:ByteArray),(⟨#[105,111]⟩:ByteArray),(⟨#[107,101,121]⟩:ByteArray),(⟨#[116,105,109,101]⟩:ByteArray),(⟨#[110,101,116]⟩:ByteArray),(⟨#[100,105,115,107]⟩:ByteArray),(⟨#[116,121,112,101]⟩:ByteArray),(⟨#[111,100,100]⟩:ByteArray)]:List ByteArray)) bt381.1 1 s0_0 bt381.2 (([(⟨(⟨#[97,110,121]⟩:ByteArray),(-1)⟩:S94)]:List (S94)))))=some (r1,r2):=h
 clear h
 obtain ⟨y371,hy371⟩:∃ y_:List ByteArray,y_=(([(⟨#[97,110,121]⟩:ByteArray),(⟨#[105,111]⟩:ByteArray),(⟨#[107,101,121]⟩:ByteArray),(⟨#[116,105,109,101]⟩:ByteArray),(⟨#[110,101,116]⟩:ByteArray),(⟨#[100,105,115,107]⟩:ByteArray),(⟨#[116,121,112,101]⟩:ByteArray),(⟨#[111,100,100]⟩:ByteArray)]:List ByteArray)):=⟨_,rfl⟩
 replace H:((jy.f k s0_0 s0_1 (([4,5,3,6,2,1,8]:List Int))).bind fun bt381=>(jR.l0 k y371 bt381.1 1 s0_0 bt381.2 (([(⟨(⟨#[97,110,121]⟩:ByteArray),(-1)⟩:S94)]:List (S94)))))=some (r1,r2):=by first |(rw [hy371];with_reducible exact H) |(have H2_:=(Option.bind_some _ _).symm.trans H;rw [hy371];with_reducible exact H2_) |(have H2_:=(Option.bind_some _ _).symm.trans H;with_reducible exact H2_) | with_reducible exact H |(rw [hy371];exact H) | exact H
 have Ny371:=am hy371
 clear hy371
 obtain ⟨y374,hy374⟩:∃ y_:List (S94),y_=(([(⟨(⟨#[97,110,121]⟩:ByteArray),(-1)⟩:S94)]:List (S94))):=⟨_,rfl⟩
 replace H:((jy.f k s0_0 s0_1 (([4,5,3,6,2,1,8]:List Int))).bind fun bt381=>(jR.l0 k y371 bt381.1 1 s0_0 bt381.2 y374))=some (r1,r2):=by first |(rw [hy374];with_reducible exact H) |(have H2_:=(Option.bind_some _ _).symm.trans H;rw [hy374];with_reducible exact H2_) |(have H2_:=(Option.bind_some _ _).symm.trans H;with_reducible exact H2_) | with_reducible exact H |(rw [hy374];exact H) | exact H
 have Ny374:=am hy374
 clear hy374
 obtain ⟨y378,hy378⟩:∃ y_:List Int,y_=(([4,5,3,6,2,1,8]:List Int)):=⟨_,rfl⟩
 replace H:((jy.f k s0_0 s0_1 y378).bind fun bt381=>(jR.l0 k y371 bt381.1 1 s0_0 bt381.2 y374))=some (r1,r2):=by first |(rw [hy378];with_reducible exact H) |(have H2_:=(Option.bind_some _ _).symm.trans H;rw [hy378];with_reducible exact H2_) |(have H2_:=(Option.bind_some _ _).symm.trans H;with_reducible exact H2_) | with_reducible exact H |(rw [hy378];exact H) | exact H
 have Ny378:=am hy378
 clear hy378
 replace H:=bzS H
 obtain ⟨⟨t381,t382⟩,A20,H⟩:=H
 replace H:(jR.l0 k y371 t381 1 s0_0 t382 y374)=some (r1,r2):=H
 have A2:=am A20
 clear A20
 have H':=am H
 clear H
 go_enter Try.func105,Try.ntmps105
 go_wp2_with (first |((with_reducible refine jI (N:=2) rfl ?_);refine bE (N:=2) (cs:=#[.slice none 0 0]) (t:=37) ?_;intro gb370 hg w3 hbox hb;have BK370:=am (hbox);have GW370:=am ((Y7:w.heap.size≤gb370));have GE370:=am ((Nat.le_trans HW0.out (Y7:w.heap.size≤gb370):w0.heap.size≤gb370));have NB0_370:=am ((Y25:g≠gb370));have NB370_0:=am ((Y26:gb370≠g));replace HK:=am (jd.trans (Y14) (jd.of_below hb g none) (.inl rfl));replace HB:=am (jk (Y15) hb);replace HI0:=am (jb.below (Y13) hb);clear hb hbox hg) |((with_reducible refine jI (N:=7) rfl ?_);refine Kd.R_lit Kd.string _ 9 ?hg (N:=7) ?hd (xs:=([(⟨#[97,110,121]⟩:ByteArray),(⟨#[105,111]⟩:ByteArray),(⟨#[107,101,121]⟩:ByteArray),(⟨#[116,105,109,101]⟩:ByteArray),(⟨#[110,101,116]⟩:ByteArray),(⟨#[100,105,115,107]⟩:ByteArray),(⟨#[116,121,112,101]⟩:ByteArray),(⟨#[111,100,100]⟩:ByteArray)]:List ByteArray)) (inner:=[.string (⟨#[97,110,121]⟩:ByteArray), .string (⟨#[105,111]⟩:ByteArray), .string (⟨#[107,101,121]⟩:ByteArray), .string (⟨#[116,105,109,101]⟩:ByteArray), .string (⟨#[110,101,116]⟩:ByteArray), .string (⟨#[100,105,115,107]⟩:ByteArray), .string (⟨#[116,121,112,101]⟩:ByteArray), .string (⟨#[111,100,100]⟩:ByteArray)]) (ok:=fun _=>True) (okp:=fun _=>True) ?hr ?hp (fun _ hk=>hk) trivial (Below.refl _ _) (Nat.le_refl _) (by simp) ?_;(case hd=>rfl);(case hg=>rfl);(case hr=>exact Y4);(case hp=>exact (Reps.one (show Kd.M Kd.string _ _ _ (⟨#[97,110,121]⟩:ByteArray) [.string (⟨#[97,110,121]⟩:ByteArray)] from rfl) (Reps.one (show Kd.M Kd.string _ _ _ (⟨#[105,111]⟩:ByteArray) [.string (⟨#[105,111]⟩:ByteArray)] from rfl) (Reps.one (show Kd.M Kd.string _ _ _ (⟨#[107,101,121]⟩:ByteArray) [.string (⟨#[107,101,121]⟩:ByteArray)] from rfl) (Reps.one (show Kd.M Kd.string _ _ _ (⟨#[116,105,109,101]⟩:ByteArray) [.string (⟨#[116,105,109,101]⟩:ByteArray)] from rfl) (Reps.one (show Kd.M Kd.string _ _ _ (⟨#[110,101,116]⟩:ByteArray) [.string (⟨#[110,101,116]⟩:ByteArray)] from rfl) (Reps.one (show Kd.M Kd.string _ _ _ (⟨#[100,105,115,107]⟩:ByteArray) [.string (⟨#[100,105,115,107]⟩:ByteArray)] from rfl) (Reps.one (show Kd.M Kd.string _ _ _ (⟨#[116,121,112,101]⟩:ByteArray) [.string (⟨#[116,121,112,101]⟩:ByteArray)] from rfl) (Reps.one (show Kd.M Kd.string _ _ _ (⟨#[111,100,100]⟩:ByteArray) [.string (⟨#[111,100,100]⟩:ByteArray)] from rfl) (Reps.none _ _))))))))));intro v372 w4 ho5 hb hg_ hnew_;clear hg_ hnew_;(first | rw [← Ny371.out] at ho5 |(simp only [Int.reduceToNat] at ho5;rw [← Ny371.out] at ho5));have HO373:=am (Kd.jea ho5 (jda (w:=w) (g:=g) (row:=none) (Y86)));replace BK370:=am (jh (g:=gb370) (o:=.cells #[.slice none 0 0] 37 (0,0)) (kq BK370.out) hb);replace HK:=am (jd.trans (Y86) (jd.of_below hb g none) (.inl rfl));replace HB:=am (jk (Y124) hb);replace HI0:=am (jb.below (Y125) hb);clear hb ho5) |((with_reducible refine jI (N:=9) rfl ?_);refine Kd.R_lit k94 _ 94 ?hg (N:=9) ?hd (xs:=([(⟨(⟨#[97,110,121]⟩:ByteArray),(-1)⟩:S94)]:List (S94))) (inner:=[.string (⟨#[97,110,121]⟩:ByteArray), .int .i64 (-1)]) (ok:=fun _=>True) (okp:=fun _=>True) ?hr ?hp (fun _ hk=>hk) trivial (Below.refl _ _) (Nat.le_refl _) (by simp) ?_;(case hd=>rfl);(case hg=>rfl);(case hr=>exact Y4);(case hp=>exact (Reps.c2 (show Kd.M k94 _ _ _ (⟨(⟨#[97,110,121]⟩:ByteArray),(-1)⟩:S94) [.string (⟨#[97,110,121]⟩:ByteArray), .int .i64 (-1)] from (k94_mkM _ _ _ (⟨(⟨#[97,110,121]⟩:ByteArray),(-1)⟩:S94) )) (Reps.none _ _)));intro v375 w6 ho7 hb hg_ hnew_;clear hg_ hnew_;(first | rw [← Ny374.out] at ho7 |(simp only [Int.reduceToNat] at ho7;rw [← Ny374.out] at ho7));have HO376:=am (Kd.jea ho7 (jda (w:=w) (g:=g) (row:=none) (Y86)));replace HO373:=am (Kd.jaa (rq HO373.out) hb);replace BK370:=am (jh (g:=gb370) (o:=.cells #[.slice none 0 0] 37 (0,0)) (kq BK370.out) hb);replace HK:=am (jd.trans (Y86) (jd.of_below hb g none) (.inl rfl));replace HB:=am (jk (Y124) hb);replace HI0:=am (jb.below (Y125) hb);clear hb ho7;obtain ⟨Ao8,co8,eo8⟩:=Kd.jW HO376.out;subst eo8) |((with_reducible refine jI (N:=4) rfl ?_);refine bE (N:=4) (cs:=#[.slice none 0 0]) (t:=37) ?_;intro gb377 hg w9 hbox hb;have BK377:=am (hbox);have GW377:=am ((Y146:w.heap.size≤gb377));have GE377:=am ((Nat.le_trans HW0.out (Y146:w.heap.size≤gb377):w0.heap.size≤gb377));have NB370_377:=am ((by rw [hg];exact Nat.ne_of_lt (jca (g:=gb370) (o:=.cells #[.slice none 0 0] 37 (0,0)) (kq BK370.out)):gb370≠gb377));have NB377_370:=am ((by rw [hg];exact Nat.ne_of_gt (jca (g:=gb370) (o:=.cells #[.slice none 0 0] 37 (0,0)) (kq BK370.out)):gb377≠gb370));have NB0_377:=am ((by rw [hg];exact Nat.ne_of_lt (jb.lt (show jb w0 _ g s0_0 s0_1 from by repeat (first |(with_reducible first | exact HI0.out | apply jb.alloc | apply jb.drewN | apply jb.drew | apply jb.jhb | refine jb.far ?_ NB0_370.out _) | exact HI0.out))):g≠gb377));have NB377_0:=am ((by rw [hg];exact Nat.ne_of_gt (jb.lt (show jb w0 _ g s0_0 s0_1 from by repeat (first |(with_reducible first | exact HI0.out | apply jb.alloc | apply jb.drewN | apply jb.drew | apply jb.jhb | refine jb.far ?_ NB0_370.out _) | exact HI0.out))):gb377≠g));replace HO373:=am (Kd.jaa (rq HO373.out) hb);replace HO376:=am (Kd.jaa (rq HO376.out) hb);replace BK370:=am (jh (g:=gb370) (o:=.cells #[.slice none 0 0] 37 (0,0)) (kq BK370.out) hb);replace HK:=am (jd.trans (Y86) (jd.of_below hb g none) (.inl rfl));replace HB:=am (jk (Y124) hb);replace HI0:=am (jb.below (Y125) hb);clear hb hbox hg;have hnb10:=NB377_370.out;have hnc10:=NB370_377.out;have hnb11:=NB377_0.out;have hnc11:=NB0_377.out;have hcz12_0:=bc0 BK377.out;have hfz12_0:=jc BK377.out 0) |((with_reducible refine jI (N:=12) rfl ?_);refine Kd.R_lit (Kd.int .i64) _ 3 ?hg (N:=12) ?hd (xs:=([4,5,3,6,2,1,8]:List Int)) (inner:=[.int .i64 4, .int .i64 5, .int .i64 3, .int .i64 6, .int .i64 2, .int .i64 1, .int .i64 8]) (ok:=fun _=>True) (okp:=fun _=>True) ?hr ?hp (fun _ hk=>hk) trivial (Below.refl _ _) (Nat.le_refl _) (by simp) ?_;(case hd=>rfl);(case hg=>rfl);(case hr=>exact Y4);(case hp=>exact (Reps.one (show Kd.M (Kd.int .i64) _ _ _ 4 [.int .i64 4] from rfl) (Reps.one (show Kd.M (Kd.int .i64) _ _ _ 5 [.int .i64 5] from rfl) (Reps.one (show Kd.M (Kd.int .i64) _ _ _ 3 [.int .i64 3] from rfl) (Reps.one (show Kd.M (Kd.int .i64) _ _ _ 6 [.int .i64 6] from rfl) (Reps.one (show Kd.M (Kd.int .i64) _ _ _ 2 [.int .i64 2] from rfl) (Reps.one (show Kd.M (Kd.int .i64) _ _ _ 1 [.int .i64 1] from rfl) (Reps.one (show Kd.M (Kd.int .i64) _ _ _ 8 [.int .i64 8] from rfl) (Reps.none _ _)))))))));intro v379 w13 ho14 hb hg_ hnew_;clear hg_ hnew_;(first | rw [← Ny378.out] at ho14 |(simp only [Int.reduceToNat] at ho14;rw [← Ny378.out] at ho14));have HO380:=am (Kd.jea ho14 (jda (w:=w) (g:=g) (row:=none) (Y31)));replace HO373:=am (Kd.jaa (by (with_reducible repeat (first | apply Kd.jO | apply Kd.jQ | apply Kd.jM));exact (Kd.jE (Kd.jX (p:=⟨gb377,0,none⟩) (Kd.jN HO373.out BK377.out (by decide)) (fun _ hk=>hk.2) (.slice Ao8 y374.length co8)) (fun _ h_=>h_.1))) hb);replace HO376:=am (Kd.jaa (by (with_reducible repeat (first | apply Kd.jO | apply Kd.jQ | apply Kd.jM));exact (Kd.jE (Kd.jX (p:=⟨gb377,0,none⟩) (Kd.jN HO376.out BK377.out (by decide)) (fun _ hk=>hk.2) (.slice Ao8 y374.length co8)) (fun _ h_=>h_.1))) hb);replace BK370:=am (jh (g:=gb370) (o:=.cells #[.slice none 0 0] 37 (0,0)) (by (with_reducible repeat (first | refine je ?_ _ | refine jg ?_ | refine jf ?_ _));refine jJ ?_ NB370_377.out _;(with_reducible repeat (first | refine je ?_ _ | refine jg ?_ | refine jf ?_ _));exact BK370.out) hb);replace BK377:=am (jh (g:=gb377) (o:=.cells #[.slice Ao8 y374.length co8] 37 (0,0)) (by (with_reducible repeat (first | refine je ?_ _ | refine jg ?_ | refine jf ?_ _));refine jla (cs:=#[.slice none 0 0]) ?_ 0 _ rfl;(with_reducible repeat (first | refine je ?_ _ | refine jg ?_ | refine jf ?_ _));exact BK377.out) hb);replace HK:=am (jd.trans (Y31) (jd.of_below hb g none) (.inl rfl));replace HB:=am (jk (Y48) hb);replace HI0:=am (jb.below (show jb w0 (w9.setCell ⟨gb377,0,none⟩ (.slice Ao8 y374.length co8)) g s0_0 s0_1 from Y27) hb);clear hb ho14;obtain ⟨Ao15,co15,eo15⟩:=Kd.jW HO380.out;subst eo15) |((with_reducible refine jB (f:=89) rfl ?_);refine gL (some 13) Try.func89 #[.pointer (some ⟨g,0,none⟩), .slice Ao15 y378.length co15] ?_;(with_reducible refine (jy.calls k g s0_0 s0_1 _ _ y378 t381 t382 w0 _ ?side1 ?side2 ?side3 ?side4 ?side5 A2.out).mono ?_);(case side1=>exact Y27);(case side2=>exact Y48);(case side3=>exact cq (Kd.jw HO380.out).2.2);(case side4=>exact (Kd.jw HO380.out).2.1);(case side5=>exact jwb (jb.own_ne HI0.out HO380.out (by decide)));rintro e w16 ⟨rfl,hi,hb,hk⟩;refine ⟨_,rfl,?_⟩;replace BK370:=am (jd.blk hk (g':=gb370) (o:=.cells #[.slice none 0 0] 37 (0,0)) (kq BK370.out) NB370_0.out (by simp));replace HO373:=am (Kd.jE (Kd.jqa (jb.apart (show jb w0 _ g s0_0 s0_1 from Y27) (rq HO373.out) (by decide)) hk (fun _ h=>h.2)) (fun _ h=>h.1));replace HO376:=am (Kd.jE (Kd.jqa (jb.apart (show jb w0 _ g s0_0 s0_1 from Y27) (rq HO376.out) (by decide)) hk (fun _ h=>h.2)) (fun _ h=>h.1));replace BK377:=am (jd.blk hk (g':=gb377) (o:=.cells #[.slice Ao8 y374.length co8] 37 (0,0)) (kq BK377.out) NB377_0.out (by simp));replace HO380:=am (Kd.jE (Kd.jqa (jb.apart (show jb w0 _ g s0_0 s0_1 from Y27) (rq HO380.out) (by decide)) hk (fun _ h=>h.2)) (fun _ h=>h.1));replace HK:=am (jd.trans (Y31) hk (.inl rfl));replace HB:=am (hb);replace HI0:=am (hi);(try clear hb);(try clear hb2);(try clear hk);(try clear hi)))
 go_loopg [6] k (fun kq v6 w'=>∃ (x6_1:Int) (x1001_1:Int) (x378000_1:List (S94)) (u378000:Value),v6=.int .i64 x6_1∧jC (jR.l0 kq y371 t381 x6_1 s0_0 x1001_1 x378000_1=some (r1,r2))∧jC (kq≤k)∧jC (Kd.R Kd.string 9 w' w.heap.size (fun _=>True) v372 y371)∧jC (Kd.R k94 94 w' w.heap.size (fun _=>True) u378000 x378000_1)∧jC (w'.heap[gb370]?=some (.cells #[(.slice none 0 0)] 37 (0,0)))∧jC (w'.heap[gb377]?=some (.cells #[u378000] 37 (0,0)))∧jC (jb w0 w' g s0_0 x1001_1)∧jC (jd w w' g none)∧jC (Below w0.heap.size w0 w'))
 case atStart=>exact ⟨(1),(t382),(y374),(.slice Ao8 y374.length co8),(sq),H',⟨Nat.le_refl _⟩,⟨rq HO373.out⟩,⟨rq HO376.out⟩,⟨kq BK370.out⟩,⟨kq BK377.out⟩,⟨Y27⟩,⟨Y31⟩,⟨Y48⟩⟩
 case round =>
  clear H'
  try clear c1
  try clear c2
  try clear p2
  try clear c8
  try clear c10
  try clear c11
  try clear hcz12_0
  try clear hfz12_0
  obtain ⟨x6_1,x1001_1,x378000_1,u378000,rfl,HA,HK1,HO_3,HO_378000,BK370,BK377,HI0,HK,HB⟩:=hrel
  cases gk with
  | zero=>exact absurd HA.out (by simp [jR.l0])
  | succ k1 =>
   have H:=HA.out
   clear HA
   simp only [jR.l0] at H
   by_cases c17:x6_1<t381
   ·rw [if_pos c17] at H
    have c17b0:decide (x6_1<t381)=true:=dzT c17
    clear c17
    by_cases c18:0≤x6_1
    ·rw [if_pos c18] at H
     have c18b0:decide (0≤x6_1)=true:=dzT c18
     clear c18
     by_cases c19:x6_1<(y371.length:Int)
     ·rw [if_pos c19] at H
      have c19b0:decide (x6_1<(y371.length:Int))=true:=dzT c19
      clear c19
      replace H:=bzS H
      obtain ⟨⟨t384,t385⟩,A200,H⟩:=H
      replace H:((jy.f k1 s0_0 t385 (([0,t384,wrap64 (x6_1 - 1)]:List Int))).bind fun bt389=>(if x378000_1.length<5864062014805 then (jR.l0 k1 y371 t381 (wrap64 (x6_1+1)) s0_0 bt389.2 (x378000_1 ++ [(⟨rdOf ByteArray.empty y371 x6_1,bt389.1⟩:S94)])) else (none)))=some (r1,r2):=H
      have A20:=am A200
      clear A200
      obtain ⟨y386,hy386⟩:∃ y_:List Int,y_=(([0,t384,wrap64 (x6_1 - 1)]:List Int)):=⟨_,rfl⟩
      replace H:((jy.f k1 s0_0 t385 y386).bind fun bt389=>(if x378000_1.length<5864062014805 then (jR.l0 k1 y371 t381 (wrap64 (x6_1+1)) s0_0 bt389.2 (x378000_1 ++ [(⟨rdOf ByteArray.empty y371 x6_1,bt389.1⟩:S94)])) else (none)))=some (r1,r2):=by first |(rw [hy386];with_reducible exact H) |(have H2_:=(Option.bind_some _ _).symm.trans H;rw [hy386];with_reducible exact H2_) |(have H2_:=(Option.bind_some _ _).symm.trans H;with_reducible exact H2_) | with_reducible exact H |(rw [hy386];exact H) | exact H
      have Ny386:=am hy386
      clear hy386
      replace H:=bzS H
      obtain ⟨⟨t389,t390⟩,A210,H⟩:=H
      replace H:(if x378000_1.length<5864062014805 then (jR.l0 k1 y371 t381 (wrap64 (x6_1+1)) s0_0 t390 (x378000_1 ++ [(⟨rdOf ByteArray.empty y371 x6_1,t389⟩:S94)])) else (none))=some (r1,r2):=H
      have A21:=am A210
      clear A210
      by_cases c22:x378000_1.length<5864062014805
      ·rw [if_pos c22] at H
       have LMc22:=am c22
       clear c22
       obtain ⟨y391,hy391⟩:∃ y_:List (S94),y_=(x378000_1 ++ [(⟨rdOf ByteArray.empty y371 x6_1,t389⟩:S94)]):=⟨_,rfl⟩
       replace H:(jR.l0 k1 y371 t381 (wrap64 (x6_1+1)) s0_0 t390 y391)=some (r1,r2):=by first |(rw [hy391];with_reducible exact H) |(have H2_:=(Option.bind_some _ _).symm.trans H;rw [hy391];with_reducible exact H2_) |(have H2_:=(Option.bind_some _ _).symm.trans H;with_reducible exact H2_) | with_reducible exact H |(rw [hy391];exact H) | exact H
       have Ny391:=am hy391
       clear hy391
       have H':=am H
       clear H
       try go_wp2
       replace HO_3:=am (Kd.jM HO_3.out)
       replace HO_378000:=am (Kd.jM HO_378000.out)
       replace BK370:=am (jg BK370.out)
       replace BK377:=am (jg BK377.out)
       replace HI0:=am (jb.drew HI0.out)
       replace HK:=am (jZ HK.out)
       replace HB:=am (jv HB.out)
       obtain ⟨Ao24,co24,eo24⟩:=Kd.jW HO_3.out
       (first | subst eo24 |(injection eo24 with f1_ f2_ f3_;have f4_:=f1_.symm;have f5_:=f3_.symm;clear f1_ f2_ f3_;subst f4_;subst f5_))
       have p383:0≤(x6_1:Int):=ozD (uq)
       have q383:x6_1<(y371.length:Int):=ozD (uq)
       obtain ⟨ad383,e383,hx383_0⟩:=Kd.at_string (Kd.jw HO_3.out).2.2 x6_1 p383 q383
       cases e383
       replace p383:=ezT p383
       replace q383:=ezT q383
       refine jHb (n:=19) (S:=fun w'=>w'.cell? ⟨gb377,0,none⟩=some (u378000)∧w'.cell? (ad383.add (x6_1).toNat)=some (.string (rdOf ByteArray.empty y371 x6_1))) (ds:=[16,18]) #[false,false,false,false,false,false,false,false,false,false,false,false,false,false,false,false,false,false,false] (by kernel_rfl) rfl rfl ⟨(jH BK377.out 0).trans rfl,hx383_0⟩ (fun hHeld=>?_);refine jnb jR.tab7 jR.bits7 (fun HT_ HW_=>?_)
       generalize wr.drew=w23 at HO_3 HO_378000 BK370 BK377 HI0 HK HB hx383_0 hHeld ⊢
       refine pq (i:=0) (N:=some 19) #[true,false,false,false,false,false,false,false,false,false,false,false,false,false,false,false,false,false,false] ?_
       refine pq (i:=2) (N:=some 21) #[true,false,true,false,false,false,false,false,false,false,false,false,false,false,false,false,false,false,false] ?_
       refine pq (i:=3) (N:=some 22) #[true,false,true,true,false,false,false,false,false,false,false,false,false,false,false,false,false,false,false] ?_
       refine pq (i:=4) (N:=some 23) #[true,false,true,true,true,false,false,false,false,false,false,false,false,false,false,false,false,false,false] ?_
       refine pq (i:=6) (N:=some 25) #[true,false,true,true,true,false,true,false,false,false,false,false,false,false,false,false,false,false,false] ?_
       refine pq (i:=7) (N:=some 26) #[true,false,true,true,true,false,true,true,false,false,false,false,false,false,false,false,false,false,false] ?_
       refine pq (i:=8) (N:=some 27) #[true,false,true,true,true,false,true,true,true,false,false,false,false,false,false,false,false,false,false] ?_
       refine pq (i:=10) (N:=some 29) #[true,false,true,true,true,false,true,true,true,false,true,false,false,false,false,false,false,false,false] ?_
       refine pq (i:=11) (N:=some 30) #[true,false,true,true,true,false,true,true,true,false,true,true,false,false,false,false,false,false,false] ?_
       refine job (i:=1) (N:=some 20) (v:=?_) (a':=?_) #[true,true,true,true,true,false,true,true,true,false,true,true,false,false,false,false,false,false,false] rfl rfl (jLa HT_.out HW_.out (by kernel_rfl)) (fun _ _ _ h=>h) (Or.inl ⟨by rfl,?_⟩) hHeld ?_ ?_
       rotate_left
       ·rintro w' ⟨s0,s1⟩
        go_simp
        with_reducible rfl
       rotate_left
       ·exact sa
       refine job (i:=5) (N:=some 24) (v:=?_) (a':=?_) #[true,true,true,true,true,true,true,true,true,false,true,true,false,false,false,false,false,false,false] rfl rfl (jLa HT_.out HW_.out (by kernel_rfl)) (fun _ _ _ h=>h) (Or.inl ⟨by rfl,?_⟩) hHeld ?_ ?_
       rotate_left
       ·rintro w' ⟨s0,s1⟩
        go_simp
        with_reducible rfl
       rotate_left
       ·exact sa
       refine one_ (i:=9) (N:=some 28) #[true,true,true,true,true,true,true,true,true,true,true,true,false,false,false,false,false,false,false] rfl rfl (jZa HT_.out (by kernel_rfl)) (by decide) (fun K hK=>?_)
       refine goes_ Try.func88 (by kernel_rfl) rfl #[.pointer (some ⟨g,0,none⟩), .int .i64 x6_1] (by rfl) rfl rfl (aq) ?_
       with_reducible refine (jl.calls k1 g s0_0 x1001_1 x6_1 t384 t385 w0 _ ?side1 ?side2 A20.out).mono ?_
       (case side1=>exact Y27)
       (case side2=>exact Y48)
       rintro e w25 ⟨rfl,hi,hb,hk⟩
       have HS1_:=keep_cell hk (hHeld.2) (Y147)
       refine ⟨_,rfl,?_⟩
       replace HO_3:=am (Kd.jE (Kd.jqa (jb.apart (show jb w0 _ g s0_0 x1001_1 from Y27) (rq HO_3.out) (by decide)) hk (fun _ h=>h.2)) (fun _ h=>h.1))
       replace HO_378000:=am (Kd.jE (Kd.jqa (jb.apart (show jb w0 _ g s0_0 x1001_1 from Y27) (rq HO_378000.out) (by decide)) hk (fun _ h=>h.2)) (fun _ h=>h.1))
       replace BK370:=am (jd.blk hk (g':=gb370) (o:=.cells #[.slice none 0 0] 37 (0,0)) (kq BK370.out) NB370_0.out (by simp))
       replace BK377:=am (jd.blk hk (g':=gb377) (o:=.cells #[u378000] 37 (0,0)) (kq BK377.out) NB377_0.out (by simp))
       replace HK:=am (jd.trans (Y31) hk (.inl rfl))
       replace HB:=am (hb)
       replace HI0:=am (hi)
       (try clear hb)
       (try clear hb2)
       (try clear hk)
       (try clear hi)
       refine hK.out _ _ ⟨(jH BK377.out 0).trans rfl,HS1_⟩ (fun hHeld=>?_)
       clear hK K
       refine jMb (a':=?_) ?_ ?_
       rotate_left
       ·show Act.put _ (some 28) _=_
        simp only [Act.put,List.setIfInBounds_toArray,List.set_cons_zero,List.set_cons_succ,jqb,jub]
        rfl
       refine one_ (i:=12) (N:=some 31) #[true,true,true,true,true,true,true,true,true,true,true,true,true,false,false,false,false,false,false] rfl rfl (jZa HT_.out (by kernel_rfl)) (by decide) (fun K hK=>?_)
       refine Kd.jKb (Kd.int .i64) _ 3 ?hg (N:=31) ?hd (xs:=([0,t384,wrap64 (x6_1 - 1)]:List Int)) (inner:=[.int .i64 0, .int .i64 t384, .int .i64 (wrap64 (x6_1 - 1))]) (ok:=fun _=>True) (okp:=fun _=>True) ?hr ?hp (fun _ hk=>hk) trivial (Below.refl _ _) (Nat.le_refl _) (by simp) ?_;(case hd=>rfl);(case hg=>rfl);(case hr=>exact Y4);(case hp=>exact (Reps.one (show Kd.M (Kd.int .i64) _ _ _ 0 [.int .i64 0] from rfl) (Reps.one (show Kd.M (Kd.int .i64) _ _ _ t384 [.int .i64 t384] from rfl) (Reps.one (show Kd.M (Kd.int .i64) _ _ _ (wrap64 (x6_1 - 1)) [.int .i64 (wrap64 (x6_1 - 1))] from rfl) (Reps.none _ _)))))
       intro v387 w26 ho27 hb hg_ hnew_
       have HS1_:=(hb.cell (World.block_lt_of_cell? _ _ (hHeld.2))).trans (hHeld.2)
       clear hg_ hnew_
       (first | rw [← Ny386.out] at ho27 |(simp only [Int.reduceToNat] at ho27;rw [← Ny386.out] at ho27))
       have HO388:=am (Kd.jea ho27 (jda (w:=w) (g:=g) (row:=none) (Y31)))
       replace HO_3:=am (Kd.jaa (rq HO_3.out) hb)
       replace HO_378000:=am (Kd.jaa (rq HO_378000.out) hb)
       replace BK370:=am (jh (g:=gb370) (o:=.cells #[.slice none 0 0] 37 (0,0)) (kq BK370.out) hb)
       replace BK377:=am (jh (g:=gb377) (o:=.cells #[u378000] 37 (0,0)) (kq BK377.out) hb)
       replace HK:=am (jd.trans (Y31) (jd.of_below hb g none) (.inl rfl))
       replace HB:=am (jk (Y48) hb)
       replace HI0:=am (jb.below (Y27) hb)
       clear hb ho27
       obtain ⟨Ao28,co28,eo28⟩:=Kd.jW HO388.out
       (first | subst eo28 |(injection eo28 with f1_ f2_ f3_;have f4_:=f1_.symm;have f5_:=f3_.symm;clear f1_ f2_ f3_;subst f4_;subst f5_))
       refine hK.out _ _ ⟨(jH BK377.out 0).trans rfl,HS1_⟩ (fun hHeld=>?_)
       clear hK K
       refine jMb (a':=?_) ?_ ?_
       rotate_left
       ·show Act.put _ (some 31) _=_
        simp only [Act.put,List.setIfInBounds_toArray,List.set_cons_zero,List.set_cons_succ,jqb,jub]
        rfl
       refine one_ (i:=13) (N:=some 32) #[true,true,true,true,true,true,true,true,true,true,true,true,true,true,false,false,false,false,false] rfl rfl (jZa HT_.out (by kernel_rfl)) (by decide) (fun K hK=>?_)
       refine goes_ Try.func89 (by kernel_rfl) rfl #[.pointer (some ⟨g,0,none⟩), .slice Ao28 y386.length co28] (by rfl) rfl rfl (aq) ?_
       with_reducible refine (jy.calls k1 g s0_0 t385 _ _ y386 t389 t390 w0 _ ?side1 ?side2 ?side3 ?side4 ?side5 A21.out).mono ?_
       (case side1=>exact Y27)
       (case side2=>exact Y48)
       (case side3=>exact cq (Kd.jw HO388.out).2.2)
       (case side4=>exact (Kd.jw HO388.out).2.1)
       (case side5=>exact jwb (jb.own_ne HI0.out HO388.out (by decide)))
       rintro e w29 ⟨rfl,hi,hb,hk⟩
       have HS1_:=keep_cell hk (hHeld.2) (Y147)
       refine ⟨_,rfl,?_⟩
       replace HO_3:=am (Kd.jE (Kd.jqa (jb.apart (show jb w0 _ g s0_0 t385 from Y27) (rq HO_3.out) (by decide)) hk (fun _ h=>h.2)) (fun _ h=>h.1))
       replace HO_378000:=am (Kd.jE (Kd.jqa (jb.apart (show jb w0 _ g s0_0 t385 from Y27) (rq HO_378000.out) (by decide)) hk (fun _ h=>h.2)) (fun _ h=>h.1))
       replace BK370:=am (jd.blk hk (g':=gb370) (o:=.cells #[.slice none 0 0] 37 (0,0)) (kq BK370.out) NB370_0.out (by simp))
       replace BK377:=am (jd.blk hk (g':=gb377) (o:=.cells #[u378000] 37 (0,0)) (kq BK377.out) NB377_0.out (by simp))
       replace HO388:=am (Kd.jE (Kd.jqa (jb.apart (show jb w0 _ g s0_0 t385 from Y27) (rq HO388.out) (by decide)) hk (fun _ h=>h.2)) (fun _ h=>h.1))
       replace HK:=am (jd.trans (Y31) hk (.inl rfl))
       replace HB:=am (hb)
       replace HI0:=am (hi)
       (try clear hb)
       (try clear hb2)
       (try clear hk)
       (try clear hi)
       refine hK.out _ _ ⟨(jH BK377.out 0).trans rfl,HS1_⟩ (fun hHeld=>?_)
       clear hK K
       refine jMb (a':=?_) ?_ ?_
       rotate_left
       ·show Act.put _ (some 32) _=_
        simp only [Act.put,List.setIfInBounds_toArray,List.set_cons_zero,List.set_cons_succ,jqb,jub]
        rfl
       refine pq (i:=14) (N:=some 33) #[true,true,true,true,true,true,true,true,true,true,true,true,true,true,true,false,false,false,false] ?_
       refine one_ (i:=15) (N:=some 34) #[true,true,true,true,true,true,true,true,true,true,true,true,true,true,true,true,false,false,false] rfl rfl (jZa HT_.out (by kernel_rfl)) (by decide) (fun K hK=>?_)
       refine value_ (w1:=?_) (v:=?_) (by rfl) rfl ?_ ?_
       rotate_left 2
       ·go_simp
        constructor
        ·rfl
        ·rfl
       refine hK.out _ _ ⟨(jH (jf BK377.out _) 0).trans rfl,(World.cell?_alloc_lt _ _ _ (World.block_lt_of_cell? _ _ (hHeld.2))).trans (hHeld.2)⟩ (fun hHeld=>?_)
       clear hK K
       refine jMb (a':=?_) ?_ ?_
       rotate_left
       ·show Act.put _ (some 34) _=_
        simp only [Act.put,List.setIfInBounds_toArray,List.set_cons_zero,List.set_cons_succ,jqb,jub]
        rfl
       refine last_ (i:=16) (N:=some 35) #[true,true,true,true,true,true,true,true,true,true,true,true,true,true,true,true,true,false,false] rfl rfl (jZa HT_.out (by kernel_rfl)) (by decide) (fun K hK=>?_)
       refine Kd.R_append_step k94 w.heap.size (by rfl) (.tmp 20) (.tmp 34) 35 94 (.agg #[(.string ⟨#[]⟩),(.int .i64 0)]) 24 rfl Try.underlying35 info94 rfl (by decide) (by omega) u378000 x378000_1 (⟨rdOf ByteArray.empty y371 x6_1,t389⟩:S94) [.string (rdOf ByteArray.empty y371 x6_1), .int .i64 t389] (fun _=>True) (fun _=>False) rfl rfl ?aP (fun _ hk=>hk.elim) ?aF ?aO (Below.refl _ _) ?aS ?aL ?_
       (case aP=>exact k94_mkM _ _ _ (⟨rdOf ByteArray.empty y371 x6_1,t389⟩:S94))
       (case aF=>exact (fun _ _=>trivial))
       (case aO=>exact (rq HO_378000.out))
       (case aS=>exact (jda (w:=w) (g:=g) (row:=none) (Y31)))
       (case aL=>have:=LMc22.out;omega)
       intro v392 w30 ho hb hg hat
       rw [← Ny391.out] at ho
       have n0_:=am (Kd.R_over' (rq HO_3.out) (Kd.R_typed (rq HO_378000.out)) (by decide) hg)
       have n1_:=am (jAa (g:=gb370) (o:=.cells #[.slice none 0 0] 37 (0,0)) (kq BK370.out) hg (Kd.R_ne HO_378000.out BK370.out (by decide)))
       have n2_:=am (jAa (g:=gb377) (o:=.cells #[u378000] 37 (0,0)) (kq BK377.out) hg (Kd.R_ne HO_378000.out BK377.out (by decide)))
       have n3_:=am (jb.grown (Y27) hg (jb.own_ne HI0.out HO_378000.out (by decide)))
       have n4_:=am (Kd.R_over' (rq HO388.out) (Kd.R_typed (rq HO_378000.out)) (by decide) hg)
       have n5_:=am (below_weaken (Y48) HL.out hb)
       have n6_:=am (jd.trans (Y31) (jd.of_grown hg g) (Kd.R_base2 HO_378000.out))
       have n7_:=am (ho)
       clear HO_3
       clear BK370
       clear BK377
       clear HI0
       clear HO388
       clear HB
       clear HK
       clear HO_378000
       have HO_3:=n0_
       have BK370:=n1_
       have BK377:=n2_
       have HI0:=n3_
       have HO388:=n4_
       have HB:=n5_
       have HK:=n6_
       have HO393:=n7_
       clear n0_ n1_ n2_ n3_ n4_ n5_ n6_ n7_
       clear ho hb hg hat
       obtain ⟨Ao31,co31,eo31⟩:=Kd.jW HO393.out
       (first | subst eo31 |(injection eo31 with f1_ f2_ f3_;have f4_:=f1_.symm;have f5_:=f3_.symm;clear f1_ f2_ f3_;subst f4_;subst f5_))
       refine hK.out _ _ ?_
       clear hK K
       refine jMb (a':=?_) ?_ ?_
       rotate_left
       ·show Act.put _ (some 35) _=_
        simp only [Act.put,List.setIfInBounds_toArray,List.set_cons_zero,List.set_cons_succ,jqb,jub]
        rfl
       refine pq (i:=17) (N:=some 36) #[true,true,true,true,true,true,true,true,true,true,true,true,true,true,true,true,true,true,false] ?_
       refine last_ (i:=18) (N:=none) #[true,true,true,true,true,true,true,true,true,true,true,true,true,true,true,true,true,true,true] rfl rfl (jZa HT_.out (by kernel_rfl)) (by decide) (fun K hK=>?_)
       have hs32:w30.cell? ⟨gb377,0,none⟩=some (u378000):=(jH BK377.out 0).trans rfl
       have hfs32:=jc BK377.out 0
       have hns32_0:=NB370_377.out
       have hms32_0:=NB377_370.out
       refine jUb (w1:=?_) (by rfl) rfl ?_ ?_
       rotate_left
       ·go_simp
        rfl
       refine hK.out _ _ ?_
       clear hK K
       refine jgc (jNb HT_.out (by kernel_rfl)) ?_
       try go_wp2
       go_roundg k1
       case measure=>have:=HK1.out;omega
       case rel=>exact ⟨(wrap64 (x6_1+1)),(t390),(y391),(.slice Ao31 y391.length co31),(sq),H',⟨by have:=HK1.out;omega⟩,⟨by (with_reducible repeat (first | apply Kd.jO | apply Kd.jQ | apply Kd.jM));exact Kd.jE (Kd.jX (p:=⟨gb377,0,none⟩) (Kd.jN HO_3.out BK377.out (by decide)) (fun _ hk=>hk.2) (.slice Ao31 y391.length co31)) (fun _ hk=>trivial)⟩,⟨by (with_reducible repeat (first | apply Kd.jO | apply Kd.jQ | apply Kd.jM));exact Kd.jE (Kd.jX (p:=⟨gb377,0,none⟩) (Kd.jN HO393.out BK377.out (by decide)) (fun _ hk=>hk.2) (.slice Ao31 y391.length co31)) (fun _ hk=>trivial)⟩,⟨by (with_reducible repeat (first | refine je ?_ _ | refine jg ?_ | refine jf ?_ _));refine jJ ?_ NB370_377.out _;(with_reducible repeat (first | refine je ?_ _ | refine jg ?_ | refine jf ?_ _));exact BK370.out⟩,⟨by (with_reducible repeat (first | refine je ?_ _ | refine jg ?_ | refine jf ?_ _));refine jla (cs:=#[u378000]) ?_ 0 _ rfl;(with_reducible repeat (first | refine je ?_ _ | refine jg ?_ | refine jf ?_ _));exact BK377.out⟩,⟨Y27⟩,⟨Y31⟩,⟨Y48⟩⟩
      ·rw [if_neg c22] at H
       exact absurd H (by simp)
     ·rw [if_neg c19] at H
      exact absurd H (by simp)
    ·rw [if_neg c18] at H
     exact absurd H (by simp)
   ·rw [if_neg c17] at H
    have c17b0:decide (x6_1<t381)=false:=dzF c17
    clear c17
    simp only [Option.some.injEq,Prod.mk.injEq] at H
    obtain ⟨rfl,rfl⟩:=H
    have hnb33:=NB377_370.out
    have hnc33:=NB370_377.out
    have hnb34:=NB377_0.out
    have hnc34:=NB0_377.out
    have hcz35_0:=bc0 BK377.out
    have hfz35_0:=jc BK377.out 0
    obtain ⟨Ao36,co36,eo36⟩:=Kd.jW HO_378000.out
    subst eo36
    have hnb37:=NB370_0.out
    have hnc37:=NB0_370.out
    have hcz38_0:=bc0 BK370.out
    have hfz38_0:=jc BK370.out 0
    go_wp2
    refine bodyPost_ret (results_cell_row rfl _ _ gb370 37 #[.slice Ao36 x378000_1.length co36] (0,0) _ rfl (by (with_reducible repeat (first | refine je ?_ _ | refine jg ?_ | refine jf ?_ _));refine jla (cs:=#[.slice none 0 0]) ?_ 0 _ rfl;(with_reducible repeat (first | refine je ?_ _ | refine jg ?_ | refine jf ?_ _));exact BK370.out) Try.underlying37 rfl (by kernel_rfl)) rfl ?_
    exact ⟨_,Y1,by (with_reducible repeat (first | apply Kd.jO | apply Kd.jQ | apply Kd.jM));exact Kd.jE (Kd.jX (p:=⟨gb370,0,none⟩) (Kd.jN HO_378000.out BK370.out (by decide)) (fun _ hk=>hk.2) (.slice Ao36 x378000_1.length co36)) (fun _ hk=>trivial),Y27,Y48,Y31⟩
def jQa.f (k : Nat) (s0_0 : List Int) (s0_1 : Int) (l1 : List ByteArray) : Option (ByteArray × Int) := (jl.f k s0_0 s0_1 (l1.length : Int)).bind fun bt394 => (if 0 ≤ bt394.1 then (if bt394.1 < (l1.length : Int) then (some (rdOf ByteArray.empty l1 bt394.1, bt394.2)) else (none)) else (none))
set_option maxHeartbeats 8000000 in
set_option maxRecDepth 100000 in
theorem jQa.calls (k : Nat) (g : Nat) (s0_0 : List Int) (s0_1 : Int) (A1 : Option Addr) (c1 : Nat) (l1 : List ByteArray) (r1 : ByteArray) (r2 : Int) (w0 w : World) (hI : jb w0 w g s0_0 s0_1) (hB : Below w0.heap.size w0 w) (hr1 : Kd.C Kd.string w A1 l1.length l1) (hc1 : l1.length ≤ c1) (hf1 : ∀ ad, A1 = some ad → 0 < l1.length → ad.block ≠ g) (h : jQa.f k s0_0 s0_1 l1 = some (r1, r2)) :
  Calls Try.prog 106 #[.pointer (some ⟨g,0,none⟩), .slice A1 l1.length c1] w fun e w'=>e=.returned (.string r1)∧jb w0 w' g s0_0 r2∧Below w0.heap.size w0 w'∧jd w w' g none:=by
 have HR1:=am hr1
 have HC1:=am hc1
 clear hr1 hc1
 have HI0:=am hI
 have HK:=am (jd.refl w g none)
 have HL:=am hB.size
 clear hI
 have HW0:=am hB.size
 have HB:=am hB
 clear hB
 have H:((jl.f k s0_0 s0_1 (l1.length:Int)).bind fun bt394=>(if 0≤bt394.1 then (if bt394.1<(l1.length:Int) then (some (rdOf ByteArray.empty l1 bt394.1,bt394.2)) else (none)) else (none)))=some (r1,r2):=h
 clear h
 replace H:=bzS H
 obtain ⟨⟨t394,t395⟩,A30,H⟩:=H
 replace H:(if 0≤t394 then (if t394<(l1.length:Int) then (some (rdOf ByteArray.empty l1 t394,t395)) else (none)) else (none))=some (r1,r2):=H
 have A3:=am A30
 clear A30
 by_cases c4:0≤t394
 ·rw [if_pos c4] at H
  have c4b0:decide (0≤t394)=true:=dzT c4
  clear c4
  by_cases c5:t394<(l1.length:Int)
  ·rw [if_pos c5] at H
   have c5b0:decide (t394<(l1.length:Int))=true:=dzT c5
   clear c5
   simp only [Option.some.injEq,Prod.mk.injEq] at H
   obtain ⟨rfl,rfl⟩:=H
   go_enter Try.func106,Try.ntmps106
   go_wp2_with (first |((with_reducible refine jB (f:=88) rfl ?_);refine gL (some 9) Try.func88 #[.pointer (some ⟨g,0,none⟩), .int .i64 (l1.length:Int)] ?_;(with_reducible refine (jl.calls k g s0_0 s0_1 (l1.length:Int) t394 t395 w0 _ ?side1 ?side2 A3.out).mono ?_);(case side1=>exact Y13);(case side2=>exact Y15);rintro e w6 ⟨rfl,hi,hb,hk⟩;refine ⟨_,rfl,?_⟩;replace HK:=am (jd.trans (Y14) hk (.inl rfl));replace HB:=am (hb);replace HI0:=am (hi);(try clear hb);(try clear hb2);(try clear hk);(try clear hi);have p396:0≤(t394:Int):=ozD (uq);have q396:t394<(l1.length:Int):=ozD (uq);obtain ⟨ad396,e396,hx396_0⟩:=Kd.at_string HR1.out t394 p396 q396;cases e396;replace hx396_0:=keep_cell HK.out hx396_0 (by first |(rw [add_block];exact hf1 _ rfl (by omega)) | exact hf1 _ rfl (by omega) | exact hf1 ad396 rfl (by omega));replace p396:=ezT p396;replace q396:=ezT q396))
   go_ret
   exact ⟨Y1,Y13,Y15,Y14⟩
  ·rw [if_neg c5] at H
   exact absurd H (by simp)
 ·rw [if_neg c4] at H
  exact absurd H (by simp)
def jba.f (k : Nat) (s0_0 : List Int) (s0_1 : Int) : Option ((List (S94)) × Int) := (jR.f k s0_0 s0_1).bind fun bt398 => ((jl.f k s0_0 bt398.2 (bt398.1.length : Int)).bind fun bt403 => ((jl.f k s0_0 bt403.2 24).bind fun bt405 => (if bt405.1 = 0 then ((jQa.f k s0_0 bt405.2 (([(⟨#[]⟩ : ByteArray), (⟨#[97, 110, 121]⟩ : ByteArray), (⟨#[65]⟩ : ByteArray), (⟨#[116, 111, 111, 108, 111, 110, 103]⟩ : ByteArray)] : List ByteArray))).bind fun bt410 => (if 0 ≤ bt403.1 then (if bt403.1 < (bt398.1.length : Int) then (some ((bt398.1.set (bt403.1 : Int).toNat (⟨bt410.1, (jV bt398.1 bt403.1).f1⟩ : S94)), bt410.2)) else (none)) else (none))) else (if bt405.1 = 1 then ((jy.f k s0_0 bt405.2 (([bt403.1, (-1), 8, (-2)] : List Int))).bind fun bt416 => (if 0 ≤ bt403.1 then (if bt403.1 < (bt398.1.length : Int) then (some ((bt398.1.set (bt403.1 : Int).toNat (⟨(jV bt398.1 bt403.1).f0, bt416.1⟩ : S94)), bt416.2)) else (none)) else (none))) else (if bt405.1 = 2 then (some (([] : List (S94)), bt405.2)) else (some (bt398.1, bt405.2)))))))
def jba.T5 : Bool × List (List Nat × List Nat) := (true, [([], []), ([0], [0]), ([], []), ([], []), ([], []), ([3, 4], [3, 4]), ([1, 2, 0, 1, 2, 3, 4, 5], [1, 2]), ([6, 0, 1, 2, 3, 4, 5], [6]), ([7, 5, 5, 0, 1, 2, 3, 4, 5], [5, 7])])
def jba.B5 : List Nat := [0, 1, 0, 0, 0, 24, 63, 127, 255]
theorem jba.tab5 : rtab .any (opsOf Try.f87 5) = jba.T5 := by kernel_rfl
theorem jba.bits5 : jxb jba.T5.2 jba.B5 = true := by kernel_rfl
def jba.T7 : Bool × List (List Nat × List Nat) := (true, [([], []), ([0], [0]), ([], []), ([], []), ([], []), ([4], [4]), ([3, 5], [3, 5]), ([1, 2, 0, 1, 2, 3, 4, 5, 6], [1, 2]), ([7, 0, 1, 2, 3, 4, 5, 6], [7]), ([8, 6, 6, 0, 1, 2, 3, 4, 5, 6], [6, 8])])
def jba.B7 : List Nat := [0, 1, 0, 0, 0, 16, 56, 127, 255, 511]
theorem jba.tab7 : rtab .any (opsOf Try.f87 7) = jba.T7 := by kernel_rfl
theorem jba.bits7 : jxb jba.T7.2 jba.B7 = true := by kernel_rfl
set_option maxHeartbeats 8000000 in
set_option maxRecDepth 100000 in
theorem jba.calls (k : Nat) (g : Nat) (s0_0 : List Int) (s0_1 : Int) (r1 : List (S94)) (r2 : Int) (w0 w : World) (hI : jb w0 w g s0_0 s0_1) (hB : Below w0.heap.size w0 w) (h : jba.f k s0_0 s0_1 = some (r1, r2)) :
  Calls Try.prog 87 #[.pointer (some ⟨g,0,none⟩)] w fun e w'=>∃ v0_:Value,e=.returned (.agg #[v0_])∧Kd.R k94 94 w' w.heap.size (fun _=>True) v0_ r1∧jb w0 w' g s0_0 r2∧Below w0.heap.size w0 w'∧jd w w' g none:=by
 have hu37:=Try.underlying37
 have HI0:=am hI
 have HK:=am (jd.refl w g none)
 have HL:=am hB.size
 clear hI
 have HW0:=am hB.size
 have HB:=am hB
 clear hB
 have H:((jR.f k s0_0 s0_1).bind fun bt398=>((jl.f k s0_0 bt398.2 (bt398.1.length:Int)).bind fun bt403=>((jl.f k s0_0 bt403.2 24).bind fun bt405=>(if bt405.1=0 then ((jQa.f k s0_0 bt405.2 (([(⟨#[]⟩:ByteArray),(⟨#[97,110,121]⟩:ByteArray),(⟨#[65]⟩:ByteArray),(⟨#[116,111,111,108,111,110,103]⟩:ByteArray)]:List ByteArray))).bind fun bt410=>(if 0≤bt403.1 then (if bt403.1<(bt398.1.length:Int) then (some ((bt398.1.set (bt403.1:Int).toNat (⟨bt410.1,(jV bt398.1 bt403.1).f1⟩:S94)),bt410.2)) else (none)) else (none))) else (if bt405.1=1 then ((jy.f k s0_0 bt405.2 (([bt403.1,(-1),8,(-2)]:List Int))).bind fun bt416=>(if 0≤bt403.1 then (if bt403.1<(bt398.1.length:Int) then (some ((bt398.1.set (bt403.1:Int).toNat (⟨(jV bt398.1 bt403.1).f0,bt416.1⟩:S94)),bt416.2)) else (none)) else (none))) else (if bt405.1=2 then (some (([]:List (S94)),bt405.2)) else (some (bt398.1,bt405.2))))))))=some (r1,r2):=h
 clear h
 replace H:=bzS H
 obtain ⟨⟨t398,t401⟩,A20,H⟩:=H
 replace H:((jl.f k s0_0 t401 (t398.length:Int)).bind fun bt403=>((jl.f k s0_0 bt403.2 24).bind fun bt405=>(if bt405.1=0 then ((jQa.f k s0_0 bt405.2 (([(⟨#[]⟩:ByteArray),(⟨#[97,110,121]⟩:ByteArray),(⟨#[65]⟩:ByteArray),(⟨#[116,111,111,108,111,110,103]⟩:ByteArray)]:List ByteArray))).bind fun bt410=>(if 0≤bt403.1 then (if bt403.1<(t398.length:Int) then (some ((t398.set (bt403.1:Int).toNat (⟨bt410.1,(jV t398 bt403.1).f1⟩:S94)),bt410.2)) else (none)) else (none))) else (if bt405.1=1 then ((jy.f k s0_0 bt405.2 (([bt403.1,(-1),8,(-2)]:List Int))).bind fun bt416=>(if 0≤bt403.1 then (if bt403.1<(t398.length:Int) then (some ((t398.set (bt403.1:Int).toNat (⟨(jV t398 bt403.1).f0,bt416.1⟩:S94)),bt416.2)) else (none)) else (none))) else (if bt405.1=2 then (some (([]:List (S94)),bt405.2)) else (some (t398,bt405.2)))))))=some (r1,r2):=H
 have A2:=am A20
 clear A20
 replace H:=bzS H
 obtain ⟨⟨t403,t404⟩,A30,H⟩:=H
 replace H:((jl.f k s0_0 t404 24).bind fun bt405=>(if bt405.1=0 then ((jQa.f k s0_0 bt405.2 (([(⟨#[]⟩:ByteArray),(⟨#[97,110,121]⟩:ByteArray),(⟨#[65]⟩:ByteArray),(⟨#[116,111,111,108,111,110,103]⟩:ByteArray)]:List ByteArray))).bind fun bt410=>(if 0≤t403 then (if t403<(t398.length:Int) then (some ((t398.set (t403:Int).toNat (⟨bt410.1,(jV t398 t403).f1⟩:S94)),bt410.2)) else (none)) else (none))) else (if bt405.1=1 then ((jy.f k s0_0 bt405.2 (([t403,(-1),8,(-2)]:List Int))).bind fun bt416=>(if 0≤t403 then (if t403<(t398.length:Int) then (some ((t398.set (t403:Int).toNat (⟨(jV t398 t403).f0,bt416.1⟩:S94)),bt416.2)) else (none)) else (none))) else (if bt405.1=2 then (some (([]:List (S94)),bt405.2)) else (some (t398,bt405.2))))))=some (r1,r2):=H
 have A3:=am A30
 clear A30
 replace H:=bzS H
 obtain ⟨⟨t405,t406⟩,A40,H⟩:=H
 replace H:(if t405=0 then ((jQa.f k s0_0 t406 (([(⟨#[]⟩:ByteArray),(⟨#[97,110,121]⟩:ByteArray),(⟨#[65]⟩:ByteArray),(⟨#[116,111,111,108,111,110,103]⟩:ByteArray)]:List ByteArray))).bind fun bt410=>(if 0≤t403 then (if t403<(t398.length:Int) then (some ((t398.set (t403:Int).toNat (⟨bt410.1,(jV t398 t403).f1⟩:S94)),bt410.2)) else (none)) else (none))) else (if t405=1 then ((jy.f k s0_0 t406 (([t403,(-1),8,(-2)]:List Int))).bind fun bt416=>(if 0≤t403 then (if t403<(t398.length:Int) then (some ((t398.set (t403:Int).toNat (⟨(jV t398 t403).f0,bt416.1⟩:S94)),bt416.2)) else (none)) else (none))) else (if t405=2 then (some (([]:List (S94)),t406)) else (some (t398,t406)))))=some (r1,r2):=H
 have A4:=am A40
 clear A40
 by_cases c5:t405=0
 ·rw [if_pos c5] at H
  have c5b0:(t405 == 0)=true:=beq_iff_eq.mpr c5
  have c5b1:(t405 != 0)=false:=bne_eq_false_iff_eq.mpr c5
  clear c5
  obtain ⟨y407,hy407⟩:∃ y_:List ByteArray,y_=(([(⟨#[]⟩:ByteArray),(⟨#[97,110,121]⟩:ByteArray),(⟨#[65]⟩:ByteArray),(⟨#[116,111,111,108,111,110,103]⟩:ByteArray)]:List ByteArray)):=⟨_,rfl⟩
  replace H:((jQa.f k s0_0 t406 y407).bind fun bt410=>(if 0≤t403 then (if t403<(t398.length:Int) then (some ((t398.set (t403:Int).toNat (⟨bt410.1,(jV t398 t403).f1⟩:S94)),bt410.2)) else (none)) else (none)))=some (r1,r2):=by first |(rw [hy407];with_reducible exact H) |(have H2_:=(Option.bind_some _ _).symm.trans H;rw [hy407];with_reducible exact H2_) |(have H2_:=(Option.bind_some _ _).symm.trans H;with_reducible exact H2_) | with_reducible exact H |(rw [hy407];exact H) | exact H
  have Ny407:=am hy407
  clear hy407
  replace H:=bzS H
  obtain ⟨⟨t410,t411⟩,A60,H⟩:=H
  replace H:(if 0≤t403 then (if t403<(t398.length:Int) then (some ((t398.set (t403:Int).toNat (⟨t410,(jV t398 t403).f1⟩:S94)),t411)) else (none)) else (none))=some (r1,r2):=H
  have A6:=am A60
  clear A60
  by_cases c7:0≤t403
  ·rw [if_pos c7] at H
   have c7b0:decide (0≤t403)=true:=dzT c7
   clear c7
   by_cases c8:t403<(t398.length:Int)
   ·rw [if_pos c8] at H
    have c8b0:decide (t403<(t398.length:Int))=true:=dzT c8
    clear c8
    obtain ⟨y412,hy412⟩:∃ y_:List (S94),y_=(t398.set (t403:Int).toNat (⟨t410,(jV t398 t403).f1⟩:S94)):=⟨_,rfl⟩
    replace H:(some (y412,t411))=some (r1,r2):=by first |(rw [hy412];with_reducible exact H) |(have H2_:=(Option.bind_some _ _).symm.trans H;rw [hy412];with_reducible exact H2_) |(have H2_:=(Option.bind_some _ _).symm.trans H;with_reducible exact H2_) | with_reducible exact H |(rw [hy412];exact H) | exact H
    have Ny412:=am hy412
    clear hy412
    simp only [Option.some.injEq,Prod.mk.injEq] at H
    obtain ⟨rfl,rfl⟩:=H
    go_enter Try.func87,Try.ntmps87
    try go_wp2_with (first |((with_reducible refine jI (N:=2) rfl ?_);refine bE (N:=2) (cs:=#[.slice none 0 0]) (t:=37) ?_;intro gb397 hg w10 hbox hb;have BK397:=am (hbox);have GW397:=am ((Y7:w.heap.size≤gb397));have GE397:=am ((Nat.le_trans HW0.out (Y7:w.heap.size≤gb397):w0.heap.size≤gb397));have NB0_397:=am ((Y25:g≠gb397));have NB397_0:=am ((Y26:gb397≠g));replace HK:=am (jd.trans (Y14) (jd.of_below hb g none) (.inl rfl));replace HB:=am (jk (Y15) hb);replace HI0:=am (jb.below (Y13) hb);clear hb hbox hg) |((with_reducible refine jB (f:=105) rfl ?_);refine gL (some 6) Try.func105 #[.pointer (some ⟨g,0,none⟩)] ?_;(with_reducible refine (jR.calls k g s0_0 s0_1 t398 t401 w0 _ ?side1 ?side2 A2.out).mono ?_);(case side1=>exact Y53);(case side2=>exact Y54);rintro e w11 ⟨v399,rfl,ho0,hi,hb,hk⟩;refine ⟨_,rfl,?_⟩;have HO400:=am (Kd.jea ho0 (jda (w:=w) (g:=g) (row:=none) (Y32)));replace BK397:=am (jd.blk hk (g':=gb397) (o:=.cells #[.slice none 0 0] 37 (0,0)) (kq BK397.out) NB397_0.out (by simp));replace HK:=am (jd.trans (Y32) hk (.inl rfl));replace HB:=am (hb);replace HI0:=am (hi);(try clear hb);(try clear hb2);(try clear hk);(try clear hi);(try clear ho0)) |((with_reducible refine jI (N:=3) rfl ?_);refine bE (N:=3) (cs:=#[.slice none 0 0]) (t:=37) ?_;intro gb402 hg w12 hbox hb;have BK402:=am (hbox);have GW402:=am ((Y55:w.heap.size≤gb402));have GE402:=am ((Nat.le_trans HW0.out (Y55:w.heap.size≤gb402):w0.heap.size≤gb402));have NB397_402:=am ((Y100:gb397≠gb402));have NB402_397:=am ((Y101:gb402≠gb397));have NB0_402:=am ((Y102:g≠gb402));have NB402_0:=am ((Y103:gb402≠g));replace HO400:=am (Kd.jaa (rq HO400.out) hb);replace BK397:=am (jh (g:=gb397) (o:=.cells #[.slice none 0 0] 37 (0,0)) (kq BK397.out) hb);replace HK:=am (jd.trans (Y32) (jd.of_below hb g none) (.inl rfl));replace HB:=am (jk (Y54) hb);replace HI0:=am (jb.below (Y53) hb);clear hb hbox hg;obtain ⟨Ao13,co13,eo13⟩:=Kd.jW HO400.out;subst eo13;have hnb14:=NB402_397.out;have hnc14:=NB397_402.out;have hnb15:=NB402_0.out;have hnc15:=NB0_402.out;have hcz16_0:=bc0 BK402.out;have hfz16_0:=jc BK402.out 0) |((with_reducible refine jB (f:=88) rfl ?_);refine gL (some 11) Try.func88 #[.pointer (some ⟨g,0,none⟩), .int .i64 (t398.length:Int)] ?_;(with_reducible refine (jl.calls k g s0_0 t401 (t398.length:Int) t403 t404 w0 _ ?side1 ?side2 A3.out).mono ?_);(case side1=>exact Y9);(case side2=>exact Y28);rintro e w17 ⟨rfl,hi,hb,hk⟩;refine ⟨_,rfl,?_⟩;replace BK397:=am (jd.blk hk (g':=gb397) (o:=.cells #[.slice none 0 0] 37 (0,0)) (Y104) NB397_0.out (by simp));replace HO400:=am (Kd.jE (Kd.jqa (jb.apart (show jb w0 _ g s0_0 t401 from Y9) (by (with_reducible repeat (first | apply Kd.jO | apply Kd.jQ | apply Kd.jM));exact (Kd.jE (Kd.jX (p:=⟨gb402,0,none⟩) (Kd.jN HO400.out BK402.out (by decide)) (fun _ hk=>hk.2) (.slice Ao13 t398.length co13)) (fun _ h_=>h_.1))) (by decide)) hk (fun _ h=>h.2)) (fun _ h=>h.1));replace BK402:=am (jd.blk hk (g':=gb402) (o:=.cells #[.slice Ao13 t398.length co13] 37 (0,0)) (Y105) NB402_0.out (by simp));replace HK:=am (jd.trans (Y20) hk (.inl rfl));replace HB:=am (hb);replace HI0:=am (hi);(try clear hb);(try clear hb2);(try clear hk);(try clear hi)) |((with_reducible refine jB (f:=88) rfl ?_);refine gL (some 13) Try.func88 #[.pointer (some ⟨g,0,none⟩), .int .i64 24] ?_;(with_reducible refine (jl.calls k g s0_0 t404 24 t405 t406 w0 _ ?side1 ?side2 A4.out).mono ?_);(case side1=>exact Y9);(case side2=>exact Y28);rintro e w18 ⟨rfl,hi,hb,hk⟩;refine ⟨_,rfl,?_⟩;replace BK397:=am (jd.blk hk (g':=gb397) (o:=.cells #[.slice none 0 0] 37 (0,0)) (kq BK397.out) NB397_0.out (by simp));replace HO400:=am (Kd.jE (Kd.jqa (jb.apart (show jb w0 _ g s0_0 t404 from Y9) (rq HO400.out) (by decide)) hk (fun _ h=>h.2)) (fun _ h=>h.1));replace BK402:=am (jd.blk hk (g':=gb402) (o:=.cells #[.slice Ao13 t398.length co13] 37 (0,0)) (kq BK402.out) NB402_0.out (by simp));replace HK:=am (jd.trans (Y20) hk (.inl rfl));replace HB:=am (hb);replace HI0:=am (hi);(try clear hb);(try clear hb2);(try clear hk);(try clear hi)))
    replace HO400:=am (Kd.jM HO400.out)
    replace BK397:=am (jg BK397.out)
    replace BK402:=am (jg BK402.out)
    replace HI0:=am (jb.drew HI0.out)
    replace HK:=am (jZ HK.out)
    replace HB:=am (jv HB.out)
    refine jHb (n:=9) (S:=fun w'=>w'.cell? ⟨gb402,0,none⟩=some (.slice Ao13 t398.length co13)) (ds:=[8]) #[false,false,false,false,false,false,false,false,false] (by kernel_rfl) rfl rfl ((jH BK402.out 0).trans rfl) (fun hHeld=>?_);refine jnb jba.tab5 jba.bits5 (fun HT_ HW_=>?_)
    generalize w18.drew=w19 at HO400 BK397 BK402 HI0 HK HB hHeld ⊢
    refine pq (i:=0) (N:=some 16) #[true,false,false,false,false,false,false,false,false] ?_
    refine pq (i:=2) (N:=some 18) #[true,false,true,false,false,false,false,false,false] ?_
    refine pq (i:=3) (N:=some 19) #[true,false,true,true,false,false,false,false,false] ?_
    refine job (i:=1) (N:=some 17) (v:=?_) (a':=?_) #[true,true,true,true,false,false,false,false,false] rfl rfl (jLa HT_.out HW_.out (by kernel_rfl)) (fun _ _ _ h=>h) (Or.inl ⟨by rfl,?_⟩) hHeld ?_ ?_
    rotate_left
    ·intro w' s0
     go_simp
     with_reducible rfl
    rotate_left
    ·exact sa
    refine one_ (i:=4) (N:=some 20) #[true,true,true,true,true,false,false,false,false] rfl rfl (jZa HT_.out (by kernel_rfl)) (by decide) (fun K hK=>?_)
    refine Kd.jKb Kd.string _ 9 ?hg (N:=20) ?hd (xs:=([(⟨#[]⟩:ByteArray),(⟨#[97,110,121]⟩:ByteArray),(⟨#[65]⟩:ByteArray),(⟨#[116,111,111,108,111,110,103]⟩:ByteArray)]:List ByteArray)) (inner:=[.string (⟨#[]⟩:ByteArray), .string (⟨#[97,110,121]⟩:ByteArray), .string (⟨#[65]⟩:ByteArray), .string (⟨#[116,111,111,108,111,110,103]⟩:ByteArray)]) (ok:=fun _=>True) (okp:=fun _=>True) ?hr ?hp (fun _ hk=>hk) trivial (Below.refl _ _) (Nat.le_refl _) (by simp) ?_;(case hd=>rfl);(case hg=>rfl);(case hr=>exact Y4);(case hp=>exact (Reps.one (show Kd.M Kd.string _ _ _ (⟨#[]⟩:ByteArray) [.string (⟨#[]⟩:ByteArray)] from rfl) (Reps.one (show Kd.M Kd.string _ _ _ (⟨#[97,110,121]⟩:ByteArray) [.string (⟨#[97,110,121]⟩:ByteArray)] from rfl) (Reps.one (show Kd.M Kd.string _ _ _ (⟨#[65]⟩:ByteArray) [.string (⟨#[65]⟩:ByteArray)] from rfl) (Reps.one (show Kd.M Kd.string _ _ _ (⟨#[116,111,111,108,111,110,103]⟩:ByteArray) [.string (⟨#[116,111,111,108,111,110,103]⟩:ByteArray)] from rfl) (Reps.none _ _))))))
    intro v408 w20 ho21 hb hg_ hnew_
    clear hg_ hnew_
    (first | rw [← Ny407.out] at ho21 |(simp only [Int.reduceToNat] at ho21;rw [← Ny407.out] at ho21))
    have HO409:=am (Kd.jea ho21 (jda (w:=w) (g:=g) (row:=none) (Y20)))
    replace HO400:=am (Kd.jaa (rq HO400.out) hb)
    replace BK397:=am (jh (g:=gb397) (o:=.cells #[.slice none 0 0] 37 (0,0)) (kq BK397.out) hb)
    replace BK402:=am (jh (g:=gb402) (o:=.cells #[.slice Ao13 t398.length co13] 37 (0,0)) (kq BK402.out) hb)
    replace HK:=am (jd.trans (Y20) (jd.of_below hb g none) (.inl rfl))
    replace HB:=am (jk (Y28) hb)
    replace HI0:=am (jb.below (Y9) hb)
    clear hb ho21
    obtain ⟨Ao22,co22,eo22⟩:=Kd.jW HO409.out
    (first | subst eo22 |(injection eo22 with f1_ f2_ f3_;have f4_:=f1_.symm;have f5_:=f3_.symm;clear f1_ f2_ f3_;subst f4_;subst f5_))
    refine hK.out _ _ ((jH BK402.out 0).trans rfl) (fun hHeld=>?_)
    clear hK K
    refine jMb (a':=?_) ?_ ?_
    rotate_left
    ·show Act.put _ (some 20) _=_
     simp only [Act.put,List.setIfInBounds_toArray,List.set_cons_zero,List.set_cons_succ,jqb,jub]
     rfl
    refine one_ (i:=5) (N:=some 21) #[true,true,true,true,true,true,false,false,false] rfl rfl (jZa HT_.out (by kernel_rfl)) (by decide) (fun K hK=>?_)
    refine goes_ Try.func106 (by kernel_rfl) rfl #[.pointer (some ⟨g,0,none⟩), .slice Ao22 y407.length co22] (by rfl) rfl rfl (aq) ?_
    with_reducible refine (jQa.calls k g s0_0 t406 _ _ y407 t410 t411 w0 _ ?side1 ?side2 ?side3 ?side4 ?side5 A6.out).mono ?_
    (case side1=>exact Y9)
    (case side2=>exact Y28)
    (case side3=>exact cq (Kd.jw HO409.out).2.2)
    (case side4=>exact (Kd.jw HO409.out).2.1)
    (case side5=>exact jwb (jb.own_ne HI0.out HO409.out (by decide)))
    rintro e w23 ⟨rfl,hi,hb,hk⟩
    refine ⟨_,rfl,?_⟩
    replace BK397:=am (jd.blk hk (g':=gb397) (o:=.cells #[.slice none 0 0] 37 (0,0)) (kq BK397.out) NB397_0.out (by simp))
    replace HO400:=am (Kd.jE (Kd.jqa (jb.apart (show jb w0 _ g s0_0 t406 from Y9) (rq HO400.out) (by decide)) hk (fun _ h=>h.2)) (fun _ h=>h.1))
    replace BK402:=am (jd.blk hk (g':=gb402) (o:=.cells #[.slice Ao13 t398.length co13] 37 (0,0)) (kq BK402.out) NB402_0.out (by simp))
    replace HO409:=am (Kd.jE (Kd.jqa (jb.apart (show jb w0 _ g s0_0 t406 from Y9) (rq HO409.out) (by decide)) hk (fun _ h=>h.2)) (fun _ h=>h.1))
    replace HK:=am (jd.trans (Y20) hk (.inl rfl))
    replace HB:=am (hb)
    replace HI0:=am (hi)
    (try clear hb)
    (try clear hb2)
    (try clear hk)
    (try clear hi)
    have p9:0≤(t403:Int):=ozD (uq)
    have q9:(t403:Int)<((t398.length:Int):Int):=ozD (uq)
    obtain ⟨go9,co9,eo9,gb9,gl9,cl9,HG9⟩:=Kd.R_form HO400.out (by omega)
    (first | cases eo9 |(injection eo9 with ea_ en_ ec_;(first | subst ea_ |(injection ea_ with ea_;subst ea_));subst ec_;clear en_))
    have GB9:=am gb9
    have GG9:=am HG9
    clear gb9 gl9 HG9
    obtain ⟨ce9,hcl9,hM9,hcc9,hfr9⟩:=Kd.jzb HO400.out z94 (t403:Int) p9 q9
    obtain rfl:=k94_openM hM9
    have hx9_0:World.cell? _ ⟨go9,(t403:Int).toNat * 2,none⟩=some (.string ((jV t398 t403).f0)):=hcc9 0 _ rfl
    have hx9_1:World.cell? _ ⟨go9,(t403:Int).toNat * 2+1,none⟩=some (.int .i64 ((jV t398 t403).f1)):=hcc9 1 _ rfl
    have hf9_0:World.frozen? _ ⟨go9,(t403:Int).toNat * 2,none⟩=false:=hfr9 0
    have hf9_1:World.frozen? _ ⟨go9,(t403:Int).toNat * 2+1,none⟩=false:=hfr9 1
    clear hcl9 hcc9 hfr9 hM9
    replace p9:=ezT p9
    replace q9:=ezT q9
    have HN0_go9:=am (show g≠go9 from by have h_:=jb.own_ne HI0.out HO400.out (by decide);intro e_;exact h_ (by rw [e_];rfl))
    obtain ⟨ce24,hcl24,hM24,hcc24,hfr24⟩:=Kd.jzb HO400.out z94 (t403:Int) (ozD (uq)) (by have h_:(t403:Int)<((t398.length:Int):Int):=ozD (uq);first | exact h_ |(have e_:=(Kd.jw HO400.out).1;omega) | simpa using h_)
    obtain rfl:=k94_openM hM24
    have HP24:=(Kd.R_seg HO400.out (t403:Int) (ozD (uq)) (by have h_:(t403:Int)<((t398.length:Int):Int):=ozD (uq);first | exact h_ |(have e_:=(Kd.jw HO400.out).1;omega) | simpa using h_) (seg:=[.string t410]) (j:=0) hcl24 hcc24 (show 1≤2 from by decide) (x':=(⟨t410,(jV t398 t403).f1⟩:S94)) (k94_mkM _ _ _ (⟨t410,(jV t398 t403).f1⟩:S94) ) (fun _ hk=>hk)).1
    rw [← Ny412.out] at HP24
    have HQ24:=am HP24
    clear hcl24 hcc24 hfr24 hM24 HP24
    refine hK.out _ _ ((jH BK402.out 0).trans rfl) (fun hHeld=>?_)
    clear hK K
    refine jMb (a':=?_) ?_ ?_
    rotate_left
    ·show Act.put _ (some 21) _=_
     simp only [Act.put,List.setIfInBounds_toArray,List.set_cons_zero,List.set_cons_succ,jqb,jub]
     rfl
    refine pq (i:=6) (N:=some 22) #[true,true,true,true,true,true,true,false,false] ?_
    refine pq (i:=7) (N:=some 23) #[true,true,true,true,true,true,true,true,false] ?_
    refine last_ (i:=8) (N:=none) #[true,true,true,true,true,true,true,true,true] rfl rfl (jZa HT_.out (by kernel_rfl)) (by decide) (fun K hK=>?_)
    refine jUb (w1:=?_) (by rfl) rfl ?_ ?_
    rotate_left
    ·go_simp
     rfl
    refine hK.out _ _ ?_
    clear hK K
    refine jgc (jNb HT_.out (by kernel_rfl)) ?_
    have n0_:jC (Kd.R k94 94 (w23.setCell ⟨go9,(t403:Int).toNat * 2,none⟩ (.string t410)) w.heap.size (fun _=>True) (.slice (some ⟨go9,0,none⟩) t398.length co13) y412):=⟨rq HQ24.out⟩
    have n1_:jC (Kd.R Kd.string 9 (w23.setCell ⟨go9,(t403:Int).toNat * 2,none⟩ (.string t410)) w.heap.size (fun _=>True) (.slice Ao22 y407.length co22) y407):=⟨by (with_reducible repeat (first | apply Kd.jO | apply Kd.jQ | apply Kd.jM));exact Kd.jE (Kd.jX (p:=⟨go9,(t403:Int).toNat * 2,none⟩) (Kd.jN HO409.out GG9.out (by decide)) (fun _ hk=>hk.2) (.string t410)) (fun _ hk=>trivial)⟩
    have n2_:jC ((w23.setCell ⟨go9,(t403:Int).toNat * 2,none⟩ (.string t410)).heap[gb397]?=some (.cells #[.slice none 0 0] 37 (0,0))):=⟨by (with_reducible repeat (first | refine je ?_ _ | refine jg ?_ | refine jf ?_ _));refine jJ ?_ (by have h_:=Kd.R_ne HO400.out BK397.out (by decide);intro e_;exact h_ (by rw [e_];rfl)) _;(with_reducible repeat (first | refine je ?_ _ | refine jg ?_ | refine jf ?_ _));exact BK397.out⟩
    have n3_:jC ((w23.setCell ⟨go9,(t403:Int).toNat * 2,none⟩ (.string t410)).heap[gb402]?=some (.cells #[.slice (some ⟨go9,0,none⟩) t398.length co13] 37 (0,0))):=⟨by (with_reducible repeat (first | refine je ?_ _ | refine jg ?_ | refine jf ?_ _));refine jJ ?_ (by have h_:=Kd.R_ne HO400.out BK402.out (by decide);intro e_;exact h_ (by rw [e_];rfl)) _;(with_reducible repeat (first | refine je ?_ _ | refine jg ?_ | refine jf ?_ _));exact BK402.out⟩
    have n4_:jC (jb w0 (w23.setCell ⟨go9,(t403:Int).toNat * 2,none⟩ (.string t410)) g s0_0 t411):=⟨by repeat (first |(with_reducible first | exact HI0.out | apply jb.alloc | apply jb.drewN | apply jb.drew | apply jb.jhb | refine jb.far ?_ HN0_go9.out _ | refine jb.far ?_ NB0_397.out _ | refine jb.far ?_ NB0_402.out _) | exact HI0.out)⟩
    have n5_:jC (jd w (w23.setCell ⟨go9,(t403:Int).toNat * 2,none⟩ (.string t410)) g none):=⟨by repeat (first |(with_reducible first | exact HK.out | apply jd.set_ | apply jma | apply jZ | apply jna | refine jP ?_ GB9.out _ | refine jP ?_ GW397.out _ | refine jP ?_ GW402.out _) | exact HK.out)⟩
    have n6_:jC (Below w0.heap.size w0 (w23.setCell ⟨go9,(t403:Int).toNat * 2,none⟩ (.string t410))):=⟨by repeat (first |(with_reducible first | exact HB.out | apply jA | apply jq | apply jv | refine jm ?_ (Nat.le_trans HL.out GB9.out) | refine jm ?_ (jb.ge HI0.out) | refine jm ?_ GE397.out | refine jm ?_ GE402.out) | exact HB.out)⟩
    (try clear HO400)
    (try clear HO409)
    (try clear BK397)
    (try clear BK402)
    (try clear HI0)
    (try clear HK)
    (try clear HB)
    generalize (w23.setCell ⟨go9,(t403:Int).toNat * 2,none⟩ (.string t410))=w25 at n0_ n1_ n2_ n3_ n4_ n5_ n6_ ⊢
    have HO400:=n0_
    have HO409:=n1_
    have BK397:=n2_
    have BK402:=n3_
    have HI0:=n4_
    have HK:=n5_
    have HB:=n6_
    clear n0_ n1_ n2_ n3_ n4_ n5_ n6_
    have hcz26_0:=bc0 BK402.out
    have hfz26_0:=jc BK402.out 0
    have hnb27:=NB397_0.out
    have hnc27:=NB0_397.out
    have hcz28_0:=bc0 BK397.out
    have hfz28_0:=jc BK397.out 0
    try go_wp2
    refine bodyPost_ret (results_cell_row rfl _ _ gb397 37 #[.slice (some ⟨go9,0,none⟩) t398.length co13] (0,0) _ rfl (Y106) Try.underlying37 rfl (by kernel_rfl)) rfl ?_
    exact ⟨_,Y1,by (with_reducible repeat (first | apply Kd.jO | apply Kd.jQ | apply Kd.jM));exact Kd.jE (Kd.jX (p:=⟨gb397,0,none⟩) (Kd.jN HO400.out BK397.out (by decide)) (fun _ hk=>hk.2) (.slice (some ⟨go9,0,none⟩) t398.length co13)) (fun _ hk=>trivial),Y9,Y28,Y20⟩
   ·rw [if_neg c8] at H
    exact absurd H (by simp)
  ·rw [if_neg c7] at H
   exact absurd H (by simp)
 ·rw [if_neg c5] at H
  have c5b0:(t405 == 0)=false:=beq_eq_false_iff_ne.mpr c5
  have c5b1:(t405 != 0)=true:=bne_iff_ne.mpr c5
  by_cases c29:t405=1
  ·rw [if_pos c29] at H
   have c29b0:(t405 == 1)=true:=beq_iff_eq.mpr c29
   have c29b1:(t405 != 1)=false:=bne_eq_false_iff_eq.mpr c29
   clear c29
   obtain ⟨y413,hy413⟩:∃ y_:List Int,y_=(([t403,(-1),8,(-2)]:List Int)):=⟨_,rfl⟩
   replace H:((jy.f k s0_0 t406 y413).bind fun bt416=>(if 0≤t403 then (if t403<(t398.length:Int) then (some ((t398.set (t403:Int).toNat (⟨(jV t398 t403).f0,bt416.1⟩:S94)),bt416.2)) else (none)) else (none)))=some (r1,r2):=by first |(rw [hy413];with_reducible exact H) |(have H2_:=(Option.bind_some _ _).symm.trans H;rw [hy413];with_reducible exact H2_) |(have H2_:=(Option.bind_some _ _).symm.trans H;with_reducible exact H2_) | with_reducible exact H |(rw [hy413];exact H) | exact H
   have Ny413:=am hy413
   clear hy413
   replace H:=bzS H
   obtain ⟨⟨t416,t417⟩,A300,H⟩:=H
   replace H:(if 0≤t403 then (if t403<(t398.length:Int) then (some ((t398.set (t403:Int).toNat (⟨(jV t398 t403).f0,t416⟩:S94)),t417)) else (none)) else (none))=some (r1,r2):=H
   have A30:=am A300
   clear A300
   by_cases c31:0≤t403
   ·rw [if_pos c31] at H
    have c31b0:decide (0≤t403)=true:=dzT c31
    clear c31
    by_cases c32:t403<(t398.length:Int)
    ·rw [if_pos c32] at H
     have c32b0:decide (t403<(t398.length:Int))=true:=dzT c32
     clear c32
     obtain ⟨y418,hy418⟩:∃ y_:List (S94),y_=(t398.set (t403:Int).toNat (⟨(jV t398 t403).f0,t416⟩:S94)):=⟨_,rfl⟩
     replace H:(some (y418,t417))=some (r1,r2):=by first |(rw [hy418];with_reducible exact H) |(have H2_:=(Option.bind_some _ _).symm.trans H;rw [hy418];with_reducible exact H2_) |(have H2_:=(Option.bind_some _ _).symm.trans H;with_reducible exact H2_) | with_reducible exact H |(rw [hy418];exact H) | exact H
     have Ny418:=am hy418
     clear hy418
     simp only [Option.some.injEq,Prod.mk.injEq] at H
     obtain ⟨rfl,rfl⟩:=H
     go_enter Try.func87,Try.ntmps87
     try go_wp2_with (first |((with_reducible refine jI (N:=2) rfl ?_);refine bE (N:=2) (cs:=#[.slice none 0 0]) (t:=37) ?_;intro gb397 hg w34 hbox hb;have BK397:=am (hbox);have GW397:=am ((Y7:w.heap.size≤gb397));have GE397:=am ((Nat.le_trans HW0.out (Y7:w.heap.size≤gb397):w0.heap.size≤gb397));have NB0_397:=am ((Y25:g≠gb397));have NB397_0:=am ((Y26:gb397≠g));replace HK:=am (jd.trans (Y14) (jd.of_below hb g none) (.inl rfl));replace HB:=am (jk (Y15) hb);replace HI0:=am (jb.below (Y13) hb);clear hb hbox hg) |((with_reducible refine jB (f:=105) rfl ?_);refine gL (some 6) Try.func105 #[.pointer (some ⟨g,0,none⟩)] ?_;(with_reducible refine (jR.calls k g s0_0 s0_1 t398 t401 w0 _ ?side1 ?side2 A2.out).mono ?_);(case side1=>exact Y53);(case side2=>exact Y54);rintro e w35 ⟨v399,rfl,ho0,hi,hb,hk⟩;refine ⟨_,rfl,?_⟩;have HO400:=am (Kd.jea ho0 (jda (w:=w) (g:=g) (row:=none) (Y32)));replace BK397:=am (jd.blk hk (g':=gb397) (o:=.cells #[.slice none 0 0] 37 (0,0)) (kq BK397.out) NB397_0.out (by simp));replace HK:=am (jd.trans (Y32) hk (.inl rfl));replace HB:=am (hb);replace HI0:=am (hi);(try clear hb);(try clear hb2);(try clear hk);(try clear hi);(try clear ho0)) |((with_reducible refine jI (N:=3) rfl ?_);refine bE (N:=3) (cs:=#[.slice none 0 0]) (t:=37) ?_;intro gb402 hg w36 hbox hb;have BK402:=am (hbox);have GW402:=am ((Y55:w.heap.size≤gb402));have GE402:=am ((Nat.le_trans HW0.out (Y55:w.heap.size≤gb402):w0.heap.size≤gb402));have NB397_402:=am ((Y100:gb397≠gb402));have NB402_397:=am ((Y101:gb402≠gb397));have NB0_402:=am ((Y102:g≠gb402));have NB402_0:=am ((Y103:gb402≠g));replace HO400:=am (Kd.jaa (rq HO400.out) hb);replace BK397:=am (jh (g:=gb397) (o:=.cells #[.slice none 0 0] 37 (0,0)) (kq BK397.out) hb);replace HK:=am (jd.trans (Y32) (jd.of_below hb g none) (.inl rfl));replace HB:=am (jk (Y54) hb);replace HI0:=am (jb.below (Y53) hb);clear hb hbox hg;obtain ⟨Ao37,co37,eo37⟩:=Kd.jW HO400.out;subst eo37;have hnb38:=NB402_397.out;have hnc38:=NB397_402.out;have hnb39:=NB402_0.out;have hnc39:=NB0_402.out;have hcz40_0:=bc0 BK402.out;have hfz40_0:=jc BK402.out 0) |((with_reducible refine jB (f:=88) rfl ?_);refine gL (some 11) Try.func88 #[.pointer (some ⟨g,0,none⟩), .int .i64 (t398.length:Int)] ?_;(with_reducible refine (jl.calls k g s0_0 t401 (t398.length:Int) t403 t404 w0 _ ?side1 ?side2 A3.out).mono ?_);(case side1=>exact Y9);(case side2=>exact Y28);rintro e w41 ⟨rfl,hi,hb,hk⟩;refine ⟨_,rfl,?_⟩;replace BK397:=am (jd.blk hk (g':=gb397) (o:=.cells #[.slice none 0 0] 37 (0,0)) (Y104) NB397_0.out (by simp));replace HO400:=am (Kd.jE (Kd.jqa (jb.apart (show jb w0 _ g s0_0 t401 from Y9) (by (with_reducible repeat (first | apply Kd.jO | apply Kd.jQ | apply Kd.jM));exact (Kd.jE (Kd.jX (p:=⟨gb402,0,none⟩) (Kd.jN HO400.out BK402.out (by decide)) (fun _ hk=>hk.2) (.slice Ao37 t398.length co37)) (fun _ h_=>h_.1))) (by decide)) hk (fun _ h=>h.2)) (fun _ h=>h.1));replace BK402:=am (jd.blk hk (g':=gb402) (o:=.cells #[.slice Ao37 t398.length co37] 37 (0,0)) (Y105) NB402_0.out (by simp));replace HK:=am (jd.trans (Y20) hk (.inl rfl));replace HB:=am (hb);replace HI0:=am (hi);(try clear hb);(try clear hb2);(try clear hk);(try clear hi)) |((with_reducible refine jB (f:=88) rfl ?_);refine gL (some 13) Try.func88 #[.pointer (some ⟨g,0,none⟩), .int .i64 24] ?_;(with_reducible refine (jl.calls k g s0_0 t404 24 t405 t406 w0 _ ?side1 ?side2 A4.out).mono ?_);(case side1=>exact Y9);(case side2=>exact Y28);rintro e w42 ⟨rfl,hi,hb,hk⟩;refine ⟨_,rfl,?_⟩;replace BK397:=am (jd.blk hk (g':=gb397) (o:=.cells #[.slice none 0 0] 37 (0,0)) (kq BK397.out) NB397_0.out (by simp));replace HO400:=am (Kd.jE (Kd.jqa (jb.apart (show jb w0 _ g s0_0 t404 from Y9) (rq HO400.out) (by decide)) hk (fun _ h=>h.2)) (fun _ h=>h.1));replace BK402:=am (jd.blk hk (g':=gb402) (o:=.cells #[.slice Ao37 t398.length co37] 37 (0,0)) (kq BK402.out) NB402_0.out (by simp));replace HK:=am (jd.trans (Y20) hk (.inl rfl));replace HB:=am (hb);replace HI0:=am (hi);(try clear hb);(try clear hb2);(try clear hk);(try clear hi)))
     replace HO400:=am (Kd.jM HO400.out)
     replace BK397:=am (jg BK397.out)
     replace BK402:=am (jg BK402.out)
     replace HI0:=am (jb.drew HI0.out)
     replace HK:=am (jZ HK.out)
     replace HB:=am (jv HB.out)
     refine jHb (n:=10) (S:=fun w'=>w'.cell? ⟨gb402,0,none⟩=some (.slice Ao37 t398.length co37)) (ds:=[9]) #[false,false,false,false,false,false,false,false,false,false] (by kernel_rfl) rfl rfl ((jH BK402.out 0).trans rfl) (fun hHeld=>?_);refine jnb jba.tab7 jba.bits7 (fun HT_ HW_=>?_)
     generalize w42.drew=w43 at HO400 BK397 BK402 HI0 HK HB hHeld ⊢
     refine pq (i:=0) (N:=some 26) #[true,false,false,false,false,false,false,false,false,false] ?_
     refine pq (i:=2) (N:=some 28) #[true,false,true,false,false,false,false,false,false,false] ?_
     refine pq (i:=3) (N:=some 29) #[true,false,true,true,false,false,false,false,false,false] ?_
     refine pq (i:=4) (N:=some 30) #[true,false,true,true,true,false,false,false,false,false] ?_
     refine job (i:=1) (N:=some 27) (v:=?_) (a':=?_) #[true,true,true,true,true,false,false,false,false,false] rfl rfl (jLa HT_.out HW_.out (by kernel_rfl)) (fun _ _ _ h=>h) (Or.inl ⟨by rfl,?_⟩) hHeld ?_ ?_
     rotate_left
     ·intro w' s0
      go_simp
      with_reducible rfl
     rotate_left
     ·exact sa
     refine one_ (i:=5) (N:=some 31) #[true,true,true,true,true,true,false,false,false,false] rfl rfl (jZa HT_.out (by kernel_rfl)) (by decide) (fun K hK=>?_)
     refine Kd.jKb (Kd.int .i64) _ 3 ?hg (N:=31) ?hd (xs:=([t403,(-1),8,(-2)]:List Int)) (inner:=[.int .i64 t403, .int .i64 (-1), .int .i64 8, .int .i64 (-2)]) (ok:=fun _=>True) (okp:=fun _=>True) ?hr ?hp (fun _ hk=>hk) trivial (Below.refl _ _) (Nat.le_refl _) (by simp) ?_;(case hd=>rfl);(case hg=>rfl);(case hr=>exact Y4);(case hp=>exact (Reps.one (show Kd.M (Kd.int .i64) _ _ _ t403 [.int .i64 t403] from rfl) (Reps.one (show Kd.M (Kd.int .i64) _ _ _ (-1) [.int .i64 (-1)] from rfl) (Reps.one (show Kd.M (Kd.int .i64) _ _ _ 8 [.int .i64 8] from rfl) (Reps.one (show Kd.M (Kd.int .i64) _ _ _ (-2) [.int .i64 (-2)] from rfl) (Reps.none _ _))))))
     intro v414 w44 ho45 hb hg_ hnew_
     clear hg_ hnew_
     (first | rw [← Ny413.out] at ho45 |(simp only [Int.reduceToNat] at ho45;rw [← Ny413.out] at ho45))
     have HO415:=am (Kd.jea ho45 (jda (w:=w) (g:=g) (row:=none) (Y20)))
     replace HO400:=am (Kd.jaa (rq HO400.out) hb)
     replace BK397:=am (jh (g:=gb397) (o:=.cells #[.slice none 0 0] 37 (0,0)) (kq BK397.out) hb)
     replace BK402:=am (jh (g:=gb402) (o:=.cells #[.slice Ao37 t398.length co37] 37 (0,0)) (kq BK402.out) hb)
     replace HK:=am (jd.trans (Y20) (jd.of_below hb g none) (.inl rfl))
     replace HB:=am (jk (Y28) hb)
     replace HI0:=am (jb.below (Y9) hb)
     clear hb ho45
     obtain ⟨Ao46,co46,eo46⟩:=Kd.jW HO415.out
     (first | subst eo46 |(injection eo46 with f1_ f2_ f3_;have f4_:=f1_.symm;have f5_:=f3_.symm;clear f1_ f2_ f3_;subst f4_;subst f5_))
     refine hK.out _ _ ((jH BK402.out 0).trans rfl) (fun hHeld=>?_)
     clear hK K
     refine jMb (a':=?_) ?_ ?_
     rotate_left
     ·show Act.put _ (some 31) _=_
      simp only [Act.put,List.setIfInBounds_toArray,List.set_cons_zero,List.set_cons_succ,jqb,jub]
      rfl
     refine one_ (i:=6) (N:=some 32) #[true,true,true,true,true,true,true,false,false,false] rfl rfl (jZa HT_.out (by kernel_rfl)) (by decide) (fun K hK=>?_)
     refine goes_ Try.func89 (by kernel_rfl) rfl #[.pointer (some ⟨g,0,none⟩), .slice Ao46 y413.length co46] (by rfl) rfl rfl (aq) ?_
     with_reducible refine (jy.calls k g s0_0 t406 _ _ y413 t416 t417 w0 _ ?side1 ?side2 ?side3 ?side4 ?side5 A30.out).mono ?_
     (case side1=>exact Y9)
     (case side2=>exact Y28)
     (case side3=>exact cq (Kd.jw HO415.out).2.2)
     (case side4=>exact (Kd.jw HO415.out).2.1)
     (case side5=>exact jwb (jb.own_ne HI0.out HO415.out (by decide)))
     rintro e w47 ⟨rfl,hi,hb,hk⟩
     refine ⟨_,rfl,?_⟩
     replace BK397:=am (jd.blk hk (g':=gb397) (o:=.cells #[.slice none 0 0] 37 (0,0)) (kq BK397.out) NB397_0.out (by simp))
     replace HO400:=am (Kd.jE (Kd.jqa (jb.apart (show jb w0 _ g s0_0 t406 from Y9) (rq HO400.out) (by decide)) hk (fun _ h=>h.2)) (fun _ h=>h.1))
     replace BK402:=am (jd.blk hk (g':=gb402) (o:=.cells #[.slice Ao37 t398.length co37] 37 (0,0)) (kq BK402.out) NB402_0.out (by simp))
     replace HO415:=am (Kd.jE (Kd.jqa (jb.apart (show jb w0 _ g s0_0 t406 from Y9) (rq HO415.out) (by decide)) hk (fun _ h=>h.2)) (fun _ h=>h.1))
     replace HK:=am (jd.trans (Y20) hk (.inl rfl))
     replace HB:=am (hb)
     replace HI0:=am (hi)
     (try clear hb)
     (try clear hb2)
     (try clear hk)
     (try clear hi)
     have p33:0≤(t403:Int):=ozD (uq)
     have q33:(t403:Int)<((t398.length:Int):Int):=ozD (uq)
     obtain ⟨go33,co33,eo33,gb33,gl33,cl33,HG33⟩:=Kd.R_form HO400.out (by omega)
     (first | cases eo33 |(injection eo33 with ea_ en_ ec_;(first | subst ea_ |(injection ea_ with ea_;subst ea_));subst ec_;clear en_))
     have GB33:=am gb33
     have GG33:=am HG33
     clear gb33 gl33 HG33
     obtain ⟨ce33,hcl33,hM33,hcc33,hfr33⟩:=Kd.jzb HO400.out z94 (t403:Int) p33 q33
     obtain rfl:=k94_openM hM33
     have hx33_0:World.cell? _ ⟨go33,(t403:Int).toNat * 2,none⟩=some (.string ((jV t398 t403).f0)):=hcc33 0 _ rfl
     have hx33_1:World.cell? _ ⟨go33,(t403:Int).toNat * 2+1,none⟩=some (.int .i64 ((jV t398 t403).f1)):=hcc33 1 _ rfl
     have hf33_0:World.frozen? _ ⟨go33,(t403:Int).toNat * 2,none⟩=false:=hfr33 0
     have hf33_1:World.frozen? _ ⟨go33,(t403:Int).toNat * 2+1,none⟩=false:=hfr33 1
     clear hcl33 hcc33 hfr33 hM33
     replace p33:=ezT p33
     replace q33:=ezT q33
     have HN0_go33:=am (show g≠go33 from by have h_:=jb.own_ne HI0.out HO400.out (by decide);intro e_;exact h_ (by rw [e_];rfl))
     obtain ⟨ce48,hcl48,hM48,hcc48,hfr48⟩:=Kd.jzb HO400.out z94 (t403:Int) (ozD (uq)) (by have h_:(t403:Int)<((t398.length:Int):Int):=ozD (uq);first | exact h_ |(have e_:=(Kd.jw HO400.out).1;omega) | simpa using h_)
     obtain rfl:=k94_openM hM48
     have HP48:=(Kd.R_seg HO400.out (t403:Int) (ozD (uq)) (by have h_:(t403:Int)<((t398.length:Int):Int):=ozD (uq);first | exact h_ |(have e_:=(Kd.jw HO400.out).1;omega) | simpa using h_) (seg:=[.int .i64 t416]) (j:=1) hcl48 hcc48 (show 2≤2 from by decide) (x':=(⟨(jV t398 t403).f0,t416⟩:S94)) (k94_mkM _ _ _ (⟨(jV t398 t403).f0,t416⟩:S94) ) (fun _ hk=>hk)).1
     rw [← Ny418.out] at HP48
     have HQ48:=am HP48
     clear hcl48 hcc48 hfr48 hM48 HP48
     refine hK.out _ _ ((jH BK402.out 0).trans rfl) (fun hHeld=>?_)
     clear hK K
     refine jMb (a':=?_) ?_ ?_
     rotate_left
     ·show Act.put _ (some 32) _=_
      simp only [Act.put,List.setIfInBounds_toArray,List.set_cons_zero,List.set_cons_succ,jqb,jub]
      rfl
     refine pq (i:=7) (N:=some 33) #[true,true,true,true,true,true,true,true,false,false] ?_
     refine pq (i:=8) (N:=some 34) #[true,true,true,true,true,true,true,true,true,false] ?_
     refine last_ (i:=9) (N:=none) #[true,true,true,true,true,true,true,true,true,true] rfl rfl (jZa HT_.out (by kernel_rfl)) (by decide) (fun K hK=>?_)
     refine jUb (w1:=?_) (by rfl) rfl ?_ ?_
     rotate_left
     ·go_simp
      rfl
     refine hK.out _ _ ?_
     clear hK K
     refine jgc (jNb HT_.out (by kernel_rfl)) ?_
     have n0_:jC (Kd.R k94 94 (w47.setCell ⟨go33,(t403:Int).toNat * 2+1,none⟩ (.int .i64 t416)) w.heap.size (fun _=>True) (.slice (some ⟨go33,0,none⟩) t398.length co37) y418):=⟨rq HQ48.out⟩
     have n1_:jC (Kd.R (Kd.int .i64) 3 (w47.setCell ⟨go33,(t403:Int).toNat * 2+1,none⟩ (.int .i64 t416)) w.heap.size (fun _=>True) (.slice Ao46 y413.length co46) y413):=⟨by (with_reducible repeat (first | apply Kd.jO | apply Kd.jQ | apply Kd.jM));exact Kd.jE (Kd.jX (p:=⟨go33,(t403:Int).toNat * 2+1,none⟩) (Kd.jN HO415.out GG33.out (by decide)) (fun _ hk=>hk.2) (.int .i64 t416)) (fun _ hk=>trivial)⟩
     have n2_:jC ((w47.setCell ⟨go33,(t403:Int).toNat * 2+1,none⟩ (.int .i64 t416)).heap[gb397]?=some (.cells #[.slice none 0 0] 37 (0,0))):=⟨by (with_reducible repeat (first | refine je ?_ _ | refine jg ?_ | refine jf ?_ _));refine jJ ?_ (by have h_:=Kd.R_ne HO400.out BK397.out (by decide);intro e_;exact h_ (by rw [e_];rfl)) _;(with_reducible repeat (first | refine je ?_ _ | refine jg ?_ | refine jf ?_ _));exact BK397.out⟩
     have n3_:jC ((w47.setCell ⟨go33,(t403:Int).toNat * 2+1,none⟩ (.int .i64 t416)).heap[gb402]?=some (.cells #[.slice (some ⟨go33,0,none⟩) t398.length co37] 37 (0,0))):=⟨by (with_reducible repeat (first | refine je ?_ _ | refine jg ?_ | refine jf ?_ _));refine jJ ?_ (by have h_:=Kd.R_ne HO400.out BK402.out (by decide);intro e_;exact h_ (by rw [e_];rfl)) _;(with_reducible repeat (first | refine je ?_ _ | refine jg ?_ | refine jf ?_ _));exact BK402.out⟩
     have n4_:jC (jb w0 (w47.setCell ⟨go33,(t403:Int).toNat * 2+1,none⟩ (.int .i64 t416)) g s0_0 t417):=⟨by repeat (first |(with_reducible first | exact HI0.out | apply jb.alloc | apply jb.drewN | apply jb.drew | apply jb.jhb | refine jb.far ?_ HN0_go33.out _ | refine jb.far ?_ NB0_397.out _ | refine jb.far ?_ NB0_402.out _) | exact HI0.out)⟩
     have n5_:jC (jd w (w47.setCell ⟨go33,(t403:Int).toNat * 2+1,none⟩ (.int .i64 t416)) g none):=⟨by repeat (first |(with_reducible first | exact HK.out | apply jd.set_ | apply jma | apply jZ | apply jna | refine jP ?_ GB33.out _ | refine jP ?_ GW397.out _ | refine jP ?_ GW402.out _) | exact HK.out)⟩
     have n6_:jC (Below w0.heap.size w0 (w47.setCell ⟨go33,(t403:Int).toNat * 2+1,none⟩ (.int .i64 t416))):=⟨by repeat (first |(with_reducible first | exact HB.out | apply jA | apply jq | apply jv | refine jm ?_ (Nat.le_trans HL.out GB33.out) | refine jm ?_ (jb.ge HI0.out) | refine jm ?_ GE397.out | refine jm ?_ GE402.out) | exact HB.out)⟩
     (try clear HO400)
     (try clear HO415)
     (try clear BK397)
     (try clear BK402)
     (try clear HI0)
     (try clear HK)
     (try clear HB)
     generalize (w47.setCell ⟨go33,(t403:Int).toNat * 2+1,none⟩ (.int .i64 t416))=w49 at n0_ n1_ n2_ n3_ n4_ n5_ n6_ ⊢
     have HO400:=n0_
     have HO415:=n1_
     have BK397:=n2_
     have BK402:=n3_
     have HI0:=n4_
     have HK:=n5_
     have HB:=n6_
     clear n0_ n1_ n2_ n3_ n4_ n5_ n6_
     have hcz50_0:=bc0 BK402.out
     have hfz50_0:=jc BK402.out 0
     have hnb51:=NB397_0.out
     have hnc51:=NB0_397.out
     have hcz52_0:=bc0 BK397.out
     have hfz52_0:=jc BK397.out 0
     try go_wp2
     refine bodyPost_ret (results_cell_row rfl _ _ gb397 37 #[.slice (some ⟨go33,0,none⟩) t398.length co37] (0,0) _ rfl (Y106) Try.underlying37 rfl (by kernel_rfl)) rfl ?_
     exact ⟨_,Y1,by (with_reducible repeat (first | apply Kd.jO | apply Kd.jQ | apply Kd.jM));exact Kd.jE (Kd.jX (p:=⟨gb397,0,none⟩) (Kd.jN HO400.out BK397.out (by decide)) (fun _ hk=>hk.2) (.slice (some ⟨go33,0,none⟩) t398.length co37)) (fun _ hk=>trivial),Y9,Y28,Y20⟩
    ·rw [if_neg c32] at H
     exact absurd H (by simp)
   ·rw [if_neg c31] at H
    exact absurd H (by simp)
  ·rw [if_neg c29] at H
   have c29b0:(t405 == 1)=false:=beq_eq_false_iff_ne.mpr c29
   have c29b1:(t405 != 1)=true:=bne_iff_ne.mpr c29
   by_cases c53:t405=2
   ·rw [if_pos c53] at H
    have c53b0:(t405 == 2)=true:=beq_iff_eq.mpr c53
    have c53b1:(t405 != 2)=false:=bne_eq_false_iff_eq.mpr c53
    clear c53
    simp only [Option.some.injEq,Prod.mk.injEq] at H
    obtain ⟨rfl,rfl⟩:=H
    go_enter Try.func87,Try.ntmps87
    go_wp2_with (first |((with_reducible refine jI (N:=2) rfl ?_);refine bE (N:=2) (cs:=#[.slice none 0 0]) (t:=37) ?_;intro gb397 hg w54 hbox hb;have BK397:=am (hbox);have GW397:=am ((Y7:w.heap.size≤gb397));have GE397:=am ((Nat.le_trans HW0.out (Y7:w.heap.size≤gb397):w0.heap.size≤gb397));have NB0_397:=am ((Y25:g≠gb397));have NB397_0:=am ((Y26:gb397≠g));replace HK:=am (jd.trans (Y14) (jd.of_below hb g none) (.inl rfl));replace HB:=am (jk (Y15) hb);replace HI0:=am (jb.below (Y13) hb);clear hb hbox hg) |((with_reducible refine jB (f:=105) rfl ?_);refine gL (some 6) Try.func105 #[.pointer (some ⟨g,0,none⟩)] ?_;(with_reducible refine (jR.calls k g s0_0 s0_1 t398 t401 w0 _ ?side1 ?side2 A2.out).mono ?_);(case side1=>exact Y53);(case side2=>exact Y54);rintro e w55 ⟨v399,rfl,ho0,hi,hb,hk⟩;refine ⟨_,rfl,?_⟩;have HO400:=am (Kd.jea ho0 (jda (w:=w) (g:=g) (row:=none) (Y32)));replace BK397:=am (jd.blk hk (g':=gb397) (o:=.cells #[.slice none 0 0] 37 (0,0)) (kq BK397.out) NB397_0.out (by simp));replace HK:=am (jd.trans (Y32) hk (.inl rfl));replace HB:=am (hb);replace HI0:=am (hi);(try clear hb);(try clear hb2);(try clear hk);(try clear hi);(try clear ho0)) |((with_reducible refine jI (N:=3) rfl ?_);refine bE (N:=3) (cs:=#[.slice none 0 0]) (t:=37) ?_;intro gb402 hg w56 hbox hb;have BK402:=am (hbox);have GW402:=am ((Y55:w.heap.size≤gb402));have GE402:=am ((Nat.le_trans HW0.out (Y55:w.heap.size≤gb402):w0.heap.size≤gb402));have NB397_402:=am ((Y100:gb397≠gb402));have NB402_397:=am ((Y101:gb402≠gb397));have NB0_402:=am ((Y102:g≠gb402));have NB402_0:=am ((Y103:gb402≠g));replace HO400:=am (Kd.jaa (rq HO400.out) hb);replace BK397:=am (jh (g:=gb397) (o:=.cells #[.slice none 0 0] 37 (0,0)) (kq BK397.out) hb);replace HK:=am (jd.trans (Y32) (jd.of_below hb g none) (.inl rfl));replace HB:=am (jk (Y54) hb);replace HI0:=am (jb.below (Y53) hb);clear hb hbox hg;obtain ⟨Ao57,co57,eo57⟩:=Kd.jW HO400.out;subst eo57;have hnb58:=NB402_397.out;have hnc58:=NB397_402.out;have hnb59:=NB402_0.out;have hnc59:=NB0_402.out;have hcz60_0:=bc0 BK402.out;have hfz60_0:=jc BK402.out 0) |((with_reducible refine jB (f:=88) rfl ?_);refine gL (some 11) Try.func88 #[.pointer (some ⟨g,0,none⟩), .int .i64 (t398.length:Int)] ?_;(with_reducible refine (jl.calls k g s0_0 t401 (t398.length:Int) t403 t404 w0 _ ?side1 ?side2 A3.out).mono ?_);(case side1=>exact Y9);(case side2=>exact Y28);rintro e w61 ⟨rfl,hi,hb,hk⟩;refine ⟨_,rfl,?_⟩;replace BK397:=am (jd.blk hk (g':=gb397) (o:=.cells #[.slice none 0 0] 37 (0,0)) (Y104) NB397_0.out (by simp));replace HO400:=am (Kd.jE (Kd.jqa (jb.apart (show jb w0 _ g s0_0 t401 from Y9) (by (with_reducible repeat (first | apply Kd.jO | apply Kd.jQ | apply Kd.jM));exact (Kd.jE (Kd.jX (p:=⟨gb402,0,none⟩) (Kd.jN HO400.out BK402.out (by decide)) (fun _ hk=>hk.2) (.slice Ao57 t398.length co57)) (fun _ h_=>h_.1))) (by decide)) hk (fun _ h=>h.2)) (fun _ h=>h.1));replace BK402:=am (jd.blk hk (g':=gb402) (o:=.cells #[.slice Ao57 t398.length co57] 37 (0,0)) (Y105) NB402_0.out (by simp));replace HK:=am (jd.trans (Y20) hk (.inl rfl));replace HB:=am (hb);replace HI0:=am (hi);(try clear hb);(try clear hb2);(try clear hk);(try clear hi)) |((with_reducible refine jB (f:=88) rfl ?_);refine gL (some 13) Try.func88 #[.pointer (some ⟨g,0,none⟩), .int .i64 24] ?_;(with_reducible refine (jl.calls k g s0_0 t404 24 t405 t406 w0 _ ?side1 ?side2 A4.out).mono ?_);(case side1=>exact Y9);(case side2=>exact Y28);rintro e w62 ⟨rfl,hi,hb,hk⟩;refine ⟨_,rfl,?_⟩;replace BK397:=am (jd.blk hk (g':=gb397) (o:=.cells #[.slice none 0 0] 37 (0,0)) (kq BK397.out) NB397_0.out (by simp));replace HO400:=am (Kd.jE (Kd.jqa (jb.apart (show jb w0 _ g s0_0 t404 from Y9) (rq HO400.out) (by decide)) hk (fun _ h=>h.2)) (fun _ h=>h.1));replace BK402:=am (jd.blk hk (g':=gb402) (o:=.cells #[.slice Ao57 t398.length co57] 37 (0,0)) (kq BK402.out) NB402_0.out (by simp));replace HK:=am (jd.trans (Y20) hk (.inl rfl));replace HB:=am (hb);replace HI0:=am (hi);(try clear hb);(try clear hb2);(try clear hk);(try clear hi);have hnb63:=NB397_0.out;have hnc63:=NB0_397.out;have hcz64_0:=bc0 BK397.out;have hfz64_0:=jc BK397.out 0))
    refine bodyPost_ret (results_cell_row rfl _ _ gb397 37 #[.slice none 0 0] (0,0) _ rfl (Y106) Try.underlying37 rfl (by kernel_rfl)) rfl ?_
    exact ⟨_,Y1,Y117,Y9,Y28,Y20⟩
   ·rw [if_neg c53] at H
    have c53b0:(t405 == 2)=false:=beq_eq_false_iff_ne.mpr c53
    have c53b1:(t405 != 2)=true:=bne_iff_ne.mpr c53
    simp only [Option.some.injEq,Prod.mk.injEq] at H
    obtain ⟨rfl,rfl⟩:=H
    go_enter Try.func87,Try.ntmps87
    go_wp2_with (first |((with_reducible refine jI (N:=2) rfl ?_);refine bE (N:=2) (cs:=#[.slice none 0 0]) (t:=37) ?_;intro gb397 hg w65 hbox hb;have BK397:=am (hbox);have GW397:=am ((Y7:w.heap.size≤gb397));have GE397:=am ((Nat.le_trans HW0.out (Y7:w.heap.size≤gb397):w0.heap.size≤gb397));have NB0_397:=am ((Y25:g≠gb397));have NB397_0:=am ((Y26:gb397≠g));replace HK:=am (jd.trans (Y14) (jd.of_below hb g none) (.inl rfl));replace HB:=am (jk (Y15) hb);replace HI0:=am (jb.below (Y13) hb);clear hb hbox hg) |((with_reducible refine jB (f:=105) rfl ?_);refine gL (some 6) Try.func105 #[.pointer (some ⟨g,0,none⟩)] ?_;(with_reducible refine (jR.calls k g s0_0 s0_1 t398 t401 w0 _ ?side1 ?side2 A2.out).mono ?_);(case side1=>exact Y53);(case side2=>exact Y54);rintro e w66 ⟨v399,rfl,ho0,hi,hb,hk⟩;refine ⟨_,rfl,?_⟩;have HO400:=am (Kd.jea ho0 (jda (w:=w) (g:=g) (row:=none) (Y32)));replace BK397:=am (jd.blk hk (g':=gb397) (o:=.cells #[.slice none 0 0] 37 (0,0)) (kq BK397.out) NB397_0.out (by simp));replace HK:=am (jd.trans (Y32) hk (.inl rfl));replace HB:=am (hb);replace HI0:=am (hi);(try clear hb);(try clear hb2);(try clear hk);(try clear hi);(try clear ho0)) |((with_reducible refine jI (N:=3) rfl ?_);refine bE (N:=3) (cs:=#[.slice none 0 0]) (t:=37) ?_;intro gb402 hg w67 hbox hb;have BK402:=am (hbox);have GW402:=am ((Y55:w.heap.size≤gb402));have GE402:=am ((Nat.le_trans HW0.out (Y55:w.heap.size≤gb402):w0.heap.size≤gb402));have NB397_402:=am ((Y100:gb397≠gb402));have NB402_397:=am ((Y101:gb402≠gb397));have NB0_402:=am ((Y102:g≠gb402));have NB402_0:=am ((Y103:gb402≠g));replace HO400:=am (Kd.jaa (rq HO400.out) hb);replace BK397:=am (jh (g:=gb397) (o:=.cells #[.slice none 0 0] 37 (0,0)) (kq BK397.out) hb);replace HK:=am (jd.trans (Y32) (jd.of_below hb g none) (.inl rfl));replace HB:=am (jk (Y54) hb);replace HI0:=am (jb.below (Y53) hb);clear hb hbox hg;obtain ⟨Ao68,co68,eo68⟩:=Kd.jW HO400.out;subst eo68;have hnb69:=NB402_397.out;have hnc69:=NB397_402.out;have hnb70:=NB402_0.out;have hnc70:=NB0_402.out;have hcz71_0:=bc0 BK402.out;have hfz71_0:=jc BK402.out 0) |((with_reducible refine jB (f:=88) rfl ?_);refine gL (some 11) Try.func88 #[.pointer (some ⟨g,0,none⟩), .int .i64 (t398.length:Int)] ?_;(with_reducible refine (jl.calls k g s0_0 t401 (t398.length:Int) t403 t404 w0 _ ?side1 ?side2 A3.out).mono ?_);(case side1=>exact Y9);(case side2=>exact Y28);rintro e w72 ⟨rfl,hi,hb,hk⟩;refine ⟨_,rfl,?_⟩;replace BK397:=am (jd.blk hk (g':=gb397) (o:=.cells #[.slice none 0 0] 37 (0,0)) (Y104) NB397_0.out (by simp));replace HO400:=am (Kd.jE (Kd.jqa (jb.apart (show jb w0 _ g s0_0 t401 from Y9) (by (with_reducible repeat (first | apply Kd.jO | apply Kd.jQ | apply Kd.jM));exact (Kd.jE (Kd.jX (p:=⟨gb402,0,none⟩) (Kd.jN HO400.out BK402.out (by decide)) (fun _ hk=>hk.2) (.slice Ao68 t398.length co68)) (fun _ h_=>h_.1))) (by decide)) hk (fun _ h=>h.2)) (fun _ h=>h.1));replace BK402:=am (jd.blk hk (g':=gb402) (o:=.cells #[.slice Ao68 t398.length co68] 37 (0,0)) (Y105) NB402_0.out (by simp));replace HK:=am (jd.trans (Y20) hk (.inl rfl));replace HB:=am (hb);replace HI0:=am (hi);(try clear hb);(try clear hb2);(try clear hk);(try clear hi)) |((with_reducible refine jB (f:=88) rfl ?_);refine gL (some 13) Try.func88 #[.pointer (some ⟨g,0,none⟩), .int .i64 24] ?_;(with_reducible refine (jl.calls k g s0_0 t404 24 t405 t406 w0 _ ?side1 ?side2 A4.out).mono ?_);(case side1=>exact Y9);(case side2=>exact Y28);rintro e w73 ⟨rfl,hi,hb,hk⟩;refine ⟨_,rfl,?_⟩;replace BK397:=am (jd.blk hk (g':=gb397) (o:=.cells #[.slice none 0 0] 37 (0,0)) (kq BK397.out) NB397_0.out (by simp));replace HO400:=am (Kd.jE (Kd.jqa (jb.apart (show jb w0 _ g s0_0 t404 from Y9) (rq HO400.out) (by decide)) hk (fun _ h=>h.2)) (fun _ h=>h.1));replace BK402:=am (jd.blk hk (g':=gb402) (o:=.cells #[.slice Ao68 t398.length co68] 37 (0,0)) (kq BK402.out) NB402_0.out (by simp));replace HK:=am (jd.trans (Y20) hk (.inl rfl));replace HB:=am (hb);replace HI0:=am (hi);(try clear hb);(try clear hb2);(try clear hk);(try clear hi);have hcz74_0:=bc0 BK402.out;have hfz74_0:=jc BK402.out 0;have hnb75:=NB397_0.out;have hnc75:=NB0_397.out;have hcz76_0:=bc0 BK397.out;have hfz76_0:=jc BK397.out 0))
    refine bodyPost_ret (results_cell_row rfl _ _ gb397 37 #[.slice Ao68 t398.length co68] (0,0) _ rfl (Y106) Try.underlying37 rfl (by kernel_rfl)) rfl ?_
    exact ⟨_,Y1,by (with_reducible repeat (first | apply Kd.jO | apply Kd.jQ | apply Kd.jM));exact Kd.jE (Kd.jX (p:=⟨gb397,0,none⟩) (Kd.jN HO400.out BK397.out (by decide)) (fun _ hk=>hk.2) (.slice Ao68 t398.length co68)) (fun _ hk=>trivial),Y9,Y28,Y20⟩
def jjb.f (k : Nat) (s0_0 : List Int) (s0_1 : Int) (l1_0 : List (S94)) : Option (Int × Int) := (jl.f k s0_0 s0_1 16).bind fun bt420 => (if bt420.1 = 0 then ((jy.f k s0_0 bt420.2 (([(-1), (l1_0.length : Int), 8] : List Int))).bind fun bt425 => (some (bt425.1, bt425.2))) else ((jl.f k s0_0 bt420.2 (l1_0.length : Int)).bind fun bt427 => (some (bt427.1, bt427.2))))
set_option maxHeartbeats 8000000 in
set_option maxRecDepth 100000 in
theorem jjb.calls (k : Nat) (g : Nat) (s0_0 : List Int) (s0_1 : Int) (A1_0 : Option Addr) (c1_0 : Nat) (l1_0 : List (S94)) (r1 : Int) (r2 : Int) (w0 w : World) (hI : jb w0 w g s0_0 s0_1) (hB : Below w0.heap.size w0 w) (hr1_0 : ∀ W_, jd w W_ g none → Kd.C k94 W_ A1_0 l1_0.length l1_0) (hc1_0 : l1_0.length ≤ c1_0) (h : jjb.f k s0_0 s0_1 l1_0 = some (r1, r2)) :
  Calls Try.prog 90 #[.pointer (some ⟨g,0,none⟩), .agg #[.slice A1_0 l1_0.length c1_0]] w fun e w'=>e=.returned (.int .i64 r1)∧jb w0 w' g s0_0 r2∧Below w0.heap.size w0 w'∧jd w w' g none:=by
 have hu37:=Try.underlying37
 have HR1_0:=am hr1_0
 have HC1_0:=am hc1_0
 clear hr1_0 hc1_0
 have HI0:=am hI
 have HK:=am (jd.refl w g none)
 have HL:=am hB.size
 clear hI
 have HW0:=am hB.size
 have HB:=am hB
 clear hB
 have H:((jl.f k s0_0 s0_1 16).bind fun bt420=>(if bt420.1=0 then ((jy.f k s0_0 bt420.2 (([(-1),(l1_0.length:Int),8]:List Int))).bind fun bt425=>(some (bt425.1,bt425.2))) else ((jl.f k s0_0 bt420.2 (l1_0.length:Int)).bind fun bt427=>(some (bt427.1,bt427.2)))))=some (r1,r2):=h
 clear h
 replace H:=bzS H
 obtain ⟨⟨t420,t421⟩,A30,H⟩:=H
 replace H:(if t420=0 then ((jy.f k s0_0 t421 (([(-1),(l1_0.length:Int),8]:List Int))).bind fun bt425=>(some (bt425.1,bt425.2))) else ((jl.f k s0_0 t421 (l1_0.length:Int)).bind fun bt427=>(some (bt427.1,bt427.2))))=some (r1,r2):=H
 have A3:=am A30
 clear A30
 by_cases c4:t420=0
 ·rw [if_pos c4] at H
  have c4b0:(t420 == 0)=true:=beq_iff_eq.mpr c4
  have c4b1:(t420 != 0)=false:=bne_eq_false_iff_eq.mpr c4
  clear c4
  obtain ⟨y422,hy422⟩:∃ y_:List Int,y_=(([(-1),(l1_0.length:Int),8]:List Int)):=⟨_,rfl⟩
  replace H:((jy.f k s0_0 t421 y422).bind fun bt425=>(some (bt425.1,bt425.2)))=some (r1,r2):=by first |(rw [hy422];with_reducible exact H) |(have H2_:=(Option.bind_some _ _).symm.trans H;rw [hy422];with_reducible exact H2_) |(have H2_:=(Option.bind_some _ _).symm.trans H;with_reducible exact H2_) | with_reducible exact H |(rw [hy422];exact H) | exact H
  have Ny422:=am hy422
  clear hy422
  replace H:=bzS H
  obtain ⟨⟨t425,t426⟩,A50,H⟩:=H
  replace H:(some (t425,t426))=some (r1,r2):=H
  have A5:=am A50
  clear A50
  simp only [Option.some.injEq,Prod.mk.injEq] at H
  obtain ⟨rfl,rfl⟩:=H
  go_enter Try.func90,Try.ntmps90
  go_wp2_with (first |((with_reducible refine jI (N:=3) rfl ?_);refine bE (N:=3) (cs:=#[.slice A1_0 l1_0.length c1_0]) (t:=37) ?_;intro gb419 hg w6 hbox hb;have BK419:=am (hbox);have GW419:=am ((Y7:w.heap.size≤gb419));have GE419:=am ((Nat.le_trans HW0.out (Y7:w.heap.size≤gb419):w0.heap.size≤gb419));have NB0_419:=am ((Y25:g≠gb419));have NB419_0:=am ((Y26:gb419≠g));replace HK:=am (jd.trans (Y14) (jd.of_below hb g none) (.inl rfl));replace HB:=am (jk (Y15) hb);replace HI0:=am (jb.below (Y13) hb);clear hb hbox hg) |((with_reducible refine jB (f:=88) rfl ?_);refine gL (some 6) Try.func88 #[.pointer (some ⟨g,0,none⟩), .int .i64 16] ?_;(with_reducible refine (jl.calls k g s0_0 s0_1 16 t420 t421 w0 _ ?side1 ?side2 A3.out).mono ?_);(case side1=>exact Y56);(case side2=>exact Y61);rintro e w7 ⟨rfl,hi,hb,hk⟩;refine ⟨_,rfl,?_⟩;replace BK419:=am (jd.blk hk (g':=gb419) (o:=.cells #[.slice A1_0 l1_0.length c1_0] 37 (0,0)) (kq BK419.out) NB419_0.out (by simp));replace HK:=am (jd.trans (Y57) hk (.inl rfl));replace HB:=am (hb);replace HI0:=am (hi);(try clear hb);(try clear hb2);(try clear hk);(try clear hi);have hnb8:=NB419_0.out;have hnc8:=NB0_419.out;have hcz9_0:=bc0 BK419.out;have hfz9_0:=jc BK419.out 0) |((with_reducible refine jI (N:=12) rfl ?_);refine Kd.R_lit (Kd.int .i64) _ 3 ?hg (N:=12) ?hd (xs:=([(-1),(l1_0.length:Int),8]:List Int)) (inner:=[.int .i64 (-1), .int .i64 (l1_0.length:Int), .int .i64 8]) (ok:=fun _=>True) (okp:=fun _=>True) ?hr ?hp (fun _ hk=>hk) trivial (Below.refl _ _) (Nat.le_refl _) (by simp) ?_;(case hd=>rfl);(case hg=>rfl);(case hr=>exact Y4);(case hp=>exact (Reps.one (show Kd.M (Kd.int .i64) _ _ _ (-1) [.int .i64 (-1)] from rfl) (Reps.one (show Kd.M (Kd.int .i64) _ _ _ (l1_0.length:Int) [.int .i64 (l1_0.length:Int)] from rfl) (Reps.one (show Kd.M (Kd.int .i64) _ _ _ 8 [.int .i64 8] from rfl) (Reps.none _ _)))));intro v423 w10 ho11 hb hg_ hnew_;clear hg_ hnew_;(first | rw [← Ny422.out] at ho11 |(simp only [Int.reduceToNat] at ho11;rw [← Ny422.out] at ho11));have HO424:=am (Kd.jea ho11 (jda (w:=w) (g:=g) (row:=none) (Y57)));replace BK419:=am (jh (g:=gb419) (o:=.cells #[.slice A1_0 l1_0.length c1_0] 37 (0,0)) (kq BK419.out) hb);replace HK:=am (jd.trans (Y57) (jd.of_below hb g none) (.inl rfl));replace HB:=am (jk (Y61) hb);replace HI0:=am (jb.below (Y56) hb);clear hb ho11;obtain ⟨Ao12,co12,eo12⟩:=Kd.jW HO424.out;subst eo12) |((with_reducible refine jB (f:=89) rfl ?_);refine gL (some 13) Try.func89 #[.pointer (some ⟨g,0,none⟩), .slice Ao12 y422.length co12] ?_;(with_reducible refine (jy.calls k g s0_0 t421 _ _ y422 t425 t426 w0 _ ?side1 ?side2 ?side3 ?side4 ?side5 A5.out).mono ?_);(case side1=>exact Y56);(case side2=>exact Y61);(case side3=>exact cq (Kd.jw HO424.out).2.2);(case side4=>exact (Kd.jw HO424.out).2.1);(case side5=>exact jwb (jb.own_ne HI0.out HO424.out (by decide)));rintro e w13 ⟨rfl,hi,hb,hk⟩;refine ⟨_,rfl,?_⟩;replace BK419:=am (jd.blk hk (g':=gb419) (o:=.cells #[.slice A1_0 l1_0.length c1_0] 37 (0,0)) (kq BK419.out) NB419_0.out (by simp));replace HO424:=am (Kd.jE (Kd.jqa (jb.apart (show jb w0 _ g s0_0 t421 from Y56) (rq HO424.out) (by decide)) hk (fun _ h=>h.2)) (fun _ h=>h.1));replace HK:=am (jd.trans (Y57) hk (.inl rfl));replace HB:=am (hb);replace HI0:=am (hi);(try clear hb);(try clear hb2);(try clear hk);(try clear hi)))
  go_ret
  exact ⟨Y1,Y56,Y61,Y57⟩
 ·rw [if_neg c4] at H
  have c4b0:(t420 == 0)=false:=beq_eq_false_iff_ne.mpr c4
  have c4b1:(t420 != 0)=true:=bne_iff_ne.mpr c4
  replace H:=bzS H
  obtain ⟨⟨t427,t428⟩,A140,H⟩:=H
  replace H:(some (t427,t428))=some (r1,r2):=H
  have A14:=am A140
  clear A140
  simp only [Option.some.injEq,Prod.mk.injEq] at H
  obtain ⟨rfl,rfl⟩:=H
  go_enter Try.func90,Try.ntmps90
  go_wp2_with (first |((with_reducible refine jI (N:=3) rfl ?_);refine bE (N:=3) (cs:=#[.slice A1_0 l1_0.length c1_0]) (t:=37) ?_;intro gb419 hg w15 hbox hb;have BK419:=am (hbox);have GW419:=am ((Y7:w.heap.size≤gb419));have GE419:=am ((Nat.le_trans HW0.out (Y7:w.heap.size≤gb419):w0.heap.size≤gb419));have NB0_419:=am ((Y25:g≠gb419));have NB419_0:=am ((Y26:gb419≠g));replace HK:=am (jd.trans (Y14) (jd.of_below hb g none) (.inl rfl));replace HB:=am (jk (Y15) hb);replace HI0:=am (jb.below (Y13) hb);clear hb hbox hg) |((with_reducible refine jB (f:=88) rfl ?_);refine gL (some 6) Try.func88 #[.pointer (some ⟨g,0,none⟩), .int .i64 16] ?_;(with_reducible refine (jl.calls k g s0_0 s0_1 16 t420 t421 w0 _ ?side1 ?side2 A3.out).mono ?_);(case side1=>exact Y56);(case side2=>exact Y61);rintro e w16 ⟨rfl,hi,hb,hk⟩;refine ⟨_,rfl,?_⟩;replace BK419:=am (jd.blk hk (g':=gb419) (o:=.cells #[.slice A1_0 l1_0.length c1_0] 37 (0,0)) (kq BK419.out) NB419_0.out (by simp));replace HK:=am (jd.trans (Y57) hk (.inl rfl));replace HB:=am (hb);replace HI0:=am (hi);(try clear hb);(try clear hb2);(try clear hk);(try clear hi);have hnb17:=NB419_0.out;have hnc17:=NB0_419.out;have hcz18_0:=bc0 BK419.out;have hfz18_0:=jc BK419.out 0) |((with_reducible refine jB (f:=88) rfl ?_);refine gL (some 18) Try.func88 #[.pointer (some ⟨g,0,none⟩), .int .i64 (l1_0.length:Int)] ?_;(with_reducible refine (jl.calls k g s0_0 t421 (l1_0.length:Int) t427 t428 w0 _ ?side1 ?side2 A14.out).mono ?_);(case side1=>exact Y56);(case side2=>exact Y61);rintro e w19 ⟨rfl,hi,hb,hk⟩;refine ⟨_,rfl,?_⟩;replace BK419:=am (jd.blk hk (g':=gb419) (o:=.cells #[.slice A1_0 l1_0.length c1_0] 37 (0,0)) (kq BK419.out) NB419_0.out (by simp));replace HK:=am (jd.trans (Y57) hk (.inl rfl));replace HB:=am (hb);replace HI0:=am (hi);(try clear hb);(try clear hb2);(try clear hk);(try clear hi)))
  go_ret
  exact ⟨Y1,Y56,Y61,Y57⟩
end Go.Proofs.Ytecdfgejmbpclaa.P
end
