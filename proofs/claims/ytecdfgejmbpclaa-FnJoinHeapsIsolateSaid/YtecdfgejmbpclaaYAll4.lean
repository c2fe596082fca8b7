/- One part of the proofs on this program: functions of the program as plain functions, that the code comes to them, and facts on them. -/
import Derived.Test.YtecdfgejmbpclaaYAll1
import Derived.Test.YtecdfgejmbpclaaYAll3
import Derived.Test.YtecdfgejmbpclaaYWAuto
section
namespace Go.Proofs.Ytecdfgejmbpclaa.P
open Go.RowKit Go.Proofs.YtecdfgejmbpclaaW.PrintWords Go.Proofs.YtecdfgejmbpclaaW.PrintLast Go.Proofs.YtecdfgejmbpclaaW.PrintMore
attribute [local go_sem] jva jta jFa jEa jha jga jua jsa jF
set_option linter.unusedVariables false
set_option linter.unusedSimpArgs false
mutual
def jv.l0 : Nat → Int → List Int → Int → List (S94) → List (S54) → Option ((List (S54)) × Int)
 | 0,_,_,_,_,_=>none
 | k+1,x6,x1000,x1001,x513000,x518000=>if x6 > 0 then ((jq.f k x1000 x1001 (x513000.length:Int)).bind fun bt523=>((jE.f k x1000 bt523.2 (([1,2,3,0,99]:List Int))).bind fun bt528=>((jHb.f x518000 bt523.1 bt528.1).bind fun t530=>(jv.l0 k (wrap64 (x6 - 1)) x1000 bt528.2 x513000 t530)))) else ((jE.f k x1000 x1001 (([3,4,2,5,0]:List Int))).bind fun bt536=>(jv.l1 k bt536.1 x1000 bt536.2 x518000))
def jv.l1 : Nat → Int → List Int → Int → List (S54) → Option ((List (S54)) × Int)
 | 0,_,_,_,_=>none
 | k+1,x7,x1000,x1001,x518000=>if x7 > 0 then (jv.j2 k x7 (decide ((x518000.length:Int) > 1)) x1000 x1001 x518000) else (jv.j2 k x7 false x1000 x1001 x518000)
def jv.j2 : Nat → Int → Bool → List Int → Int → List (S54) → Option ((List (S54)) × Int)
 | 0,_,_,_,_,_=>none
 | k+1,x7,x39,x1000,x1001,x518000=>if x39=true then ((jq.f k x1000 x1001 (x518000.length:Int)).bind fun bt538=>((jq.f k x1000 bt538.2 (x518000.length:Int)).bind fun bt540=>(if bt538.1=bt540.1 then (if 0≤bt538.1 then (if bt538.1<(x518000.length:Int) then (jv.l1 k (wrap64 (x7 - 1)) x1000 bt540.2 (x518000.set (bt538.1:Int).toNat (⟨(ja x518000 bt538.1).f0,(ja x518000 bt538.1).f1,(ja x518000 bt538.1).f2,(ja x518000 bt538.1).f3,!((ja x518000 bt538.1).f4)⟩:S54))) else (none)) else (none)) else ((jq.f k x1000 bt540.2 3).bind fun bt544=>(if bt544.1=0 then (if 0≤bt538.1 then (if bt538.1<(x518000.length:Int) then ((some (x518000.set (bt538.1:Int).toNat (⟨(ja x518000 bt538.1).f0,(ja x518000 bt538.1).f1,bt540.1,(ja x518000 bt538.1).f3,(ja x518000 bt538.1).f4⟩:S54):List (S54))).bind fun y546=>(jv.l1 k (wrap64 (x7 - 1)) x1000 bt544.2 (y546.set (bt538.1:Int).toNat (⟨(ja y546 bt538.1).f0,(ja y546 bt538.1).f1,(ja y546 bt538.1).f2,(ja y546 bt538.1).f3,true⟩:S54)))) else (none)) else (none)) else ((jja.f k x518000 bt538.1 bt540.1).bind fun t548=>(jv.l1 k (wrap64 (x7 - 1)) x1000 bt544.2 t548))))))) else (some (x518000,x1001))
end
def jv.f (k : Nat) (s0_0 : List Int) (s0_1 : Int) (l1_0 : List (S94)) : Option ((List (S54)) × Int) := (jE.f k s0_0 s0_1 (([4, 5, 3, 6, 2, 1, 0] : List Int))).bind fun bt521 => (jv.l0 k bt521.1 s0_0 bt521.2 l1_0 (([] : List (S54))))
def jv.T5 : Bool × List (List Nat × List Nat) := (true, [([], []), ([], []), ([], []), ([2], [2]), ([3], [3]), ([1, 4], [1, 4]), ([], []), ([], []), ([6, 7, 5], [6, 7]), ([0, 5, 8, 8], [0, 5, 8]), ([9, 9, 0, 1, 2, 3, 4, 5, 6, 7, 8, 9], [9])])
def jv.B5 : List Nat := [0, 0, 0, 4, 12, 30, 0, 0, 254, 511, 1023]
theorem jv.tab5 : rtab .any (opsOf Try.f62 5) = jv.T5 := by kernel_rfl
theorem jv.bits5 : jFb jv.T5.2 jv.B5 = true := by kernel_rfl
def jv.T13 : Bool × List (List Nat × List Nat) := (true, [([], []), ([0], [0]), ([], []), ([], []), ([3], [3]), ([], []), ([4, 5], [4, 5]), ([6], [6]), ([7], [7]), ([8], [8]), ([1, 2, 0, 1, 2, 3, 4, 5, 6, 7, 8, 9], [1, 2]), ([10, 0, 1, 2, 3, 4, 5, 6, 7, 8, 9], [10]), ([11, 9, 0, 1, 2, 3, 4, 5, 6, 7, 8, 9], [9, 11])])
def jv.B13 : List Nat := [0, 1, 0, 0, 8, 0, 56, 120, 248, 504, 1023, 2047, 4095]
theorem jv.tab13 : rtab .any (opsOf Try.f62 13) = jv.T13 := by kernel_rfl
theorem jv.bits13 : jFb jv.T13.2 jv.B13 = true := by kernel_rfl
set_option maxHeartbeats 8000000 in
set_option maxRecDepth 100000 in
theorem jv.calls (k : Nat) (g : Nat) (s0_0 : List Int) (s0_1 : Int) (A1_0 : Option Addr) (c1_0 : Nat) (l1_0 : List (S94)) (r1 : List (S54)) (r2 : Int) (w0 w : World) (hI : jg w0 w g s0_0 s0_1) (hB : Below w0.heap.size w0 w) (hr1_0 : ∀ W_, jh w W_ g none → Kd.C k94 W_ A1_0 l1_0.length l1_0) (hc1_0 : l1_0.length ≤ c1_0) (h : jv.f k s0_0 s0_1 l1_0 = some (r1, r2)) :
  Calls Try.prog 62 #[.pointer (some ⟨g,0,none⟩), .agg #[.slice A1_0 l1_0.length c1_0]] w fun e w'=>∃ v0_:Value,e=.returned (.agg #[v0_])∧Kd.R k54 54 w' w.heap.size (fun _=>True) v0_ r1∧jg w0 w' g s0_0 r2∧Below w0.heap.size w0 w'∧jh w w' g none:=by
 have hu37:=Try.underlying37
 have hu32:=Try.underlying32
 have HR1_0:=am hr1_0
 have HC1_0:=am hc1_0
 clear hr1_0 hc1_0
 have HI0:=am hI
 have HK:=am (jh.refl w g none)
 have HL:=am hB.size
 clear hI
 have HW0:=am hB.size
 have HB:=am hB
 clear hB
 have H:((jE.f k s0_0 s0_1 (([4,5,3,6,2,1,0]:List Int))).bind fun bt521=>(jv.l0 k bt521.1 s0_0 bt521.2 l1_0 (([]:List (S54)))))=some (r1,r2):=h
 clear h
 obtain ⟨y514,hy514⟩:∃ y_:List (S54),y_=(([]:List (S54))):=⟨_,rfl⟩
 replace H:((jE.f k s0_0 s0_1 (([4,5,3,6,2,1,0]:List Int))).bind fun bt521=>(jv.l0 k bt521.1 s0_0 bt521.2 l1_0 y514))=some (r1,r2):=by first |(rw [hy514];with_reducible exact H) |(have H2_:=(Option.bind_some _ _).symm.trans H;rw [hy514];with_reducible exact H2_) |(have H2_:=(Option.bind_some _ _).symm.trans H;with_reducible exact H2_) | with_reducible exact H |(rw [hy514];exact H) | exact H
 have Ny514:=am hy514
 clear hy514
 obtain ⟨y518,hy518⟩:∃ y_:List Int,y_=(([4,5,3,6,2,1,0]:List Int)):=⟨_,rfl⟩
 replace H:((jE.f k s0_0 s0_1 y518).bind fun bt521=>(jv.l0 k bt521.1 s0_0 bt521.2 l1_0 y514))=some (r1,r2):=by first |(rw [hy518];with_reducible exact H) |(have H2_:=(Option.bind_some _ _).symm.trans H;rw [hy518];with_reducible exact H2_) |(have H2_:=(Option.bind_some _ _).symm.trans H;with_reducible exact H2_) | with_reducible exact H |(rw [hy518];exact H) | exact H
 have Ny518:=am hy518
 clear hy518
 replace H:=bzS H
 obtain ⟨⟨t521,t522⟩,A30,H⟩:=H
 replace H:(jv.l0 k t521 s0_0 t522 l1_0 y514)=some (r1,r2):=H
 have A3:=am A30
 clear A30
 have H':=am H
 clear H
 go_enter Try.func62,Try.ntmps62
 go_wp2_with (first |((with_reducible refine jI (N:=3) rfl ?_);(try (refine jWa (by rfl) ?_;dsimp only));refine jpb ?hg (N:=3) ?hd (cs:=#[.slice A1_0 l1_0.length c1_0]) (t:=37) ?hr ?_;(case hd=>rfl);(case hg=>rfl);(case hr=>exact Y4);intro gb512 hg w4 hbox hb;have BK512:=am (hbox);have GW512:=am ((Y8:w.heap.size≤gb512));have GE512:=am ((Nat.le_trans HW0.out (Y8:w.heap.size≤gb512):w0.heap.size≤gb512));have NB0_512:=am ((Y26:g≠gb512));have NB512_0:=am ((Y27:gb512≠g));replace HK:=am (jh.trans (Y16) (jh.of_below hb g none) (.inl rfl));replace HB:=am (jl (Y17) hb);replace HI0:=am (jg.below (Y15) hb);clear hb hbox hg) |((with_reducible refine jI (N:=4) rfl ?_);(try (refine jWa (by rfl) ?_;dsimp only));refine jpb ?hg (N:=4) ?hd (cs:=#[.slice none 0 0]) (t:=32) ?hr ?_;(case hd=>rfl);(case hg=>rfl);(case hr=>exact Y4);intro gb513 hg w5 hbox hb;have BK513:=am (hbox);have GW513:=am ((Y186:w.heap.size≤gb513));have GE513:=am ((Nat.le_trans HW0.out (Y186:w.heap.size≤gb513):w0.heap.size≤gb513));have NB512_513:=am ((by rw [hg];exact Nat.ne_of_lt (jV (g:=gb512) (o:=.cells #[.slice A1_0 l1_0.length c1_0] 37 (0,0)) (kq BK512.out)):gb512≠gb513));have NB513_512:=am ((by rw [hg];exact Nat.ne_of_gt (jV (g:=gb512) (o:=.cells #[.slice A1_0 l1_0.length c1_0] 37 (0,0)) (kq BK512.out)):gb513≠gb512));have NB0_513:=am ((by rw [hg];exact Nat.ne_of_lt (jg.lt (show jg w0 _ g s0_0 s0_1 from by repeat (first |(with_reducible first | exact HI0.out | apply jg.alloc | apply jg.drewN | apply jg.drew | apply jg.jmb | refine jg.far ?_ NB0_512.out _) | exact HI0.out))):g≠gb513));have NB513_0:=am ((by rw [hg];exact Nat.ne_of_gt (jg.lt (show jg w0 _ g s0_0 s0_1 from by repeat (first |(with_reducible first | exact HI0.out | apply jg.alloc | apply jg.drewN | apply jg.drew | apply jg.jmb | refine jg.far ?_ NB0_512.out _) | exact HI0.out))):gb513≠g));replace BK512:=am (je (g:=gb512) (o:=.cells #[.slice A1_0 l1_0.length c1_0] 37 (0,0)) (kq BK512.out) hb);replace HK:=am (jh.trans (by repeat (first |(with_reducible first | exact HK.out | apply jh.set_ | apply jAa | apply jka | apply jBa | refine jba ?_ GW512.out _) | exact HK.out)) (jh.of_below hb g none) (.inl rfl));replace HB:=am (jl (by repeat (first |(with_reducible first | exact HB.out | apply jy | apply jo | apply jr | refine jk ?_ (jg.ge HI0.out) | refine jk ?_ GE512.out) | exact HB.out)) hb);replace HI0:=am (jg.below (by repeat (first |(with_reducible first | exact HI0.out | apply jg.alloc | apply jg.drewN | apply jg.drew | apply jg.jmb | refine jg.far ?_ NB0_512.out _) | exact HI0.out)) hb);clear hb hbox hg) |((with_reducible refine jI (N:=10) rfl ?_);(try (refine jWa (by rfl) ?_;dsimp only));refine Kd.R_lit k54 _ 54 ?hg (N:=10) ?hd (xs:=([]:List (S54))) (inner:=[]) (ok:=fun _=>True) (okp:=fun _=>True) ?hr ?hp (fun _ hk=>hk) trivial (Below.refl _ _) (Nat.le_refl _) (by simp) ?_;(case hd=>rfl);(case hg=>rfl);(case hr=>exact Y4);(case hp=>exact (Reps.none _ _));intro v515 w6 ho7 hb hg_ hnew_;clear hg_ hnew_;(first | rw [← Ny514.out] at ho7 |(simp only [Int.reduceToNat] at ho7;rw [← Ny514.out] at ho7));have HO516:=am (Kd.jla ho7 (jma (w:=w) (g:=g) (row:=none) (Y145)));replace BK512:=am (je (g:=gb512) (o:=.cells #[.slice A1_0 l1_0.length c1_0] 37 (0,0)) (kq BK512.out) hb);replace BK513:=am (je (g:=gb513) (o:=.cells #[.slice none 0 0] 32 (0,0)) (kq BK513.out) hb);replace HK:=am (jh.trans (Y145) (jh.of_below hb g none) (.inl rfl));replace HB:=am (jl (Y187) hb);replace HI0:=am (jg.below (Y188) hb);clear hb ho7;obtain ⟨Ao8,co8,eo8⟩:=Kd.jaa HO516.out;subst eo8) |((with_reducible refine jI (N:=5) rfl ?_);(try (refine jWa (by rfl) ?_;dsimp only));refine jpb ?hg (N:=5) ?hd (cs:=#[.slice none 0 0]) (t:=32) ?hr ?_;(case hd=>rfl);(case hg=>rfl);(case hr=>exact Y4);intro gb517 hg w9 hbox hb;have BK517:=am (hbox);have GW517:=am ((Y189:w.heap.size≤gb517));have GE517:=am ((Nat.le_trans HW0.out (Y189:w.heap.size≤gb517):w0.heap.size≤gb517));have NB512_517:=am ((by rw [hg];exact Nat.ne_of_lt (jV (g:=gb512) (o:=.cells #[.slice A1_0 l1_0.length c1_0] 37 (0,0)) (kq BK512.out)):gb512≠gb517));have NB517_512:=am ((by rw [hg];exact Nat.ne_of_gt (jV (g:=gb512) (o:=.cells #[.slice A1_0 l1_0.length c1_0] 37 (0,0)) (kq BK512.out)):gb517≠gb512));have NB513_517:=am ((by rw [hg];exact Nat.ne_of_lt (jV (g:=gb513) (o:=.cells #[.slice none 0 0] 32 (0,0)) (kq BK513.out)):gb513≠gb517));have NB517_513:=am ((by rw [hg];exact Nat.ne_of_gt (jV (g:=gb513) (o:=.cells #[.slice none 0 0] 32 (0,0)) (kq BK513.out)):gb517≠gb513));have NB0_517:=am ((by rw [hg];exact Nat.ne_of_lt (jg.lt (show jg w0 _ g s0_0 s0_1 from by repeat (first |(with_reducible first | exact HI0.out | apply jg.alloc | apply jg.drewN | apply jg.drew | apply jg.jmb | refine jg.far ?_ NB0_512.out _ | refine jg.far ?_ NB0_513.out _) | exact HI0.out))):g≠gb517));have NB517_0:=am ((by rw [hg];exact Nat.ne_of_gt (jg.lt (show jg w0 _ g s0_0 s0_1 from by repeat (first |(with_reducible first | exact HI0.out | apply jg.alloc | apply jg.drewN | apply jg.drew | apply jg.jmb | refine jg.far ?_ NB0_512.out _ | refine jg.far ?_ NB0_513.out _) | exact HI0.out))):gb517≠g));replace HO516:=am (Kd.jP (rq HO516.out) hb);replace BK512:=am (je (g:=gb512) (o:=.cells #[.slice A1_0 l1_0.length c1_0] 37 (0,0)) (kq BK512.out) hb);replace BK513:=am (je (g:=gb513) (o:=.cells #[.slice none 0 0] 32 (0,0)) (kq BK513.out) hb);replace HK:=am (jh.trans (Y145) (jh.of_below hb g none) (.inl rfl));replace HB:=am (jl (Y187) hb);replace HI0:=am (jg.below (Y188) hb);clear hb hbox hg;have hnb10:=NB517_512.out;have hnc10:=NB512_517.out;have hnb11:=NB517_513.out;have hnc11:=NB513_517.out;have hnb12:=NB517_0.out;have hnc12:=NB0_517.out;have hcz13_0:=bc0 BK517.out;have hfz13_0:=jf BK517.out 0) |((with_reducible refine jI (N:=13) rfl ?_);(try (refine jWa (by rfl) ?_;dsimp only));refine Kd.R_lit (Kd.int .i64) _ 3 ?hg (N:=13) ?hd (xs:=([4,5,3,6,2,1,0]:List Int)) (inner:=[.int .i64 4, .int .i64 5, .int .i64 3, .int .i64 6, .int .i64 2, .int .i64 1, .int .i64 0]) (ok:=fun _=>True) (okp:=fun _=>True) ?hr ?hp (fun _ hk=>hk) trivial (Below.refl _ _) (Nat.le_refl _) (by simp) ?_;(case hd=>rfl);(case hg=>rfl);(case hr=>exact Y4);(case hp=>exact (Reps.one (show Kd.M (Kd.int .i64) _ _ _ 4 [.int .i64 4] from rfl) (Reps.one (show Kd.M (Kd.int .i64) _ _ _ 5 [.int .i64 5] from rfl) (Reps.one (show Kd.M (Kd.int .i64) _ _ _ 3 [.int .i64 3] from rfl) (Reps.one (show Kd.M (Kd.int .i64) _ _ _ 6 [.int .i64 6] from rfl) (Reps.one (show Kd.M (Kd.int .i64) _ _ _ 2 [.int .i64 2] from rfl) (Reps.one (show Kd.M (Kd.int .i64) _ _ _ 1 [.int .i64 1] from rfl) (Reps.one (show Kd.M (Kd.int .i64) _ _ _ 0 [.int .i64 0] from rfl) (Reps.none _ _)))))))));intro v519 w14 ho15 hb hg_ hnew_;clear hg_ hnew_;(first | rw [← Ny518.out] at ho15 |(simp only [Int.reduceToNat] at ho15;rw [← Ny518.out] at ho15));have HO520:=am (Kd.jla ho15 (jma (w:=w) (g:=g) (row:=none) (Y5)));replace HO516:=am (Kd.jP (by (with_reducible repeat (first | apply Kd.jL | apply Kd.jM | apply Kd.jN));exact (Kd.jD (Kd.jX (p:=⟨gb517,0,none⟩) (Kd.jJ HO516.out BK517.out (by decide)) (fun _ hk=>hk.2) (.slice Ao8 y514.length co8)) (fun _ h_=>h_.1))) hb);replace BK512:=am (je (g:=gb512) (o:=.cells #[.slice A1_0 l1_0.length c1_0] 37 (0,0)) (by (with_reducible repeat (first | refine jb ?_ _ | refine jd ?_ | refine jc ?_ _));refine jA ?_ NB512_517.out _;(with_reducible repeat (first | refine jb ?_ _ | refine jd ?_ | refine jc ?_ _));exact BK512.out) hb);replace BK513:=am (je (g:=gb513) (o:=.cells #[.slice none 0 0] 32 (0,0)) (by (with_reducible repeat (first | refine jb ?_ _ | refine jd ?_ | refine jc ?_ _));refine jA ?_ NB513_517.out _;(with_reducible repeat (first | refine jb ?_ _ | refine jd ?_ | refine jc ?_ _));exact BK513.out) hb);replace BK517:=am (je (g:=gb517) (o:=.cells #[.slice Ao8 y514.length co8] 32 (0,0)) (by (with_reducible repeat (first | refine jb ?_ _ | refine jd ?_ | refine jc ?_ _));refine jfa (cs:=#[.slice none 0 0]) ?_ 0 _ rfl;(with_reducible repeat (first | refine jb ?_ _ | refine jd ?_ | refine jc ?_ _));exact BK517.out) hb);replace HK:=am (jh.trans (Y5) (jh.of_below hb g none) (.inl rfl));replace HB:=am (jl (Y7) hb);replace HI0:=am (jg.below (show jg w0 (w9.setCell ⟨gb517,0,none⟩ (.slice Ao8 y514.length co8)) g s0_0 s0_1 from Y3) hb);clear hb ho15;obtain ⟨Ao16,co16,eo16⟩:=Kd.jaa HO520.out;subst eo16) |((with_reducible refine jC (f:=89) rfl ?_);refine gL (some 14) Try.func89 #[.pointer (some ⟨g,0,none⟩), .slice Ao16 y518.length co16] ?_;(with_reducible refine (jE.calls k g s0_0 s0_1 _ _ y518 t521 t522 w0 _ ?side1 ?side2 ?side3 ?side4 ?side5 A3.out).mono ?_);(case side1=>exact Y3);(case side2=>exact Y7);(case side3=>exact cq (Kd.jB HO520.out).2.2);(case side4=>exact (Kd.jB HO520.out).2.1);(case side5=>exact jxb (jg.own_ne HI0.out HO520.out (by decide)));rintro e w17 ⟨rfl,hi,hb,hk⟩;refine ⟨_,rfl,?_⟩;replace BK512:=am (jh.blk hk (g':=gb512) (o:=.cells #[.slice A1_0 l1_0.length c1_0] 37 (0,0)) (kq BK512.out) NB512_0.out (by simp));replace BK513:=am (jh.blk hk (g':=gb513) (o:=.cells #[.slice none 0 0] 32 (0,0)) (kq BK513.out) NB513_0.out (by simp));replace HO516:=am (Kd.jD (Kd.jqa (jg.apart (show jg w0 _ g s0_0 s0_1 from Y3) (rq HO516.out) (by decide)) hk (fun _ h=>h.2)) (fun _ h=>h.1));replace BK517:=am (jh.blk hk (g':=gb517) (o:=.cells #[.slice Ao8 y514.length co8] 32 (0,0)) (kq BK517.out) NB517_0.out (by simp));replace HO520:=am (Kd.jD (Kd.jqa (jg.apart (show jg w0 _ g s0_0 s0_1 from Y3) (rq HO520.out) (by decide)) hk (fun _ h=>h.2)) (fun _ h=>h.1));replace HK:=am (jh.trans (Y5) hk (.inl rfl));replace HB:=am (hb);replace HI0:=am (hi);(try clear hb);(try clear hb2);(try clear hk);(try clear hi)))
 go_loopg [6] k (fun kq v6 w'=>∃ (x6_1:Int) (x1001_1:Int) (x518000_1:List (S54)) (u518000:Value),v6=.int .i64 x6_1∧jw (jv.l0 kq x6_1 s0_0 x1001_1 l1_0 x518000_1=some (r1,r2))∧jw (kq≤k)∧jw (Kd.R k54 54 w' w.heap.size (fun _=>True) u518000 x518000_1)∧jw (w'.heap[gb512]?=some (.cells #[(.slice A1_0 l1_0.length c1_0)] 37 (0,0)))∧jw (w'.heap[gb513]?=some (.cells #[(.slice none 0 0)] 32 (0,0)))∧jw (w'.heap[gb517]?=some (.cells #[u518000] 32 (0,0)))∧jw (jg w0 w' g s0_0 x1001_1)∧jw (jh w w' g none)∧jw (Below w0.heap.size w0 w'))
 case atStart=>exact ⟨(t521),(t522),(y514),(.slice Ao8 y514.length co8),(sq),H',⟨Nat.le_refl _⟩,⟨rq HO516.out⟩,⟨kq BK512.out⟩,⟨kq BK513.out⟩,⟨kq BK517.out⟩,⟨Y3⟩,⟨Y5⟩,⟨Y7⟩⟩
 case round =>
  clear H'
  try clear c1
  try clear p2
  try clear c6
  try clear c8
  try clear c10
  try clear c11
  try clear c12
  try clear hcz13_0
  try clear hfz13_0
  obtain ⟨x6_1,x1001_1,x518000_1,u518000,rfl,HA,HK1,HO_518000,BK512,BK513,BK517,HI0,HK,HB⟩:=hrel
  cases gk with
  | zero=>exact absurd HA.out (by simp [jv.l0])
  | succ k1 =>
   have H:=HA.out
   clear HA
   simp only [jv.l0] at H
   by_cases c18:x6_1 > 0
   ·rw [if_pos c18] at H
    have c18b0:decide (0<x6_1)=true:=dzT c18
    clear c18
    replace H:=bzS H
    obtain ⟨⟨t523,t524⟩,A190,H⟩:=H
    replace H:((jE.f k1 s0_0 t524 (([1,2,3,0,99]:List Int))).bind fun bt528=>((jHb.f x518000_1 t523 bt528.1).bind fun t530=>(jv.l0 k1 (wrap64 (x6_1 - 1)) s0_0 bt528.2 l1_0 t530)))=some (r1,r2):=H
    have A19:=am A190
    clear A190
    obtain ⟨y525,hy525⟩:∃ y_:List Int,y_=(([1,2,3,0,99]:List Int)):=⟨_,rfl⟩
    replace H:((jE.f k1 s0_0 t524 y525).bind fun bt528=>((jHb.f x518000_1 t523 bt528.1).bind fun t530=>(jv.l0 k1 (wrap64 (x6_1 - 1)) s0_0 bt528.2 l1_0 t530)))=some (r1,r2):=by first |(rw [hy525];with_reducible exact H) |(have H2_:=(Option.bind_some _ _).symm.trans H;rw [hy525];with_reducible exact H2_) |(have H2_:=(Option.bind_some _ _).symm.trans H;with_reducible exact H2_) | with_reducible exact H |(rw [hy525];exact H) | exact H
    have Ny525:=am hy525
    clear hy525
    replace H:=bzS H
    obtain ⟨⟨t528,t529⟩,A200,H⟩:=H
    replace H:((jHb.f x518000_1 t523 t528).bind fun t530=>(jv.l0 k1 (wrap64 (x6_1 - 1)) s0_0 t529 l1_0 t530))=some (r1,r2):=H
    have A20:=am A200
    clear A200
    replace H:=bzS H
    obtain ⟨t530,A210,H⟩:=H
    replace H:(jv.l0 k1 (wrap64 (x6_1 - 1)) s0_0 t529 l1_0 t530)=some (r1,r2):=H
    have A21:=am A210
    clear A210
    have H':=am H
    clear H
    obtain ⟨Ao22,co22,eo22⟩:=Kd.jaa HO_518000.out
    subst eo22
    try go_wp2
    replace HO_518000:=am (Kd.jN HO_518000.out)
    replace BK512:=am (jd BK512.out)
    replace BK513:=am (jd BK513.out)
    replace BK517:=am (jd BK517.out)
    replace HI0:=am (jg.drew HI0.out)
    replace HK:=am (jka HK.out)
    replace HB:=am (jr HB.out)
    refine jPb (n:=11) (S:=fun w'=>w'.cell? ⟨gb517,0,none⟩=some (.slice Ao22 x518000_1.length co22)∧w'.cell? ⟨gb512,0,none⟩=some (.slice A1_0 l1_0.length c1_0)) (ds:=[10]) #[false,false,false,false,false,false,false,false,false,false,false] (by kernel_rfl) rfl rfl ⟨(jH BK517.out 0).trans rfl,(jH BK512.out 0).trans rfl⟩ (fun hHeld=>?_);refine jvb jv.tab5 jv.bits5 (fun HT_ HW_=>?_)
    generalize wr.drew=w23 at HO_518000 BK512 BK513 BK517 HI0 HK HB hHeld ⊢
    refine pq (i:=1) (N:=some 20) #[false,true,false,false,false,false,false,false,false,false,false] ?_
    refine pq (i:=2) (N:=some 21) #[false,true,true,false,false,false,false,false,false,false,false] ?_
    refine pq (i:=6) (N:=some 25) #[false,true,true,false,false,false,true,false,false,false,false] ?_
    refine jwb (i:=0) (N:=some 19) (v:=?_) (a':=?_) #[true,true,true,false,false,false,true,false,false,false,false] rfl rfl (jZa HT_.out HW_.out (by kernel_rfl)) (fun _ _ _ h=>h) (Or.inl ⟨by rfl,?_⟩) hHeld ?_ ?_
    rotate_left
    ·rintro w' ⟨s0,s1⟩
     go_simp
     with_reducible rfl
    rotate_left
    ·exact sa
    refine jwb (i:=3) (N:=some 22) (v:=?_) (a':=?_) #[true,true,true,true,false,false,true,false,false,false,false] rfl rfl (jZa HT_.out HW_.out (by kernel_rfl)) (fun _ _ _ h=>h) (Or.inl ⟨by rfl,?_⟩) hHeld ?_ ?_
    rotate_left
    ·rintro w' ⟨s0,s1⟩
     go_simp
     with_reducible rfl
    rotate_left
    ·exact sa
    refine pq (i:=4) (N:=some 23) #[true,true,true,true,true,false,true,false,false,false,false] ?_
    refine join_ (σ:=Value) 3 #[true,true,true,true,true,true,true,true,false,false,false] (fun s_=>[(24, .int .i64 t523),(26,s_)]) (fun s_ w'=>(w'.cell? ⟨gb517,0,none⟩=some (.slice Ao22 x518000_1.length co22)∧w'.cell? ⟨gb512,0,none⟩=some (.slice A1_0 l1_0.length c1_0))∧(Kd.R (Kd.int .i64) 3 w' w.heap.size (fun _=>True) s_ y525)∧(Kd.R k54 54 w' w.heap.size (fun _=>True) (.slice Ao22 x518000_1.length co22) x518000_1)∧(w'.heap[gb512]?=some (.cells #[.slice A1_0 l1_0.length c1_0] 37 (0,0)))∧(w'.heap[gb513]?=some (.cells #[.slice none 0 0] 32 (0,0)))∧(w'.heap[gb517]?=some (.cells #[.slice Ao22 x518000_1.length co22] 32 (0,0)))∧(jg w0 w' g s0_0 t524)∧(jh w w' g none)∧(Below w0.heap.size w0 w')) ?_ ?_
    rotate_left
    ·intro hCont
     refine two_ (i:=5) (j:=7) (Ni:=some 24) (Nj:=some 26) #[true,true,true,true,true,true,true,false,false,false,false] #[true,true,true,true,true,false,true,true,false,false,false] rfl rfl rfl rfl (two_of HT_.out (by kernel_rfl)) (by decide) (by decide) (fun K hK=>?_) (fun K hK=>?_)
     ·skip
      refine goes_ Try.func88 (by kernel_rfl) rfl #[.pointer (some ⟨g,0,none⟩), .int .i64 (l1_0.length:Int)] (by rfl) rfl rfl (aq) ?_
      with_reducible refine (jq.calls k1 g s0_0 x1001_1 (l1_0.length:Int) t523 t524 w0 _ ?side1 ?side2 A19.out).mono ?_
      (case side1=>exact Y3)
      (case side2=>exact Y7)
      rintro e w24 ⟨rfl,hi,hb,hk⟩
      refine ⟨_,rfl,?_⟩
      replace HO_518000:=am (Kd.jD (Kd.jqa (jg.apart (show jg w0 _ g s0_0 x1001_1 from Y3) (rq HO_518000.out) (by decide)) hk (fun _ h=>h.2)) (fun _ h=>h.1))
      replace BK512:=am (jh.blk hk (g':=gb512) (o:=.cells #[.slice A1_0 l1_0.length c1_0] 37 (0,0)) (kq BK512.out) NB512_0.out (by simp))
      replace BK513:=am (jh.blk hk (g':=gb513) (o:=.cells #[.slice none 0 0] 32 (0,0)) (kq BK513.out) NB513_0.out (by simp))
      replace BK517:=am (jh.blk hk (g':=gb517) (o:=.cells #[.slice Ao22 x518000_1.length co22] 32 (0,0)) (kq BK517.out) NB517_0.out (by simp))
      replace HK:=am (jh.trans (Y5) hk (.inl rfl))
      replace HB:=am (hb)
      replace HI0:=am (hi)
      (try clear hb)
      (try clear hb2)
      (try clear hk)
      (try clear hi)
      refine hK.out _ _ ⟨(jH BK517.out 0).trans rfl,(jH BK512.out 0).trans rfl⟩ (fun hHeld=>?_)
      clear hK K
      refine jLb (a':=?_) ?_ ?_
      rotate_left
      ·show Act.put _ (some 24) _=_
       simp only [Act.put,List.setIfInBounds_toArray,List.set_cons_zero,List.set_cons_succ,jjb,job]
       rfl
      refine one_ (i:=7) (N:=some 26) #[true,true,true,true,true,true,true,true,false,false,false] rfl rfl (jUa HT_.out (by kernel_rfl)) (by decide) (fun K hK=>?_)
      refine Kd.jIb (Kd.int .i64) _ 3 ?hg (N:=26) ?hd (xs:=([1,2,3,0,99]:List Int)) (inner:=[.int .i64 1, .int .i64 2, .int .i64 3, .int .i64 0, .int .i64 99]) (ok:=fun _=>True) (okp:=fun _=>True) ?hr ?hp (fun _ hk=>hk) trivial (Below.refl _ _) (Nat.le_refl _) (by simp) ?_;(case hd=>rfl);(case hg=>rfl);(case hr=>exact Y4);(case hp=>exact (Reps.one (show Kd.M (Kd.int .i64) _ _ _ 1 [.int .i64 1] from rfl) (Reps.one (show Kd.M (Kd.int .i64) _ _ _ 2 [.int .i64 2] from rfl) (Reps.one (show Kd.M (Kd.int .i64) _ _ _ 3 [.int .i64 3] from rfl) (Reps.one (show Kd.M (Kd.int .i64) _ _ _ 0 [.int .i64 0] from rfl) (Reps.one (show Kd.M (Kd.int .i64) _ _ _ 99 [.int .i64 99] from rfl) (Reps.none _ _)))))))
      intro v526 w25 ho26 hb hg_ hnew_
      clear hg_ hnew_
      (first | rw [← Ny525.out] at ho26 |(simp only [Int.reduceToNat] at ho26;rw [← Ny525.out] at ho26))
      have HO527:=am (Kd.jla ho26 (jma (w:=w) (g:=g) (row:=none) (Y5)))
      replace HO_518000:=am (Kd.jP (rq HO_518000.out) hb)
      replace BK512:=am (je (g:=gb512) (o:=.cells #[.slice A1_0 l1_0.length c1_0] 37 (0,0)) (kq BK512.out) hb)
      replace BK513:=am (je (g:=gb513) (o:=.cells #[.slice none 0 0] 32 (0,0)) (kq BK513.out) hb)
      replace BK517:=am (je (g:=gb517) (o:=.cells #[.slice Ao22 x518000_1.length co22] 32 (0,0)) (kq BK517.out) hb)
      replace HK:=am (jh.trans (Y5) (jh.of_below hb g none) (.inl rfl))
      replace HB:=am (jl (Y7) hb)
      replace HI0:=am (jg.below (Y3) hb)
      clear hb ho26
      refine hK.out _ _ ⟨(jH BK517.out 0).trans rfl,(jH BK512.out 0).trans rfl⟩ (fun hHeld=>?_)
      clear hK K
      refine jLb (a':=?_) ?_ ?_
      rotate_left
      ·show Act.put _ (some 26) _=_
       simp only [Act.put,List.setIfInBounds_toArray,List.set_cons_zero,List.set_cons_succ,jjb,job]
       rfl
      exact jLb (by simp only [putAll,Act.put,List.setIfInBounds_toArray,List.set_cons_zero,List.set_cons_succ]) (hCont (v526) _ ⟨hHeld,(rq HO527.out),(rq HO_518000.out),(kq BK512.out),(kq BK513.out),(kq BK517.out),(Y3),(Y5),(Y7)⟩)
     ·skip
      refine Kd.jIb (Kd.int .i64) _ 3 ?hg (N:=26) ?hd (xs:=([1,2,3,0,99]:List Int)) (inner:=[.int .i64 1, .int .i64 2, .int .i64 3, .int .i64 0, .int .i64 99]) (ok:=fun _=>True) (okp:=fun _=>True) ?hr ?hp (fun _ hk=>hk) trivial (Below.refl _ _) (Nat.le_refl _) (by simp) ?_;(case hd=>rfl);(case hg=>rfl);(case hr=>exact Y4);(case hp=>exact (Reps.one (show Kd.M (Kd.int .i64) _ _ _ 1 [.int .i64 1] from rfl) (Reps.one (show Kd.M (Kd.int .i64) _ _ _ 2 [.int .i64 2] from rfl) (Reps.one (show Kd.M (Kd.int .i64) _ _ _ 3 [.int .i64 3] from rfl) (Reps.one (show Kd.M (Kd.int .i64) _ _ _ 0 [.int .i64 0] from rfl) (Reps.one (show Kd.M (Kd.int .i64) _ _ _ 99 [.int .i64 99] from rfl) (Reps.none _ _)))))))
      intro v526 w24 ho25 hb hg_ hnew_
      clear hg_ hnew_
      (first | rw [← Ny525.out] at ho25 |(simp only [Int.reduceToNat] at ho25;rw [← Ny525.out] at ho25))
      have HO527:=am (Kd.jla ho25 (jma (w:=w) (g:=g) (row:=none) (Y5)))
      replace HO_518000:=am (Kd.jP (rq HO_518000.out) hb)
      replace BK512:=am (je (g:=gb512) (o:=.cells #[.slice A1_0 l1_0.length c1_0] 37 (0,0)) (kq BK512.out) hb)
      replace BK513:=am (je (g:=gb513) (o:=.cells #[.slice none 0 0] 32 (0,0)) (kq BK513.out) hb)
      replace BK517:=am (je (g:=gb517) (o:=.cells #[.slice Ao22 x518000_1.length co22] 32 (0,0)) (kq BK517.out) hb)
      replace HK:=am (jh.trans (Y5) (jh.of_below hb g none) (.inl rfl))
      replace HB:=am (jl (Y7) hb)
      replace HI0:=am (jg.below (Y3) hb)
      clear hb ho25
      refine hK.out _ _ ⟨(jH BK517.out 0).trans rfl,(jH BK512.out 0).trans rfl⟩ (fun hHeld=>?_)
      clear hK K
      refine jLb (a':=?_) ?_ ?_
      rotate_left
      ·show Act.put _ (some 26) _=_
       simp only [Act.put,List.setIfInBounds_toArray,List.set_cons_zero,List.set_cons_succ,jjb,job]
       rfl
      refine one_ (i:=5) (N:=some 24) #[true,true,true,true,true,true,true,true,false,false,false] rfl rfl (jUa HT_.out (by kernel_rfl)) (by decide) (fun K hK=>?_)
      refine goes_ Try.func88 (by kernel_rfl) rfl #[.pointer (some ⟨g,0,none⟩), .int .i64 (l1_0.length:Int)] (by rfl) rfl rfl (aq) ?_
      with_reducible refine (jq.calls k1 g s0_0 x1001_1 (l1_0.length:Int) t523 t524 w0 _ ?side1 ?side2 A19.out).mono ?_
      (case side1=>exact Y3)
      (case side2=>exact Y7)
      rintro e w26 ⟨rfl,hi,hb,hk⟩
      refine ⟨_,rfl,?_⟩
      replace HO_518000:=am (Kd.jD (Kd.jqa (jg.apart (show jg w0 _ g s0_0 x1001_1 from Y3) (rq HO_518000.out) (by decide)) hk (fun _ h=>h.2)) (fun _ h=>h.1))
      replace BK512:=am (jh.blk hk (g':=gb512) (o:=.cells #[.slice A1_0 l1_0.length c1_0] 37 (0,0)) (kq BK512.out) NB512_0.out (by simp))
      replace BK513:=am (jh.blk hk (g':=gb513) (o:=.cells #[.slice none 0 0] 32 (0,0)) (kq BK513.out) NB513_0.out (by simp))
      replace BK517:=am (jh.blk hk (g':=gb517) (o:=.cells #[.slice Ao22 x518000_1.length co22] 32 (0,0)) (kq BK517.out) NB517_0.out (by simp))
      replace HO527:=am (Kd.jD (Kd.jqa (jg.apart (show jg w0 _ g s0_0 x1001_1 from Y3) (rq HO527.out) (by decide)) hk (fun _ h=>h.2)) (fun _ h=>h.1))
      replace HK:=am (jh.trans (Y5) hk (.inl rfl))
      replace HB:=am (hb)
      replace HI0:=am (hi)
      (try clear hb)
      (try clear hb2)
      (try clear hk)
      (try clear hi)
      refine hK.out _ _ ⟨(jH BK517.out 0).trans rfl,(jH BK512.out 0).trans rfl⟩ (fun hHeld=>?_)
      clear hK K
      refine jLb (a':=?_) ?_ ?_
      rotate_left
      ·show Act.put _ (some 24) _=_
       simp only [Act.put,List.setIfInBounds_toArray,List.set_cons_zero,List.set_cons_succ,jjb,job]
       rfl
      exact jLb (by simp only [putAll,Act.put,List.setIfInBounds_toArray,List.set_cons_zero,List.set_cons_succ]) (hCont (v526) _ ⟨hHeld,(rq HO527.out),(rq HO_518000.out),(kq BK512.out),(kq BK513.out),(kq BK517.out),(Y3),(Y5),(Y7)⟩)
    rintro v526 w27 ⟨hS_,h0_,h1_,h2_,h3_,h4_,h5_,h6_,h7_⟩
    have n0_:jw (Kd.R (Kd.int .i64) 3 w27 w.heap.size (fun _=>True) v526 y525):=⟨h0_⟩
    have n1_:jw (Kd.R k54 54 w27 w.heap.size (fun _=>True) (.slice Ao22 x518000_1.length co22) x518000_1):=⟨h1_⟩
    have n2_:jw (w27.heap[gb512]?=some (.cells #[.slice A1_0 l1_0.length c1_0] 37 (0,0))):=⟨h2_⟩
    have n3_:jw (w27.heap[gb513]?=some (.cells #[.slice none 0 0] 32 (0,0))):=⟨h3_⟩
    have n4_:jw (w27.heap[gb517]?=some (.cells #[.slice Ao22 x518000_1.length co22] 32 (0,0))):=⟨h4_⟩
    have n5_:jw (jg w0 w27 g s0_0 t524):=⟨h5_⟩
    have n6_:jw (jh w w27 g none):=⟨h6_⟩
    have n7_:jw (Below w0.heap.size w0 w27):=⟨h7_⟩
    clear HO_518000
    clear BK512
    clear BK513
    clear BK517
    clear HI0
    clear HK
    clear HB
    clear h0_ h1_ h2_ h3_ h4_ h5_ h6_ h7_
    have HO527:=n0_
    have HO_518000:=n1_
    have BK512:=n2_
    have BK513:=n3_
    have BK517:=n4_
    have HI0:=n5_
    have HK:=n6_
    have HB:=n7_
    clear n0_ n1_ n2_ n3_ n4_ n5_ n6_ n7_
    have hHeld:w27.cell? ⟨gb517,0,none⟩=some (.slice Ao22 x518000_1.length co22)∧w27.cell? ⟨gb512,0,none⟩=some (.slice A1_0 l1_0.length c1_0):=hS_
    obtain ⟨Ao28,co28,eo28⟩:=Kd.jaa HO527.out
    (first | subst eo28 |(injection eo28 with f1_ f2_ f3_;have f4_:=f1_.symm;have f5_:=f3_.symm;clear f1_ f2_ f3_;subst f4_;subst f5_))
    refine jLb (a':=?_) ?_ ?_
    rotate_left
    ·simp only [putAll,Act.put,List.setIfInBounds_toArray,List.set_cons_zero,List.set_cons_succ]
     rfl
    refine one_ (i:=8) (N:=some 27) #[true,true,true,true,true,true,true,true,true,false,false] rfl rfl (jUa HT_.out (by kernel_rfl)) (by decide) (fun K hK=>?_)
    refine goes_ Try.func89 (by kernel_rfl) rfl #[.pointer (some ⟨g,0,none⟩), .slice Ao28 y525.length co28] (by rfl) rfl rfl (aq) ?_
    with_reducible refine (jE.calls k1 g s0_0 t524 _ _ y525 t528 t529 w0 _ ?side1 ?side2 ?side3 ?side4 ?side5 A20.out).mono ?_
    (case side1=>exact Y3)
    (case side2=>exact Y7)
    (case side3=>exact cq (Kd.jB HO527.out).2.2)
    (case side4=>exact (Kd.jB HO527.out).2.1)
    (case side5=>exact jxb (jg.own_ne HI0.out HO527.out (by decide)))
    rintro e w29 ⟨rfl,hi,hb,hk⟩
    refine ⟨_,rfl,?_⟩
    replace HO_518000:=am (Kd.jD (Kd.jqa (jg.apart (show jg w0 _ g s0_0 t524 from Y3) (rq HO_518000.out) (by decide)) hk (fun _ h=>h.2)) (fun _ h=>h.1))
    replace BK512:=am (jh.blk hk (g':=gb512) (o:=.cells #[.slice A1_0 l1_0.length c1_0] 37 (0,0)) (kq BK512.out) NB512_0.out (by simp))
    replace BK513:=am (jh.blk hk (g':=gb513) (o:=.cells #[.slice none 0 0] 32 (0,0)) (kq BK513.out) NB513_0.out (by simp))
    replace BK517:=am (jh.blk hk (g':=gb517) (o:=.cells #[.slice Ao22 x518000_1.length co22] 32 (0,0)) (kq BK517.out) NB517_0.out (by simp))
    replace HO527:=am (Kd.jD (Kd.jqa (jg.apart (show jg w0 _ g s0_0 t524 from Y3) (rq HO527.out) (by decide)) hk (fun _ h=>h.2)) (fun _ h=>h.1))
    replace HK:=am (jh.trans (Y5) hk (.inl rfl))
    replace HB:=am (hb)
    replace HI0:=am (hi)
    (try clear hb)
    (try clear hb2)
    (try clear hk)
    (try clear hi)
    refine hK.out _ _ ⟨(jH BK517.out 0).trans rfl,(jH BK512.out 0).trans rfl⟩ (fun hHeld=>?_)
    clear hK K
    refine jLb (a':=?_) ?_ ?_
    rotate_left
    ·show Act.put _ (some 27) _=_
     simp only [Act.put,List.setIfInBounds_toArray,List.set_cons_zero,List.set_cons_succ,jjb,job]
     rfl
    refine one_ (i:=9) (N:=some 28) #[true,true,true,true,true,true,true,true,true,true,false] rfl rfl (jUa HT_.out (by kernel_rfl)) (by decide) (fun K hK=>?_)
    refine goes_ Try.func91 (by kernel_rfl) rfl #[.agg #[.slice Ao22 x518000_1.length co22], .int .i64 t523, .int .i64 t528] (by rfl) rfl rfl (aq) ?_
    with_reducible refine (jHb.calls _ _ x518000_1 t523 t528 t530 _ ?side1 ?side2 A21.out).mono ?_
    (case side1=>exact cq (Kd.jB HO_518000.out).2.2)
    (case side2=>exact (Kd.jB HO_518000.out).2.1)
    rintro e w30 ⟨v531,rfl,ho0,hb⟩
    refine ⟨_,rfl,?_⟩
    have HO532:=am (Kd.jla (Kd.jAb ho0 (Kd.R_lt (rq HO_518000.out))) (jma (w:=w) (g:=g) (row:=none) (Y5)))
    replace HO_518000:=am (Kd.jTa (rq HO_518000.out) (Kd.jBb ho0) hb)
    replace HO527:=am (Kd.jP (rq HO527.out) hb)
    replace BK512:=am (je (g:=gb512) (o:=.cells #[.slice A1_0 l1_0.length c1_0] 37 (0,0)) (kq BK512.out) hb)
    replace BK513:=am (je (g:=gb513) (o:=.cells #[.slice none 0 0] 32 (0,0)) (kq BK513.out) hb)
    replace BK517:=am (je (g:=gb517) (o:=.cells #[.slice Ao22 x518000_1.length co22] 32 (0,0)) (kq BK517.out) hb)
    replace HK:=am (jh.trans (Y5) (jh.of_below hb g none) (.inl rfl))
    replace HB:=am (jl (Y7) hb)
    replace HI0:=am (jg.below (Y3) hb)
    (try clear hb)
    (try clear hb2)
    (try clear hk)
    (try clear hi)
    (try clear ho0)
    obtain ⟨Ao31,co31,eo31⟩:=Kd.jaa HO532.out
    (first | subst eo31 |(injection eo31 with f1_ f2_ f3_;have f4_:=f1_.symm;have f5_:=f3_.symm;clear f1_ f2_ f3_;subst f4_;subst f5_))
    refine hK.out _ _ ⟨(jH BK517.out 0).trans rfl,(jH BK512.out 0).trans rfl⟩ (fun hHeld=>?_)
    clear hK K
    refine jLb (a':=?_) ?_ ?_
    rotate_left
    ·show Act.put _ (some 28) _=_
     simp only [Act.put,List.setIfInBounds_toArray,List.set_cons_zero,List.set_cons_succ,jjb,job]
     rfl
    refine last_ (i:=10) (N:=none) #[true,true,true,true,true,true,true,true,true,true,true] rfl rfl (jUa HT_.out (by kernel_rfl)) (by decide) (fun K hK=>?_)
    have hs32:w30.cell? ⟨gb517,0,none⟩=some (.slice Ao22 x518000_1.length co22):=(jH BK517.out 0).trans rfl
    have hfs32:=jf BK517.out 0
    have hns32_0:=NB512_517.out
    have hns32_1:=NB513_517.out
    have hms32_0:=NB517_512.out
    have hms32_1:=NB517_513.out
    refine jQb (w1:=?_) (by rfl) rfl ?_ ?_
    rotate_left
    ·go_simp
     rfl
    refine hK.out _ _ ?_
    clear hK K
    refine done_ (jWb HT_.out (by kernel_rfl)) ?_
    try go_wp2
    go_roundg k1
    case measure=>have:=HK1.out;omega
    case rel=>exact ⟨(wrap64 (x6_1 - 1)),(t529),(t530),(.slice Ao31 t530.length co31),(sq),H',⟨by have:=HK1.out;omega⟩,⟨by (with_reducible repeat (first | apply Kd.jL | apply Kd.jM | apply Kd.jN));exact Kd.jD (Kd.jX (p:=⟨gb517,0,none⟩) (Kd.jJ HO532.out BK517.out (by decide)) (fun _ hk=>hk.2) (.slice Ao31 t530.length co31)) (fun _ hk=>trivial)⟩,⟨by (with_reducible repeat (first | refine jb ?_ _ | refine jd ?_ | refine jc ?_ _));refine jA ?_ NB512_517.out _;(with_reducible repeat (first | refine jb ?_ _ | refine jd ?_ | refine jc ?_ _));exact BK512.out⟩,⟨by (with_reducible repeat (first | refine jb ?_ _ | refine jd ?_ | refine jc ?_ _));refine jA ?_ NB513_517.out _;(with_reducible repeat (first | refine jb ?_ _ | refine jd ?_ | refine jc ?_ _));exact BK513.out⟩,⟨by (with_reducible repeat (first | refine jb ?_ _ | refine jd ?_ | refine jc ?_ _));refine jfa (cs:=#[.slice Ao22 x518000_1.length co22]) ?_ 0 _ rfl;(with_reducible repeat (first | refine jb ?_ _ | refine jd ?_ | refine jc ?_ _));exact BK517.out⟩,⟨Y3⟩,⟨Y5⟩,⟨Y7⟩⟩
   ·rw [if_neg c18] at H
    have c18b0:decide (0<x6_1)=false:=dzF c18
    clear c18
    obtain ⟨y533,hy533⟩:∃ y_:List Int,y_=(([3,4,2,5,0]:List Int)):=⟨_,rfl⟩
    replace H:((jE.f k1 s0_0 x1001_1 y533).bind fun bt536=>(jv.l1 k1 bt536.1 s0_0 bt536.2 x518000_1))=some (r1,r2):=by first |(rw [hy533];with_reducible exact H) |(have H2_:=(Option.bind_some _ _).symm.trans H;rw [hy533];with_reducible exact H2_) |(have H2_:=(Option.bind_some _ _).symm.trans H;with_reducible exact H2_) | with_reducible exact H |(rw [hy533];exact H) | exact H
    have Ny533:=am hy533
    clear hy533
    replace H:=bzS H
    obtain ⟨⟨t536,t537⟩,A330,H⟩:=H
    replace H:(jv.l1 k1 t536 s0_0 t537 x518000_1)=some (r1,r2):=H
    have A33:=am A330
    clear A330
    have H':=am H
    clear H
    go_wp2_with (first |((with_reducible refine jI (N:=30) rfl ?_);(try (refine jWa (by rfl) ?_;dsimp only));refine Kd.R_lit (Kd.int .i64) _ 3 ?hg (N:=30) ?hd (xs:=([3,4,2,5,0]:List Int)) (inner:=[.int .i64 3, .int .i64 4, .int .i64 2, .int .i64 5, .int .i64 0]) (ok:=fun _=>True) (okp:=fun _=>True) ?hr ?hp (fun _ hk=>hk) trivial (Below.refl _ _) (Nat.le_refl _) (by simp) ?_;(case hd=>rfl);(case hg=>rfl);(case hr=>exact Y4);(case hp=>exact (Reps.one (show Kd.M (Kd.int .i64) _ _ _ 3 [.int .i64 3] from rfl) (Reps.one (show Kd.M (Kd.int .i64) _ _ _ 4 [.int .i64 4] from rfl) (Reps.one (show Kd.M (Kd.int .i64) _ _ _ 2 [.int .i64 2] from rfl) (Reps.one (show Kd.M (Kd.int .i64) _ _ _ 5 [.int .i64 5] from rfl) (Reps.one (show Kd.M (Kd.int .i64) _ _ _ 0 [.int .i64 0] from rfl) (Reps.none _ _)))))));intro v534 w34 ho35 hb hg_ hnew_;clear hg_ hnew_;(first | rw [← Ny533.out] at ho35 |(simp only [Int.reduceToNat] at ho35;rw [← Ny533.out] at ho35));have HO535:=am (Kd.jla ho35 (jma (w:=w) (g:=g) (row:=none) (Y5)));replace HO_518000:=am (Kd.jP (rq HO_518000.out) hb);replace BK512:=am (je (g:=gb512) (o:=.cells #[.slice A1_0 l1_0.length c1_0] 37 (0,0)) (kq BK512.out) hb);replace BK513:=am (je (g:=gb513) (o:=.cells #[.slice none 0 0] 32 (0,0)) (kq BK513.out) hb);replace BK517:=am (je (g:=gb517) (o:=.cells #[u518000] 32 (0,0)) (kq BK517.out) hb);replace HK:=am (jh.trans (Y5) (jh.of_below hb g none) (.inl rfl));replace HB:=am (jl (Y7) hb);replace HI0:=am (jg.below (Y3) hb);clear hb ho35;obtain ⟨Ao36,co36,eo36⟩:=Kd.jaa HO535.out;subst eo36) |((with_reducible refine jC (f:=89) rfl ?_);refine gL (some 31) Try.func89 #[.pointer (some ⟨g,0,none⟩), .slice Ao36 y533.length co36] ?_;(with_reducible refine (jE.calls k1 g s0_0 x1001_1 _ _ y533 t536 t537 w0 _ ?side1 ?side2 ?side3 ?side4 ?side5 A33.out).mono ?_);(case side1=>exact Y3);(case side2=>exact Y7);(case side3=>exact cq (Kd.jB HO535.out).2.2);(case side4=>exact (Kd.jB HO535.out).2.1);(case side5=>exact jxb (jg.own_ne HI0.out HO535.out (by decide)));rintro e w37 ⟨rfl,hi,hb,hk⟩;refine ⟨_,rfl,?_⟩;replace HO_518000:=am (Kd.jD (Kd.jqa (jg.apart (show jg w0 _ g s0_0 x1001_1 from Y3) (rq HO_518000.out) (by decide)) hk (fun _ h=>h.2)) (fun _ h=>h.1));replace BK512:=am (jh.blk hk (g':=gb512) (o:=.cells #[.slice A1_0 l1_0.length c1_0] 37 (0,0)) (kq BK512.out) NB512_0.out (by simp));replace BK513:=am (jh.blk hk (g':=gb513) (o:=.cells #[.slice none 0 0] 32 (0,0)) (kq BK513.out) NB513_0.out (by simp));replace BK517:=am (jh.blk hk (g':=gb517) (o:=.cells #[u518000] 32 (0,0)) (kq BK517.out) NB517_0.out (by simp));replace HO535:=am (Kd.jD (Kd.jqa (jg.apart (show jg w0 _ g s0_0 x1001_1 from Y3) (rq HO535.out) (by decide)) hk (fun _ h=>h.2)) (fun _ h=>h.1));replace HK:=am (jh.trans (Y5) hk (.inl rfl));replace HB:=am (hb);replace HI0:=am (hi);(try clear hb);(try clear hb2);(try clear hk);(try clear hi)))
    go_loopg [7] k1 (fun kq v7 w'=>∃ (x7_2:Int) (x1001_2:Int) (x518000_2:List (S54)) (u518000:Value),v7=.int .i64 x7_2∧jw (jv.l1 kq x7_2 s0_0 x1001_2 x518000_2=some (r1,r2))∧jw (kq≤k1)∧jw (Kd.R k54 54 w' w.heap.size (fun _=>True) u518000 x518000_2)∧jw (w'.heap[gb512]?=some (.cells #[(.slice A1_0 l1_0.length c1_0)] 37 (0,0)))∧jw (w'.heap[gb513]?=some (.cells #[(.slice none 0 0)] 32 (0,0)))∧jw (w'.heap[gb517]?=some (.cells #[u518000] 32 (0,0)))∧jw (jg w0 w' g s0_0 x1001_2)∧jw (jh w w' g none)∧jw (Below w0.heap.size w0 w'))
    case atStart=>exact ⟨(t536),(t537),(x518000_1),(u518000),(sq),H',⟨Nat.le_refl _⟩,⟨rq HO_518000.out⟩,⟨kq BK512.out⟩,⟨kq BK513.out⟩,⟨kq BK517.out⟩,⟨Y3⟩,⟨Y5⟩,⟨Y7⟩⟩
    case round =>
     clear H'
     try clear c1
     try clear p2
     try clear c6
     try clear p6
     try clear c8
     try clear c9
     try clear c10
     try clear c11
     try clear c12
     try clear c18
     try clear c18b0
     try clear hcz13_0
     try clear hfz13_0
     try clear p2
     obtain ⟨x7_2,x1001_2,x518000_2,u518000,rfl,HA,HK2,HO_518000,BK512,BK513,BK517,HI0,HK,HB⟩:=hrel
     cases gk with
     | zero=>exact absurd HA.out (by simp [jv.l1])
     | succ k2 =>
      have H:=HA.out
      clear HA
      simp only [jv.l1] at H
      have HC38:=am H
      clear H
      go_upto_region 7 with (fail)
      go_cut [39] (fun v39 wc=>∃ (kq:Nat) (x39_37:Bool),v39=.bool x39_37∧jw (jv.j2 kq x7_2 x39_37 s0_0 x1001_2 x518000_2=some (r1,r2))∧jw (kq≤k2)∧jw (Kd.R k54 54 wc w.heap.size (fun _=>True) u518000 x518000_2)∧jw (wc.heap[gb512]?=some (.cells #[(.slice A1_0 l1_0.length c1_0)] 37 (0,0)))∧jw (wc.heap[gb513]?=some (.cells #[(.slice none 0 0)] 32 (0,0)))∧jw (wc.heap[gb517]?=some (.cells #[u518000] 32 (0,0)))∧jw (jg w0 wc g s0_0 x1001_2)∧jw (jh w wc g none)∧jw (Below w0.heap.size w0 wc))
      case first =>
       have H:=HC38.out
       clear HC38
       by_cases c39:x7_2 > 0
       ·rw [if_pos c39] at H
        have c39b0:decide (0<x7_2)=true:=dzT c39
        clear c39
        (first | rw [c39b0] |(simp only [jjb,job];rw [c39b0]) | skip)
        have H':=am H
        clear H
        have hnb40:=NB517_512.out
        have hnc40:=NB512_517.out
        have hnb41:=NB517_513.out
        have hnc41:=NB513_517.out
        have hnb42:=NB517_0.out
        have hnc42:=NB0_517.out
        have hcz43_0:=bc0 BK517.out
        have hfz43_0:=jf BK517.out 0
        obtain ⟨Ao44,co44,eo44⟩:=Kd.jaa HO_518000.out
        subst eo44
        go_wp2
        go_meet
        case rel=>exact ⟨_,(decide ((x518000_2.length:Int) > 1)),(sq),H',⟨by have:=HK1.out;have:=HK2.out;first | omega | exact Nat.le_refl _⟩,⟨rq HO_518000.out⟩,⟨kq BK512.out⟩,⟨kq BK513.out⟩,⟨kq BK517.out⟩,⟨Y3⟩,⟨Y5⟩,⟨Y7⟩⟩
       ·rw [if_neg c39] at H
        have c39b0:decide (0<x7_2)=false:=dzF c39
        clear c39
        (first | rw [c39b0] |(simp only [jjb,job];rw [c39b0]) | skip)
        have H':=am H
        clear H
        go_wp2
        go_meet
        case rel=>exact ⟨_,(false),(sq),H',⟨by have:=HK1.out;have:=HK2.out;first | omega | exact Nat.le_refl _⟩,⟨rq HO_518000.out⟩,⟨kq BK512.out⟩,⟨kq BK513.out⟩,⟨kq BK517.out⟩,⟨Y3⟩,⟨Y5⟩,⟨Y7⟩⟩
      case rest =>
       clear HC38
       try clear c1
       try clear p2
       try clear c3
       try clear c4
       try clear c6
       try clear p6
       try clear c8
       try clear c9
       try clear c10
       try clear c11
       try clear c12
       try clear c18
       try clear c18b0
       try clear c39
       try clear c39b0
       try clear c40
       try clear c41
       try clear c42
       try clear hcz13_0
       try clear hcz43_0
       try clear hfz13_0
       try clear hfz43_0
       try clear p2
       try clear p6
       obtain ⟨kq,x39_37,rfl,HA,HJ37,HO_518000,BK512,BK513,BK517,HI0,HK,HB⟩:=hcut
       cases kq with
       | zero=>exact absurd HA.out (by simp [jv.j2])
       | succ kj37 =>
        have H:=HA.out
        clear HA
        simp only [jv.j2] at H
        by_cases c45:x39_37=true
        ·subst c45
         have H1:((jq.f kj37 s0_0 x1001_2 (x518000_2.length:Int)).bind fun bt538=>((jq.f kj37 s0_0 bt538.2 (x518000_2.length:Int)).bind fun bt540=>(if bt538.1=bt540.1 then (if 0≤bt538.1 then (if bt538.1<(x518000_2.length:Int) then (jv.l1 kj37 (wrap64 (x7_2 - 1)) s0_0 bt540.2 (x518000_2.set (bt538.1:Int).toNat (⟨(ja x518000_2 bt538.1).f0,(ja x518000_2 bt538.1).f1,(ja x518000_2 bt538.1).f2,(ja x518000_2 bt538.1).f3,!((ja x518000_2 bt538.1).f4)⟩:S54))) else (none)) else (none)) else ((jq.f kj37 s0_0 bt540.2 3).bind fun bt544=>(if bt544.1=0 then (if 0≤bt538.1 then (if bt538.1<(x518000_2.length:Int) then ((some (x518000_2.set (bt538.1:Int).toNat (⟨(ja x518000_2 bt538.1).f0,(ja x518000_2 bt538.1).f1,bt540.1,(ja x518000_2 bt538.1).f3,(ja x518000_2 bt538.1).f4⟩:S54):List (S54))).bind fun y546=>(jv.l1 kj37 (wrap64 (x7_2 - 1)) s0_0 bt544.2 (y546.set (bt538.1:Int).toNat (⟨(ja y546 bt538.1).f0,(ja y546 bt538.1).f1,(ja y546 bt538.1).f2,(ja y546 bt538.1).f3,true⟩:S54)))) else (none)) else (none)) else ((jja.f kj37 x518000_2 bt538.1 bt540.1).bind fun t548=>(jv.l1 kj37 (wrap64 (x7_2 - 1)) s0_0 bt544.2 t548)))))))=some (r1,r2):=by rw [if_pos rfl] at H;exact H
         clear H
         have H:=H1
         clear H1
         replace H:=bzS H
         obtain ⟨⟨t538,t539⟩,A460,H⟩:=H
         replace H:((jq.f kj37 s0_0 t539 (x518000_2.length:Int)).bind fun bt540=>(if t538=bt540.1 then (if 0≤t538 then (if t538<(x518000_2.length:Int) then (jv.l1 kj37 (wrap64 (x7_2 - 1)) s0_0 bt540.2 (x518000_2.set (t538:Int).toNat (⟨(ja x518000_2 t538).f0,(ja x518000_2 t538).f1,(ja x518000_2 t538).f2,(ja x518000_2 t538).f3,!((ja x518000_2 t538).f4)⟩:S54))) else (none)) else (none)) else ((jq.f kj37 s0_0 bt540.2 3).bind fun bt544=>(if bt544.1=0 then (if 0≤t538 then (if t538<(x518000_2.length:Int) then ((some (x518000_2.set (t538:Int).toNat (⟨(ja x518000_2 t538).f0,(ja x518000_2 t538).f1,bt540.1,(ja x518000_2 t538).f3,(ja x518000_2 t538).f4⟩:S54):List (S54))).bind fun y546=>(jv.l1 kj37 (wrap64 (x7_2 - 1)) s0_0 bt544.2 (y546.set (t538:Int).toNat (⟨(ja y546 t538).f0,(ja y546 t538).f1,(ja y546 t538).f2,(ja y546 t538).f3,true⟩:S54)))) else (none)) else (none)) else ((jja.f kj37 x518000_2 t538 bt540.1).bind fun t548=>(jv.l1 kj37 (wrap64 (x7_2 - 1)) s0_0 bt544.2 t548))))))=some (r1,r2):=H
         have A46:=am A460
         clear A460
         replace H:=bzS H
         obtain ⟨⟨t540,t541⟩,A470,H⟩:=H
         replace H:(if t538=t540 then (if 0≤t538 then (if t538<(x518000_2.length:Int) then (jv.l1 kj37 (wrap64 (x7_2 - 1)) s0_0 t541 (x518000_2.set (t538:Int).toNat (⟨(ja x518000_2 t538).f0,(ja x518000_2 t538).f1,(ja x518000_2 t538).f2,(ja x518000_2 t538).f3,!((ja x518000_2 t538).f4)⟩:S54))) else (none)) else (none)) else ((jq.f kj37 s0_0 t541 3).bind fun bt544=>(if bt544.1=0 then (if 0≤t538 then (if t538<(x518000_2.length:Int) then ((some (x518000_2.set (t538:Int).toNat (⟨(ja x518000_2 t538).f0,(ja x518000_2 t538).f1,t540,(ja x518000_2 t538).f3,(ja x518000_2 t538).f4⟩:S54):List (S54))).bind fun y546=>(jv.l1 kj37 (wrap64 (x7_2 - 1)) s0_0 bt544.2 (y546.set (t538:Int).toNat (⟨(ja y546 t538).f0,(ja y546 t538).f1,(ja y546 t538).f2,(ja y546 t538).f3,true⟩:S54)))) else (none)) else (none)) else ((jja.f kj37 x518000_2 t538 t540).bind fun t548=>(jv.l1 kj37 (wrap64 (x7_2 - 1)) s0_0 bt544.2 t548)))))=some (r1,r2):=H
         have A47:=am A470
         clear A470
         by_cases c48:t538=t540
         ·rw [if_pos c48] at H
          have c48b0:(t538 == t540)=true:=beq_iff_eq.mpr c48
          have c48b1:(t538 != t540)=false:=bne_eq_false_iff_eq.mpr c48
          clear c48
          by_cases c49:0≤t538
          ·rw [if_pos c49] at H
           have c49b0:decide (0≤t538)=true:=dzT c49
           clear c49
           by_cases c50:t538<(x518000_2.length:Int)
           ·rw [if_pos c50] at H
            have c50b0:decide (t538<(x518000_2.length:Int))=true:=dzT c50
            clear c50
            obtain ⟨y543,hy543⟩:∃ y_:List (S54),y_=(x518000_2.set (t538:Int).toNat (⟨(ja x518000_2 t538).f0,(ja x518000_2 t538).f1,(ja x518000_2 t538).f2,(ja x518000_2 t538).f3,!((ja x518000_2 t538).f4)⟩:S54)):=⟨_,rfl⟩
            replace H:(jv.l1 kj37 (wrap64 (x7_2 - 1)) s0_0 t541 y543)=some (r1,r2):=by first |(rw [hy543];with_reducible exact H) |(have H2_:=(Option.bind_some _ _).symm.trans H;rw [hy543];with_reducible exact H2_) |(have H2_:=(Option.bind_some _ _).symm.trans H;with_reducible exact H2_) | with_reducible exact H |(rw [hy543];exact H) | exact H
            have Ny543:=am hy543
            clear hy543
            have H':=am H
            clear H
            have hnb52:=NB517_512.out
            have hnc52:=NB512_517.out
            have hnb53:=NB517_513.out
            have hnc53:=NB513_517.out
            have hnb54:=NB517_0.out
            have hnc54:=NB0_517.out
            have hcz55_0:=bc0 BK517.out
            have hfz55_0:=jf BK517.out 0
            obtain ⟨Ao56,co56,eo56⟩:=Kd.jaa HO_518000.out
            subst eo56
            try go_wp2_with (first |((with_reducible refine jC (f:=88) rfl ?_);refine gL (some 46) Try.func88 #[.pointer (some ⟨g,0,none⟩), .int .i64 (x518000_2.length:Int)] ?_;(with_reducible refine (jq.calls kj37 g s0_0 x1001_2 (x518000_2.length:Int) t538 t539 w0 _ ?side1 ?side2 A46.out).mono ?_);(case side1=>exact Y3);(case side2=>exact Y7);rintro e w57 ⟨rfl,hi,hb,hk⟩;refine ⟨_,rfl,?_⟩;replace HO_518000:=am (Kd.jD (Kd.jqa (jg.apart (show jg w0 _ g s0_0 x1001_2 from Y3) (rq HO_518000.out) (by decide)) hk (fun _ h=>h.2)) (fun _ h=>h.1));replace BK512:=am (jh.blk hk (g':=gb512) (o:=.cells #[.slice A1_0 l1_0.length c1_0] 37 (0,0)) (kq BK512.out) NB512_0.out (by simp));replace BK513:=am (jh.blk hk (g':=gb513) (o:=.cells #[.slice none 0 0] 32 (0,0)) (kq BK513.out) NB513_0.out (by simp));replace BK517:=am (jh.blk hk (g':=gb517) (o:=.cells #[.slice Ao56 x518000_2.length co56] 32 (0,0)) (kq BK517.out) NB517_0.out (by simp));replace HK:=am (jh.trans (Y5) hk (.inl rfl));replace HB:=am (hb);replace HI0:=am (hi);(try clear hb);(try clear hb2);(try clear hk);(try clear hi);have hcz58_0:=bc0 BK517.out;have hfz58_0:=jf BK517.out 0) |((with_reducible refine jC (f:=88) rfl ?_);refine gL (some 51) Try.func88 #[.pointer (some ⟨g,0,none⟩), .int .i64 (x518000_2.length:Int)] ?_;(with_reducible refine (jq.calls kj37 g s0_0 t539 (x518000_2.length:Int) t540 t541 w0 _ ?side1 ?side2 A47.out).mono ?_);(case side1=>exact Y3);(case side2=>exact Y7);rintro e w59 ⟨rfl,hi,hb,hk⟩;refine ⟨_,rfl,?_⟩;replace HO_518000:=am (Kd.jD (Kd.jqa (jg.apart (show jg w0 _ g s0_0 t539 from Y3) (rq HO_518000.out) (by decide)) hk (fun _ h=>h.2)) (fun _ h=>h.1));replace BK512:=am (jh.blk hk (g':=gb512) (o:=.cells #[.slice A1_0 l1_0.length c1_0] 37 (0,0)) (kq BK512.out) NB512_0.out (by simp));replace BK513:=am (jh.blk hk (g':=gb513) (o:=.cells #[.slice none 0 0] 32 (0,0)) (kq BK513.out) NB513_0.out (by simp));replace BK517:=am (jh.blk hk (g':=gb517) (o:=.cells #[.slice Ao56 x518000_2.length co56] 32 (0,0)) (kq BK517.out) NB517_0.out (by simp));replace HK:=am (jh.trans (Y5) hk (.inl rfl));replace HB:=am (hb);replace HI0:=am (hi);(try clear hb);(try clear hb2);(try clear hk);(try clear hi)))
            replace HO_518000:=am (Kd.jN HO_518000.out)
            replace BK512:=am (jd BK512.out)
            replace BK513:=am (jd BK513.out)
            replace BK517:=am (jd BK517.out)
            replace HI0:=am (jg.drew HI0.out)
            replace HK:=am (jka HK.out)
            replace HB:=am (jr HB.out)
            have p542:0≤(t538:Int):=ozD (uq)
            have q542:t538<(x518000_2.length:Int):=ozD (uq)
            obtain ⟨ad542,e542,hx542_0,hx542_1,hx542_2,hx542_3,hx542_4⟩:=jfb (Kd.jB HO_518000.out).2.2 t538 p542 q542
            cases e542
            replace p542:=ezT p542
            replace q542:=ezT q542
            have p51:0≤(t538:Int):=ozD (uq)
            have q51:(t538:Int)<((x518000_2.length:Int):Int):=ozD (uq)
            obtain ⟨go51,co51,eo51,gb51,gl51,cl51,HG51⟩:=Kd.R_form HO_518000.out (by omega)
            (first | cases eo51 |(injection eo51 with ea_ en_ ec_;(first | subst ea_ |(injection ea_ with ea_;subst ea_));subst ec_;clear en_))
            have GB51:=am gb51
            have GG51:=am HG51
            clear gb51 gl51 HG51
            (first | simp only [add_plain] at hx542_0 | skip)
            (first | simp only [add_plain] at hx542_1 | skip)
            (first | simp only [add_plain] at hx542_2 | skip)
            (first | simp only [add_plain] at hx542_3 | skip)
            (first | simp only [add_plain] at hx542_4 | skip)
            obtain ⟨ce51,hcl51,hM51,hcc51,hfr51⟩:=Kd.jub HO_518000.out z54 (t538:Int) p51 q51
            obtain rfl:=jQa hM51
            have hx51_0:World.cell? _ ⟨go51,(t538:Int).toNat * 5,none⟩=some (.int .i64 ((ja x518000_2 t538).f0)):=hcc51 0 _ rfl
            have hx51_1:World.cell? _ ⟨go51,(t538:Int).toNat * 5+1,none⟩=some (.int .i64 ((ja x518000_2 t538).f1)):=hcc51 1 _ rfl
            have hx51_2:World.cell? _ ⟨go51,(t538:Int).toNat * 5+2,none⟩=some (.int .i64 ((ja x518000_2 t538).f2)):=hcc51 2 _ rfl
            have hx51_3:World.cell? _ ⟨go51,(t538:Int).toNat * 5+3,none⟩=some (.int .i64 ((ja x518000_2 t538).f3)):=hcc51 3 _ rfl
            have hx51_4:World.cell? _ ⟨go51,(t538:Int).toNat * 5+4,none⟩=some (.bool ((ja x518000_2 t538).f4)):=hcc51 4 _ rfl
            have hf51_0:World.frozen? _ ⟨go51,(t538:Int).toNat * 5,none⟩=false:=hfr51 0
            have hf51_1:World.frozen? _ ⟨go51,(t538:Int).toNat * 5+1,none⟩=false:=hfr51 1
            have hf51_2:World.frozen? _ ⟨go51,(t538:Int).toNat * 5+2,none⟩=false:=hfr51 2
            have hf51_3:World.frozen? _ ⟨go51,(t538:Int).toNat * 5+3,none⟩=false:=hfr51 3
            have hf51_4:World.frozen? _ ⟨go51,(t538:Int).toNat * 5+4,none⟩=false:=hfr51 4
            clear hcl51 hcc51 hfr51 hM51
            replace p51:=ezT p51
            replace q51:=ezT q51
            have HN0_go51:=am (show g≠go51 from by have h_:=jg.own_ne HI0.out HO_518000.out (by decide);intro e_;exact h_ (by rw [e_];rfl))
            obtain ⟨ce61,hcl61,hM61,hcc61,hfr61⟩:=Kd.jub HO_518000.out z54 (t538:Int) (ozD (uq)) (by have h_:(t538:Int)<((x518000_2.length:Int):Int):=ozD (uq);first | exact h_ |(have e_:=(Kd.jB HO_518000.out).1;omega) | simpa using h_)
            obtain rfl:=jQa hM61
            have HP61:=(Kd.R_seg HO_518000.out (t538:Int) (ozD (uq)) (by have h_:(t538:Int)<((x518000_2.length:Int):Int):=ozD (uq);first | exact h_ |(have e_:=(Kd.jB HO_518000.out).1;omega) | simpa using h_) (seg:=[.bool (!((ja x518000_2 t538).f4))]) (j:=4) hcl61 hcc61 (show 5≤5 from by decide) (x':=(⟨(ja x518000_2 t538).f0,(ja x518000_2 t538).f1,(ja x518000_2 t538).f2,(ja x518000_2 t538).f3,!((ja x518000_2 t538).f4)⟩:S54)) (jGb _ _ _ (⟨(ja x518000_2 t538).f0,(ja x518000_2 t538).f1,(ja x518000_2 t538).f2,(ja x518000_2 t538).f3,!((ja x518000_2 t538).f4)⟩:S54) ) (fun _ hk=>hk)).1
            rw [← Ny543.out] at HP61
            have HQ61:=am HP61
            clear hcl61 hcc61 hfr61 hM61 HP61
            refine jPb (n:=13) (S:=fun w'=>w'.cell? ⟨gb517,0,none⟩=some (.slice (some ⟨go51,0,none⟩) x518000_2.length co56)∧w'.cell? ⟨go51,((t538).toNat * 5),none⟩=some (.int .i64 ((ja x518000_2 t538).f0))∧w'.cell? ⟨go51,((t538).toNat * 5)+1,none⟩=some (.int .i64 ((ja x518000_2 t538).f1))∧w'.cell? ⟨go51,((t538).toNat * 5)+2,none⟩=some (.int .i64 ((ja x518000_2 t538).f2))∧w'.cell? ⟨go51,((t538).toNat * 5)+3,none⟩=some (.int .i64 ((ja x518000_2 t538).f3))∧w'.cell? ⟨go51,((t538).toNat * 5)+4,none⟩=some (.bool ((ja x518000_2 t538).f4))) (ds:=[12]) #[false,false,false,false,false,false,false,false,false,false,false,false,false] (by kernel_rfl) rfl rfl ⟨(jH BK517.out 0).trans rfl,hx542_0,hx542_1,hx542_2,hx542_3,hx542_4⟩ (fun hHeld=>?_);refine jvb jv.tab13 jv.bits13 (fun HT_ HW_=>?_)
            generalize w59.drew=w60 at HO_518000 BK512 BK513 BK517 HI0 HK HB GG51 HQ61 hf51_0 hf51_1 hf51_2 hf51_3 hf51_4 hx51_0 hx51_1 hx51_2 hx51_3 hx51_4 hx542_0 hx542_1 hx542_2 hx542_3 hx542_4 hHeld ⊢
            refine pq (i:=0) (N:=some 60) #[true,false,false,false,false,false,false,false,false,false,false,false,false] ?_
            refine pq (i:=2) (N:=some 62) #[true,false,true,false,false,false,false,false,false,false,false,false,false] ?_
            refine pq (i:=3) (N:=some 63) #[true,false,true,true,false,false,false,false,false,false,false,false,false] ?_
            refine pq (i:=5) (N:=some 65) #[true,false,true,true,false,true,false,false,false,false,false,false,false] ?_
            refine jwb (i:=1) (N:=some 61) (v:=?_) (a':=?_) #[true,true,true,true,false,true,false,false,false,false,false,false,false] rfl rfl (jZa HT_.out HW_.out (by kernel_rfl)) (fun _ _ _ h=>h) (Or.inl ⟨by rfl,?_⟩) hHeld ?_ ?_
            rotate_left
            ·rintro w' ⟨s0,s1,s2,s3,s4,s5⟩
             go_simp
             with_reducible rfl
            rotate_left
            ·exact sa
            refine jwb (i:=4) (N:=some 64) (v:=?_) (a':=?_) #[true,true,true,true,true,true,false,false,false,false,false,false,false] rfl rfl (jZa HT_.out HW_.out (by kernel_rfl)) (fun _ _ _ h=>h) (Or.inl ⟨by rfl,?_⟩) hHeld ?_ ?_
            rotate_left
            ·rintro w' ⟨s0,s1,s2,s3,s4,s5⟩
             go_simp
             with_reducible rfl
            rotate_left
            ·exact sa
            refine pq (i:=6) (N:=some 66) #[true,true,true,true,true,true,true,false,false,false,false,false,false] ?_
            refine pq (i:=7) (N:=some 67) #[true,true,true,true,true,true,true,true,false,false,false,false,false] ?_
            refine jwb (i:=8) (N:=some 68) (v:=?_) (a':=?_) #[true,true,true,true,true,true,true,true,true,false,false,false,false] rfl rfl (jZa HT_.out HW_.out (by kernel_rfl)) (fun _ _ _ h=>h) (Or.inl ⟨by rfl,?_⟩) hHeld ?_ ?_
            rotate_left
            ·rintro w' ⟨s0,s1,s2,s3,s4,s5⟩
             go_simp
             with_reducible rfl
            rotate_left
            ·exact sa
            refine pq (i:=9) (N:=some 69) #[true,true,true,true,true,true,true,true,true,true,false,false,false] ?_
            refine pq (i:=10) (N:=some 70) #[true,true,true,true,true,true,true,true,true,true,true,false,false] ?_
            refine pq (i:=11) (N:=some 71) #[true,true,true,true,true,true,true,true,true,true,true,true,false] ?_
            refine last_ (i:=12) (N:=none) #[true,true,true,true,true,true,true,true,true,true,true,true,true] rfl rfl (jUa HT_.out (by kernel_rfl)) (by decide) (fun K hK=>?_)
            refine jQb (w1:=?_) (by rfl) rfl ?_ ?_
            rotate_left
            ·go_simp
             rfl
            refine hK.out _ _ ?_
            clear hK K
            refine done_ (jWb HT_.out (by kernel_rfl)) ?_
            try go_wp2
            go_roundg kj37
            case measure=>have:=HK1.out;have:=HK2.out;have:=HJ37.out;omega
            case rel=>exact ⟨(wrap64 (x7_2 - 1)),(t541),(y543),(.slice (some ⟨go51,0,none⟩) x518000_2.length co56),(sq),H',⟨by have:=HK1.out;have:=HK2.out;have:=HJ37.out;omega⟩,⟨rq HQ61.out⟩,⟨by (with_reducible repeat (first | refine jb ?_ _ | refine jd ?_ | refine jc ?_ _));refine jA ?_ (by have h_:=Kd.R_ne HO_518000.out BK512.out (by decide);intro e_;exact h_ (by rw [e_];rfl)) _;(with_reducible repeat (first | refine jb ?_ _ | refine jd ?_ | refine jc ?_ _));exact BK512.out⟩,⟨by (with_reducible repeat (first | refine jb ?_ _ | refine jd ?_ | refine jc ?_ _));refine jA ?_ (by have h_:=Kd.R_ne HO_518000.out BK513.out (by decide);intro e_;exact h_ (by rw [e_];rfl)) _;(with_reducible repeat (first | refine jb ?_ _ | refine jd ?_ | refine jc ?_ _));exact BK513.out⟩,⟨by (with_reducible repeat (first | refine jb ?_ _ | refine jd ?_ | refine jc ?_ _));refine jA ?_ (by have h_:=Kd.R_ne HO_518000.out BK517.out (by decide);intro e_;exact h_ (by rw [e_];rfl)) _;(with_reducible repeat (first | refine jb ?_ _ | refine jd ?_ | refine jc ?_ _));exact BK517.out⟩,⟨by repeat (first |(with_reducible first | exact HI0.out | apply jg.alloc | apply jg.drewN | apply jg.drew | apply jg.jmb | refine jg.far ?_ HN0_go51.out _ | refine jg.far ?_ NB0_512.out _ | refine jg.far ?_ NB0_513.out _ | refine jg.far ?_ NB0_517.out _) | exact HI0.out)⟩,⟨by repeat (first |(with_reducible first | exact HK.out | apply jh.set_ | apply jAa | apply jka | apply jBa | refine jba ?_ GB51.out _ | refine jba ?_ GW512.out _ | refine jba ?_ GW513.out _ | refine jba ?_ GW517.out _) | exact HK.out)⟩,⟨by repeat (first |(with_reducible first | exact HB.out | apply jy | apply jo | apply jr | refine jk ?_ (Nat.le_trans HL.out GB51.out) | refine jk ?_ (jg.ge HI0.out) | refine jk ?_ GE512.out | refine jk ?_ GE513.out | refine jk ?_ GE517.out) | exact HB.out)⟩⟩
           ·rw [if_neg c50] at H
            exact absurd H (by simp)
          ·rw [if_neg c49] at H
           exact absurd H (by simp)
         ·rw [if_neg c48] at H
          have c48b0:(t538 == t540)=false:=beq_eq_false_iff_ne.mpr c48
          have c48b1:(t538 != t540)=true:=bne_iff_ne.mpr c48
          replace H:=bzS H
          obtain ⟨⟨t544,t545⟩,A620,H⟩:=H
          replace H:(if t544=0 then (if 0≤t538 then (if t538<(x518000_2.length:Int) then ((some (x518000_2.set (t538:Int).toNat (⟨(ja x518000_2 t538).f0,(ja x518000_2 t538).f1,t540,(ja x518000_2 t538).f3,(ja x518000_2 t538).f4⟩:S54):List (S54))).bind fun y546=>(jv.l1 kj37 (wrap64 (x7_2 - 1)) s0_0 t545 (y546.set (t538:Int).toNat (⟨(ja y546 t538).f0,(ja y546 t538).f1,(ja y546 t538).f2,(ja y546 t538).f3,true⟩:S54)))) else (none)) else (none)) else ((jja.f kj37 x518000_2 t538 t540).bind fun t548=>(jv.l1 kj37 (wrap64 (x7_2 - 1)) s0_0 t545 t548)))=some (r1,r2):=H
          have A62:=am A620
          clear A620
          by_cases c63:t544=0
          ·rw [if_pos c63] at H
           have c63b0:(t544 == 0)=true:=beq_iff_eq.mpr c63
           have c63b1:(t544 != 0)=false:=bne_eq_false_iff_eq.mpr c63
           clear c63
           by_cases c64:0≤t538
           ·rw [if_pos c64] at H
            have c64b0:decide (0≤t538)=true:=dzT c64
            clear c64
            by_cases c65:t538<(x518000_2.length:Int)
            ·rw [if_pos c65] at H
             have c65b0:decide (t538<(x518000_2.length:Int))=true:=dzT c65
             clear c65
             obtain ⟨y546,hy546⟩:∃ y_:List (S54),y_=(x518000_2.set (t538:Int).toNat (⟨(ja x518000_2 t538).f0,(ja x518000_2 t538).f1,t540,(ja x518000_2 t538).f3,(ja x518000_2 t538).f4⟩:S54)):=⟨_,rfl⟩
             replace H:(jv.l1 kj37 (wrap64 (x7_2 - 1)) s0_0 t545 (y546.set (t538:Int).toNat (⟨(ja y546 t538).f0,(ja y546 t538).f1,(ja y546 t538).f2,(ja y546 t538).f3,true⟩:S54)))=some (r1,r2):=by first |(rw [hy546];with_reducible exact H) |(have H2_:=(Option.bind_some _ _).symm.trans H;rw [hy546];with_reducible exact H2_) |(have H2_:=(Option.bind_some _ _).symm.trans H;with_reducible exact H2_) | with_reducible exact H |(rw [hy546];exact H) | exact H
             have Ny546:=am hy546
             clear hy546
             obtain ⟨y547,hy547⟩:∃ y_:List (S54),y_=(y546.set (t538:Int).toNat (⟨(ja y546 t538).f0,(ja y546 t538).f1,(ja y546 t538).f2,(ja y546 t538).f3,true⟩:S54)):=⟨_,rfl⟩
             replace H:(jv.l1 kj37 (wrap64 (x7_2 - 1)) s0_0 t545 y547)=some (r1,r2):=by first |(rw [hy547];with_reducible exact H) |(have H2_:=(Option.bind_some _ _).symm.trans H;rw [hy547];with_reducible exact H2_) |(have H2_:=(Option.bind_some _ _).symm.trans H;with_reducible exact H2_) | with_reducible exact H |(rw [hy547];exact H) | exact H
             have Ny547:=am hy547
             clear hy547
             have H':=am H
             clear H
             have hnb68:=NB517_512.out
             have hnc68:=NB512_517.out
             have hnb69:=NB517_513.out
             have hnc69:=NB513_517.out
             have hnb70:=NB517_0.out
             have hnc70:=NB0_517.out
             have hcz71_0:=bc0 BK517.out
             have hfz71_0:=jf BK517.out 0
             obtain ⟨Ao72,co72,eo72⟩:=Kd.jaa HO_518000.out
             subst eo72
             go_wp2_with (first |((with_reducible refine jC (f:=88) rfl ?_);refine gL (some 46) Try.func88 #[.pointer (some ⟨g,0,none⟩), .int .i64 (x518000_2.length:Int)] ?_;(with_reducible refine (jq.calls kj37 g s0_0 x1001_2 (x518000_2.length:Int) t538 t539 w0 _ ?side1 ?side2 A46.out).mono ?_);(case side1=>exact Y3);(case side2=>exact Y7);rintro e w73 ⟨rfl,hi,hb,hk⟩;refine ⟨_,rfl,?_⟩;replace HO_518000:=am (Kd.jD (Kd.jqa (jg.apart (show jg w0 _ g s0_0 x1001_2 from Y3) (rq HO_518000.out) (by decide)) hk (fun _ h=>h.2)) (fun _ h=>h.1));replace BK512:=am (jh.blk hk (g':=gb512) (o:=.cells #[.slice A1_0 l1_0.length c1_0] 37 (0,0)) (kq BK512.out) NB512_0.out (by simp));replace BK513:=am (jh.blk hk (g':=gb513) (o:=.cells #[.slice none 0 0] 32 (0,0)) (kq BK513.out) NB513_0.out (by simp));replace BK517:=am (jh.blk hk (g':=gb517) (o:=.cells #[.slice Ao72 x518000_2.length co72] 32 (0,0)) (kq BK517.out) NB517_0.out (by simp));replace HK:=am (jh.trans (Y5) hk (.inl rfl));replace HB:=am (hb);replace HI0:=am (hi);(try clear hb);(try clear hb2);(try clear hk);(try clear hi);have hcz74_0:=bc0 BK517.out;have hfz74_0:=jf BK517.out 0) |((with_reducible refine jC (f:=88) rfl ?_);refine gL (some 51) Try.func88 #[.pointer (some ⟨g,0,none⟩), .int .i64 (x518000_2.length:Int)] ?_;(with_reducible refine (jq.calls kj37 g s0_0 t539 (x518000_2.length:Int) t540 t541 w0 _ ?side1 ?side2 A47.out).mono ?_);(case side1=>exact Y3);(case side2=>exact Y7);rintro e w75 ⟨rfl,hi,hb,hk⟩;refine ⟨_,rfl,?_⟩;replace HO_518000:=am (Kd.jD (Kd.jqa (jg.apart (show jg w0 _ g s0_0 t539 from Y3) (rq HO_518000.out) (by decide)) hk (fun _ h=>h.2)) (fun _ h=>h.1));replace BK512:=am (jh.blk hk (g':=gb512) (o:=.cells #[.slice A1_0 l1_0.length c1_0] 37 (0,0)) (kq BK512.out) NB512_0.out (by simp));replace BK513:=am (jh.blk hk (g':=gb513) (o:=.cells #[.slice none 0 0] 32 (0,0)) (kq BK513.out) NB513_0.out (by simp));replace BK517:=am (jh.blk hk (g':=gb517) (o:=.cells #[.slice Ao72 x518000_2.length co72] 32 (0,0)) (kq BK517.out) NB517_0.out (by simp));replace HK:=am (jh.trans (Y5) hk (.inl rfl));replace HB:=am (hb);replace HI0:=am (hi);(try clear hb);(try clear hb2);(try clear hk);(try clear hi)) |((with_reducible refine jC (f:=88) rfl ?_);refine gL (some 74) Try.func88 #[.pointer (some ⟨g,0,none⟩), .int .i64 3] ?_;(with_reducible refine (jq.calls kj37 g s0_0 t541 3 t544 t545 w0 _ ?side1 ?side2 A62.out).mono ?_);(case side1=>exact Y3);(case side2=>exact Y7);rintro e w76 ⟨rfl,hi,hb,hk⟩;refine ⟨_,rfl,?_⟩;replace HO_518000:=am (Kd.jD (Kd.jqa (jg.apart (show jg w0 _ g s0_0 t541 from Y3) (rq HO_518000.out) (by decide)) hk (fun _ h=>h.2)) (fun _ h=>h.1));replace BK512:=am (jh.blk hk (g':=gb512) (o:=.cells #[.slice A1_0 l1_0.length c1_0] 37 (0,0)) (kq BK512.out) NB512_0.out (by simp));replace BK513:=am (jh.blk hk (g':=gb513) (o:=.cells #[.slice none 0 0] 32 (0,0)) (kq BK513.out) NB513_0.out (by simp));replace BK517:=am (jh.blk hk (g':=gb517) (o:=.cells #[.slice Ao72 x518000_2.length co72] 32 (0,0)) (kq BK517.out) NB517_0.out (by simp));replace HK:=am (jh.trans (Y5) hk (.inl rfl));replace HB:=am (hb);replace HI0:=am (hi);(try clear hb);(try clear hb2);(try clear hk);(try clear hi);have hcz77_0:=bc0 BK517.out;have hfz77_0:=jf BK517.out 0;have p66:0≤(t538:Int):=ozD (uq);have q66:(t538:Int)<((x518000_2.length:Int):Int):=ozD (uq);obtain ⟨go66,co66,eo66,gb66,gl66,cl66,HG66⟩:=Kd.R_form HO_518000.out (by omega);(first | cases eo66 |(injection eo66 with ea_ en_ ec_;(first | subst ea_ |(injection ea_ with ea_;subst ea_));subst ec_;clear en_));have GB66:=am gb66;have GG66:=am HG66;clear gb66 gl66 HG66;obtain ⟨ce66,hcl66,hM66,hcc66,hfr66⟩:=Kd.jub HO_518000.out z54 (t538:Int) p66 q66;obtain rfl:=jQa hM66;have hx66_0:w76.cell? ⟨go66,(t538:Int).toNat * 5,none⟩=some (.int .i64 ((ja x518000_2 t538).f0)):=hcc66 0 _ rfl;have hx66_1:w76.cell? ⟨go66,(t538:Int).toNat * 5+1,none⟩=some (.int .i64 ((ja x518000_2 t538).f1)):=hcc66 1 _ rfl;have hx66_2:w76.cell? ⟨go66,(t538:Int).toNat * 5+2,none⟩=some (.int .i64 ((ja x518000_2 t538).f2)):=hcc66 2 _ rfl;have hx66_3:w76.cell? ⟨go66,(t538:Int).toNat * 5+3,none⟩=some (.int .i64 ((ja x518000_2 t538).f3)):=hcc66 3 _ rfl;have hx66_4:w76.cell? ⟨go66,(t538:Int).toNat * 5+4,none⟩=some (.bool ((ja x518000_2 t538).f4)):=hcc66 4 _ rfl;have hf66_0:w76.frozen? ⟨go66,(t538:Int).toNat * 5,none⟩=false:=hfr66 0;have hf66_1:w76.frozen? ⟨go66,(t538:Int).toNat * 5+1,none⟩=false:=hfr66 1;have hf66_2:w76.frozen? ⟨go66,(t538:Int).toNat * 5+2,none⟩=false:=hfr66 2;have hf66_3:w76.frozen? ⟨go66,(t538:Int).toNat * 5+3,none⟩=false:=hfr66 3;have hf66_4:w76.frozen? ⟨go66,(t538:Int).toNat * 5+4,none⟩=false:=hfr66 4;clear hcl66 hcc66 hfr66 hM66;replace p66:=ezT p66;replace q66:=ezT q66;have HX78:=am (show Kd.R k54 54 w76 w.heap.size (fun _=>True) (.slice (some ⟨go66,0,none⟩) x518000_2.length co72) x518000_2 from (rq HO_518000.out));obtain ⟨ce78,hcl78,hM78,hcc78,hfr78⟩:=Kd.jub HX78.out z54 (t538:Int) (ozD (uq)) (by have h_:(t538:Int)<((x518000_2.length:Int):Int):=ozD (uq);first | exact h_ |(have e_:=(Kd.jB HO_518000.out).1;omega) | simpa using h_);obtain rfl:=jQa hM78;have HP78:=Kd.R_seg HX78.out (t538:Int) (ozD (uq)) (by have h_:(t538:Int)<((x518000_2.length:Int):Int):=ozD (uq);first | exact h_ |(have e_:=(Kd.jB HO_518000.out).1;omega) | simpa using h_) (seg:=[.int .i64 t540]) (j:=2) hcl78 hcc78 (show 3≤5 from by decide) (x':=(⟨(ja x518000_2 t538).f0,(ja x518000_2 t538).f1,t540,(ja x518000_2 t538).f3,(ja x518000_2 t538).f4⟩:S54)) (jGb _ _ _ (⟨(ja x518000_2 t538).f0,(ja x518000_2 t538).f1,t540,(ja x518000_2 t538).f3,(ja x518000_2 t538).f4⟩:S54) ) (fun _ hk=>hk);have hx78_2:=hcc78 2 _ rfl;(try simp only [show (k54).sz=5 from rfl,Nat.mul_one,Nat.add_zero] at hx78_2);have hf78_2:=hfr78 2;(try simp only [show (k54).sz=5 from rfl,Nat.mul_one,Nat.add_zero] at hf78_2);clear hcl78 hcc78 hfr78 hM78) |((with_reducible refine jfc (t:=3) (p:=81) rfl ?_);refine jVb (t:=3) (p:=81) (v:=?vo_w79) (w1:=(w76.setCell ⟨go66,(t538:Int).toNat * 5+2,none⟩ (.int .i64 t540))) ?hg ?ho ?hn ?hr ?_;(case ho=>rfl);(case hg=>rfl);(case hn=>rfl);(case hr=>exact Y4);intro w79 hw;have hg:w76.grownBy w79 (some go66):=(by rw [hw];exact HP78.2);have hp_:Kd.R k54 54 w79 w.heap.size (fun _=>True) (.slice (some ⟨go66,0,none⟩) x518000_2.length co72) y546:=(by rw [hw,Ny546.out];exact HP78.1);clear HP78;replace BK512:=am (jia (g:=gb512) (o:=.cells #[.slice A1_0 l1_0.length c1_0] 37 (0,0)) (kq BK512.out) hg (Kd.R_ne HO_518000.out BK512.out (by decide)));replace BK513:=am (jia (g:=gb513) (o:=.cells #[.slice none 0 0] 32 (0,0)) (kq BK513.out) hg (Kd.R_ne HO_518000.out BK513.out (by decide)));replace BK517:=am (jia (g:=gb517) (o:=.cells #[.slice (some ⟨go66,0,none⟩) x518000_2.length co72] 32 (0,0)) (kq BK517.out) hg (Kd.R_ne HO_518000.out BK517.out (by decide)));replace HI0:=am (jg.grown (Y3) hg (jg.own_ne HI0.out HO_518000.out (by decide)));replace HB:=am ((by rw [hw];exact jk (HB.out) (Nat.le_trans HL.out GB66.out):Below w0.heap.size w0 w79));replace HK:=am (jh.trans (Y5) (jh.of_grown hg g) (Kd.R_base2 HO_518000.out));replace HO_518000:=am (hp_);clear hg hw hp_;have hcz80_0:=bc0 BK517.out;have hfz80_0:=jf BK517.out 0;have p67:0≤(t538:Int):=ozD (uq);have q67:(t538:Int)<((x518000_2.length:Int):Int):=ozD (uq);obtain ⟨ce67,hcl67,hM67,hcc67,hfr67⟩:=Kd.jub HO_518000.out z54 (t538:Int) p67 q67;obtain rfl:=jQa hM67;have hx67_0:w79.cell? ⟨go66,(t538:Int).toNat * 5,none⟩=some (.int .i64 ((ja y546 t538).f0)):=hcc67 0 _ rfl;have hx67_1:w79.cell? ⟨go66,(t538:Int).toNat * 5+1,none⟩=some (.int .i64 ((ja y546 t538).f1)):=hcc67 1 _ rfl;have hx67_2:w79.cell? ⟨go66,(t538:Int).toNat * 5+2,none⟩=some (.int .i64 ((ja y546 t538).f2)):=hcc67 2 _ rfl;have hx67_3:w79.cell? ⟨go66,(t538:Int).toNat * 5+3,none⟩=some (.int .i64 ((ja y546 t538).f3)):=hcc67 3 _ rfl;have hx67_4:w79.cell? ⟨go66,(t538:Int).toNat * 5+4,none⟩=some (.bool ((ja y546 t538).f4)):=hcc67 4 _ rfl;have hf67_0:w79.frozen? ⟨go66,(t538:Int).toNat * 5,none⟩=false:=hfr67 0;have hf67_1:w79.frozen? ⟨go66,(t538:Int).toNat * 5+1,none⟩=false:=hfr67 1;have hf67_2:w79.frozen? ⟨go66,(t538:Int).toNat * 5+2,none⟩=false:=hfr67 2;have hf67_3:w79.frozen? ⟨go66,(t538:Int).toNat * 5+3,none⟩=false:=hfr67 3;have hf67_4:w79.frozen? ⟨go66,(t538:Int).toNat * 5+4,none⟩=false:=hfr67 4;clear hcl67 hcc67 hfr67 hM67;replace p67:=ezT p67;replace q67:=ezT q67;have HX81:=am (show Kd.R k54 54 w79 w.heap.size (fun _=>True) (.slice (some ⟨go66,0,none⟩) x518000_2.length co72) y546 from (rq HO_518000.out));obtain ⟨ce81,hcl81,hM81,hcc81,hfr81⟩:=Kd.jub HX81.out z54 (t538:Int) (ozD (uq)) (by have h_:(t538:Int)<((x518000_2.length:Int):Int):=ozD (uq);first | exact h_ |(have e_:=(Kd.jB HO_518000.out).1;omega) | simpa using h_);obtain rfl:=jQa hM81;have HP81:=Kd.R_seg HX81.out (t538:Int) (ozD (uq)) (by have h_:(t538:Int)<((x518000_2.length:Int):Int):=ozD (uq);first | exact h_ |(have e_:=(Kd.jB HO_518000.out).1;omega) | simpa using h_) (seg:=[.bool true]) (j:=4) hcl81 hcc81 (show 5≤5 from by decide) (x':=(⟨(ja y546 t538).f0,(ja y546 t538).f1,(ja y546 t538).f2,(ja y546 t538).f3,true⟩:S54)) (jGb _ _ _ (⟨(ja y546 t538).f0,(ja y546 t538).f1,(ja y546 t538).f2,(ja y546 t538).f3,true⟩:S54) ) (fun _ hk=>hk);have hx81_4:=hcc81 4 _ rfl;(try simp only [show (k54).sz=5 from rfl,Nat.mul_one,Nat.add_zero] at hx81_4);have hf81_4:=hfr81 4;(try simp only [show (k54).sz=5 from rfl,Nat.mul_one,Nat.add_zero] at hf81_4);clear hcl81 hcc81 hfr81 hM81) |((with_reducible refine jfc (t:=4) (p:=86) rfl ?_);refine jVb (t:=4) (p:=86) (v:=?vo_w82) (w1:=(w79.setCell ⟨go66,(t538:Int).toNat * 5+4,none⟩ (.bool true))) ?hg ?ho ?hn ?hr ?_;(case ho=>rfl);(case hg=>rfl);(case hn=>rfl);(case hr=>exact Y4);intro w82 hw;have hg:w79.grownBy w82 (some go66):=(by rw [hw];exact HP81.2);have hp_:Kd.R k54 54 w82 w.heap.size (fun _=>True) (.slice (some ⟨go66,0,none⟩) x518000_2.length co72) y547:=(by rw [hw,Ny547.out];exact HP81.1);clear HP81;replace BK512:=am (jia (g:=gb512) (o:=.cells #[.slice A1_0 l1_0.length c1_0] 37 (0,0)) (kq BK512.out) hg (Kd.R_ne HO_518000.out BK512.out (by decide)));replace BK513:=am (jia (g:=gb513) (o:=.cells #[.slice none 0 0] 32 (0,0)) (kq BK513.out) hg (Kd.R_ne HO_518000.out BK513.out (by decide)));replace BK517:=am (jia (g:=gb517) (o:=.cells #[.slice (some ⟨go66,0,none⟩) x518000_2.length co72] 32 (0,0)) (kq BK517.out) hg (Kd.R_ne HO_518000.out BK517.out (by decide)));replace HI0:=am (jg.grown (Y3) hg (jg.own_ne HI0.out HO_518000.out (by decide)));replace HB:=am ((by rw [hw];exact jk (HB.out) (Nat.le_trans HL.out GB66.out):Below w0.heap.size w0 w82));replace HK:=am (jh.trans (Y5) (jh.of_grown hg g) (Kd.R_base2 HO_518000.out));replace HO_518000:=am (hp_);clear hg hw hp_))
             go_roundg kj37
             case measure=>have:=HK1.out;have:=HK2.out;have:=HJ37.out;omega
             case rel=>exact ⟨(wrap64 (x7_2 - 1)),(t545),(y547),(.slice (some ⟨go66,0,none⟩) x518000_2.length co72),(sq),H',⟨by have:=HK1.out;have:=HK2.out;have:=HJ37.out;omega⟩,⟨rq HO_518000.out⟩,⟨kq BK512.out⟩,⟨kq BK513.out⟩,⟨kq BK517.out⟩,⟨Y3⟩,⟨Y5⟩,⟨Y7⟩⟩
            ·rw [if_neg c65] at H
             exact absurd H (by simp)
           ·rw [if_neg c64] at H
            exact absurd H (by simp)
          ·rw [if_neg c63] at H
           have c63b0:(t544 == 0)=false:=beq_eq_false_iff_ne.mpr c63
           have c63b1:(t544 != 0)=true:=bne_iff_ne.mpr c63
           replace H:=bzS H
           obtain ⟨t548,A830,H⟩:=H
           replace H:(jv.l1 kj37 (wrap64 (x7_2 - 1)) s0_0 t545 t548)=some (r1,r2):=H
           have A83:=am A830
           clear A830
           have H':=am H
           clear H
           have hnb84:=NB517_512.out
           have hnc84:=NB512_517.out
           have hnb85:=NB517_513.out
           have hnc85:=NB513_517.out
           have hnb86:=NB517_0.out
           have hnc86:=NB0_517.out
           have hcz87_0:=bc0 BK517.out
           have hfz87_0:=jf BK517.out 0
           obtain ⟨Ao88,co88,eo88⟩:=Kd.jaa HO_518000.out
           subst eo88
           go_wp2_with (first |((with_reducible refine jC (f:=88) rfl ?_);refine gL (some 46) Try.func88 #[.pointer (some ⟨g,0,none⟩), .int .i64 (x518000_2.length:Int)] ?_;(with_reducible refine (jq.calls kj37 g s0_0 x1001_2 (x518000_2.length:Int) t538 t539 w0 _ ?side1 ?side2 A46.out).mono ?_);(case side1=>exact Y3);(case side2=>exact Y7);rintro e w89 ⟨rfl,hi,hb,hk⟩;refine ⟨_,rfl,?_⟩;replace HO_518000:=am (Kd.jD (Kd.jqa (jg.apart (show jg w0 _ g s0_0 x1001_2 from Y3) (rq HO_518000.out) (by decide)) hk (fun _ h=>h.2)) (fun _ h=>h.1));replace BK512:=am (jh.blk hk (g':=gb512) (o:=.cells #[.slice A1_0 l1_0.length c1_0] 37 (0,0)) (kq BK512.out) NB512_0.out (by simp));replace BK513:=am (jh.blk hk (g':=gb513) (o:=.cells #[.slice none 0 0] 32 (0,0)) (kq BK513.out) NB513_0.out (by simp));replace BK517:=am (jh.blk hk (g':=gb517) (o:=.cells #[.slice Ao88 x518000_2.length co88] 32 (0,0)) (kq BK517.out) NB517_0.out (by simp));replace HK:=am (jh.trans (Y5) hk (.inl rfl));replace HB:=am (hb);replace HI0:=am (hi);(try clear hb);(try clear hb2);(try clear hk);(try clear hi);have hcz90_0:=bc0 BK517.out;have hfz90_0:=jf BK517.out 0) |((with_reducible refine jC (f:=88) rfl ?_);refine gL (some 51) Try.func88 #[.pointer (some ⟨g,0,none⟩), .int .i64 (x518000_2.length:Int)] ?_;(with_reducible refine (jq.calls kj37 g s0_0 t539 (x518000_2.length:Int) t540 t541 w0 _ ?side1 ?side2 A47.out).mono ?_);(case side1=>exact Y3);(case side2=>exact Y7);rintro e w91 ⟨rfl,hi,hb,hk⟩;refine ⟨_,rfl,?_⟩;replace HO_518000:=am (Kd.jD (Kd.jqa (jg.apart (show jg w0 _ g s0_0 t539 from Y3) (rq HO_518000.out) (by decide)) hk (fun _ h=>h.2)) (fun _ h=>h.1));replace BK512:=am (jh.blk hk (g':=gb512) (o:=.cells #[.slice A1_0 l1_0.length c1_0] 37 (0,0)) (kq BK512.out) NB512_0.out (by simp));replace BK513:=am (jh.blk hk (g':=gb513) (o:=.cells #[.slice none 0 0] 32 (0,0)) (kq BK513.out) NB513_0.out (by simp));replace BK517:=am (jh.blk hk (g':=gb517) (o:=.cells #[.slice Ao88 x518000_2.length co88] 32 (0,0)) (kq BK517.out) NB517_0.out (by simp));replace HK:=am (jh.trans (Y5) hk (.inl rfl));replace HB:=am (hb);replace HI0:=am (hi);(try clear hb);(try clear hb2);(try clear hk);(try clear hi)) |((with_reducible refine jC (f:=88) rfl ?_);refine gL (some 74) Try.func88 #[.pointer (some ⟨g,0,none⟩), .int .i64 3] ?_;(with_reducible refine (jq.calls kj37 g s0_0 t541 3 t544 t545 w0 _ ?side1 ?side2 A62.out).mono ?_);(case side1=>exact Y3);(case side2=>exact Y7);rintro e w92 ⟨rfl,hi,hb,hk⟩;refine ⟨_,rfl,?_⟩;replace HO_518000:=am (Kd.jD (Kd.jqa (jg.apart (show jg w0 _ g s0_0 t541 from Y3) (rq HO_518000.out) (by decide)) hk (fun _ h=>h.2)) (fun _ h=>h.1));replace BK512:=am (jh.blk hk (g':=gb512) (o:=.cells #[.slice A1_0 l1_0.length c1_0] 37 (0,0)) (kq BK512.out) NB512_0.out (by simp));replace BK513:=am (jh.blk hk (g':=gb513) (o:=.cells #[.slice none 0 0] 32 (0,0)) (kq BK513.out) NB513_0.out (by simp));replace BK517:=am (jh.blk hk (g':=gb517) (o:=.cells #[.slice Ao88 x518000_2.length co88] 32 (0,0)) (kq BK517.out) NB517_0.out (by simp));replace HK:=am (jh.trans (Y5) hk (.inl rfl));replace HB:=am (hb);replace HI0:=am (hi);(try clear hb);(try clear hb2);(try clear hk);(try clear hi);have hcz93_0:=bc0 BK517.out;have hfz93_0:=jf BK517.out 0) |((with_reducible refine jC (f:=92) rfl ?_);refine gL (some 55) Try.func92 #[.agg #[.slice Ao88 x518000_2.length co88], .int .i64 t538, .int .i64 t540] ?_;(with_reducible refine (jja.calls kj37 _ _ x518000_2 t538 t540 t548 _ ?side1 ?side2 A83.out).mono ?_);(case side1=>exact cq (Kd.jB HO_518000.out).2.2);(case side2=>exact (Kd.jB HO_518000.out).2.1);rintro e w94 ⟨v549,rfl,ho0,hb⟩;refine ⟨_,rfl,?_⟩;have HO550:=am (Kd.jla (Kd.jAb ho0 (Kd.R_lt (rq HO_518000.out))) (jma (w:=w) (g:=g) (row:=none) (Y5)));replace HO_518000:=am (Kd.jTa (rq HO_518000.out) (Kd.jBb ho0) hb);replace BK512:=am (je (g:=gb512) (o:=.cells #[.slice A1_0 l1_0.length c1_0] 37 (0,0)) (kq BK512.out) hb);replace BK513:=am (je (g:=gb513) (o:=.cells #[.slice none 0 0] 32 (0,0)) (kq BK513.out) hb);replace BK517:=am (je (g:=gb517) (o:=.cells #[.slice Ao88 x518000_2.length co88] 32 (0,0)) (kq BK517.out) hb);replace HK:=am (jh.trans (Y5) (jh.of_below hb g none) (.inl rfl));replace HB:=am (jl (Y7) hb);replace HI0:=am (jg.below (Y3) hb);(try clear hb);(try clear hb2);(try clear hk);(try clear hi);(try clear ho0);obtain ⟨Ao95,co95,eo95⟩:=Kd.jaa HO550.out;subst eo95;have hcz96_0:=bc0 BK517.out;have hfz96_0:=jf BK517.out 0))
           go_roundg kj37
           case measure=>have:=HK1.out;have:=HK2.out;have:=HJ37.out;omega
           case rel=>exact ⟨(wrap64 (x7_2 - 1)),(t545),(t548),(.slice Ao95 t548.length co95),(sq),H',⟨by have:=HK1.out;have:=HK2.out;have:=HJ37.out;omega⟩,⟨by (with_reducible repeat (first | apply Kd.jL | apply Kd.jM | apply Kd.jN));exact Kd.jD (Kd.jX (p:=⟨gb517,0,none⟩) (Kd.jJ HO550.out BK517.out (by decide)) (fun _ hk=>hk.2) (.slice Ao95 t548.length co95)) (fun _ hk=>trivial)⟩,⟨by (with_reducible repeat (first | refine jb ?_ _ | refine jd ?_ | refine jc ?_ _));refine jA ?_ NB512_517.out _;(with_reducible repeat (first | refine jb ?_ _ | refine jd ?_ | refine jc ?_ _));exact BK512.out⟩,⟨by (with_reducible repeat (first | refine jb ?_ _ | refine jd ?_ | refine jc ?_ _));refine jA ?_ NB513_517.out _;(with_reducible repeat (first | refine jb ?_ _ | refine jd ?_ | refine jc ?_ _));exact BK513.out⟩,⟨by (with_reducible repeat (first | refine jb ?_ _ | refine jd ?_ | refine jc ?_ _));refine jfa (cs:=#[.slice Ao88 x518000_2.length co88]) ?_ 0 _ rfl;(with_reducible repeat (first | refine jb ?_ _ | refine jd ?_ | refine jc ?_ _));exact BK517.out⟩,⟨Y3⟩,⟨Y5⟩,⟨Y7⟩⟩
        ·replace c45:=Bool.eq_false_iff.mpr c45
         subst c45
         have H1:(some (x518000_2,x1001_2))=some (r1,r2):=by rw [if_neg (show ¬ (false=true) by decide)] at H;exact H
         clear H
         have H:=H1
         clear H1
         simp only [Option.some.injEq,Prod.mk.injEq] at H
         obtain ⟨rfl,rfl⟩:=H
         have hnb97:=NB517_512.out
         have hnc97:=NB512_517.out
         have hnb98:=NB517_513.out
         have hnc98:=NB513_517.out
         have hnb99:=NB517_0.out
         have hnc99:=NB0_517.out
         have hcz100_0:=bc0 BK517.out
         have hfz100_0:=jf BK517.out 0
         obtain ⟨Ao101,co101,eo101⟩:=Kd.jaa HO_518000.out
         subst eo101
         have hnb102:=NB513_512.out
         have hnc102:=NB512_513.out
         have hnb103:=NB513_0.out
         have hnc103:=NB0_513.out
         have hcz104_0:=bc0 BK513.out
         have hfz104_0:=jf BK513.out 0
         go_wp2
         refine bodyPost_ret (results_cell_row rfl _ _ gb513 32 #[.slice Ao101 x518000_2.length co101] (0,0) _ rfl (by (with_reducible repeat (first | refine jb ?_ _ | refine jd ?_ | refine jc ?_ _));refine jfa (cs:=#[.slice none 0 0]) ?_ 0 _ rfl;(with_reducible repeat (first | refine jb ?_ _ | refine jd ?_ | refine jc ?_ _));exact BK513.out) Try.underlying32 rfl (by kernel_rfl)) rfl ?_
         exact ⟨_,Y2,by (with_reducible repeat (first | apply Kd.jL | apply Kd.jM | apply Kd.jN));exact Kd.jD (Kd.jX (p:=⟨gb513,0,none⟩) (Kd.jJ HO_518000.out BK513.out (by decide)) (fun _ hk=>hk.2) (.slice Ao101 x518000_2.length co101)) (fun _ hk=>trivial),Y3,Y7,Y5⟩
def jW.l0 : Nat → List ByteArray → Int → Int → List Int → Int → List (S94) → Option ((List (S94)) × Int)
 | 0,_,_,_,_,_,_=>none
 | k+1,x3,x5,x6,x1000,x1001,x559000=>if x6<x5 then (if 0≤x6 then (if x6<(x3.length:Int) then ((jq.f k x1000 x1001 x6).bind fun bt565=>((jE.f k x1000 bt565.2 (([0,bt565.1,wrap64 (x6 - 1)]:List Int))).bind fun bt570=>(if x559000.length<5864062014805 then (jW.l0 k x3 x5 (wrap64 (x6+1)) x1000 bt570.2 (x559000 ++ [(⟨rdOf ByteArray.empty x3 x6,bt570.1⟩:S94)])) else (none)))) else (none)) else (none)) else (some (x559000,x1001))
def jW.f (k : Nat) (s0_0 : List Int) (s0_1 : Int) : Option ((List (S94)) × Int) := (jE.f k s0_0 s0_1 (([4, 5, 3, 6, 2, 1, 8] : List Int))).bind fun bt562 => (jW.l0 k (([(⟨#[97, 110, 121]⟩ : ByteArray), (⟨#[105, 111]⟩ : ByteArray), (⟨#[107, 101, 121]⟩ : ByteArray), (⟨#[116, 105, 109, 101]⟩ : ByteArray), (⟨#[110, 101, 116]⟩ : ByteArray), (⟨#[100, 105, 115, 107]⟩ : ByteArray), (⟨#[116, 121, 112, 101]⟩ : ByteArray), (⟨#[111, 100, 100]⟩ : ByteArray)] : List ByteArray)) bt562.1 1 s0_0 bt562.2 (([(⟨(⟨#[97, 110, 121]⟩ : ByteArray), (-1)⟩ : S94)] : List (S94))))
def jW.T7 : Bool × List (List Nat × List Nat) := (true, [([], []), ([0], [0]), ([], []), ([], []), ([2, 3], [2, 3]), ([4], [4]), ([], []), ([], []), ([], []), ([7, 8], [7, 8]), ([], []), ([10], [10]), ([9, 11], [9, 11]), ([6, 12, 9], [6, 12]), ([5, 13], [5, 13]), ([14], [14]), ([1, 15, 13], [1, 15]), ([0, 1, 2, 3, 4, 5, 6, 7, 8, 9, 10, 11, 12, 13, 14, 15, 16], []), ([17, 16, 16, 0, 1, 2, 3, 4, 5, 6, 7, 8, 9, 10, 11, 12, 13, 14, 15, 16], [16, 17])])
def jW.B7 : List Nat := [0, 1, 0, 0, 12, 28, 0, 0, 0, 384, 0, 1024, 3968, 8128, 16380, 32764, 65535, 131071, 262143]
theorem jW.tab7 : rtab .any (opsOf Try.f105 7) = jW.T7 := by kernel_rfl
theorem jW.bits7 : jFb jW.T7.2 jW.B7 = true := by kernel_rfl
set_option maxHeartbeats 8000000 in
set_option maxRecDepth 100000 in
theorem jW.calls (k : Nat) (g : Nat) (s0_0 : List Int) (s0_1 : Int) (r1 : List (S94)) (r2 : Int) (w0 w : World) (hI : jg w0 w g s0_0 s0_1) (hB : Below w0.heap.size w0 w) (h : jW.f k s0_0 s0_1 = some (r1, r2)) :
  Calls Try.prog 105 #[.pointer (some ⟨g,0,none⟩)] w fun e w'=>∃ v0_:Value,e=.returned (.agg #[v0_])∧Kd.R k94 94 w' w.heap.size (fun _=>True) v0_ r1∧jg w0 w' g s0_0 r2∧Below w0.heap.size w0 w'∧jh w w' g none:=by
 have hu37:=Try.underlying37
 have hu94:=Try.underlying94
 have HI0:=am hI
 have HK:=am (jh.refl w g none)
 have HL:=am hB.size
 clear hI
 have HW0:=am hB.size
 have HB:=am hB
 clear hB
 have H:((jE.f k s0_0 s0_1 (([4,5,3,6,2,1,8]:List Int))).bind fun bt562=>(jW.l0 k (([(⟨#[97,110,121]⟩:ByteArray),(⟨#[105,111]⟩:ByteArray),(⟨#[107,101,121]⟩:ByteArray),(⟨#[116,105,109,101]⟩:ByteArray),(⟨#[110,101,116]⟩:ByteArray),(⟨#[100,105,115,107]⟩:ByteArray),(⟨#[116,121,112,101]⟩:ByteArray),(⟨#[111,100,100]⟩:ByteArray)]:List ByteArray)) bt562.1 1 s0_0 bt562.2 (([(⟨(⟨#[97,110,121]⟩:ByteArray),(-1)⟩:S94)]:List (S94)))))=some (r1,r2):=h
 clear h
 obtain ⟨y552,hy552⟩:∃ y_:List ByteArray,y_=(([(⟨#[97,110,121]⟩:ByteArray),(⟨#[105,111]⟩:ByteArray),(⟨#[107,101,121]⟩:ByteArray),(⟨#[116,105,109,101]⟩:ByteArray),(⟨#[110,101,116]⟩:ByteArray),(⟨#[100,105,115,107]⟩:ByteArray),(⟨#[116,121,112,101]⟩:ByteArray),(⟨#[111,100,100]⟩:ByteArray)]:List ByteArray)):=⟨_,rfl⟩
 replace H:((jE.f k s0_0 s0_1 (([4,5,3,6,2,1,8]:List Int))).bind fun bt562=>(jW.l0 k y552 bt562.1 1 s0_0 bt562.2 (([(⟨(⟨#[97,110,121]⟩:ByteArray),(-1)⟩:S94)]:List (S94)))))=some (r1,r2):=by first |(rw [hy552];with_reducible exact H) |(have H2_:=(Option.bind_some _ _).symm.trans H;rw [hy552];with_reducible exact H2_) |(have H2_:=(Option.bind_some _ _).symm.trans H;with_reducible exact H2_) | with_reducible exact H |(rw [hy552];exact H) | exact H
 have Ny552:=am hy552
 clear hy552
 obtain ⟨y555,hy555⟩:∃ y_:List (S94),y_=(([(⟨(⟨#[97,110,121]⟩:ByteArray),(-1)⟩:S94)]:List (S94))):=⟨_,rfl⟩
 replace H:((jE.f k s0_0 s0_1 (([4,5,3,6,2,1,8]:List Int))).bind fun bt562=>(jW.l0 k y552 bt562.1 1 s0_0 bt562.2 y555))=some (r1,r2):=by first |(rw [hy555];with_reducible exact H) |(have H2_:=(Option.bind_some _ _).symm.trans H;rw [hy555];with_reducible exact H2_) |(have H2_:=(Option.bind_some _ _).symm.trans H;with_reducible exact H2_) | with_reducible exact H |(rw [hy555];exact H) | exact H
 have Ny555:=am hy555
 clear hy555
 obtain ⟨y559,hy559⟩:∃ y_:List Int,y_=(([4,5,3,6,2,1,8]:List Int)):=⟨_,rfl⟩
 replace H:((jE.f k s0_0 s0_1 y559).bind fun bt562=>(jW.l0 k y552 bt562.1 1 s0_0 bt562.2 y555))=some (r1,r2):=by first |(rw [hy559];with_reducible exact H) |(have H2_:=(Option.bind_some _ _).symm.trans H;rw [hy559];with_reducible exact H2_) |(have H2_:=(Option.bind_some _ _).symm.trans H;with_reducible exact H2_) | with_reducible exact H |(rw [hy559];exact H) | exact H
 have Ny559:=am hy559
 clear hy559
 replace H:=bzS H
 obtain ⟨⟨t562,t563⟩,A20,H⟩:=H
 replace H:(jW.l0 k y552 t562 1 s0_0 t563 y555)=some (r1,r2):=H
 have A2:=am A20
 clear A20
 have H':=am H
 clear H
 go_enter Try.func105,Try.ntmps105
 go_wp2_with (first |((with_reducible refine jI (N:=2) rfl ?_);refine bE (N:=2) (cs:=#[.slice none 0 0]) (t:=37) ?_;intro gb551 hg w3 hbox hb;have BK551:=am (hbox);have GW551:=am ((Y8:w.heap.size≤gb551));have GE551:=am ((Nat.le_trans HW0.out (Y8:w.heap.size≤gb551):w0.heap.size≤gb551));have NB0_551:=am ((Y26:g≠gb551));have NB551_0:=am ((Y27:gb551≠g));replace HK:=am (jh.trans (Y16) (jh.of_below hb g none) (.inl rfl));replace HB:=am (jl (Y17) hb);replace HI0:=am (jg.below (Y15) hb);clear hb hbox hg) |((with_reducible refine jI (N:=7) rfl ?_);refine Kd.R_lit Kd.string _ 9 ?hg (N:=7) ?hd (xs:=([(⟨#[97,110,121]⟩:ByteArray),(⟨#[105,111]⟩:ByteArray),(⟨#[107,101,121]⟩:ByteArray),(⟨#[116,105,109,101]⟩:ByteArray),(⟨#[110,101,116]⟩:ByteArray),(⟨#[100,105,115,107]⟩:ByteArray),(⟨#[116,121,112,101]⟩:ByteArray),(⟨#[111,100,100]⟩:ByteArray)]:List ByteArray)) (inner:=[.string (⟨#[97,110,121]⟩:ByteArray), .string (⟨#[105,111]⟩:ByteArray), .string (⟨#[107,101,121]⟩:ByteArray), .string (⟨#[116,105,109,101]⟩:ByteArray), .string (⟨#[110,101,116]⟩:ByteArray), .string (⟨#[100,105,115,107]⟩:ByteArray), .string (⟨#[116,121,112,101]⟩:ByteArray), .string (⟨#[111,100,100]⟩:ByteArray)]) (ok:=fun _=>True) (okp:=fun _=>True) ?hr ?hp (fun _ hk=>hk) trivial (Below.refl _ _) (Nat.le_refl _) (by simp) ?_;(case hd=>rfl);(case hg=>rfl);(case hr=>exact Y4);(case hp=>exact (Reps.one (show Kd.M Kd.string _ _ _ (⟨#[97,110,121]⟩:ByteArray) [.string (⟨#[97,110,121]⟩:ByteArray)] from rfl) (Reps.one (show Kd.M Kd.string _ _ _ (⟨#[105,111]⟩:ByteArray) [.string (⟨#[105,111]⟩:ByteArray)] from rfl) (Reps.one (show Kd.M Kd.string _ _ _ (⟨#[107,101,121]⟩:ByteArray) [.string (⟨#[107,101,121]⟩:ByteArray)] from rfl) (Reps.one (show Kd.M Kd.string _ _ _ (⟨#[116,105,109,101]⟩:ByteArray) [.string (⟨#[116,105,109,101]⟩:ByteArray)] from rfl) (Reps.one (show Kd.M Kd.string _ _ _ (⟨#[110,101,116]⟩:ByteArray) [.string (⟨#[110,101,116]⟩:ByteArray)] from rfl) (Reps.one (show Kd.M Kd.string _ _ _ (⟨#[100,105,115,107]⟩:ByteArray) [.string (⟨#[100,105,115,107]⟩:ByteArray)] from rfl) (Reps.one (show Kd.M Kd.string _ _ _ (⟨#[116,121,112,101]⟩:ByteArray) [.string (⟨#[116,121,112,101]⟩:ByteArray)] from rfl) (Reps.one (show Kd.M Kd.string _ _ _ (⟨#[111,100,100]⟩:ByteArray) [.string (⟨#[111,100,100]⟩:ByteArray)] from rfl) (Reps.none _ _))))))))));intro v553 w4 ho5 hb hg_ hnew_;clear hg_ hnew_;(first | rw [← Ny552.out] at ho5 |(simp only [Int.reduceToNat] at ho5;rw [← Ny552.out] at ho5));have HO554:=am (Kd.jla ho5 (jma (w:=w) (g:=g) (row:=none) (Y92)));replace BK551:=am (je (g:=gb551) (o:=.cells #[.slice none 0 0] 37 (0,0)) (kq BK551.out) hb);replace HK:=am (jh.trans (Y92) (jh.of_below hb g none) (.inl rfl));replace HB:=am (jl (Y146) hb);replace HI0:=am (jg.below (Y147) hb);clear hb ho5) |((with_reducible refine jI (N:=9) rfl ?_);refine Kd.R_lit k94 _ 94 ?hg (N:=9) ?hd (xs:=([(⟨(⟨#[97,110,121]⟩:ByteArray),(-1)⟩:S94)]:List (S94))) (inner:=[.string (⟨#[97,110,121]⟩:ByteArray), .int .i64 (-1)]) (ok:=fun _=>True) (okp:=fun _=>True) ?hr ?hp (fun _ hk=>hk) trivial (Below.refl _ _) (Nat.le_refl _) (by simp) ?_;(case hd=>rfl);(case hg=>rfl);(case hr=>exact Y4);(case hp=>exact (Reps.c2 (show Kd.M k94 _ _ _ (⟨(⟨#[97,110,121]⟩:ByteArray),(-1)⟩:S94) [.string (⟨#[97,110,121]⟩:ByteArray), .int .i64 (-1)] from (k94_mkM _ _ _ (⟨(⟨#[97,110,121]⟩:ByteArray),(-1)⟩:S94) )) (Reps.none _ _)));intro v556 w6 ho7 hb hg_ hnew_;clear hg_ hnew_;(first | rw [← Ny555.out] at ho7 |(simp only [Int.reduceToNat] at ho7;rw [← Ny555.out] at ho7));have HO557:=am (Kd.jla ho7 (jma (w:=w) (g:=g) (row:=none) (Y92)));replace HO554:=am (Kd.jP (rq HO554.out) hb);replace BK551:=am (je (g:=gb551) (o:=.cells #[.slice none 0 0] 37 (0,0)) (kq BK551.out) hb);replace HK:=am (jh.trans (Y92) (jh.of_below hb g none) (.inl rfl));replace HB:=am (jl (Y146) hb);replace HI0:=am (jg.below (Y147) hb);clear hb ho7;obtain ⟨Ao8,co8,eo8⟩:=Kd.jaa HO557.out;subst eo8) |((with_reducible refine jI (N:=4) rfl ?_);refine bE (N:=4) (cs:=#[.slice none 0 0]) (t:=37) ?_;intro gb558 hg w9 hbox hb;have BK558:=am (hbox);have GW558:=am ((Y190:w.heap.size≤gb558));have GE558:=am ((Nat.le_trans HW0.out (Y190:w.heap.size≤gb558):w0.heap.size≤gb558));have NB551_558:=am ((by rw [hg];exact Nat.ne_of_lt (jV (g:=gb551) (o:=.cells #[.slice none 0 0] 37 (0,0)) (kq BK551.out)):gb551≠gb558));have NB558_551:=am ((by rw [hg];exact Nat.ne_of_gt (jV (g:=gb551) (o:=.cells #[.slice none 0 0] 37 (0,0)) (kq BK551.out)):gb558≠gb551));have NB0_558:=am ((by rw [hg];exact Nat.ne_of_lt (jg.lt (show jg w0 _ g s0_0 s0_1 from by repeat (first |(with_reducible first | exact HI0.out | apply jg.alloc | apply jg.drewN | apply jg.drew | apply jg.jmb | refine jg.far ?_ NB0_551.out _) | exact HI0.out))):g≠gb558));have NB558_0:=am ((by rw [hg];exact Nat.ne_of_gt (jg.lt (show jg w0 _ g s0_0 s0_1 from by repeat (first |(with_reducible first | exact HI0.out | apply jg.alloc | apply jg.drewN | apply jg.drew | apply jg.jmb | refine jg.far ?_ NB0_551.out _) | exact HI0.out))):gb558≠g));replace HO554:=am (Kd.jP (rq HO554.out) hb);replace HO557:=am (Kd.jP (rq HO557.out) hb);replace BK551:=am (je (g:=gb551) (o:=.cells #[.slice none 0 0] 37 (0,0)) (kq BK551.out) hb);replace HK:=am (jh.trans (Y92) (jh.of_below hb g none) (.inl rfl));replace HB:=am (jl (Y146) hb);replace HI0:=am (jg.below (Y147) hb);clear hb hbox hg;have hnb10:=NB558_551.out;have hnc10:=NB551_558.out;have hnb11:=NB558_0.out;have hnc11:=NB0_558.out;have hcz12_0:=bc0 BK558.out;have hfz12_0:=jf BK558.out 0) |((with_reducible refine jI (N:=12) rfl ?_);refine Kd.R_lit (Kd.int .i64) _ 3 ?hg (N:=12) ?hd (xs:=([4,5,3,6,2,1,8]:List Int)) (inner:=[.int .i64 4, .int .i64 5, .int .i64 3, .int .i64 6, .int .i64 2, .int .i64 1, .int .i64 8]) (ok:=fun _=>True) (okp:=fun _=>True) ?hr ?hp (fun _ hk=>hk) trivial (Below.refl _ _) (Nat.le_refl _) (by simp) ?_;(case hd=>rfl);(case hg=>rfl);(case hr=>exact Y4);(case hp=>exact (Reps.one (show Kd.M (Kd.int .i64) _ _ _ 4 [.int .i64 4] from rfl) (Reps.one (show Kd.M (Kd.int .i64) _ _ _ 5 [.int .i64 5] from rfl) (Reps.one (show Kd.M (Kd.int .i64) _ _ _ 3 [.int .i64 3] from rfl) (Reps.one (show Kd.M (Kd.int .i64) _ _ _ 6 [.int .i64 6] from rfl) (Reps.one (show Kd.M (Kd.int .i64) _ _ _ 2 [.int .i64 2] from rfl) (Reps.one (show Kd.M (Kd.int .i64) _ _ _ 1 [.int .i64 1] from rfl) (Reps.one (show Kd.M (Kd.int .i64) _ _ _ 8 [.int .i64 8] from rfl) (Reps.none _ _)))))))));intro v560 w13 ho14 hb hg_ hnew_;clear hg_ hnew_;(first | rw [← Ny559.out] at ho14 |(simp only [Int.reduceToNat] at ho14;rw [← Ny559.out] at ho14));have HO561:=am (Kd.jla ho14 (jma (w:=w) (g:=g) (row:=none) (Y30)));replace HO554:=am (Kd.jP (by (with_reducible repeat (first | apply Kd.jL | apply Kd.jM | apply Kd.jN));exact (Kd.jD (Kd.jX (p:=⟨gb558,0,none⟩) (Kd.jJ HO554.out BK558.out (by decide)) (fun _ hk=>hk.2) (.slice Ao8 y555.length co8)) (fun _ h_=>h_.1))) hb);replace HO557:=am (Kd.jP (by (with_reducible repeat (first | apply Kd.jL | apply Kd.jM | apply Kd.jN));exact (Kd.jD (Kd.jX (p:=⟨gb558,0,none⟩) (Kd.jJ HO557.out BK558.out (by decide)) (fun _ hk=>hk.2) (.slice Ao8 y555.length co8)) (fun _ h_=>h_.1))) hb);replace BK551:=am (je (g:=gb551) (o:=.cells #[.slice none 0 0] 37 (0,0)) (by (with_reducible repeat (first | refine jb ?_ _ | refine jd ?_ | refine jc ?_ _));refine jA ?_ NB551_558.out _;(with_reducible repeat (first | refine jb ?_ _ | refine jd ?_ | refine jc ?_ _));exact BK551.out) hb);replace BK558:=am (je (g:=gb558) (o:=.cells #[.slice Ao8 y555.length co8] 37 (0,0)) (by (with_reducible repeat (first | refine jb ?_ _ | refine jd ?_ | refine jc ?_ _));refine jfa (cs:=#[.slice none 0 0]) ?_ 0 _ rfl;(with_reducible repeat (first | refine jb ?_ _ | refine jd ?_ | refine jc ?_ _));exact BK558.out) hb);replace HK:=am (jh.trans (Y30) (jh.of_below hb g none) (.inl rfl));replace HB:=am (jl (Y46) hb);replace HI0:=am (jg.below (show jg w0 (w9.setCell ⟨gb558,0,none⟩ (.slice Ao8 y555.length co8)) g s0_0 s0_1 from Y24) hb);clear hb ho14;obtain ⟨Ao15,co15,eo15⟩:=Kd.jaa HO561.out;subst eo15) |((with_reducible refine jC (f:=89) rfl ?_);refine gL (some 13) Try.func89 #[.pointer (some ⟨g,0,none⟩), .slice Ao15 y559.length co15] ?_;(with_reducible refine (jE.calls k g s0_0 s0_1 _ _ y559 t562 t563 w0 _ ?side1 ?side2 ?side3 ?side4 ?side5 A2.out).mono ?_);(case side1=>exact Y24);(case side2=>exact Y46);(case side3=>exact cq (Kd.jB HO561.out).2.2);(case side4=>exact (Kd.jB HO561.out).2.1);(case side5=>exact jxb (jg.own_ne HI0.out HO561.out (by decide)));rintro e w16 ⟨rfl,hi,hb,hk⟩;refine ⟨_,rfl,?_⟩;replace BK551:=am (jh.blk hk (g':=gb551) (o:=.cells #[.slice none 0 0] 37 (0,0)) (kq BK551.out) NB551_0.out (by simp));replace HO554:=am (Kd.jD (Kd.jqa (jg.apart (show jg w0 _ g s0_0 s0_1 from Y24) (rq HO554.out) (by decide)) hk (fun _ h=>h.2)) (fun _ h=>h.1));replace HO557:=am (Kd.jD (Kd.jqa (jg.apart (show jg w0 _ g s0_0 s0_1 from Y24) (rq HO557.out) (by decide)) hk (fun _ h=>h.2)) (fun _ h=>h.1));replace BK558:=am (jh.blk hk (g':=gb558) (o:=.cells #[.slice Ao8 y555.length co8] 37 (0,0)) (kq BK558.out) NB558_0.out (by simp));replace HO561:=am (Kd.jD (Kd.jqa (jg.apart (show jg w0 _ g s0_0 s0_1 from Y24) (rq HO561.out) (by decide)) hk (fun _ h=>h.2)) (fun _ h=>h.1));replace HK:=am (jh.trans (Y30) hk (.inl rfl));replace HB:=am (hb);replace HI0:=am (hi);(try clear hb);(try clear hb2);(try clear hk);(try clear hi)))
 go_loopg [6] k (fun kq v6 w'=>∃ (x6_1:Int) (x1001_1:Int) (x559000_1:List (S94)) (u559000:Value),v6=.int .i64 x6_1∧jw (jW.l0 kq y552 t562 x6_1 s0_0 x1001_1 x559000_1=some (r1,r2))∧jw (kq≤k)∧jw (Kd.R Kd.string 9 w' w.heap.size (fun _=>True) v553 y552)∧jw (Kd.R k94 94 w' w.heap.size (fun _=>True) u559000 x559000_1)∧jw (w'.heap[gb551]?=some (.cells #[(.slice none 0 0)] 37 (0,0)))∧jw (w'.heap[gb558]?=some (.cells #[u559000] 37 (0,0)))∧jw (jg w0 w' g s0_0 x1001_1)∧jw (jh w w' g none)∧jw (Below w0.heap.size w0 w'))
 case atStart=>exact ⟨(1),(t563),(y555),(.slice Ao8 y555.length co8),(sq),H',⟨Nat.le_refl _⟩,⟨rq HO554.out⟩,⟨rq HO557.out⟩,⟨kq BK551.out⟩,⟨kq BK558.out⟩,⟨Y24⟩,⟨Y30⟩,⟨Y46⟩⟩
 case round =>
  clear H'
  try clear c1
  try clear c2
  try clear p2
  try clear c8
  try clear c10
  try clear c11
  try clear hcz12_0
  try clear hfz12_0
  obtain ⟨x6_1,x1001_1,x559000_1,u559000,rfl,HA,HK1,HO_3,HO_559000,BK551,BK558,HI0,HK,HB⟩:=hrel
  cases gk with
  | zero=>exact absurd HA.out (by simp [jW.l0])
  | succ k1 =>
   have H:=HA.out
   clear HA
   simp only [jW.l0] at H
   by_cases c17:x6_1<t562
   ·rw [if_pos c17] at H
    have c17b0:decide (x6_1<t562)=true:=dzT c17
    clear c17
    by_cases c18:0≤x6_1
    ·rw [if_pos c18] at H
     have c18b0:decide (0≤x6_1)=true:=dzT c18
     clear c18
     by_cases c19:x6_1<(y552.length:Int)
     ·rw [if_pos c19] at H
      have c19b0:decide (x6_1<(y552.length:Int))=true:=dzT c19
      clear c19
      replace H:=bzS H
      obtain ⟨⟨t565,t566⟩,A200,H⟩:=H
      replace H:((jE.f k1 s0_0 t566 (([0,t565,wrap64 (x6_1 - 1)]:List Int))).bind fun bt570=>(if x559000_1.length<5864062014805 then (jW.l0 k1 y552 t562 (wrap64 (x6_1+1)) s0_0 bt570.2 (x559000_1 ++ [(⟨rdOf ByteArray.empty y552 x6_1,bt570.1⟩:S94)])) else (none)))=some (r1,r2):=H
      have A20:=am A200
      clear A200
      obtain ⟨y567,hy567⟩:∃ y_:List Int,y_=(([0,t565,wrap64 (x6_1 - 1)]:List Int)):=⟨_,rfl⟩
      replace H:((jE.f k1 s0_0 t566 y567).bind fun bt570=>(if x559000_1.length<5864062014805 then (jW.l0 k1 y552 t562 (wrap64 (x6_1+1)) s0_0 bt570.2 (x559000_1 ++ [(⟨rdOf ByteArray.empty y552 x6_1,bt570.1⟩:S94)])) else (none)))=some (r1,r2):=by first |(rw [hy567];with_reducible exact H) |(have H2_:=(Option.bind_some _ _).symm.trans H;rw [hy567];with_reducible exact H2_) |(have H2_:=(Option.bind_some _ _).symm.trans H;with_reducible exact H2_) | with_reducible exact H |(rw [hy567];exact H) | exact H
      have Ny567:=am hy567
      clear hy567
      replace H:=bzS H
      obtain ⟨⟨t570,t571⟩,A210,H⟩:=H
      replace H:(if x559000_1.length<5864062014805 then (jW.l0 k1 y552 t562 (wrap64 (x6_1+1)) s0_0 t571 (x559000_1 ++ [(⟨rdOf ByteArray.empty y552 x6_1,t570⟩:S94)])) else (none))=some (r1,r2):=H
      have A21:=am A210
      clear A210
      by_cases c22:x559000_1.length<5864062014805
      ·rw [if_pos c22] at H
       have LMc22:=am c22
       clear c22
       obtain ⟨y572,hy572⟩:∃ y_:List (S94),y_=(x559000_1 ++ [(⟨rdOf ByteArray.empty y552 x6_1,t570⟩:S94)]):=⟨_,rfl⟩
       replace H:(jW.l0 k1 y552 t562 (wrap64 (x6_1+1)) s0_0 t571 y572)=some (r1,r2):=by first |(rw [hy572];with_reducible exact H) |(have H2_:=(Option.bind_some _ _).symm.trans H;rw [hy572];with_reducible exact H2_) |(have H2_:=(Option.bind_some _ _).symm.trans H;with_reducible exact H2_) | with_reducible exact H |(rw [hy572];exact H) | exact H
       have Ny572:=am hy572
       clear hy572
       have H':=am H
       clear H
       try go_wp2
       replace HO_3:=am (Kd.jN HO_3.out)
       replace HO_559000:=am (Kd.jN HO_559000.out)
       replace BK551:=am (jd BK551.out)
       replace BK558:=am (jd BK558.out)
       replace HI0:=am (jg.drew HI0.out)
       replace HK:=am (jka HK.out)
       replace HB:=am (jr HB.out)
       obtain ⟨Ao24,co24,eo24⟩:=Kd.jaa HO_3.out
       (first | subst eo24 |(injection eo24 with f1_ f2_ f3_;have f4_:=f1_.symm;have f5_:=f3_.symm;clear f1_ f2_ f3_;subst f4_;subst f5_))
       have p564:0≤(x6_1:Int):=ozD (uq)
       have q564:x6_1<(y552.length:Int):=ozD (uq)
       obtain ⟨ad564,e564,hx564_0⟩:=Kd.at_string (Kd.jB HO_3.out).2.2 x6_1 p564 q564
       cases e564
       replace p564:=ezT p564
       replace q564:=ezT q564
       refine jPb (n:=19) (S:=fun w'=>w'.cell? ⟨gb558,0,none⟩=some (u559000)∧w'.cell? (ad564.add (x6_1).toNat)=some (.string (rdOf ByteArray.empty y552 x6_1))) (ds:=[16,18]) #[false,false,false,false,false,false,false,false,false,false,false,false,false,false,false,false,false,false,false] (by kernel_rfl) rfl rfl ⟨(jH BK558.out 0).trans rfl,hx564_0⟩ (fun hHeld=>?_);refine jvb jW.tab7 jW.bits7 (fun HT_ HW_=>?_)
       generalize wr.drew=w23 at HO_3 HO_559000 BK551 BK558 HI0 HK HB hx564_0 hHeld ⊢
       refine pq (i:=0) (N:=some 19) #[true,false,false,false,false,false,false,false,false,false,false,false,false,false,false,false,false,false,false] ?_
       refine pq (i:=2) (N:=some 21) #[true,false,true,false,false,false,false,false,false,false,false,false,false,false,false,false,false,false,false] ?_
       refine pq (i:=3) (N:=some 22) #[true,false,true,true,false,false,false,false,false,false,false,false,false,false,false,false,false,false,false] ?_
       refine pq (i:=4) (N:=some 23) #[true,false,true,true,true,false,false,false,false,false,false,false,false,false,false,false,false,false,false] ?_
       refine pq (i:=6) (N:=some 25) #[true,false,true,true,true,false,true,false,false,false,false,false,false,false,false,false,false,false,false] ?_
       refine pq (i:=7) (N:=some 26) #[true,false,true,true,true,false,true,true,false,false,false,false,false,false,false,false,false,false,false] ?_
       refine pq (i:=8) (N:=some 27) #[true,false,true,true,true,false,true,true,true,false,false,false,false,false,false,false,false,false,false] ?_
       refine pq (i:=10) (N:=some 29) #[true,false,true,true,true,false,true,true,true,false,true,false,false,false,false,false,false,false,false] ?_
       refine pq (i:=11) (N:=some 30) #[true,false,true,true,true,false,true,true,true,false,true,true,false,false,false,false,false,false,false] ?_
       refine jwb (i:=1) (N:=some 20) (v:=?_) (a':=?_) #[true,true,true,true,true,false,true,true,true,false,true,true,false,false,false,false,false,false,false] rfl rfl (jZa HT_.out HW_.out (by kernel_rfl)) (fun _ _ _ h=>h) (Or.inl ⟨by rfl,?_⟩) hHeld ?_ ?_
       rotate_left
       ·rintro w' ⟨s0,s1⟩
        go_simp
        with_reducible rfl
       rotate_left
       ·exact sa
       refine jwb (i:=5) (N:=some 24) (v:=?_) (a':=?_) #[true,true,true,true,true,true,true,true,true,false,true,true,false,false,false,false,false,false,false] rfl rfl (jZa HT_.out HW_.out (by kernel_rfl)) (fun _ _ _ h=>h) (Or.inl ⟨by rfl,?_⟩) hHeld ?_ ?_
       rotate_left
       ·rintro w' ⟨s0,s1⟩
        go_simp
        with_reducible rfl
       rotate_left
       ·exact sa
       refine one_ (i:=9) (N:=some 28) #[true,true,true,true,true,true,true,true,true,true,true,true,false,false,false,false,false,false,false] rfl rfl (jUa HT_.out (by kernel_rfl)) (by decide) (fun K hK=>?_)
       refine goes_ Try.func88 (by kernel_rfl) rfl #[.pointer (some ⟨g,0,none⟩), .int .i64 x6_1] (by rfl) rfl rfl (aq) ?_
       with_reducible refine (jq.calls k1 g s0_0 x1001_1 x6_1 t565 t566 w0 _ ?side1 ?side2 A20.out).mono ?_
       (case side1=>exact Y24)
       (case side2=>exact Y46)
       rintro e w25 ⟨rfl,hi,hb,hk⟩
       have HS1_:=keep_cell hk (hHeld.2) (Y191)
       refine ⟨_,rfl,?_⟩
       replace HO_3:=am (Kd.jD (Kd.jqa (jg.apart (show jg w0 _ g s0_0 x1001_1 from Y24) (rq HO_3.out) (by decide)) hk (fun _ h=>h.2)) (fun _ h=>h.1))
       replace HO_559000:=am (Kd.jD (Kd.jqa (jg.apart (show jg w0 _ g s0_0 x1001_1 from Y24) (rq HO_559000.out) (by decide)) hk (fun _ h=>h.2)) (fun _ h=>h.1))
       replace BK551:=am (jh.blk hk (g':=gb551) (o:=.cells #[.slice none 0 0] 37 (0,0)) (kq BK551.out) NB551_0.out (by simp))
       replace BK558:=am (jh.blk hk (g':=gb558) (o:=.cells #[u559000] 37 (0,0)) (kq BK558.out) NB558_0.out (by simp))
       replace HK:=am (jh.trans (Y30) hk (.inl rfl))
       replace HB:=am (hb)
       replace HI0:=am (hi)
       (try clear hb)
       (try clear hb2)
       (try clear hk)
       (try clear hi)
       refine hK.out _ _ ⟨(jH BK558.out 0).trans rfl,HS1_⟩ (fun hHeld=>?_)
       clear hK K
       refine jLb (a':=?_) ?_ ?_
       rotate_left
       ·show Act.put _ (some 28) _=_
        simp only [Act.put,List.setIfInBounds_toArray,List.set_cons_zero,List.set_cons_succ,jjb,job]
        rfl
       refine one_ (i:=12) (N:=some 31) #[true,true,true,true,true,true,true,true,true,true,true,true,true,false,false,false,false,false,false] rfl rfl (jUa HT_.out (by kernel_rfl)) (by decide) (fun K hK=>?_)
       refine Kd.jIb (Kd.int .i64) _ 3 ?hg (N:=31) ?hd (xs:=([0,t565,wrap64 (x6_1 - 1)]:List Int)) (inner:=[.int .i64 0, .int .i64 t565, .int .i64 (wrap64 (x6_1 - 1))]) (ok:=fun _=>True) (okp:=fun _=>True) ?hr ?hp (fun _ hk=>hk) trivial (Below.refl _ _) (Nat.le_refl _) (by simp) ?_;(case hd=>rfl);(case hg=>rfl);(case hr=>exact Y4);(case hp=>exact (Reps.one (show Kd.M (Kd.int .i64) _ _ _ 0 [.int .i64 0] from rfl) (Reps.one (show Kd.M (Kd.int .i64) _ _ _ t565 [.int .i64 t565] from rfl) (Reps.one (show Kd.M (Kd.int .i64) _ _ _ (wrap64 (x6_1 - 1)) [.int .i64 (wrap64 (x6_1 - 1))] from rfl) (Reps.none _ _)))))
       intro v568 w26 ho27 hb hg_ hnew_
       have HS1_:=(hb.cell (World.block_lt_of_cell? _ _ (hHeld.2))).trans (hHeld.2)
       clear hg_ hnew_
       (first | rw [← Ny567.out] at ho27 |(simp only [Int.reduceToNat] at ho27;rw [← Ny567.out] at ho27))
       have HO569:=am (Kd.jla ho27 (jma (w:=w) (g:=g) (row:=none) (Y30)))
       replace HO_3:=am (Kd.jP (rq HO_3.out) hb)
       replace HO_559000:=am (Kd.jP (rq HO_559000.out) hb)
       replace BK551:=am (je (g:=gb551) (o:=.cells #[.slice none 0 0] 37 (0,0)) (kq BK551.out) hb)
       replace BK558:=am (je (g:=gb558) (o:=.cells #[u559000] 37 (0,0)) (kq BK558.out) hb)
       replace HK:=am (jh.trans (Y30) (jh.of_below hb g none) (.inl rfl))
       replace HB:=am (jl (Y46) hb)
       replace HI0:=am (jg.below (Y24) hb)
       clear hb ho27
       obtain ⟨Ao28,co28,eo28⟩:=Kd.jaa HO569.out
       (first | subst eo28 |(injection eo28 with f1_ f2_ f3_;have f4_:=f1_.symm;have f5_:=f3_.symm;clear f1_ f2_ f3_;subst f4_;subst f5_))
       refine hK.out _ _ ⟨(jH BK558.out 0).trans rfl,HS1_⟩ (fun hHeld=>?_)
       clear hK K
       refine jLb (a':=?_) ?_ ?_
       rotate_left
       ·show Act.put _ (some 31) _=_
        simp only [Act.put,List.setIfInBounds_toArray,List.set_cons_zero,List.set_cons_succ,jjb,job]
        rfl
       refine one_ (i:=13) (N:=some 32) #[true,true,true,true,true,true,true,true,true,true,true,true,true,true,false,false,false,false,false] rfl rfl (jUa HT_.out (by kernel_rfl)) (by decide) (fun K hK=>?_)
       refine goes_ Try.func89 (by kernel_rfl) rfl #[.pointer (some ⟨g,0,none⟩), .slice Ao28 y567.length co28] (by rfl) rfl rfl (aq) ?_
       with_reducible refine (jE.calls k1 g s0_0 t566 _ _ y567 t570 t571 w0 _ ?side1 ?side2 ?side3 ?side4 ?side5 A21.out).mono ?_
       (case side1=>exact Y24)
       (case side2=>exact Y46)
       (case side3=>exact cq (Kd.jB HO569.out).2.2)
       (case side4=>exact (Kd.jB HO569.out).2.1)
       (case side5=>exact jxb (jg.own_ne HI0.out HO569.out (by decide)))
       rintro e w29 ⟨rfl,hi,hb,hk⟩
       have HS1_:=keep_cell hk (hHeld.2) (Y191)
       refine ⟨_,rfl,?_⟩
       replace HO_3:=am (Kd.jD (Kd.jqa (jg.apart (show jg w0 _ g s0_0 t566 from Y24) (rq HO_3.out) (by decide)) hk (fun _ h=>h.2)) (fun _ h=>h.1))
       replace HO_559000:=am (Kd.jD (Kd.jqa (jg.apart (show jg w0 _ g s0_0 t566 from Y24) (rq HO_559000.out) (by decide)) hk (fun _ h=>h.2)) (fun _ h=>h.1))
       replace BK551:=am (jh.blk hk (g':=gb551) (o:=.cells #[.slice none 0 0] 37 (0,0)) (kq BK551.out) NB551_0.out (by simp))
       replace BK558:=am (jh.blk hk (g':=gb558) (o:=.cells #[u559000] 37 (0,0)) (kq BK558.out) NB558_0.out (by simp))
       replace HO569:=am (Kd.jD (Kd.jqa (jg.apart (show jg w0 _ g s0_0 t566 from Y24) (rq HO569.out) (by decide)) hk (fun _ h=>h.2)) (fun _ h=>h.1))
       replace HK:=am (jh.trans (Y30) hk (.inl rfl))
       replace HB:=am (hb)
       replace HI0:=am (hi)
       (try clear hb)
       (try clear hb2)
       (try clear hk)
       (try clear hi)
       refine hK.out _ _ ⟨(jH BK558.out 0).trans rfl,HS1_⟩ (fun hHeld=>?_)
       clear hK K
       refine jLb (a':=?_) ?_ ?_
       rotate_left
       ·show Act.put _ (some 32) _=_
        simp only [Act.put,List.setIfInBounds_toArray,List.set_cons_zero,List.set_cons_succ,jjb,job]
        rfl
       refine pq (i:=14) (N:=some 33) #[true,true,true,true,true,true,true,true,true,true,true,true,true,true,true,false,false,false,false] ?_
       refine one_ (i:=15) (N:=some 34) #[true,true,true,true,true,true,true,true,true,true,true,true,true,true,true,true,false,false,false] rfl rfl (jUa HT_.out (by kernel_rfl)) (by decide) (fun K hK=>?_)
       refine value_ (w1:=?_) (v:=?_) (by rfl) rfl ?_ ?_
       rotate_left 2
       ·go_simp
        constructor
        ·rfl
        ·rfl
       refine hK.out _ _ ⟨(jH (jc BK558.out _) 0).trans rfl,(World.cell?_alloc_lt _ _ _ (World.block_lt_of_cell? _ _ (hHeld.2))).trans (hHeld.2)⟩ (fun hHeld=>?_)
       clear hK K
       refine jLb (a':=?_) ?_ ?_
       rotate_left
       ·show Act.put _ (some 34) _=_
        simp only [Act.put,List.setIfInBounds_toArray,List.set_cons_zero,List.set_cons_succ,jjb,job]
        rfl
       refine last_ (i:=16) (N:=some 35) #[true,true,true,true,true,true,true,true,true,true,true,true,true,true,true,true,true,false,false] rfl rfl (jUa HT_.out (by kernel_rfl)) (by decide) (fun K hK=>?_)
       refine Kd.R_append_step k94 w.heap.size (by rfl) (.tmp 20) (.tmp 34) 35 94 (.agg #[(.string ⟨#[]⟩),(.int .i64 0)]) 24 rfl Try.underlying35 info94 rfl (by decide) (by omega) u559000 x559000_1 (⟨rdOf ByteArray.empty y552 x6_1,t570⟩:S94) [.string (rdOf ByteArray.empty y552 x6_1), .int .i64 t570] (fun _=>True) (fun _=>False) rfl rfl ?aP (fun _ hk=>hk.elim) ?aF ?aO (Below.refl _ _) ?aS ?aL ?_
       (case aP=>exact k94_mkM _ _ _ (⟨rdOf ByteArray.empty y552 x6_1,t570⟩:S94))
       (case aF=>exact (fun _ _=>trivial))
       (case aO=>exact (rq HO_559000.out))
       (case aS=>exact (jma (w:=w) (g:=g) (row:=none) (Y30)))
       (case aL=>have:=LMc22.out;omega)
       intro v573 w30 ho hb hg hat
       rw [← Ny572.out] at ho
       have n0_:=am (Kd.R_over' (rq HO_3.out) (Kd.R_typed (rq HO_559000.out)) (by decide) hg)
       have n1_:=am (jia (g:=gb551) (o:=.cells #[.slice none 0 0] 37 (0,0)) (kq BK551.out) hg (Kd.R_ne HO_559000.out BK551.out (by decide)))
       have n2_:=am (jia (g:=gb558) (o:=.cells #[u559000] 37 (0,0)) (kq BK558.out) hg (Kd.R_ne HO_559000.out BK558.out (by decide)))
       have n3_:=am (jg.grown (Y24) hg (jg.own_ne HI0.out HO_559000.out (by decide)))
       have n4_:=am (Kd.R_over' (rq HO569.out) (Kd.R_typed (rq HO_559000.out)) (by decide) hg)
       have n5_:=am (below_weaken (Y46) HL.out hb)
       have n6_:=am (jh.trans (Y30) (jh.of_grown hg g) (Kd.R_base2 HO_559000.out))
       have n7_:=am (ho)
       clear HO_3
       clear BK551
       clear BK558
       clear HI0
       clear HO569
       clear HB
       clear HK
       clear HO_559000
       have HO_3:=n0_
       have BK551:=n1_
       have BK558:=n2_
       have HI0:=n3_
       have HO569:=n4_
       have HB:=n5_
       have HK:=n6_
       have HO574:=n7_
       clear n0_ n1_ n2_ n3_ n4_ n5_ n6_ n7_
       clear ho hb hg hat
       obtain ⟨Ao31,co31,eo31⟩:=Kd.jaa HO574.out
       (first | subst eo31 |(injection eo31 with f1_ f2_ f3_;have f4_:=f1_.symm;have f5_:=f3_.symm;clear f1_ f2_ f3_;subst f4_;subst f5_))
       refine hK.out _ _ ?_
       clear hK K
       refine jLb (a':=?_) ?_ ?_
       rotate_left
       ·show Act.put _ (some 35) _=_
        simp only [Act.put,List.setIfInBounds_toArray,List.set_cons_zero,List.set_cons_succ,jjb,job]
        rfl
       refine pq (i:=17) (N:=some 36) #[true,true,true,true,true,true,true,true,true,true,true,true,true,true,true,true,true,true,false] ?_
       refine last_ (i:=18) (N:=none) #[true,true,true,true,true,true,true,true,true,true,true,true,true,true,true,true,true,true,true] rfl rfl (jUa HT_.out (by kernel_rfl)) (by decide) (fun K hK=>?_)
       have hs32:w30.cell? ⟨gb558,0,none⟩=some (u559000):=(jH BK558.out 0).trans rfl
       have hfs32:=jf BK558.out 0
       have hns32_0:=NB551_558.out
       have hms32_0:=NB558_551.out
       refine jQb (w1:=?_) (by rfl) rfl ?_ ?_
       rotate_left
       ·go_simp
        rfl
       refine hK.out _ _ ?_
       clear hK K
       refine done_ (jWb HT_.out (by kernel_rfl)) ?_
       try go_wp2
       go_roundg k1
       case measure=>have:=HK1.out;omega
       case rel=>exact ⟨(wrap64 (x6_1+1)),(t571),(y572),(.slice Ao31 y572.length co31),(sq),H',⟨by have:=HK1.out;omega⟩,⟨by (with_reducible repeat (first | apply Kd.jL | apply Kd.jM | apply Kd.jN));exact Kd.jD (Kd.jX (p:=⟨gb558,0,none⟩) (Kd.jJ HO_3.out BK558.out (by decide)) (fun _ hk=>hk.2) (.slice Ao31 y572.length co31)) (fun _ hk=>trivial)⟩,⟨by (with_reducible repeat (first | apply Kd.jL | apply Kd.jM | apply Kd.jN));exact Kd.jD (Kd.jX (p:=⟨gb558,0,none⟩) (Kd.jJ HO574.out BK558.out (by decide)) (fun _ hk=>hk.2) (.slice Ao31 y572.length co31)) (fun _ hk=>trivial)⟩,⟨by (with_reducible repeat (first | refine jb ?_ _ | refine jd ?_ | refine jc ?_ _));refine jA ?_ NB551_558.out _;(with_reducible repeat (first | refine jb ?_ _ | refine jd ?_ | refine jc ?_ _));exact BK551.out⟩,⟨by (with_reducible repeat (first | refine jb ?_ _ | refine jd ?_ | refine jc ?_ _));refine jfa (cs:=#[u559000]) ?_ 0 _ rfl;(with_reducible repeat (first | refine jb ?_ _ | refine jd ?_ | refine jc ?_ _));exact BK558.out⟩,⟨Y24⟩,⟨Y30⟩,⟨Y46⟩⟩
      ·rw [if_neg c22] at H
       exact absurd H (by simp)
     ·rw [if_neg c19] at H
      exact absurd H (by simp)
    ·rw [if_neg c18] at H
     exact absurd H (by simp)
   ·rw [if_neg c17] at H
    have c17b0:decide (x6_1<t562)=false:=dzF c17
    clear c17
    simp only [Option.some.injEq,Prod.mk.injEq] at H
    obtain ⟨rfl,rfl⟩:=H
    have hnb33:=NB558_551.out
    have hnc33:=NB551_558.out
    have hnb34:=NB558_0.out
    have hnc34:=NB0_558.out
    have hcz35_0:=bc0 BK558.out
    have hfz35_0:=jf BK558.out 0
    obtain ⟨Ao36,co36,eo36⟩:=Kd.jaa HO_559000.out
    subst eo36
    have hnb37:=NB551_0.out
    have hnc37:=NB0_551.out
    have hcz38_0:=bc0 BK551.out
    have hfz38_0:=jf BK551.out 0
    go_wp2
    refine bodyPost_ret (results_cell_row rfl _ _ gb551 37 #[.slice Ao36 x559000_1.length co36] (0,0) _ rfl (by (with_reducible repeat (first | refine jb ?_ _ | refine jd ?_ | refine jc ?_ _));refine jfa (cs:=#[.slice none 0 0]) ?_ 0 _ rfl;(with_reducible repeat (first | refine jb ?_ _ | refine jd ?_ | refine jc ?_ _));exact BK551.out) Try.underlying37 rfl (by kernel_rfl)) rfl ?_
    exact ⟨_,Y2,by (with_reducible repeat (first | apply Kd.jL | apply Kd.jM | apply Kd.jN));exact Kd.jD (Kd.jX (p:=⟨gb551,0,none⟩) (Kd.jJ HO_559000.out BK551.out (by decide)) (fun _ hk=>hk.2) (.slice Ao36 x559000_1.length co36)) (fun _ hk=>trivial),Y24,Y46,Y30⟩
def jPa.f (k : Nat) (s0_0 : List Int) (s0_1 : Int) (l1 : List ByteArray) : Option (ByteArray × Int) := (jq.f k s0_0 s0_1 (l1.length : Int)).bind fun bt575 => (if 0 ≤ bt575.1 then (if bt575.1 < (l1.length : Int) then (some (rdOf ByteArray.empty l1 bt575.1, bt575.2)) else (none)) else (none))
set_option maxHeartbeats 8000000 in
set_option maxRecDepth 100000 in
theorem jPa.calls (k : Nat) (g : Nat) (s0_0 : List Int) (s0_1 : Int) (A1 : Option Addr) (c1 : Nat) (l1 : List ByteArray) (r1 : ByteArray) (r2 : Int) (w0 w : World) (hI : jg w0 w g s0_0 s0_1) (hB : Below w0.heap.size w0 w) (hr1 : Kd.C Kd.string w A1 l1.length l1) (hc1 : l1.length ≤ c1) (hf1 : ∀ ad, A1 = some ad → 0 < l1.length → ad.block ≠ g) (h : jPa.f k s0_0 s0_1 l1 = some (r1, r2)) :
  Calls Try.prog 106 #[.pointer (some ⟨g,0,none⟩), .slice A1 l1.length c1] w fun e w'=>e=.returned (.string r1)∧jg w0 w' g s0_0 r2∧Below w0.heap.size w0 w'∧jh w w' g none:=by
 have HR1:=am hr1
 have HC1:=am hc1
 clear hr1 hc1
 have HI0:=am hI
 have HK:=am (jh.refl w g none)
 have HL:=am hB.size
 clear hI
 have HW0:=am hB.size
 have HB:=am hB
 clear hB
 have H:((jq.f k s0_0 s0_1 (l1.length:Int)).bind fun bt575=>(if 0≤bt575.1 then (if bt575.1<(l1.length:Int) then (some (rdOf ByteArray.empty l1 bt575.1,bt575.2)) else (none)) else (none)))=some (r1,r2):=h
 clear h
 replace H:=bzS H
 obtain ⟨⟨t575,t576⟩,A30,H⟩:=H
 replace H:(if 0≤t575 then (if t575<(l1.length:Int) then (some (rdOf ByteArray.empty l1 t575,t576)) else (none)) else (none))=some (r1,r2):=H
 have A3:=am A30
 clear A30
 by_cases c4:0≤t575
 ·rw [if_pos c4] at H
  have c4b0:decide (0≤t575)=true:=dzT c4
  clear c4
  by_cases c5:t575<(l1.length:Int)
  ·rw [if_pos c5] at H
   have c5b0:decide (t575<(l1.length:Int))=true:=dzT c5
   clear c5
   simp only [Option.some.injEq,Prod.mk.injEq] at H
   obtain ⟨rfl,rfl⟩:=H
   go_enter Try.func106,Try.ntmps106
   go_wp2_with (first |((with_reducible refine jC (f:=88) rfl ?_);refine gL (some 9) Try.func88 #[.pointer (some ⟨g,0,none⟩), .int .i64 (l1.length:Int)] ?_;(with_reducible refine (jq.calls k g s0_0 s0_1 (l1.length:Int) t575 t576 w0 _ ?side1 ?side2 A3.out).mono ?_);(case side1=>exact Y15);(case side2=>exact Y17);rintro e w6 ⟨rfl,hi,hb,hk⟩;refine ⟨_,rfl,?_⟩;replace HK:=am (jh.trans (Y16) hk (.inl rfl));replace HB:=am (hb);replace HI0:=am (hi);(try clear hb);(try clear hb2);(try clear hk);(try clear hi);have p577:0≤(t575:Int):=ozD (uq);have q577:t575<(l1.length:Int):=ozD (uq);obtain ⟨ad577,e577,hx577_0⟩:=Kd.at_string HR1.out t575 p577 q577;cases e577;replace hx577_0:=keep_cell HK.out hx577_0 (by first |(rw [add_block];exact hf1 _ rfl (by omega)) | exact hf1 _ rfl (by omega) | exact hf1 ad577 rfl (by omega));replace p577:=ezT p577;replace q577:=ezT q577))
   go_ret
   exact ⟨Y2,Y15,Y17,Y16⟩
  ·rw [if_neg c5] at H
   exact absurd H (by simp)
 ·rw [if_neg c4] at H
  exact absurd H (by simp)
end Go.Proofs.Ytecdfgejmbpclaa.P
end
