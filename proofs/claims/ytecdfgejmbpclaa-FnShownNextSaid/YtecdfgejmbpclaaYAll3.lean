/- One part of the proofs on this program: functions of the program as plain functions, that the code comes to them, and facts on them. -/
import Derived.Test.YtecdfgejmbpclaaYAll1
import Derived.Test.YtecdfgejmbpclaaYAll2
import Derived.Test.YtecdfgejmbpclaaYWAuto
section
namespace Go.Proofs.Ytecdfgejmbpclaa.P
open Go.RowKit Go.Proofs.YtecdfgejmbpclaaW.PrintWords Go.Proofs.YtecdfgejmbpclaaW.PrintLast Go.Proofs.YtecdfgejmbpclaaW.PrintMore
attribute [local go_sem] jqa joa jwa jva jea jda jpa jna jA
set_option linter.unusedVariables false
set_option linter.unusedSimpArgs false
mutual
def jq.l0 : Nat → Int → List Int → Int → List (S94) → List (S54) → Option ((List (S54)) × Int)
 | 0,_,_,_,_,_=>none
 | k+1,x6,x1000,x1001,x529000,x534000=>if x6 > 0 then ((jl.f k x1000 x1001 (x529000.length:Int)).bind fun bt539=>((jv.f k x1000 bt539.2 (([1,2,3,0,99]:List Int))).bind fun bt544=>((jBb.f x534000 bt539.1 bt544.1).bind fun t546=>(jq.l0 k (wrap64 (x6 - 1)) x1000 bt544.2 x529000 t546)))) else ((jv.f k x1000 x1001 (([3,4,2,5,0]:List Int))).bind fun bt552=>(jq.l1 k bt552.1 x1000 bt552.2 x534000))
def jq.l1 : Nat → Int → List Int → Int → List (S54) → Option ((List (S54)) × Int)
 | 0,_,_,_,_=>none
 | k+1,x7,x1000,x1001,x534000=>if x7 > 0 then (jq.j2 k x7 (decide ((x534000.length:Int) > 1)) x1000 x1001 x534000) else (jq.j2 k x7 false x1000 x1001 x534000)
def jq.j2 : Nat → Int → Bool → List Int → Int → List (S54) → Option ((List (S54)) × Int)
 | 0,_,_,_,_,_=>none
 | k+1,x7,x39,x1000,x1001,x534000=>if x39=true then ((jl.f k x1000 x1001 (x534000.length:Int)).bind fun bt554=>((jl.f k x1000 bt554.2 (x534000.length:Int)).bind fun bt556=>(if bt554.1=bt556.1 then (if 0≤bt554.1 then (if bt554.1<(x534000.length:Int) then (jq.l1 k (wrap64 (x7 - 1)) x1000 bt556.2 (x534000.set (bt554.1:Int).toNat (⟨(ja x534000 bt554.1).f0,(ja x534000 bt554.1).f1,(ja x534000 bt554.1).f2,(ja x534000 bt554.1).f3,!((ja x534000 bt554.1).f4)⟩:S54))) else (none)) else (none)) else ((jl.f k x1000 bt556.2 3).bind fun bt560=>(if bt560.1=0 then (if 0≤bt554.1 then (if bt554.1<(x534000.length:Int) then ((some (x534000.set (bt554.1:Int).toNat (⟨(ja x534000 bt554.1).f0,(ja x534000 bt554.1).f1,bt556.1,(ja x534000 bt554.1).f3,(ja x534000 bt554.1).f4⟩:S54):List (S54))).bind fun y562=>(jq.l1 k (wrap64 (x7 - 1)) x1000 bt560.2 (y562.set (bt554.1:Int).toNat (⟨(ja y562 bt554.1).f0,(ja y562 bt554.1).f1,(ja y562 bt554.1).f2,(ja y562 bt554.1).f3,true⟩:S54)))) else (none)) else (none)) else ((jfa.f k x534000 bt554.1 bt556.1).bind fun t564=>(jq.l1 k (wrap64 (x7 - 1)) x1000 bt560.2 t564))))))) else (some (x534000,x1001))
end
def jq.f (k : Nat) (s0_0 : List Int) (s0_1 : Int) (l1_0 : List (S94)) : Option ((List (S54)) × Int) := (jv.f k s0_0 s0_1 (([4, 5, 3, 6, 2, 1, 0] : List Int))).bind fun bt537 => (jq.l0 k bt537.1 s0_0 bt537.2 l1_0 (([] : List (S54))))
def jq.T5 : Bool × List (List Nat × List Nat) := (true, [([], []), ([], []), ([], []), ([2], [2]), ([3], [3]), ([1, 4], [1, 4]), ([], []), ([], []), ([6, 7, 5], [6, 7]), ([0, 5, 8, 8], [0, 5, 8]), ([9, 9, 0, 1, 2, 3, 4, 5, 6, 7, 8, 9], [9])])
def jq.B5 : List Nat := [0, 0, 0, 4, 12, 30, 0, 0, 254, 511, 1023]
theorem jq.tab5 : rtab .any (opsOf Try.f62 5) = jq.T5 := by kernel_rfl
theorem jq.bits5 : jFb jq.T5.2 jq.B5 = true := by kernel_rfl
def jq.T13 : Bool × List (List Nat × List Nat) := (true, [([], []), ([0], [0]), ([], []), ([], []), ([3], [3]), ([], []), ([4, 5], [4, 5]), ([6], [6]), ([7], [7]), ([8], [8]), ([1, 2, 0, 1, 2, 3, 4, 5, 6, 7, 8, 9], [1, 2]), ([10, 0, 1, 2, 3, 4, 5, 6, 7, 8, 9], [10]), ([11, 9, 0, 1, 2, 3, 4, 5, 6, 7, 8, 9], [9, 11])])
def jq.B13 : List Nat := [0, 1, 0, 0, 8, 0, 56, 120, 248, 504, 1023, 2047, 4095]
theorem jq.tab13 : rtab .any (opsOf Try.f62 13) = jq.T13 := by kernel_rfl
theorem jq.bits13 : jFb jq.T13.2 jq.B13 = true := by kernel_rfl
set_option maxHeartbeats 8000000 in
set_option maxRecDepth 100000 in
theorem jq.calls (k : Nat) (g : Nat) (s0_0 : List Int) (s0_1 : Int) (A1_0 : Option Addr) (c1_0 : Nat) (l1_0 : List (S94)) (r1 : List (S54)) (r2 : Int) (w0 w : World) (hI : jc w0 w g s0_0 s0_1) (hB : Below w0.heap.size w0 w) (hr1_0 : ∀ W_, jd w W_ g none → Kd.C k94 W_ A1_0 l1_0.length l1_0) (hc1_0 : l1_0.length ≤ c1_0) (h : jq.f k s0_0 s0_1 l1_0 = some (r1, r2)) :
  Calls Try.prog 62 #[.pointer (some ⟨g,0,none⟩), .agg #[.slice A1_0 l1_0.length c1_0]] w fun e w'=>∃ v0_:Value,e=.returned (.agg #[v0_])∧Kd.R k54 54 w' w.heap.size (fun _=>True) v0_ r1∧jc w0 w' g s0_0 r2∧Below w0.heap.size w0 w'∧jd w w' g none:=by
 have hu37:=Try.underlying37
 have hu32:=Try.underlying32
 have HR1_0:=am hr1_0
 have HC1_0:=am hc1_0
 clear hr1_0 hc1_0
 have HI0:=am hI
 have HK:=am (jd.refl w g none)
 have HL:=am hB.size
 clear hI
 have HW0:=am hB.size
 have HB:=am hB
 clear hB
 have H:((jv.f k s0_0 s0_1 (([4,5,3,6,2,1,0]:List Int))).bind fun bt537=>(jq.l0 k bt537.1 s0_0 bt537.2 l1_0 (([]:List (S54)))))=some (r1,r2):=h
 clear h
 obtain ⟨y530,hy530⟩:∃ y_:List (S54),y_=(([]:List (S54))):=⟨_,rfl⟩
 replace H:((jv.f k s0_0 s0_1 (([4,5,3,6,2,1,0]:List Int))).bind fun bt537=>(jq.l0 k bt537.1 s0_0 bt537.2 l1_0 y530))=some (r1,r2):=by first |(rw [hy530];with_reducible exact H) |(have H2_:=(Option.bind_some _ _).symm.trans H;rw [hy530];with_reducible exact H2_) |(have H2_:=(Option.bind_some _ _).symm.trans H;with_reducible exact H2_) | with_reducible exact H |(rw [hy530];exact H) | exact H
 have Ny530:=am hy530
 clear hy530
 obtain ⟨y534,hy534⟩:∃ y_:List Int,y_=(([4,5,3,6,2,1,0]:List Int)):=⟨_,rfl⟩
 replace H:((jv.f k s0_0 s0_1 y534).bind fun bt537=>(jq.l0 k bt537.1 s0_0 bt537.2 l1_0 y530))=some (r1,r2):=by first |(rw [hy534];with_reducible exact H) |(have H2_:=(Option.bind_some _ _).symm.trans H;rw [hy534];with_reducible exact H2_) |(have H2_:=(Option.bind_some _ _).symm.trans H;with_reducible exact H2_) | with_reducible exact H |(rw [hy534];exact H) | exact H
 have Ny534:=am hy534
 clear hy534
 replace H:=bzS H
 obtain ⟨⟨t537,t538⟩,A30,H⟩:=H
 replace H:(jq.l0 k t537 s0_0 t538 l1_0 y530)=some (r1,r2):=H
 have A3:=am A30
 clear A30
 have H':=am H
 clear H
 go_enter Try.func62,Try.ntmps62
 go_wp2_with (first |((with_reducible refine jD (N:=3) rfl ?_);(try (refine jVa (by rfl) ?_;dsimp only));refine jlb ?hg (N:=3) ?hd (cs:=#[.slice A1_0 l1_0.length c1_0]) (t:=37) ?hr ?_;(case hd=>rfl);(case hg=>rfl);(case hr=>exact Y4);intro gb528 hg w4 hbox hb;have BK528:=am (hbox);have GW528:=am ((Y6:w.heap.size≤gb528));have GE528:=am ((Nat.le_trans HW0.out (Y6:w.heap.size≤gb528):w0.heap.size≤gb528));have NB0_528:=am ((Y24:g≠gb528));have NB528_0:=am ((Y25:gb528≠g));replace HK:=am (jd.trans (Y13) (jd.of_below hb g none) (.inl rfl));replace HB:=am (jf (Y14) hb);replace HI0:=am (jc.below (Y12) hb);clear hb hbox hg) |((with_reducible refine jD (N:=4) rfl ?_);(try (refine jVa (by rfl) ?_;dsimp only));refine jlb ?hg (N:=4) ?hd (cs:=#[.slice none 0 0]) (t:=32) ?hr ?_;(case hd=>rfl);(case hg=>rfl);(case hr=>exact Y4);intro gb529 hg w5 hbox hb;have BK529:=am (hbox);have GW529:=am ((Y145:w.heap.size≤gb529));have GE529:=am ((Nat.le_trans HW0.out (Y145:w.heap.size≤gb529):w0.heap.size≤gb529));have NB528_529:=am ((by rw [hg];exact Nat.ne_of_lt (jca (g:=gb528) (o:=.cells #[.slice A1_0 l1_0.length c1_0] 37 (0,0)) (kq BK528.out)):gb528≠gb529));have NB529_528:=am ((by rw [hg];exact Nat.ne_of_gt (jca (g:=gb528) (o:=.cells #[.slice A1_0 l1_0.length c1_0] 37 (0,0)) (kq BK528.out)):gb529≠gb528));have NB0_529:=am ((by rw [hg];exact Nat.ne_of_lt (jc.lt (show jc w0 _ g s0_0 s0_1 from by repeat (first |(with_reducible first | exact HI0.out | apply jc.alloc | apply jc.drewN | apply jc.drew | apply jc.jeb | refine jc.far ?_ NB0_528.out _) | exact HI0.out))):g≠gb529));have NB529_0:=am ((by rw [hg];exact Nat.ne_of_gt (jc.lt (show jc w0 _ g s0_0 s0_1 from by repeat (first |(with_reducible first | exact HI0.out | apply jc.alloc | apply jc.drewN | apply jc.drew | apply jc.jeb | refine jc.far ?_ NB0_528.out _) | exact HI0.out))):gb529≠g));replace BK528:=am (je (g:=gb528) (o:=.cells #[.slice A1_0 l1_0.length c1_0] 37 (0,0)) (kq BK528.out) hb);replace HK:=am (jd.trans (by repeat (first |(with_reducible first | exact HK.out | apply jd.set_ | apply jga | apply jV | apply jha | refine jK ?_ GW528.out _) | exact HK.out)) (jd.of_below hb g none) (.inl rfl));replace HB:=am (jf (by repeat (first |(with_reducible first | exact HB.out | apply jw | apply jo | apply jr | refine jm ?_ (jc.ge HI0.out) | refine jm ?_ GE528.out) | exact HB.out)) hb);replace HI0:=am (jc.below (by repeat (first |(with_reducible first | exact HI0.out | apply jc.alloc | apply jc.drewN | apply jc.drew | apply jc.jeb | refine jc.far ?_ NB0_528.out _) | exact HI0.out)) hb);clear hb hbox hg) |((with_reducible refine jD (N:=10) rfl ?_);(try (refine jVa (by rfl) ?_;dsimp only));refine Kd.R_lit k54 _ 54 ?hg (N:=10) ?hd (xs:=([]:List (S54))) (inner:=[]) (ok:=fun _=>True) (okp:=fun _=>True) ?hr ?hp (fun _ hk=>hk) trivial (Below.refl _ _) (Nat.le_refl _) (by simp) ?_;(case hd=>rfl);(case hg=>rfl);(case hr=>exact Y4);(case hp=>exact (Reps.none _ _));intro v531 w6 ho7 hb hg_ hnew_;clear hg_ hnew_;(first | rw [← Ny530.out] at ho7 |(simp only [Int.reduceToNat] at ho7;rw [← Ny530.out] at ho7));have HO532:=am (Kd.jia ho7 (jba (w:=w) (g:=g) (row:=none) (Y115)));replace BK528:=am (je (g:=gb528) (o:=.cells #[.slice A1_0 l1_0.length c1_0] 37 (0,0)) (kq BK528.out) hb);replace BK529:=am (je (g:=gb529) (o:=.cells #[.slice none 0 0] 32 (0,0)) (kq BK529.out) hb);replace HK:=am (jd.trans (Y115) (jd.of_below hb g none) (.inl rfl));replace HB:=am (jf (Y146) hb);replace HI0:=am (jc.below (Y147) hb);clear hb ho7;obtain ⟨Ao8,co8,eo8⟩:=Kd.jZ HO532.out;subst eo8) |((with_reducible refine jD (N:=5) rfl ?_);(try (refine jVa (by rfl) ?_;dsimp only));refine jlb ?hg (N:=5) ?hd (cs:=#[.slice none 0 0]) (t:=32) ?hr ?_;(case hd=>rfl);(case hg=>rfl);(case hr=>exact Y4);intro gb533 hg w9 hbox hb;have BK533:=am (hbox);have GW533:=am ((Y148:w.heap.size≤gb533));have GE533:=am ((Nat.le_trans HW0.out (Y148:w.heap.size≤gb533):w0.heap.size≤gb533));have NB528_533:=am ((by rw [hg];exact Nat.ne_of_lt (jca (g:=gb528) (o:=.cells #[.slice A1_0 l1_0.length c1_0] 37 (0,0)) (kq BK528.out)):gb528≠gb533));have NB533_528:=am ((by rw [hg];exact Nat.ne_of_gt (jca (g:=gb528) (o:=.cells #[.slice A1_0 l1_0.length c1_0] 37 (0,0)) (kq BK528.out)):gb533≠gb528));have NB529_533:=am ((by rw [hg];exact Nat.ne_of_lt (jca (g:=gb529) (o:=.cells #[.slice none 0 0] 32 (0,0)) (kq BK529.out)):gb529≠gb533));have NB533_529:=am ((by rw [hg];exact Nat.ne_of_gt (jca (g:=gb529) (o:=.cells #[.slice none 0 0] 32 (0,0)) (kq BK529.out)):gb533≠gb529));have NB0_533:=am ((by rw [hg];exact Nat.ne_of_lt (jc.lt (show jc w0 _ g s0_0 s0_1 from by repeat (first |(with_reducible first | exact HI0.out | apply jc.alloc | apply jc.drewN | apply jc.drew | apply jc.jeb | refine jc.far ?_ NB0_528.out _ | refine jc.far ?_ NB0_529.out _) | exact HI0.out))):g≠gb533));have NB533_0:=am ((by rw [hg];exact Nat.ne_of_gt (jc.lt (show jc w0 _ g s0_0 s0_1 from by repeat (first |(with_reducible first | exact HI0.out | apply jc.alloc | apply jc.drewN | apply jc.drew | apply jc.jeb | refine jc.far ?_ NB0_528.out _ | refine jc.far ?_ NB0_529.out _) | exact HI0.out))):gb533≠g));replace HO532:=am (Kd.jX (rq HO532.out) hb);replace BK528:=am (je (g:=gb528) (o:=.cells #[.slice A1_0 l1_0.length c1_0] 37 (0,0)) (kq BK528.out) hb);replace BK529:=am (je (g:=gb529) (o:=.cells #[.slice none 0 0] 32 (0,0)) (kq BK529.out) hb);replace HK:=am (jd.trans (Y115) (jd.of_below hb g none) (.inl rfl));replace HB:=am (jf (Y146) hb);replace HI0:=am (jc.below (Y147) hb);clear hb hbox hg;have hnb10:=NB533_528.out;have hnc10:=NB528_533.out;have hnb11:=NB533_529.out;have hnc11:=NB529_533.out;have hnb12:=NB533_0.out;have hnc12:=NB0_533.out;have hcz13_0:=bc0 BK533.out;have hfz13_0:=jb BK533.out 0) |((with_reducible refine jD (N:=13) rfl ?_);(try (refine jVa (by rfl) ?_;dsimp only));refine Kd.R_lit (Kd.int .i64) _ 3 ?hg (N:=13) ?hd (xs:=([4,5,3,6,2,1,0]:List Int)) (inner:=[.int .i64 4, .int .i64 5, .int .i64 3, .int .i64 6, .int .i64 2, .int .i64 1, .int .i64 0]) (ok:=fun _=>True) (okp:=fun _=>True) ?hr ?hp (fun _ hk=>hk) trivial (Below.refl _ _) (Nat.le_refl _) (by simp) ?_;(case hd=>rfl);(case hg=>rfl);(case hr=>exact Y4);(case hp=>exact (Reps.one (show Kd.M (Kd.int .i64) _ _ _ 4 [.int .i64 4] from rfl) (Reps.one (show Kd.M (Kd.int .i64) _ _ _ 5 [.int .i64 5] from rfl) (Reps.one (show Kd.M (Kd.int .i64) _ _ _ 3 [.int .i64 3] from rfl) (Reps.one (show Kd.M (Kd.int .i64) _ _ _ 6 [.int .i64 6] from rfl) (Reps.one (show Kd.M (Kd.int .i64) _ _ _ 2 [.int .i64 2] from rfl) (Reps.one (show Kd.M (Kd.int .i64) _ _ _ 1 [.int .i64 1] from rfl) (Reps.one (show Kd.M (Kd.int .i64) _ _ _ 0 [.int .i64 0] from rfl) (Reps.none _ _)))))))));intro v535 w14 ho15 hb hg_ hnew_;clear hg_ hnew_;(first | rw [← Ny534.out] at ho15 |(simp only [Int.reduceToNat] at ho15;rw [← Ny534.out] at ho15));have HO536:=am (Kd.jia ho15 (jba (w:=w) (g:=g) (row:=none) (Y5)));replace HO532:=am (Kd.jX (by (with_reducible repeat (first | apply Kd.jU | apply Kd.jW | apply Kd.jS));exact (Kd.jH (Kd.jra (p:=⟨gb533,0,none⟩) (Kd.jN HO532.out BK533.out (by decide)) (fun _ hk=>hk.2) (.slice Ao8 y530.length co8)) (fun _ h_=>h_.1))) hb);replace BK528:=am (je (g:=gb528) (o:=.cells #[.slice A1_0 l1_0.length c1_0] 37 (0,0)) (by (with_reducible repeat (first | refine jh ?_ _ | refine jg ?_ | refine jk ?_ _));refine jO ?_ NB528_533.out _;(with_reducible repeat (first | refine jh ?_ _ | refine jg ?_ | refine jk ?_ _));exact BK528.out) hb);replace BK529:=am (je (g:=gb529) (o:=.cells #[.slice none 0 0] 32 (0,0)) (by (with_reducible repeat (first | refine jh ?_ _ | refine jg ?_ | refine jk ?_ _));refine jO ?_ NB529_533.out _;(with_reducible repeat (first | refine jh ?_ _ | refine jg ?_ | refine jk ?_ _));exact BK529.out) hb);replace BK533:=am (je (g:=gb533) (o:=.cells #[.slice Ao8 y530.length co8] 32 (0,0)) (by (with_reducible repeat (first | refine jh ?_ _ | refine jg ?_ | refine jk ?_ _));refine jya (cs:=#[.slice none 0 0]) ?_ 0 _ rfl;(with_reducible repeat (first | refine jh ?_ _ | refine jg ?_ | refine jk ?_ _));exact BK533.out) hb);replace HK:=am (jd.trans (Y5) (jd.of_below hb g none) (.inl rfl));replace HB:=am (jf (Y8) hb);replace HI0:=am (jc.below (show jc w0 (w9.setCell ⟨gb533,0,none⟩ (.slice Ao8 y530.length co8)) g s0_0 s0_1 from Y3) hb);clear hb ho15;obtain ⟨Ao16,co16,eo16⟩:=Kd.jZ HO536.out;subst eo16) |((with_reducible refine jy (f:=89) rfl ?_);refine gL (some 14) Try.func89 #[.pointer (some ⟨g,0,none⟩), .slice Ao16 y534.length co16] ?_;(with_reducible refine (jv.calls k g s0_0 s0_1 _ _ y534 t537 t538 w0 _ ?side1 ?side2 ?side3 ?side4 ?side5 A3.out).mono ?_);(case side1=>exact Y3);(case side2=>exact Y8);(case side3=>exact cq (Kd.jB HO536.out).2.2);(case side4=>exact (Kd.jB HO536.out).2.1);(case side5=>exact jnb (jc.own_ne HI0.out HO536.out (by decide)));rintro e w17 ⟨rfl,hi,hb,hk⟩;refine ⟨_,rfl,?_⟩;replace BK528:=am (jd.blk hk (g':=gb528) (o:=.cells #[.slice A1_0 l1_0.length c1_0] 37 (0,0)) (kq BK528.out) NB528_0.out (by simp));replace BK529:=am (jd.blk hk (g':=gb529) (o:=.cells #[.slice none 0 0] 32 (0,0)) (kq BK529.out) NB529_0.out (by simp));replace HO532:=am (Kd.jH (Kd.jla (jc.apart (show jc w0 _ g s0_0 s0_1 from Y3) (rq HO532.out) (by decide)) hk (fun _ h=>h.2)) (fun _ h=>h.1));replace BK533:=am (jd.blk hk (g':=gb533) (o:=.cells #[.slice Ao8 y530.length co8] 32 (0,0)) (kq BK533.out) NB533_0.out (by simp));replace HO536:=am (Kd.jH (Kd.jla (jc.apart (show jc w0 _ g s0_0 s0_1 from Y3) (rq HO536.out) (by decide)) hk (fun _ h=>h.2)) (fun _ h=>h.1));replace HK:=am (jd.trans (Y5) hk (.inl rfl));replace HB:=am (hb);replace HI0:=am (hi);(try clear hb);(try clear hb2);(try clear hk);(try clear hi)))
 go_loopg [6] k (fun kq v6 w'=>∃ (x6_1:Int) (x1001_1:Int) (x534000_1:List (S54)) (u534000:Value),v6=.int .i64 x6_1∧jC (jq.l0 kq x6_1 s0_0 x1001_1 l1_0 x534000_1=some (r1,r2))∧jC (kq≤k)∧jC (Kd.R k54 54 w' w.heap.size (fun _=>True) u534000 x534000_1)∧jC (w'.heap[gb528]?=some (.cells #[(.slice A1_0 l1_0.length c1_0)] 37 (0,0)))∧jC (w'.heap[gb529]?=some (.cells #[(.slice none 0 0)] 32 (0,0)))∧jC (w'.heap[gb533]?=some (.cells #[u534000] 32 (0,0)))∧jC (jc w0 w' g s0_0 x1001_1)∧jC (jd w w' g none)∧jC (Below w0.heap.size w0 w'))
 case atStart=>exact ⟨(t537),(t538),(y530),(.slice Ao8 y530.length co8),(sq),H',⟨Nat.le_refl _⟩,⟨rq HO532.out⟩,⟨kq BK528.out⟩,⟨kq BK529.out⟩,⟨kq BK533.out⟩,⟨Y3⟩,⟨Y5⟩,⟨Y8⟩⟩
 case round =>
  clear H'
  try clear c1
  try clear p2
  try clear c6
  try clear c8
  try clear c10
  try clear c11
  try clear c12
  try clear hcz13_0
  try clear hfz13_0
  obtain ⟨x6_1,x1001_1,x534000_1,u534000,rfl,HA,HK1,HO_534000,BK528,BK529,BK533,HI0,HK,HB⟩:=hrel
  cases gk with
  | zero=>exact absurd HA.out (by simp [jq.l0])
  | succ k1 =>
   have H:=HA.out
   clear HA
   simp only [jq.l0] at H
   by_cases c18:x6_1 > 0
   ·rw [if_pos c18] at H
    have c18b0:decide (0<x6_1)=true:=dzT c18
    clear c18
    replace H:=bzS H
    obtain ⟨⟨t539,t540⟩,A190,H⟩:=H
    replace H:((jv.f k1 s0_0 t540 (([1,2,3,0,99]:List Int))).bind fun bt544=>((jBb.f x534000_1 t539 bt544.1).bind fun t546=>(jq.l0 k1 (wrap64 (x6_1 - 1)) s0_0 bt544.2 l1_0 t546)))=some (r1,r2):=H
    have A19:=am A190
    clear A190
    obtain ⟨y541,hy541⟩:∃ y_:List Int,y_=(([1,2,3,0,99]:List Int)):=⟨_,rfl⟩
    replace H:((jv.f k1 s0_0 t540 y541).bind fun bt544=>((jBb.f x534000_1 t539 bt544.1).bind fun t546=>(jq.l0 k1 (wrap64 (x6_1 - 1)) s0_0 bt544.2 l1_0 t546)))=some (r1,r2):=by first |(rw [hy541];with_reducible exact H) |(have H2_:=(Option.bind_some _ _).symm.trans H;rw [hy541];with_reducible exact H2_) |(have H2_:=(Option.bind_some _ _).symm.trans H;with_reducible exact H2_) | with_reducible exact H |(rw [hy541];exact H) | exact H
    have Ny541:=am hy541
    clear hy541
    replace H:=bzS H
    obtain ⟨⟨t544,t545⟩,A200,H⟩:=H
    replace H:((jBb.f x534000_1 t539 t544).bind fun t546=>(jq.l0 k1 (wrap64 (x6_1 - 1)) s0_0 t545 l1_0 t546))=some (r1,r2):=H
    have A20:=am A200
    clear A200
    replace H:=bzS H
    obtain ⟨t546,A210,H⟩:=H
    replace H:(jq.l0 k1 (wrap64 (x6_1 - 1)) s0_0 t545 l1_0 t546)=some (r1,r2):=H
    have A21:=am A210
    clear A210
    have H':=am H
    clear H
    obtain ⟨Ao22,co22,eo22⟩:=Kd.jZ HO_534000.out
    subst eo22
    try go_wp2
    replace HO_534000:=am (Kd.jS HO_534000.out)
    replace BK528:=am (jg BK528.out)
    replace BK529:=am (jg BK529.out)
    replace BK533:=am (jg BK533.out)
    replace HI0:=am (jc.drew HI0.out)
    replace HK:=am (jV HK.out)
    replace HB:=am (jr HB.out)
    refine jLb (n:=11) (S:=fun w'=>w'.cell? ⟨gb533,0,none⟩=some (.slice Ao22 x534000_1.length co22)∧w'.cell? ⟨gb528,0,none⟩=some (.slice A1_0 l1_0.length c1_0)) (ds:=[10]) #[false,false,false,false,false,false,false,false,false,false,false] (by kernel_rfl) rfl rfl ⟨(jG BK533.out 0).trans rfl,(jG BK528.out 0).trans rfl⟩ (fun hHeld=>?_);refine jyb jq.tab5 jq.bits5 (fun HT_ HW_=>?_)
    generalize wr.drew=w23 at HO_534000 BK528 BK529 BK533 HI0 HK HB hHeld ⊢
    refine pq (i:=1) (N:=some 20) #[false,true,false,false,false,false,false,false,false,false,false] ?_
    refine pq (i:=2) (N:=some 21) #[false,true,true,false,false,false,false,false,false,false,false] ?_
    refine pq (i:=6) (N:=some 25) #[false,true,true,false,false,false,true,false,false,false,false] ?_
    refine jzb (i:=0) (N:=some 19) (v:=?_) (a':=?_) #[true,true,true,false,false,false,true,false,false,false,false] rfl rfl (jgb HT_.out HW_.out (by kernel_rfl)) (fun _ _ _ h=>h) (Or.inl ⟨by rfl,?_⟩) hHeld ?_ ?_
    rotate_left
    ·rintro w' ⟨s0,s1⟩
     go_simp
     with_reducible rfl
    rotate_left
    ·exact sa
    refine jzb (i:=3) (N:=some 22) (v:=?_) (a':=?_) #[true,true,true,true,false,false,true,false,false,false,false] rfl rfl (jgb HT_.out HW_.out (by kernel_rfl)) (fun _ _ _ h=>h) (Or.inl ⟨by rfl,?_⟩) hHeld ?_ ?_
    rotate_left
    ·rintro w' ⟨s0,s1⟩
     go_simp
     with_reducible rfl
    rotate_left
    ·exact sa
    refine pq (i:=4) (N:=some 23) #[true,true,true,true,true,false,true,false,false,false,false] ?_
    refine join_ (σ:=Value) 3 #[true,true,true,true,true,true,true,true,false,false,false] (fun s_=>[(24, .int .i64 t539),(26,s_)]) (fun s_ w'=>(w'.cell? ⟨gb533,0,none⟩=some (.slice Ao22 x534000_1.length co22)∧w'.cell? ⟨gb528,0,none⟩=some (.slice A1_0 l1_0.length c1_0))∧(Kd.R (Kd.int .i64) 3 w' w.heap.size (fun _=>True) s_ y541)∧(Kd.R k54 54 w' w.heap.size (fun _=>True) (.slice Ao22 x534000_1.length co22) x534000_1)∧(w'.heap[gb528]?=some (.cells #[.slice A1_0 l1_0.length c1_0] 37 (0,0)))∧(w'.heap[gb529]?=some (.cells #[.slice none 0 0] 32 (0,0)))∧(w'.heap[gb533]?=some (.cells #[.slice Ao22 x534000_1.length co22] 32 (0,0)))∧(jc w0 w' g s0_0 t540)∧(jd w w' g none)∧(Below w0.heap.size w0 w')) ?_ ?_
    rotate_left
    ·intro hCont
     refine two_ (i:=5) (j:=7) (Ni:=some 24) (Nj:=some 26) #[true,true,true,true,true,true,true,false,false,false,false] #[true,true,true,true,true,false,true,true,false,false,false] rfl rfl rfl rfl (two_of HT_.out (by kernel_rfl)) (by decide) (by decide) (fun K hK=>?_) (fun K hK=>?_)
     ·skip
      refine goes_ Try.func88 (by kernel_rfl) rfl #[.pointer (some ⟨g,0,none⟩), .int .i64 (l1_0.length:Int)] (by rfl) rfl rfl (aq) ?_
      with_reducible refine (jl.calls k1 g s0_0 x1001_1 (l1_0.length:Int) t539 t540 w0 _ ?side1 ?side2 A19.out).mono ?_
      (case side1=>exact Y3)
      (case side2=>exact Y8)
      rintro e w24 ⟨rfl,hi,hb,hk⟩
      refine ⟨_,rfl,?_⟩
      replace HO_534000:=am (Kd.jH (Kd.jla (jc.apart (show jc w0 _ g s0_0 x1001_1 from Y3) (rq HO_534000.out) (by decide)) hk (fun _ h=>h.2)) (fun _ h=>h.1))
      replace BK528:=am (jd.blk hk (g':=gb528) (o:=.cells #[.slice A1_0 l1_0.length c1_0] 37 (0,0)) (kq BK528.out) NB528_0.out (by simp))
      replace BK529:=am (jd.blk hk (g':=gb529) (o:=.cells #[.slice none 0 0] 32 (0,0)) (kq BK529.out) NB529_0.out (by simp))
      replace BK533:=am (jd.blk hk (g':=gb533) (o:=.cells #[.slice Ao22 x534000_1.length co22] 32 (0,0)) (kq BK533.out) NB533_0.out (by simp))
      replace HK:=am (jd.trans (Y5) hk (.inl rfl))
      replace HB:=am (hb)
      replace HI0:=am (hi)
      (try clear hb)
      (try clear hb2)
      (try clear hk)
      (try clear hi)
      refine hK.out _ _ ⟨(jG BK533.out 0).trans rfl,(jG BK528.out 0).trans rfl⟩ (fun hHeld=>?_)
      clear hK K
      refine jJb (a':=?_) ?_ ?_
      rotate_left
      ·show Act.put _ (some 24) _=_
       simp only [Act.put,List.setIfInBounds_toArray,List.set_cons_zero,List.set_cons_succ,job,jsb]
       rfl
      refine one_ (i:=7) (N:=some 26) #[true,true,true,true,true,true,true,true,false,false,false] rfl rfl (jbb HT_.out (by kernel_rfl)) (by decide) (fun K hK=>?_)
      refine Kd.jDb (Kd.int .i64) _ 3 ?hg (N:=26) ?hd (xs:=([1,2,3,0,99]:List Int)) (inner:=[.int .i64 1, .int .i64 2, .int .i64 3, .int .i64 0, .int .i64 99]) (ok:=fun _=>True) (okp:=fun _=>True) ?hr ?hp (fun _ hk=>hk) trivial (Below.refl _ _) (Nat.le_refl _) (by simp) ?_;(case hd=>rfl);(case hg=>rfl);(case hr=>exact Y4);(case hp=>exact (Reps.one (show Kd.M (Kd.int .i64) _ _ _ 1 [.int .i64 1] from rfl) (Reps.one (show Kd.M (Kd.int .i64) _ _ _ 2 [.int .i64 2] from rfl) (Reps.one (show Kd.M (Kd.int .i64) _ _ _ 3 [.int .i64 3] from rfl) (Reps.one (show Kd.M (Kd.int .i64) _ _ _ 0 [.int .i64 0] from rfl) (Reps.one (show Kd.M (Kd.int .i64) _ _ _ 99 [.int .i64 99] from rfl) (Reps.none _ _)))))))
      intro v542 w25 ho26 hb hg_ hnew_
      clear hg_ hnew_
      (first | rw [← Ny541.out] at ho26 |(simp only [Int.reduceToNat] at ho26;rw [← Ny541.out] at ho26))
      have HO543:=am (Kd.jia ho26 (jba (w:=w) (g:=g) (row:=none) (Y5)))
      replace HO_534000:=am (Kd.jX (rq HO_534000.out) hb)
      replace BK528:=am (je (g:=gb528) (o:=.cells #[.slice A1_0 l1_0.length c1_0] 37 (0,0)) (kq BK528.out) hb)
      replace BK529:=am (je (g:=gb529) (o:=.cells #[.slice none 0 0] 32 (0,0)) (kq BK529.out) hb)
      replace BK533:=am (je (g:=gb533) (o:=.cells #[.slice Ao22 x534000_1.length co22] 32 (0,0)) (kq BK533.out) hb)
      replace HK:=am (jd.trans (Y5) (jd.of_below hb g none) (.inl rfl))
      replace HB:=am (jf (Y8) hb)
      replace HI0:=am (jc.below (Y3) hb)
      clear hb ho26
      refine hK.out _ _ ⟨(jG BK533.out 0).trans rfl,(jG BK528.out 0).trans rfl⟩ (fun hHeld=>?_)
      clear hK K
      refine jJb (a':=?_) ?_ ?_
      rotate_left
      ·show Act.put _ (some 26) _=_
       simp only [Act.put,List.setIfInBounds_toArray,List.set_cons_zero,List.set_cons_succ,job,jsb]
       rfl
      exact jJb (by simp only [putAll,Act.put,List.setIfInBounds_toArray,List.set_cons_zero,List.set_cons_succ]) (hCont (v542) _ ⟨hHeld,(rq HO543.out),(rq HO_534000.out),(kq BK528.out),(kq BK529.out),(kq BK533.out),(Y3),(Y5),(Y8)⟩)
     ·skip
      refine Kd.jDb (Kd.int .i64) _ 3 ?hg (N:=26) ?hd (xs:=([1,2,3,0,99]:List Int)) (inner:=[.int .i64 1, .int .i64 2, .int .i64 3, .int .i64 0, .int .i64 99]) (ok:=fun _=>True) (okp:=fun _=>True) ?hr ?hp (fun _ hk=>hk) trivial (Below.refl _ _) (Nat.le_refl _) (by simp) ?_;(case hd=>rfl);(case hg=>rfl);(case hr=>exact Y4);(case hp=>exact (Reps.one (show Kd.M (Kd.int .i64) _ _ _ 1 [.int .i64 1] from rfl) (Reps.one (show Kd.M (Kd.int .i64) _ _ _ 2 [.int .i64 2] from rfl) (Reps.one (show Kd.M (Kd.int .i64) _ _ _ 3 [.int .i64 3] from rfl) (Reps.one (show Kd.M (Kd.int .i64) _ _ _ 0 [.int .i64 0] from rfl) (Reps.one (show Kd.M (Kd.int .i64) _ _ _ 99 [.int .i64 99] from rfl) (Reps.none _ _)))))))
      intro v542 w24 ho25 hb hg_ hnew_
      clear hg_ hnew_
      (first | rw [← Ny541.out] at ho25 |(simp only [Int.reduceToNat] at ho25;rw [← Ny541.out] at ho25))
      have HO543:=am (Kd.jia ho25 (jba (w:=w) (g:=g) (row:=none) (Y5)))
      replace HO_534000:=am (Kd.jX (rq HO_534000.out) hb)
      replace BK528:=am (je (g:=gb528) (o:=.cells #[.slice A1_0 l1_0.length c1_0] 37 (0,0)) (kq BK528.out) hb)
      replace BK529:=am (je (g:=gb529) (o:=.cells #[.slice none 0 0] 32 (0,0)) (kq BK529.out) hb)
      replace BK533:=am (je (g:=gb533) (o:=.cells #[.slice Ao22 x534000_1.length co22] 32 (0,0)) (kq BK533.out) hb)
      replace HK:=am (jd.trans (Y5) (jd.of_below hb g none) (.inl rfl))
      replace HB:=am (jf (Y8) hb)
      replace HI0:=am (jc.below (Y3) hb)
      clear hb ho25
      refine hK.out _ _ ⟨(jG BK533.out 0).trans rfl,(jG BK528.out 0).trans rfl⟩ (fun hHeld=>?_)
      clear hK K
      refine jJb (a':=?_) ?_ ?_
      rotate_left
      ·show Act.put _ (some 26) _=_
       simp only [Act.put,List.setIfInBounds_toArray,List.set_cons_zero,List.set_cons_succ,job,jsb]
       rfl
      refine one_ (i:=5) (N:=some 24) #[true,true,true,true,true,true,true,true,false,false,false] rfl rfl (jbb HT_.out (by kernel_rfl)) (by decide) (fun K hK=>?_)
      refine goes_ Try.func88 (by kernel_rfl) rfl #[.pointer (some ⟨g,0,none⟩), .int .i64 (l1_0.length:Int)] (by rfl) rfl rfl (aq) ?_
      with_reducible refine (jl.calls k1 g s0_0 x1001_1 (l1_0.length:Int) t539 t540 w0 _ ?side1 ?side2 A19.out).mono ?_
      (case side1=>exact Y3)
      (case side2=>exact Y8)
      rintro e w26 ⟨rfl,hi,hb,hk⟩
      refine ⟨_,rfl,?_⟩
      replace HO_534000:=am (Kd.jH (Kd.jla (jc.apart (show jc w0 _ g s0_0 x1001_1 from Y3) (rq HO_534000.out) (by decide)) hk (fun _ h=>h.2)) (fun _ h=>h.1))
      replace BK528:=am (jd.blk hk (g':=gb528) (o:=.cells #[.slice A1_0 l1_0.length c1_0] 37 (0,0)) (kq BK528.out) NB528_0.out (by simp))
      replace BK529:=am (jd.blk hk (g':=gb529) (o:=.cells #[.slice none 0 0] 32 (0,0)) (kq BK529.out) NB529_0.out (by simp))
      replace BK533:=am (jd.blk hk (g':=gb533) (o:=.cells #[.slice Ao22 x534000_1.length co22] 32 (0,0)) (kq BK533.out) NB533_0.out (by simp))
      replace HO543:=am (Kd.jH (Kd.jla (jc.apart (show jc w0 _ g s0_0 x1001_1 from Y3) (rq HO543.out) (by decide)) hk (fun _ h=>h.2)) (fun _ h=>h.1))
      replace HK:=am (jd.trans (Y5) hk (.inl rfl))
      replace HB:=am (hb)
      replace HI0:=am (hi)
      (try clear hb)
      (try clear hb2)
      (try clear hk)
      (try clear hi)
      refine hK.out _ _ ⟨(jG BK533.out 0).trans rfl,(jG BK528.out 0).trans rfl⟩ (fun hHeld=>?_)
      clear hK K
      refine jJb (a':=?_) ?_ ?_
      rotate_left
      ·show Act.put _ (some 24) _=_
       simp only [Act.put,List.setIfInBounds_toArray,List.set_cons_zero,List.set_cons_succ,job,jsb]
       rfl
      exact jJb (by simp only [putAll,Act.put,List.setIfInBounds_toArray,List.set_cons_zero,List.set_cons_succ]) (hCont (v542) _ ⟨hHeld,(rq HO543.out),(rq HO_534000.out),(kq BK528.out),(kq BK529.out),(kq BK533.out),(Y3),(Y5),(Y8)⟩)
    rintro v542 w27 ⟨hS_,h0_,h1_,h2_,h3_,h4_,h5_,h6_,h7_⟩
    have n0_:jC (Kd.R (Kd.int .i64) 3 w27 w.heap.size (fun _=>True) v542 y541):=⟨h0_⟩
    have n1_:jC (Kd.R k54 54 w27 w.heap.size (fun _=>True) (.slice Ao22 x534000_1.length co22) x534000_1):=⟨h1_⟩
    have n2_:jC (w27.heap[gb528]?=some (.cells #[.slice A1_0 l1_0.length c1_0] 37 (0,0))):=⟨h2_⟩
    have n3_:jC (w27.heap[gb529]?=some (.cells #[.slice none 0 0] 32 (0,0))):=⟨h3_⟩
    have n4_:jC (w27.heap[gb533]?=some (.cells #[.slice Ao22 x534000_1.length co22] 32 (0,0))):=⟨h4_⟩
    have n5_:jC (jc w0 w27 g s0_0 t540):=⟨h5_⟩
    have n6_:jC (jd w w27 g none):=⟨h6_⟩
    have n7_:jC (Below w0.heap.size w0 w27):=⟨h7_⟩
    clear HO_534000
    clear BK528
    clear BK529
    clear BK533
    clear HI0
    clear HK
    clear HB
    clear h0_ h1_ h2_ h3_ h4_ h5_ h6_ h7_
    have HO543:=n0_
    have HO_534000:=n1_
    have BK528:=n2_
    have BK529:=n3_
    have BK533:=n4_
    have HI0:=n5_
    have HK:=n6_
    have HB:=n7_
    clear n0_ n1_ n2_ n3_ n4_ n5_ n6_ n7_
    have hHeld:w27.cell? ⟨gb533,0,none⟩=some (.slice Ao22 x534000_1.length co22)∧w27.cell? ⟨gb528,0,none⟩=some (.slice A1_0 l1_0.length c1_0):=hS_
    obtain ⟨Ao28,co28,eo28⟩:=Kd.jZ HO543.out
    (first | subst eo28 |(injection eo28 with f1_ f2_ f3_;have f4_:=f1_.symm;have f5_:=f3_.symm;clear f1_ f2_ f3_;subst f4_;subst f5_))
    refine jJb (a':=?_) ?_ ?_
    rotate_left
    ·simp only [putAll,Act.put,List.setIfInBounds_toArray,List.set_cons_zero,List.set_cons_succ]
     rfl
    refine one_ (i:=8) (N:=some 27) #[true,true,true,true,true,true,true,true,true,false,false] rfl rfl (jbb HT_.out (by kernel_rfl)) (by decide) (fun K hK=>?_)
    refine goes_ Try.func89 (by kernel_rfl) rfl #[.pointer (some ⟨g,0,none⟩), .slice Ao28 y541.length co28] (by rfl) rfl rfl (aq) ?_
    with_reducible refine (jv.calls k1 g s0_0 t540 _ _ y541 t544 t545 w0 _ ?side1 ?side2 ?side3 ?side4 ?side5 A20.out).mono ?_
    (case side1=>exact Y3)
    (case side2=>exact Y8)
    (case side3=>exact cq (Kd.jB HO543.out).2.2)
    (case side4=>exact (Kd.jB HO543.out).2.1)
    (case side5=>exact jnb (jc.own_ne HI0.out HO543.out (by decide)))
    rintro e w29 ⟨rfl,hi,hb,hk⟩
    refine ⟨_,rfl,?_⟩
    replace HO_534000:=am (Kd.jH (Kd.jla (jc.apart (show jc w0 _ g s0_0 t540 from Y3) (rq HO_534000.out) (by decide)) hk (fun _ h=>h.2)) (fun _ h=>h.1))
    replace BK528:=am (jd.blk hk (g':=gb528) (o:=.cells #[.slice A1_0 l1_0.length c1_0] 37 (0,0)) (kq BK528.out) NB528_0.out (by simp))
    replace BK529:=am (jd.blk hk (g':=gb529) (o:=.cells #[.slice none 0 0] 32 (0,0)) (kq BK529.out) NB529_0.out (by simp))
    replace BK533:=am (jd.blk hk (g':=gb533) (o:=.cells #[.slice Ao22 x534000_1.length co22] 32 (0,0)) (kq BK533.out) NB533_0.out (by simp))
    replace HO543:=am (Kd.jH (Kd.jla (jc.apart (show jc w0 _ g s0_0 t540 from Y3) (rq HO543.out) (by decide)) hk (fun _ h=>h.2)) (fun _ h=>h.1))
    replace HK:=am (jd.trans (Y5) hk (.inl rfl))
    replace HB:=am (hb)
    replace HI0:=am (hi)
    (try clear hb)
    (try clear hb2)
    (try clear hk)
    (try clear hi)
    refine hK.out _ _ ⟨(jG BK533.out 0).trans rfl,(jG BK528.out 0).trans rfl⟩ (fun hHeld=>?_)
    clear hK K
    refine jJb (a':=?_) ?_ ?_
    rotate_left
    ·show Act.put _ (some 27) _=_
     simp only [Act.put,List.setIfInBounds_toArray,List.set_cons_zero,List.set_cons_succ,job,jsb]
     rfl
    refine one_ (i:=9) (N:=some 28) #[true,true,true,true,true,true,true,true,true,true,false] rfl rfl (jbb HT_.out (by kernel_rfl)) (by decide) (fun K hK=>?_)
    refine goes_ Try.func91 (by kernel_rfl) rfl #[.agg #[.slice Ao22 x534000_1.length co22], .int .i64 t539, .int .i64 t544] (by rfl) rfl rfl (aq) ?_
    with_reducible refine (jBb.calls _ _ x534000_1 t539 t544 t546 _ ?side1 ?side2 A21.out).mono ?_
    (case side1=>exact cq (Kd.jB HO_534000.out).2.2)
    (case side2=>exact (Kd.jB HO_534000.out).2.1)
    rintro e w30 ⟨v547,rfl,ho0,hb⟩
    refine ⟨_,rfl,?_⟩
    have HO548:=am (Kd.jia (Kd.R_new' ho0 (Kd.R_lt (rq HO_534000.out))) (jba (w:=w) (g:=g) (row:=none) (Y5)))
    replace HO_534000:=am (Kd.R_elder' (rq HO_534000.out) (Kd.R_base ho0) hb)
    replace HO543:=am (Kd.jX (rq HO543.out) hb)
    replace BK528:=am (je (g:=gb528) (o:=.cells #[.slice A1_0 l1_0.length c1_0] 37 (0,0)) (kq BK528.out) hb)
    replace BK529:=am (je (g:=gb529) (o:=.cells #[.slice none 0 0] 32 (0,0)) (kq BK529.out) hb)
    replace BK533:=am (je (g:=gb533) (o:=.cells #[.slice Ao22 x534000_1.length co22] 32 (0,0)) (kq BK533.out) hb)
    replace HK:=am (jd.trans (Y5) (jd.of_below hb g none) (.inl rfl))
    replace HB:=am (jf (Y8) hb)
    replace HI0:=am (jc.below (Y3) hb)
    (try clear hb)
    (try clear hb2)
    (try clear hk)
    (try clear hi)
    (try clear ho0)
    obtain ⟨Ao31,co31,eo31⟩:=Kd.jZ HO548.out
    (first | subst eo31 |(injection eo31 with f1_ f2_ f3_;have f4_:=f1_.symm;have f5_:=f3_.symm;clear f1_ f2_ f3_;subst f4_;subst f5_))
    refine hK.out _ _ ⟨(jG BK533.out 0).trans rfl,(jG BK528.out 0).trans rfl⟩ (fun hHeld=>?_)
    clear hK K
    refine jJb (a':=?_) ?_ ?_
    rotate_left
    ·show Act.put _ (some 28) _=_
     simp only [Act.put,List.setIfInBounds_toArray,List.set_cons_zero,List.set_cons_succ,job,jsb]
     rfl
    refine last_ (i:=10) (N:=none) #[true,true,true,true,true,true,true,true,true,true,true] rfl rfl (jbb HT_.out (by kernel_rfl)) (by decide) (fun K hK=>?_)
    have hs32:w30.cell? ⟨gb533,0,none⟩=some (.slice Ao22 x534000_1.length co22):=(jG BK533.out 0).trans rfl
    have hfs32:=jb BK533.out 0
    have hns32_0:=NB528_533.out
    have hns32_1:=NB529_533.out
    have hms32_0:=NB533_528.out
    have hms32_1:=NB533_529.out
    refine jPb (w1:=?_) (by rfl) rfl ?_ ?_
    rotate_left
    ·go_simp
     rfl
    refine hK.out _ _ ?_
    clear hK K
    refine done_ (jUb HT_.out (by kernel_rfl)) ?_
    try go_wp2
    go_roundg k1
    case measure=>have:=HK1.out;omega
    case rel=>exact ⟨(wrap64 (x6_1 - 1)),(t545),(t546),(.slice Ao31 t546.length co31),(sq),H',⟨by have:=HK1.out;omega⟩,⟨by (with_reducible repeat (first | apply Kd.jU | apply Kd.jW | apply Kd.jS));exact Kd.jH (Kd.jra (p:=⟨gb533,0,none⟩) (Kd.jN HO548.out BK533.out (by decide)) (fun _ hk=>hk.2) (.slice Ao31 t546.length co31)) (fun _ hk=>trivial)⟩,⟨by (with_reducible repeat (first | refine jh ?_ _ | refine jg ?_ | refine jk ?_ _));refine jO ?_ NB528_533.out _;(with_reducible repeat (first | refine jh ?_ _ | refine jg ?_ | refine jk ?_ _));exact BK528.out⟩,⟨by (with_reducible repeat (first | refine jh ?_ _ | refine jg ?_ | refine jk ?_ _));refine jO ?_ NB529_533.out _;(with_reducible repeat (first | refine jh ?_ _ | refine jg ?_ | refine jk ?_ _));exact BK529.out⟩,⟨by (with_reducible repeat (first | refine jh ?_ _ | refine jg ?_ | refine jk ?_ _));refine jya (cs:=#[.slice Ao22 x534000_1.length co22]) ?_ 0 _ rfl;(with_reducible repeat (first | refine jh ?_ _ | refine jg ?_ | refine jk ?_ _));exact BK533.out⟩,⟨Y3⟩,⟨Y5⟩,⟨Y8⟩⟩
   ·rw [if_neg c18] at H
    have c18b0:decide (0<x6_1)=false:=dzF c18
    clear c18
    obtain ⟨y549,hy549⟩:∃ y_:List Int,y_=(([3,4,2,5,0]:List Int)):=⟨_,rfl⟩
    replace H:((jv.f k1 s0_0 x1001_1 y549).bind fun bt552=>(jq.l1 k1 bt552.1 s0_0 bt552.2 x534000_1))=some (r1,r2):=by first |(rw [hy549];with_reducible exact H) |(have H2_:=(Option.bind_some _ _).symm.trans H;rw [hy549];with_reducible exact H2_) |(have H2_:=(Option.bind_some _ _).symm.trans H;with_reducible exact H2_) | with_reducible exact H |(rw [hy549];exact H) | exact H
    have Ny549:=am hy549
    clear hy549
    replace H:=bzS H
    obtain ⟨⟨t552,t553⟩,A330,H⟩:=H
    replace H:(jq.l1 k1 t552 s0_0 t553 x534000_1)=some (r1,r2):=H
    have A33:=am A330
    clear A330
    have H':=am H
    clear H
    go_wp2_with (first |((with_reducible refine jD (N:=30) rfl ?_);(try (refine jVa (by rfl) ?_;dsimp only));refine Kd.R_lit (Kd.int .i64) _ 3 ?hg (N:=30) ?hd (xs:=([3,4,2,5,0]:List Int)) (inner:=[.int .i64 3, .int .i64 4, .int .i64 2, .int .i64 5, .int .i64 0]) (ok:=fun _=>True) (okp:=fun _=>True) ?hr ?hp (fun _ hk=>hk) trivial (Below.refl _ _) (Nat.le_refl _) (by simp) ?_;(case hd=>rfl);(case hg=>rfl);(case hr=>exact Y4);(case hp=>exact (Reps.one (show Kd.M (Kd.int .i64) _ _ _ 3 [.int .i64 3] from rfl) (Reps.one (show Kd.M (Kd.int .i64) _ _ _ 4 [.int .i64 4] from rfl) (Reps.one (show Kd.M (Kd.int .i64) _ _ _ 2 [.int .i64 2] from rfl) (Reps.one (show Kd.M (Kd.int .i64) _ _ _ 5 [.int .i64 5] from rfl) (Reps.one (show Kd.M (Kd.int .i64) _ _ _ 0 [.int .i64 0] from rfl) (Reps.none _ _)))))));intro v550 w34 ho35 hb hg_ hnew_;clear hg_ hnew_;(first | rw [← Ny549.out] at ho35 |(simp only [Int.reduceToNat] at ho35;rw [← Ny549.out] at ho35));have HO551:=am (Kd.jia ho35 (jba (w:=w) (g:=g) (row:=none) (Y5)));replace HO_534000:=am (Kd.jX (rq HO_534000.out) hb);replace BK528:=am (je (g:=gb528) (o:=.cells #[.slice A1_0 l1_0.length c1_0] 37 (0,0)) (kq BK528.out) hb);replace BK529:=am (je (g:=gb529) (o:=.cells #[.slice none 0 0] 32 (0,0)) (kq BK529.out) hb);replace BK533:=am (je (g:=gb533) (o:=.cells #[u534000] 32 (0,0)) (kq BK533.out) hb);replace HK:=am (jd.trans (Y5) (jd.of_below hb g none) (.inl rfl));replace HB:=am (jf (Y8) hb);replace HI0:=am (jc.below (Y3) hb);clear hb ho35;obtain ⟨Ao36,co36,eo36⟩:=Kd.jZ HO551.out;subst eo36) |((with_reducible refine jy (f:=89) rfl ?_);refine gL (some 31) Try.func89 #[.pointer (some ⟨g,0,none⟩), .slice Ao36 y549.length co36] ?_;(with_reducible refine (jv.calls k1 g s0_0 x1001_1 _ _ y549 t552 t553 w0 _ ?side1 ?side2 ?side3 ?side4 ?side5 A33.out).mono ?_);(case side1=>exact Y3);(case side2=>exact Y8);(case side3=>exact cq (Kd.jB HO551.out).2.2);(case side4=>exact (Kd.jB HO551.out).2.1);(case side5=>exact jnb (jc.own_ne HI0.out HO551.out (by decide)));rintro e w37 ⟨rfl,hi,hb,hk⟩;refine ⟨_,rfl,?_⟩;replace HO_534000:=am (Kd.jH (Kd.jla (jc.apart (show jc w0 _ g s0_0 x1001_1 from Y3) (rq HO_534000.out) (by decide)) hk (fun _ h=>h.2)) (fun _ h=>h.1));replace BK528:=am (jd.blk hk (g':=gb528) (o:=.cells #[.slice A1_0 l1_0.length c1_0] 37 (0,0)) (kq BK528.out) NB528_0.out (by simp));replace BK529:=am (jd.blk hk (g':=gb529) (o:=.cells #[.slice none 0 0] 32 (0,0)) (kq BK529.out) NB529_0.out (by simp));replace BK533:=am (jd.blk hk (g':=gb533) (o:=.cells #[u534000] 32 (0,0)) (kq BK533.out) NB533_0.out (by simp));replace HO551:=am (Kd.jH (Kd.jla (jc.apart (show jc w0 _ g s0_0 x1001_1 from Y3) (rq HO551.out) (by decide)) hk (fun _ h=>h.2)) (fun _ h=>h.1));replace HK:=am (jd.trans (Y5) hk (.inl rfl));replace HB:=am (hb);replace HI0:=am (hi);(try clear hb);(try clear hb2);(try clear hk);(try clear hi)))
    go_loopg [7] k1 (fun kq v7 w'=>∃ (x7_2:Int) (x1001_2:Int) (x534000_2:List (S54)) (u534000:Value),v7=.int .i64 x7_2∧jC (jq.l1 kq x7_2 s0_0 x1001_2 x534000_2=some (r1,r2))∧jC (kq≤k1)∧jC (Kd.R k54 54 w' w.heap.size (fun _=>True) u534000 x534000_2)∧jC (w'.heap[gb528]?=some (.cells #[(.slice A1_0 l1_0.length c1_0)] 37 (0,0)))∧jC (w'.heap[gb529]?=some (.cells #[(.slice none 0 0)] 32 (0,0)))∧jC (w'.heap[gb533]?=some (.cells #[u534000] 32 (0,0)))∧jC (jc w0 w' g s0_0 x1001_2)∧jC (jd w w' g none)∧jC (Below w0.heap.size w0 w'))
    case atStart=>exact ⟨(t552),(t553),(x534000_1),(u534000),(sq),H',⟨Nat.le_refl _⟩,⟨rq HO_534000.out⟩,⟨kq BK528.out⟩,⟨kq BK529.out⟩,⟨kq BK533.out⟩,⟨Y3⟩,⟨Y5⟩,⟨Y8⟩⟩
    case round =>
     clear H'
     try clear c1
     try clear p2
     try clear c6
     try clear p6
     try clear c8
     try clear c9
     try clear c10
     try clear c11
     try clear c12
     try clear c18
     try clear c18b0
     try clear hcz13_0
     try clear hfz13_0
     try clear p2
     obtain ⟨x7_2,x1001_2,x534000_2,u534000,rfl,HA,HK2,HO_534000,BK528,BK529,BK533,HI0,HK,HB⟩:=hrel
     cases gk with
     | zero=>exact absurd HA.out (by simp [jq.l1])
     | succ k2 =>
      have H:=HA.out
      clear HA
      simp only [jq.l1] at H
      have HC38:=am H
      clear H
      go_upto_region 7 with (fail)
      go_cut [39] (fun v39 wc=>∃ (kq:Nat) (x39_37:Bool),v39=.bool x39_37∧jC (jq.j2 kq x7_2 x39_37 s0_0 x1001_2 x534000_2=some (r1,r2))∧jC (kq≤k2)∧jC (Kd.R k54 54 wc w.heap.size (fun _=>True) u534000 x534000_2)∧jC (wc.heap[gb528]?=some (.cells #[(.slice A1_0 l1_0.length c1_0)] 37 (0,0)))∧jC (wc.heap[gb529]?=some (.cells #[(.slice none 0 0)] 32 (0,0)))∧jC (wc.heap[gb533]?=some (.cells #[u534000] 32 (0,0)))∧jC (jc w0 wc g s0_0 x1001_2)∧jC (jd w wc g none)∧jC (Below w0.heap.size w0 wc))
      case first =>
       have H:=HC38.out
       clear HC38
       by_cases c39:x7_2 > 0
       ·rw [if_pos c39] at H
        have c39b0:decide (0<x7_2)=true:=dzT c39
        clear c39
        (first | rw [c39b0] |(simp only [job,jsb];rw [c39b0]) | skip)
        have H':=am H
        clear H
        have hnb40:=NB533_528.out
        have hnc40:=NB528_533.out
        have hnb41:=NB533_529.out
        have hnc41:=NB529_533.out
        have hnb42:=NB533_0.out
        have hnc42:=NB0_533.out
        have hcz43_0:=bc0 BK533.out
        have hfz43_0:=jb BK533.out 0
        obtain ⟨Ao44,co44,eo44⟩:=Kd.jZ HO_534000.out
        subst eo44
        go_wp2
        go_meet
        case rel=>exact ⟨_,(decide ((x534000_2.length:Int) > 1)),(sq),H',⟨by have:=HK1.out;have:=HK2.out;first | omega | exact Nat.le_refl _⟩,⟨rq HO_534000.out⟩,⟨kq BK528.out⟩,⟨kq BK529.out⟩,⟨kq BK533.out⟩,⟨Y3⟩,⟨Y5⟩,⟨Y8⟩⟩
       ·rw [if_neg c39] at H
        have c39b0:decide (0<x7_2)=false:=dzF c39
        clear c39
        (first | rw [c39b0] |(simp only [job,jsb];rw [c39b0]) | skip)
        have H':=am H
        clear H
        go_wp2
        go_meet
        case rel=>exact ⟨_,(false),(sq),H',⟨by have:=HK1.out;have:=HK2.out;first | omega | exact Nat.le_refl _⟩,⟨rq HO_534000.out⟩,⟨kq BK528.out⟩,⟨kq BK529.out⟩,⟨kq BK533.out⟩,⟨Y3⟩,⟨Y5⟩,⟨Y8⟩⟩
      case rest =>
       clear HC38
       try clear c1
       try clear p2
       try clear c3
       try clear c4
       try clear c6
       try clear p6
       try clear c8
       try clear c9
       try clear c10
       try clear c11
       try clear c12
       try clear c18
       try clear c18b0
       try clear c39
       try clear c39b0
       try clear c40
       try clear c41
       try clear c42
       try clear hcz13_0
       try clear hcz43_0
       try clear hfz13_0
       try clear hfz43_0
       try clear p2
       try clear p6
       obtain ⟨kq,x39_37,rfl,HA,HJ37,HO_534000,BK528,BK529,BK533,HI0,HK,HB⟩:=hcut
       cases kq with
       | zero=>exact absurd HA.out (by simp [jq.j2])
       | succ kj37 =>
        have H:=HA.out
        clear HA
        simp only [jq.j2] at H
        by_cases c45:x39_37=true
        ·subst c45
         have H1:((jl.f kj37 s0_0 x1001_2 (x534000_2.length:Int)).bind fun bt554=>((jl.f kj37 s0_0 bt554.2 (x534000_2.length:Int)).bind fun bt556=>(if bt554.1=bt556.1 then (if 0≤bt554.1 then (if bt554.1<(x534000_2.length:Int) then (jq.l1 kj37 (wrap64 (x7_2 - 1)) s0_0 bt556.2 (x534000_2.set (bt554.1:Int).toNat (⟨(ja x534000_2 bt554.1).f0,(ja x534000_2 bt554.1).f1,(ja x534000_2 bt554.1).f2,(ja x534000_2 bt554.1).f3,!((ja x534000_2 bt554.1).f4)⟩:S54))) else (none)) else (none)) else ((jl.f kj37 s0_0 bt556.2 3).bind fun bt560=>(if bt560.1=0 then (if 0≤bt554.1 then (if bt554.1<(x534000_2.length:Int) then ((some (x534000_2.set (bt554.1:Int).toNat (⟨(ja x534000_2 bt554.1).f0,(ja x534000_2 bt554.1).f1,bt556.1,(ja x534000_2 bt554.1).f3,(ja x534000_2 bt554.1).f4⟩:S54):List (S54))).bind fun y562=>(jq.l1 kj37 (wrap64 (x7_2 - 1)) s0_0 bt560.2 (y562.set (bt554.1:Int).toNat (⟨(ja y562 bt554.1).f0,(ja y562 bt554.1).f1,(ja y562 bt554.1).f2,(ja y562 bt554.1).f3,true⟩:S54)))) else (none)) else (none)) else ((jfa.f kj37 x534000_2 bt554.1 bt556.1).bind fun t564=>(jq.l1 kj37 (wrap64 (x7_2 - 1)) s0_0 bt560.2 t564)))))))=some (r1,r2):=by rw [if_pos rfl] at H;exact H
         clear H
         have H:=H1
         clear H1
         replace H:=bzS H
         obtain ⟨⟨t554,t555⟩,A460,H⟩:=H
         replace H:((jl.f kj37 s0_0 t555 (x534000_2.length:Int)).bind fun bt556=>(if t554=bt556.1 then (if 0≤t554 then (if t554<(x534000_2.length:Int) then (jq.l1 kj37 (wrap64 (x7_2 - 1)) s0_0 bt556.2 (x534000_2.set (t554:Int).toNat (⟨(ja x534000_2 t554).f0,(ja x534000_2 t554).f1,(ja x534000_2 t554).f2,(ja x534000_2 t554).f3,!((ja x534000_2 t554).f4)⟩:S54))) else (none)) else (none)) else ((jl.f kj37 s0_0 bt556.2 3).bind fun bt560=>(if bt560.1=0 then (if 0≤t554 then (if t554<(x534000_2.length:Int) then ((some (x534000_2.set (t554:Int).toNat (⟨(ja x534000_2 t554).f0,(ja x534000_2 t554).f1,bt556.1,(ja x534000_2 t554).f3,(ja x534000_2 t554).f4⟩:S54):List (S54))).bind fun y562=>(jq.l1 kj37 (wrap64 (x7_2 - 1)) s0_0 bt560.2 (y562.set (t554:Int).toNat (⟨(ja y562 t554).f0,(ja y562 t554).f1,(ja y562 t554).f2,(ja y562 t554).f3,true⟩:S54)))) else (none)) else (none)) else ((jfa.f kj37 x534000_2 t554 bt556.1).bind fun t564=>(jq.l1 kj37 (wrap64 (x7_2 - 1)) s0_0 bt560.2 t564))))))=some (r1,r2):=H
         have A46:=am A460
         clear A460
         replace H:=bzS H
         obtain ⟨⟨t556,t557⟩,A470,H⟩:=H
         replace H:(if t554=t556 then (if 0≤t554 then (if t554<(x534000_2.length:Int) then (jq.l1 kj37 (wrap64 (x7_2 - 1)) s0_0 t557 (x534000_2.set (t554:Int).toNat (⟨(ja x534000_2 t554).f0,(ja x534000_2 t554).f1,(ja x534000_2 t554).f2,(ja x534000_2 t554).f3,!((ja x534000_2 t554).f4)⟩:S54))) else (none)) else (none)) else ((jl.f kj37 s0_0 t557 3).bind fun bt560=>(if bt560.1=0 then (if 0≤t554 then (if t554<(x534000_2.length:Int) then ((some (x534000_2.set (t554:Int).toNat (⟨(ja x534000_2 t554).f0,(ja x534000_2 t554).f1,t556,(ja x534000_2 t554).f3,(ja x534000_2 t554).f4⟩:S54):List (S54))).bind fun y562=>(jq.l1 kj37 (wrap64 (x7_2 - 1)) s0_0 bt560.2 (y562.set (t554:Int).toNat (⟨(ja y562 t554).f0,(ja y562 t554).f1,(ja y562 t554).f2,(ja y562 t554).f3,true⟩:S54)))) else (none)) else (none)) else ((jfa.f kj37 x534000_2 t554 t556).bind fun t564=>(jq.l1 kj37 (wrap64 (x7_2 - 1)) s0_0 bt560.2 t564)))))=some (r1,r2):=H
         have A47:=am A470
         clear A470
         by_cases c48:t554=t556
         ·rw [if_pos c48] at H
          have c48b0:(t554 == t556)=true:=beq_iff_eq.mpr c48
          have c48b1:(t554 != t556)=false:=bne_eq_false_iff_eq.mpr c48
          clear c48
          by_cases c49:0≤t554
          ·rw [if_pos c49] at H
           have c49b0:decide (0≤t554)=true:=dzT c49
           clear c49
           by_cases c50:t554<(x534000_2.length:Int)
           ·rw [if_pos c50] at H
            have c50b0:decide (t554<(x534000_2.length:Int))=true:=dzT c50
            clear c50
            obtain ⟨y559,hy559⟩:∃ y_:List (S54),y_=(x534000_2.set (t554:Int).toNat (⟨(ja x534000_2 t554).f0,(ja x534000_2 t554).f1,(ja x534000_2 t554).f2,(ja x534000_2 t554).f3,!((ja x534000_2 t554).f4)⟩:S54)):=⟨_,rfl⟩
            replace H:(jq.l1 kj37 (wrap64 (x7_2 - 1)) s0_0 t557 y559)=some (r1,r2):=by first |(rw [hy559];with_reducible exact H) |(have H2_:=(Option.bind_some _ _).symm.trans H;rw [hy559];with_reducible exact H2_) |(have H2_:=(Option.bind_some _ _).symm.trans H;with_reducible exact H2_) | with_reducible exact H |(rw [hy559];exact H) | exact H
            have Ny559:=am hy559
            clear hy559
            have H':=am H
            clear H
            have hnb52:=NB533_528.out
            have hnc52:=NB528_533.out
            have hnb53:=NB533_529.out
            have hnc53:=NB529_533.out
            have hnb54:=NB533_0.out
            have hnc54:=NB0_533.out
            have hcz55_0:=bc0 BK533.out
            have hfz55_0:=jb BK533.out 0
            obtain ⟨Ao56,co56,eo56⟩:=Kd.jZ HO_534000.out
            subst eo56
            try go_wp2_with (first |((with_reducible refine jy (f:=88) rfl ?_);refine gL (some 46) Try.func88 #[.pointer (some ⟨g,0,none⟩), .int .i64 (x534000_2.length:Int)] ?_;(with_reducible refine (jl.calls kj37 g s0_0 x1001_2 (x534000_2.length:Int) t554 t555 w0 _ ?side1 ?side2 A46.out).mono ?_);(case side1=>exact Y3);(case side2=>exact Y8);rintro e w57 ⟨rfl,hi,hb,hk⟩;refine ⟨_,rfl,?_⟩;replace HO_534000:=am (Kd.jH (Kd.jla (jc.apart (show jc w0 _ g s0_0 x1001_2 from Y3) (rq HO_534000.out) (by decide)) hk (fun _ h=>h.2)) (fun _ h=>h.1));replace BK528:=am (jd.blk hk (g':=gb528) (o:=.cells #[.slice A1_0 l1_0.length c1_0] 37 (0,0)) (kq BK528.out) NB528_0.out (by simp));replace BK529:=am (jd.blk hk (g':=gb529) (o:=.cells #[.slice none 0 0] 32 (0,0)) (kq BK529.out) NB529_0.out (by simp));replace BK533:=am (jd.blk hk (g':=gb533) (o:=.cells #[.slice Ao56 x534000_2.length co56] 32 (0,0)) (kq BK533.out) NB533_0.out (by simp));replace HK:=am (jd.trans (Y5) hk (.inl rfl));replace HB:=am (hb);replace HI0:=am (hi);(try clear hb);(try clear hb2);(try clear hk);(try clear hi);have hcz58_0:=bc0 BK533.out;have hfz58_0:=jb BK533.out 0) |((with_reducible refine jy (f:=88) rfl ?_);refine gL (some 51) Try.func88 #[.pointer (some ⟨g,0,none⟩), .int .i64 (x534000_2.length:Int)] ?_;(with_reducible refine (jl.calls kj37 g s0_0 t555 (x534000_2.length:Int) t556 t557 w0 _ ?side1 ?side2 A47.out).mono ?_);(case side1=>exact Y3);(case side2=>exact Y8);rintro e w59 ⟨rfl,hi,hb,hk⟩;refine ⟨_,rfl,?_⟩;replace HO_534000:=am (Kd.jH (Kd.jla (jc.apart (show jc w0 _ g s0_0 t555 from Y3) (rq HO_534000.out) (by decide)) hk (fun _ h=>h.2)) (fun _ h=>h.1));replace BK528:=am (jd.blk hk (g':=gb528) (o:=.cells #[.slice A1_0 l1_0.length c1_0] 37 (0,0)) (kq BK528.out) NB528_0.out (by simp));replace BK529:=am (jd.blk hk (g':=gb529) (o:=.cells #[.slice none 0 0] 32 (0,0)) (kq BK529.out) NB529_0.out (by simp));replace BK533:=am (jd.blk hk (g':=gb533) (o:=.cells #[.slice Ao56 x534000_2.length co56] 32 (0,0)) (kq BK533.out) NB533_0.out (by simp));replace HK:=am (jd.trans (Y5) hk (.inl rfl));replace HB:=am (hb);replace HI0:=am (hi);(try clear hb);(try clear hb2);(try clear hk);(try clear hi)))
            replace HO_534000:=am (Kd.jS HO_534000.out)
            replace BK528:=am (jg BK528.out)
            replace BK529:=am (jg BK529.out)
            replace BK533:=am (jg BK533.out)
            replace HI0:=am (jc.drew HI0.out)
            replace HK:=am (jV HK.out)
            replace HB:=am (jr HB.out)
            have p558:0≤(t554:Int):=ozD (uq)
            have q558:t554<(x534000_2.length:Int):=ozD (uq)
            obtain ⟨ad558,e558,hx558_0,hx558_1,hx558_2,hx558_3,hx558_4⟩:=jdb (Kd.jB HO_534000.out).2.2 t554 p558 q558
            cases e558
            replace p558:=ezT p558
            replace q558:=ezT q558
            have p51:0≤(t554:Int):=ozD (uq)
            have q51:(t554:Int)<((x534000_2.length:Int):Int):=ozD (uq)
            obtain ⟨go51,co51,eo51,gb51,gl51,cl51,HG51⟩:=Kd.R_form HO_534000.out (by omega)
            (first | cases eo51 |(injection eo51 with ea_ en_ ec_;(first | subst ea_ |(injection ea_ with ea_;subst ea_));subst ec_;clear en_))
            have GB51:=am gb51
            have GG51:=am HG51
            clear gb51 gl51 HG51
            (first | simp only [add_plain] at hx558_0 | skip)
            (first | simp only [add_plain] at hx558_1 | skip)
            (first | simp only [add_plain] at hx558_2 | skip)
            (first | simp only [add_plain] at hx558_3 | skip)
            (first | simp only [add_plain] at hx558_4 | skip)
            obtain ⟨ce51,hcl51,hM51,hcc51,hfr51⟩:=Kd.jqb HO_534000.out z54 (t554:Int) p51 q51
            obtain rfl:=jQa hM51
            have hx51_0:World.cell? _ ⟨go51,(t554:Int).toNat * 5,none⟩=some (.int .i64 ((ja x534000_2 t554).f0)):=hcc51 0 _ rfl
            have hx51_1:World.cell? _ ⟨go51,(t554:Int).toNat * 5+1,none⟩=some (.int .i64 ((ja x534000_2 t554).f1)):=hcc51 1 _ rfl
            have hx51_2:World.cell? _ ⟨go51,(t554:Int).toNat * 5+2,none⟩=some (.int .i64 ((ja x534000_2 t554).f2)):=hcc51 2 _ rfl
            have hx51_3:World.cell? _ ⟨go51,(t554:Int).toNat * 5+3,none⟩=some (.int .i64 ((ja x534000_2 t554).f3)):=hcc51 3 _ rfl
            have hx51_4:World.cell? _ ⟨go51,(t554:Int).toNat * 5+4,none⟩=some (.bool ((ja x534000_2 t554).f4)):=hcc51 4 _ rfl
            have hf51_0:World.frozen? _ ⟨go51,(t554:Int).toNat * 5,none⟩=false:=hfr51 0
            have hf51_1:World.frozen? _ ⟨go51,(t554:Int).toNat * 5+1,none⟩=false:=hfr51 1
            have hf51_2:World.frozen? _ ⟨go51,(t554:Int).toNat * 5+2,none⟩=false:=hfr51 2
            have hf51_3:World.frozen? _ ⟨go51,(t554:Int).toNat * 5+3,none⟩=false:=hfr51 3
            have hf51_4:World.frozen? _ ⟨go51,(t554:Int).toNat * 5+4,none⟩=false:=hfr51 4
            clear hcl51 hcc51 hfr51 hM51
            replace p51:=ezT p51
            replace q51:=ezT q51
            have HN0_go51:=am (show g≠go51 from by have h_:=jc.own_ne HI0.out HO_534000.out (by decide);intro e_;exact h_ (by rw [e_];rfl))
            obtain ⟨ce61,hcl61,hM61,hcc61,hfr61⟩:=Kd.jqb HO_534000.out z54 (t554:Int) (ozD (uq)) (by have h_:(t554:Int)<((x534000_2.length:Int):Int):=ozD (uq);first | exact h_ |(have e_:=(Kd.jB HO_534000.out).1;omega) | simpa using h_)
            obtain rfl:=jQa hM61
            have HP61:=(Kd.R_seg HO_534000.out (t554:Int) (ozD (uq)) (by have h_:(t554:Int)<((x534000_2.length:Int):Int):=ozD (uq);first | exact h_ |(have e_:=(Kd.jB HO_534000.out).1;omega) | simpa using h_) (seg:=[.bool (!((ja x534000_2 t554).f4))]) (j:=4) hcl61 hcc61 (show 5≤5 from by decide) (x':=(⟨(ja x534000_2 t554).f0,(ja x534000_2 t554).f1,(ja x534000_2 t554).f2,(ja x534000_2 t554).f3,!((ja x534000_2 t554).f4)⟩:S54)) (jQb _ _ _ (⟨(ja x534000_2 t554).f0,(ja x534000_2 t554).f1,(ja x534000_2 t554).f2,(ja x534000_2 t554).f3,!((ja x534000_2 t554).f4)⟩:S54) ) (fun _ hk=>hk)).1
            rw [← Ny559.out] at HP61
            have HQ61:=am HP61
            clear hcl61 hcc61 hfr61 hM61 HP61
            refine jLb (n:=13) (S:=fun w'=>w'.cell? ⟨gb533,0,none⟩=some (.slice (some ⟨go51,0,none⟩) x534000_2.length co56)∧w'.cell? ⟨go51,((t554).toNat * 5),none⟩=some (.int .i64 ((ja x534000_2 t554).f0))∧w'.cell? ⟨go51,((t554).toNat * 5)+1,none⟩=some (.int .i64 ((ja x534000_2 t554).f1))∧w'.cell? ⟨go51,((t554).toNat * 5)+2,none⟩=some (.int .i64 ((ja x534000_2 t554).f2))∧w'.cell? ⟨go51,((t554).toNat * 5)+3,none⟩=some (.int .i64 ((ja x534000_2 t554).f3))∧w'.cell? ⟨go51,((t554).toNat * 5)+4,none⟩=some (.bool ((ja x534000_2 t554).f4))) (ds:=[12]) #[false,false,false,false,false,false,false,false,false,false,false,false,false] (by kernel_rfl) rfl rfl ⟨(jG BK533.out 0).trans rfl,hx558_0,hx558_1,hx558_2,hx558_3,hx558_4⟩ (fun hHeld=>?_);refine jyb jq.tab13 jq.bits13 (fun HT_ HW_=>?_)
            generalize w59.drew=w60 at HO_534000 BK528 BK529 BK533 HI0 HK HB GG51 HQ61 hf51_0 hf51_1 hf51_2 hf51_3 hf51_4 hx51_0 hx51_1 hx51_2 hx51_3 hx51_4 hx558_0 hx558_1 hx558_2 hx558_3 hx558_4 hHeld ⊢
            refine pq (i:=0) (N:=some 60) #[true,false,false,false,false,false,false,false,false,false,false,false,false] ?_
            refine pq (i:=2) (N:=some 62) #[true,false,true,false,false,false,false,false,false,false,false,false,false] ?_
            refine pq (i:=3) (N:=some 63) #[true,false,true,true,false,false,false,false,false,false,false,false,false] ?_
            refine pq (i:=5) (N:=some 65) #[true,false,true,true,false,true,false,false,false,false,false,false,false] ?_
            refine jzb (i:=1) (N:=some 61) (v:=?_) (a':=?_) #[true,true,true,true,false,true,false,false,false,false,false,false,false] rfl rfl (jgb HT_.out HW_.out (by kernel_rfl)) (fun _ _ _ h=>h) (Or.inl ⟨by rfl,?_⟩) hHeld ?_ ?_
            rotate_left
            ·rintro w' ⟨s0,s1,s2,s3,s4,s5⟩
             go_simp
             with_reducible rfl
            rotate_left
            ·exact sa
            refine jzb (i:=4) (N:=some 64) (v:=?_) (a':=?_) #[true,true,true,true,true,true,false,false,false,false,false,false,false] rfl rfl (jgb HT_.out HW_.out (by kernel_rfl)) (fun _ _ _ h=>h) (Or.inl ⟨by rfl,?_⟩) hHeld ?_ ?_
            rotate_left
            ·rintro w' ⟨s0,s1,s2,s3,s4,s5⟩
             go_simp
             with_reducible rfl
            rotate_left
            ·exact sa
            refine pq (i:=6) (N:=some 66) #[true,true,true,true,true,true,true,false,false,false,false,false,false] ?_
            refine pq (i:=7) (N:=some 67) #[true,true,true,true,true,true,true,true,false,false,false,false,false] ?_
            refine jzb (i:=8) (N:=some 68) (v:=?_) (a':=?_) #[true,true,true,true,true,true,true,true,true,false,false,false,false] rfl rfl (jgb HT_.out HW_.out (by kernel_rfl)) (fun _ _ _ h=>h) (Or.inl ⟨by rfl,?_⟩) hHeld ?_ ?_
            rotate_left
            ·rintro w' ⟨s0,s1,s2,s3,s4,s5⟩
             go_simp
             with_reducible rfl
            rotate_left
            ·exact sa
            refine pq (i:=9) (N:=some 69) #[true,true,true,true,true,true,true,true,true,true,false,false,false] ?_
            refine pq (i:=10) (N:=some 70) #[true,true,true,true,true,true,true,true,true,true,true,false,false] ?_
            refine pq (i:=11) (N:=some 71) #[true,true,true,true,true,true,true,true,true,true,true,true,false] ?_
            refine last_ (i:=12) (N:=none) #[true,true,true,true,true,true,true,true,true,true,true,true,true] rfl rfl (jbb HT_.out (by kernel_rfl)) (by decide) (fun K hK=>?_)
            refine jPb (w1:=?_) (by rfl) rfl ?_ ?_
            rotate_left
            ·go_simp
             rfl
            refine hK.out _ _ ?_
            clear hK K
            refine done_ (jUb HT_.out (by kernel_rfl)) ?_
            try go_wp2
            go_roundg kj37
            case measure=>have:=HK1.out;have:=HK2.out;have:=HJ37.out;omega
            case rel=>exact ⟨(wrap64 (x7_2 - 1)),(t557),(y559),(.slice (some ⟨go51,0,none⟩) x534000_2.length co56),(sq),H',⟨by have:=HK1.out;have:=HK2.out;have:=HJ37.out;omega⟩,⟨rq HQ61.out⟩,⟨by (with_reducible repeat (first | refine jh ?_ _ | refine jg ?_ | refine jk ?_ _));refine jO ?_ (by have h_:=Kd.R_ne HO_534000.out BK528.out (by decide);intro e_;exact h_ (by rw [e_];rfl)) _;(with_reducible repeat (first | refine jh ?_ _ | refine jg ?_ | refine jk ?_ _));exact BK528.out⟩,⟨by (with_reducible repeat (first | refine jh ?_ _ | refine jg ?_ | refine jk ?_ _));refine jO ?_ (by have h_:=Kd.R_ne HO_534000.out BK529.out (by decide);intro e_;exact h_ (by rw [e_];rfl)) _;(with_reducible repeat (first | refine jh ?_ _ | refine jg ?_ | refine jk ?_ _));exact BK529.out⟩,⟨by (with_reducible repeat (first | refine jh ?_ _ | refine jg ?_ | refine jk ?_ _));refine jO ?_ (by have h_:=Kd.R_ne HO_534000.out BK533.out (by decide);intro e_;exact h_ (by rw [e_];rfl)) _;(with_reducible repeat (first | refine jh ?_ _ | refine jg ?_ | refine jk ?_ _));exact BK533.out⟩,⟨by repeat (first |(with_reducible first | exact HI0.out | apply jc.alloc | apply jc.drewN | apply jc.drew | apply jc.jeb | refine jc.far ?_ HN0_go51.out _ | refine jc.far ?_ NB0_528.out _ | refine jc.far ?_ NB0_529.out _ | refine jc.far ?_ NB0_533.out _) | exact HI0.out)⟩,⟨by repeat (first |(with_reducible first | exact HK.out | apply jd.set_ | apply jga | apply jV | apply jha | refine jK ?_ GB51.out _ | refine jK ?_ GW528.out _ | refine jK ?_ GW529.out _ | refine jK ?_ GW533.out _) | exact HK.out)⟩,⟨by repeat (first |(with_reducible first | exact HB.out | apply jw | apply jo | apply jr | refine jm ?_ (Nat.le_trans HL.out GB51.out) | refine jm ?_ (jc.ge HI0.out) | refine jm ?_ GE528.out | refine jm ?_ GE529.out | refine jm ?_ GE533.out) | exact HB.out)⟩⟩
           ·rw [if_neg c50] at H
            exact absurd H (by simp)
          ·rw [if_neg c49] at H
           exact absurd H (by simp)
         ·rw [if_neg c48] at H
          have c48b0:(t554 == t556)=false:=beq_eq_false_iff_ne.mpr c48
          have c48b1:(t554 != t556)=true:=bne_iff_ne.mpr c48
          replace H:=bzS H
          obtain ⟨⟨t560,t561⟩,A620,H⟩:=H
          replace H:(if t560=0 then (if 0≤t554 then (if t554<(x534000_2.length:Int) then ((some (x534000_2.set (t554:Int).toNat (⟨(ja x534000_2 t554).f0,(ja x534000_2 t554).f1,t556,(ja x534000_2 t554).f3,(ja x534000_2 t554).f4⟩:S54):List (S54))).bind fun y562=>(jq.l1 kj37 (wrap64 (x7_2 - 1)) s0_0 t561 (y562.set (t554:Int).toNat (⟨(ja y562 t554).f0,(ja y562 t554).f1,(ja y562 t554).f2,(ja y562 t554).f3,true⟩:S54)))) else (none)) else (none)) else ((jfa.f kj37 x534000_2 t554 t556).bind fun t564=>(jq.l1 kj37 (wrap64 (x7_2 - 1)) s0_0 t561 t564)))=some (r1,r2):=H
          have A62:=am A620
          clear A620
          by_cases c63:t560=0
          ·rw [if_pos c63] at H
           have c63b0:(t560 == 0)=true:=beq_iff_eq.mpr c63
           have c63b1:(t560 != 0)=false:=bne_eq_false_iff_eq.mpr c63
           clear c63
           by_cases c64:0≤t554
           ·rw [if_pos c64] at H
            have c64b0:decide (0≤t554)=true:=dzT c64
            clear c64
            by_cases c65:t554<(x534000_2.length:Int)
            ·rw [if_pos c65] at H
             have c65b0:decide (t554<(x534000_2.length:Int))=true:=dzT c65
             clear c65
             obtain ⟨y562,hy562⟩:∃ y_:List (S54),y_=(x534000_2.set (t554:Int).toNat (⟨(ja x534000_2 t554).f0,(ja x534000_2 t554).f1,t556,(ja x534000_2 t554).f3,(ja x534000_2 t554).f4⟩:S54)):=⟨_,rfl⟩
             replace H:(jq.l1 kj37 (wrap64 (x7_2 - 1)) s0_0 t561 (y562.set (t554:Int).toNat (⟨(ja y562 t554).f0,(ja y562 t554).f1,(ja y562 t554).f2,(ja y562 t554).f3,true⟩:S54)))=some (r1,r2):=by first |(rw [hy562];with_reducible exact H) |(have H2_:=(Option.bind_some _ _).symm.trans H;rw [hy562];with_reducible exact H2_) |(have H2_:=(Option.bind_some _ _).symm.trans H;with_reducible exact H2_) | with_reducible exact H |(rw [hy562];exact H) | exact H
             have Ny562:=am hy562
             clear hy562
             obtain ⟨y563,hy563⟩:∃ y_:List (S54),y_=(y562.set (t554:Int).toNat (⟨(ja y562 t554).f0,(ja y562 t554).f1,(ja y562 t554).f2,(ja y562 t554).f3,true⟩:S54)):=⟨_,rfl⟩
             replace H:(jq.l1 kj37 (wrap64 (x7_2 - 1)) s0_0 t561 y563)=some (r1,r2):=by first |(rw [hy563];with_reducible exact H) |(have H2_:=(Option.bind_some _ _).symm.trans H;rw [hy563];with_reducible exact H2_) |(have H2_:=(Option.bind_some _ _).symm.trans H;with_reducible exact H2_) | with_reducible exact H |(rw [hy563];exact H) | exact H
             have Ny563:=am hy563
             clear hy563
             have H':=am H
             clear H
             have hnb68:=NB533_528.out
             have hnc68:=NB528_533.out
             have hnb69:=NB533_529.out
             have hnc69:=NB529_533.out
             have hnb70:=NB533_0.out
             have hnc70:=NB0_533.out
             have hcz71_0:=bc0 BK533.out
             have hfz71_0:=jb BK533.out 0
             obtain ⟨Ao72,co72,eo72⟩:=Kd.jZ HO_534000.out
             subst eo72
             go_wp2_with (first |((with_reducible refine jy (f:=88) rfl ?_);refine gL (some 46) Try.func88 #[.pointer (some ⟨g,0,none⟩), .int .i64 (x534000_2.length:Int)] ?_;(with_reducible refine (jl.calls kj37 g s0_0 x1001_2 (x534000_2.length:Int) t554 t555 w0 _ ?side1 ?side2 A46.out).mono ?_);(case side1=>exact Y3);(case side2=>exact Y8);rintro e w73 ⟨rfl,hi,hb,hk⟩;refine ⟨_,rfl,?_⟩;replace HO_534000:=am (Kd.jH (Kd.jla (jc.apart (show jc w0 _ g s0_0 x1001_2 from Y3) (rq HO_534000.out) (by decide)) hk (fun _ h=>h.2)) (fun _ h=>h.1));replace BK528:=am (jd.blk hk (g':=gb528) (o:=.cells #[.slice A1_0 l1_0.length c1_0] 37 (0,0)) (kq BK528.out) NB528_0.out (by simp));replace BK529:=am (jd.blk hk (g':=gb529) (o:=.cells #[.slice none 0 0] 32 (0,0)) (kq BK529.out) NB529_0.out (by simp));replace BK533:=am (jd.blk hk (g':=gb533) (o:=.cells #[.slice Ao72 x534000_2.length co72] 32 (0,0)) (kq BK533.out) NB533_0.out (by simp));replace HK:=am (jd.trans (Y5) hk (.inl rfl));replace HB:=am (hb);replace HI0:=am (hi);(try clear hb);(try clear hb2);(try clear hk);(try clear hi);have hcz74_0:=bc0 BK533.out;have hfz74_0:=jb BK533.out 0) |((with_reducible refine jy (f:=88) rfl ?_);refine gL (some 51) Try.func88 #[.pointer (some ⟨g,0,none⟩), .int .i64 (x534000_2.length:Int)] ?_;(with_reducible refine (jl.calls kj37 g s0_0 t555 (x534000_2.length:Int) t556 t557 w0 _ ?side1 ?side2 A47.out).mono ?_);(case side1=>exact Y3);(case side2=>exact Y8);rintro e w75 ⟨rfl,hi,hb,hk⟩;refine ⟨_,rfl,?_⟩;replace HO_534000:=am (Kd.jH (Kd.jla (jc.apart (show jc w0 _ g s0_0 t555 from Y3) (rq HO_534000.out) (by decide)) hk (fun _ h=>h.2)) (fun _ h=>h.1));replace BK528:=am (jd.blk hk (g':=gb528) (o:=.cells #[.slice A1_0 l1_0.length c1_0] 37 (0,0)) (kq BK528.out) NB528_0.out (by simp));replace BK529:=am (jd.blk hk (g':=gb529) (o:=.cells #[.slice none 0 0] 32 (0,0)) (kq BK529.out) NB529_0.out (by simp));replace BK533:=am (jd.blk hk (g':=gb533) (o:=.cells #[.slice Ao72 x534000_2.length co72] 32 (0,0)) (kq BK533.out) NB533_0.out (by simp));replace HK:=am (jd.trans (Y5) hk (.inl rfl));replace HB:=am (hb);replace HI0:=am (hi);(try clear hb);(try clear hb2);(try clear hk);(try clear hi)) |((with_reducible refine jy (f:=88) rfl ?_);refine gL (some 74) Try.func88 #[.pointer (some ⟨g,0,none⟩), .int .i64 3] ?_;(with_reducible refine (jl.calls kj37 g s0_0 t557 3 t560 t561 w0 _ ?side1 ?side2 A62.out).mono ?_);(case side1=>exact Y3);(case side2=>exact Y8);rintro e w76 ⟨rfl,hi,hb,hk⟩;refine ⟨_,rfl,?_⟩;replace HO_534000:=am (Kd.jH (Kd.jla (jc.apart (show jc w0 _ g s0_0 t557 from Y3) (rq HO_534000.out) (by decide)) hk (fun _ h=>h.2)) (fun _ h=>h.1));replace BK528:=am (jd.blk hk (g':=gb528) (o:=.cells #[.slice A1_0 l1_0.length c1_0] 37 (0,0)) (kq BK528.out) NB528_0.out (by simp));replace BK529:=am (jd.blk hk (g':=gb529) (o:=.cells #[.slice none 0 0] 32 (0,0)) (kq BK529.out) NB529_0.out (by simp));replace BK533:=am (jd.blk hk (g':=gb533) (o:=.cells #[.slice Ao72 x534000_2.length co72] 32 (0,0)) (kq BK533.out) NB533_0.out (by simp));replace HK:=am (jd.trans (Y5) hk (.inl rfl));replace HB:=am (hb);replace HI0:=am (hi);(try clear hb);(try clear hb2);(try clear hk);(try clear hi);have hcz77_0:=bc0 BK533.out;have hfz77_0:=jb BK533.out 0;have p66:0≤(t554:Int):=ozD (uq);have q66:(t554:Int)<((x534000_2.length:Int):Int):=ozD (uq);obtain ⟨go66,co66,eo66,gb66,gl66,cl66,HG66⟩:=Kd.R_form HO_534000.out (by omega);(first | cases eo66 |(injection eo66 with ea_ en_ ec_;(first | subst ea_ |(injection ea_ with ea_;subst ea_));subst ec_;clear en_));have GB66:=am gb66;have GG66:=am HG66;clear gb66 gl66 HG66;obtain ⟨ce66,hcl66,hM66,hcc66,hfr66⟩:=Kd.jqb HO_534000.out z54 (t554:Int) p66 q66;obtain rfl:=jQa hM66;have hx66_0:w76.cell? ⟨go66,(t554:Int).toNat * 5,none⟩=some (.int .i64 ((ja x534000_2 t554).f0)):=hcc66 0 _ rfl;have hx66_1:w76.cell? ⟨go66,(t554:Int).toNat * 5+1,none⟩=some (.int .i64 ((ja x534000_2 t554).f1)):=hcc66 1 _ rfl;have hx66_2:w76.cell? ⟨go66,(t554:Int).toNat * 5+2,none⟩=some (.int .i64 ((ja x534000_2 t554).f2)):=hcc66 2 _ rfl;have hx66_3:w76.cell? ⟨go66,(t554:Int).toNat * 5+3,none⟩=some (.int .i64 ((ja x534000_2 t554).f3)):=hcc66 3 _ rfl;have hx66_4:w76.cell? ⟨go66,(t554:Int).toNat * 5+4,none⟩=some (.bool ((ja x534000_2 t554).f4)):=hcc66 4 _ rfl;have hf66_0:w76.frozen? ⟨go66,(t554:Int).toNat * 5,none⟩=false:=hfr66 0;have hf66_1:w76.frozen? ⟨go66,(t554:Int).toNat * 5+1,none⟩=false:=hfr66 1;have hf66_2:w76.frozen? ⟨go66,(t554:Int).toNat * 5+2,none⟩=false:=hfr66 2;have hf66_3:w76.frozen? ⟨go66,(t554:Int).toNat * 5+3,none⟩=false:=hfr66 3;have hf66_4:w76.frozen? ⟨go66,(t554:Int).toNat * 5+4,none⟩=false:=hfr66 4;clear hcl66 hcc66 hfr66 hM66;replace p66:=ezT p66;replace q66:=ezT q66;have HX78:=am (show Kd.R k54 54 w76 w.heap.size (fun _=>True) (.slice (some ⟨go66,0,none⟩) x534000_2.length co72) x534000_2 from (rq HO_534000.out));obtain ⟨ce78,hcl78,hM78,hcc78,hfr78⟩:=Kd.jqb HX78.out z54 (t554:Int) (ozD (uq)) (by have h_:(t554:Int)<((x534000_2.length:Int):Int):=ozD (uq);first | exact h_ |(have e_:=(Kd.jB HO_534000.out).1;omega) | simpa using h_);obtain rfl:=jQa hM78;have HP78:=Kd.R_seg HX78.out (t554:Int) (ozD (uq)) (by have h_:(t554:Int)<((x534000_2.length:Int):Int):=ozD (uq);first | exact h_ |(have e_:=(Kd.jB HO_534000.out).1;omega) | simpa using h_) (seg:=[.int .i64 t556]) (j:=2) hcl78 hcc78 (show 3≤5 from by decide) (x':=(⟨(ja x534000_2 t554).f0,(ja x534000_2 t554).f1,t556,(ja x534000_2 t554).f3,(ja x534000_2 t554).f4⟩:S54)) (jQb _ _ _ (⟨(ja x534000_2 t554).f0,(ja x534000_2 t554).f1,t556,(ja x534000_2 t554).f3,(ja x534000_2 t554).f4⟩:S54) ) (fun _ hk=>hk);have hx78_2:=hcc78 2 _ rfl;(try simp only [show (k54).sz=5 from rfl,Nat.mul_one,Nat.add_zero] at hx78_2);have hf78_2:=hfr78 2;(try simp only [show (k54).sz=5 from rfl,Nat.mul_one,Nat.add_zero] at hf78_2);clear hcl78 hcc78 hfr78 hM78) |((with_reducible refine jVb (t:=3) (p:=81) rfl ?_);refine jOb (t:=3) (p:=81) (v:=?vo_w79) (w1:=(w76.setCell ⟨go66,(t554:Int).toNat * 5+2,none⟩ (.int .i64 t556))) ?hg ?ho ?hn ?hr ?_;(case ho=>rfl);(case hg=>rfl);(case hn=>rfl);(case hr=>exact Y4);intro w79 hw;have hg:w76.grownBy w79 (some go66):=(by rw [hw];exact HP78.2);have hp_:Kd.R k54 54 w79 w.heap.size (fun _=>True) (.slice (some ⟨go66,0,none⟩) x534000_2.length co72) y562:=(by rw [hw,Ny562.out];exact HP78.1);clear HP78;replace BK528:=am (jCa (g:=gb528) (o:=.cells #[.slice A1_0 l1_0.length c1_0] 37 (0,0)) (kq BK528.out) hg (Kd.R_ne HO_534000.out BK528.out (by decide)));replace BK529:=am (jCa (g:=gb529) (o:=.cells #[.slice none 0 0] 32 (0,0)) (kq BK529.out) hg (Kd.R_ne HO_534000.out BK529.out (by decide)));replace BK533:=am (jCa (g:=gb533) (o:=.cells #[.slice (some ⟨go66,0,none⟩) x534000_2.length co72] 32 (0,0)) (kq BK533.out) hg (Kd.R_ne HO_534000.out BK533.out (by decide)));replace HI0:=am (jc.grown (Y3) hg (jc.own_ne HI0.out HO_534000.out (by decide)));replace HB:=am ((by rw [hw];exact jm (HB.out) (Nat.le_trans HL.out GB66.out):Below w0.heap.size w0 w79));replace HK:=am (jd.trans (Y5) (jd.of_grown hg g) (Kd.R_base2 HO_534000.out));replace HO_534000:=am (hp_);clear hg hw hp_;have hcz80_0:=bc0 BK533.out;have hfz80_0:=jb BK533.out 0;have p67:0≤(t554:Int):=ozD (uq);have q67:(t554:Int)<((x534000_2.length:Int):Int):=ozD (uq);obtain ⟨ce67,hcl67,hM67,hcc67,hfr67⟩:=Kd.jqb HO_534000.out z54 (t554:Int) p67 q67;obtain rfl:=jQa hM67;have hx67_0:w79.cell? ⟨go66,(t554:Int).toNat * 5,none⟩=some (.int .i64 ((ja y562 t554).f0)):=hcc67 0 _ rfl;have hx67_1:w79.cell? ⟨go66,(t554:Int).toNat * 5+1,none⟩=some (.int .i64 ((ja y562 t554).f1)):=hcc67 1 _ rfl;have hx67_2:w79.cell? ⟨go66,(t554:Int).toNat * 5+2,none⟩=some (.int .i64 ((ja y562 t554).f2)):=hcc67 2 _ rfl;have hx67_3:w79.cell? ⟨go66,(t554:Int).toNat * 5+3,none⟩=some (.int .i64 ((ja y562 t554).f3)):=hcc67 3 _ rfl;have hx67_4:w79.cell? ⟨go66,(t554:Int).toNat * 5+4,none⟩=some (.bool ((ja y562 t554).f4)):=hcc67 4 _ rfl;have hf67_0:w79.frozen? ⟨go66,(t554:Int).toNat * 5,none⟩=false:=hfr67 0;have hf67_1:w79.frozen? ⟨go66,(t554:Int).toNat * 5+1,none⟩=false:=hfr67 1;have hf67_2:w79.frozen? ⟨go66,(t554:Int).toNat * 5+2,none⟩=false:=hfr67 2;have hf67_3:w79.frozen? ⟨go66,(t554:Int).toNat * 5+3,none⟩=false:=hfr67 3;have hf67_4:w79.frozen? ⟨go66,(t554:Int).toNat * 5+4,none⟩=false:=hfr67 4;clear hcl67 hcc67 hfr67 hM67;replace p67:=ezT p67;replace q67:=ezT q67;have HX81:=am (show Kd.R k54 54 w79 w.heap.size (fun _=>True) (.slice (some ⟨go66,0,none⟩) x534000_2.length co72) y562 from (rq HO_534000.out));obtain ⟨ce81,hcl81,hM81,hcc81,hfr81⟩:=Kd.jqb HX81.out z54 (t554:Int) (ozD (uq)) (by have h_:(t554:Int)<((x534000_2.length:Int):Int):=ozD (uq);first | exact h_ |(have e_:=(Kd.jB HO_534000.out).1;omega) | simpa using h_);obtain rfl:=jQa hM81;have HP81:=Kd.R_seg HX81.out (t554:Int) (ozD (uq)) (by have h_:(t554:Int)<((x534000_2.length:Int):Int):=ozD (uq);first | exact h_ |(have e_:=(Kd.jB HO_534000.out).1;omega) | simpa using h_) (seg:=[.bool true]) (j:=4) hcl81 hcc81 (show 5≤5 from by decide) (x':=(⟨(ja y562 t554).f0,(ja y562 t554).f1,(ja y562 t554).f2,(ja y562 t554).f3,true⟩:S54)) (jQb _ _ _ (⟨(ja y562 t554).f0,(ja y562 t554).f1,(ja y562 t554).f2,(ja y562 t554).f3,true⟩:S54) ) (fun _ hk=>hk);have hx81_4:=hcc81 4 _ rfl;(try simp only [show (k54).sz=5 from rfl,Nat.mul_one,Nat.add_zero] at hx81_4);have hf81_4:=hfr81 4;(try simp only [show (k54).sz=5 from rfl,Nat.mul_one,Nat.add_zero] at hf81_4);clear hcl81 hcc81 hfr81 hM81) |((with_reducible refine jVb (t:=4) (p:=86) rfl ?_);refine jOb (t:=4) (p:=86) (v:=?vo_w82) (w1:=(w79.setCell ⟨go66,(t554:Int).toNat * 5+4,none⟩ (.bool true))) ?hg ?ho ?hn ?hr ?_;(case ho=>rfl);(case hg=>rfl);(case hn=>rfl);(case hr=>exact Y4);intro w82 hw;have hg:w79.grownBy w82 (some go66):=(by rw [hw];exact HP81.2);have hp_:Kd.R k54 54 w82 w.heap.size (fun _=>True) (.slice (some ⟨go66,0,none⟩) x534000_2.length co72) y563:=(by rw [hw,Ny563.out];exact HP81.1);clear HP81;replace BK528:=am (jCa (g:=gb528) (o:=.cells #[.slice A1_0 l1_0.length c1_0] 37 (0,0)) (kq BK528.out) hg (Kd.R_ne HO_534000.out BK528.out (by decide)));replace BK529:=am (jCa (g:=gb529) (o:=.cells #[.slice none 0 0] 32 (0,0)) (kq BK529.out) hg (Kd.R_ne HO_534000.out BK529.out (by decide)));replace BK533:=am (jCa (g:=gb533) (o:=.cells #[.slice (some ⟨go66,0,none⟩) x534000_2.length co72] 32 (0,0)) (kq BK533.out) hg (Kd.R_ne HO_534000.out BK533.out (by decide)));replace HI0:=am (jc.grown (Y3) hg (jc.own_ne HI0.out HO_534000.out (by decide)));replace HB:=am ((by rw [hw];exact jm (HB.out) (Nat.le_trans HL.out GB66.out):Below w0.heap.size w0 w82));replace HK:=am (jd.trans (Y5) (jd.of_grown hg g) (Kd.R_base2 HO_534000.out));replace HO_534000:=am (hp_);clear hg hw hp_))
             go_roundg kj37
             case measure=>have:=HK1.out;have:=HK2.out;have:=HJ37.out;omega
             case rel=>exact ⟨(wrap64 (x7_2 - 1)),(t561),(y563),(.slice (some ⟨go66,0,none⟩) x534000_2.length co72),(sq),H',⟨by have:=HK1.out;have:=HK2.out;have:=HJ37.out;omega⟩,⟨rq HO_534000.out⟩,⟨kq BK528.out⟩,⟨kq BK529.out⟩,⟨kq BK533.out⟩,⟨Y3⟩,⟨Y5⟩,⟨Y8⟩⟩
            ·rw [if_neg c65] at H
             exact absurd H (by simp)
           ·rw [if_neg c64] at H
            exact absurd H (by simp)
          ·rw [if_neg c63] at H
           have c63b0:(t560 == 0)=false:=beq_eq_false_iff_ne.mpr c63
           have c63b1:(t560 != 0)=true:=bne_iff_ne.mpr c63
           replace H:=bzS H
           obtain ⟨t564,A830,H⟩:=H
           replace H:(jq.l1 kj37 (wrap64 (x7_2 - 1)) s0_0 t561 t564)=some (r1,r2):=H
           have A83:=am A830
           clear A830
           have H':=am H
           clear H
           have hnb84:=NB533_528.out
           have hnc84:=NB528_533.out
           have hnb85:=NB533_529.out
           have hnc85:=NB529_533.out
           have hnb86:=NB533_0.out
           have hnc86:=NB0_533.out
           have hcz87_0:=bc0 BK533.out
           have hfz87_0:=jb BK533.out 0
           obtain ⟨Ao88,co88,eo88⟩:=Kd.jZ HO_534000.out
           subst eo88
           go_wp2_with (first |((with_reducible refine jy (f:=88) rfl ?_);refine gL (some 46) Try.func88 #[.pointer (some ⟨g,0,none⟩), .int .i64 (x534000_2.length:Int)] ?_;(with_reducible refine (jl.calls kj37 g s0_0 x1001_2 (x534000_2.length:Int) t554 t555 w0 _ ?side1 ?side2 A46.out).mono ?_);(case side1=>exact Y3);(case side2=>exact Y8);rintro e w89 ⟨rfl,hi,hb,hk⟩;refine ⟨_,rfl,?_⟩;replace HO_534000:=am (Kd.jH (Kd.jla (jc.apart (show jc w0 _ g s0_0 x1001_2 from Y3) (rq HO_534000.out) (by decide)) hk (fun _ h=>h.2)) (fun _ h=>h.1));replace BK528:=am (jd.blk hk (g':=gb528) (o:=.cells #[.slice A1_0 l1_0.length c1_0] 37 (0,0)) (kq BK528.out) NB528_0.out (by simp));replace BK529:=am (jd.blk hk (g':=gb529) (o:=.cells #[.slice none 0 0] 32 (0,0)) (kq BK529.out) NB529_0.out (by simp));replace BK533:=am (jd.blk hk (g':=gb533) (o:=.cells #[.slice Ao88 x534000_2.length co88] 32 (0,0)) (kq BK533.out) NB533_0.out (by simp));replace HK:=am (jd.trans (Y5) hk (.inl rfl));replace HB:=am (hb);replace HI0:=am (hi);(try clear hb);(try clear hb2);(try clear hk);(try clear hi);have hcz90_0:=bc0 BK533.out;have hfz90_0:=jb BK533.out 0) |((with_reducible refine jy (f:=88) rfl ?_);refine gL (some 51) Try.func88 #[.pointer (some ⟨g,0,none⟩), .int .i64 (x534000_2.length:Int)] ?_;(with_reducible refine (jl.calls kj37 g s0_0 t555 (x534000_2.length:Int) t556 t557 w0 _ ?side1 ?side2 A47.out).mono ?_);(case side1=>exact Y3);(case side2=>exact Y8);rintro e w91 ⟨rfl,hi,hb,hk⟩;refine ⟨_,rfl,?_⟩;replace HO_534000:=am (Kd.jH (Kd.jla (jc.apart (show jc w0 _ g s0_0 t555 from Y3) (rq HO_534000.out) (by decide)) hk (fun _ h=>h.2)) (fun _ h=>h.1));replace BK528:=am (jd.blk hk (g':=gb528) (o:=.cells #[.slice A1_0 l1_0.length c1_0] 37 (0,0)) (kq BK528.out) NB528_0.out (by simp));replace BK529:=am (jd.blk hk (g':=gb529) (o:=.cells #[.slice none 0 0] 32 (0,0)) (kq BK529.out) NB529_0.out (by simp));replace BK533:=am (jd.blk hk (g':=gb533) (o:=.cells #[.slice Ao88 x534000_2.length co88] 32 (0,0)) (kq BK533.out) NB533_0.out (by simp));replace HK:=am (jd.trans (Y5) hk (.inl rfl));replace HB:=am (hb);replace HI0:=am (hi);(try clear hb);(try clear hb2);(try clear hk);(try clear hi)) |((with_reducible refine jy (f:=88) rfl ?_);refine gL (some 74) Try.func88 #[.pointer (some ⟨g,0,none⟩), .int .i64 3] ?_;(with_reducible refine (jl.calls kj37 g s0_0 t557 3 t560 t561 w0 _ ?side1 ?side2 A62.out).mono ?_);(case side1=>exact Y3);(case side2=>exact Y8);rintro e w92 ⟨rfl,hi,hb,hk⟩;refine ⟨_,rfl,?_⟩;replace HO_534000:=am (Kd.jH (Kd.jla (jc.apart (show jc w0 _ g s0_0 t557 from Y3) (rq HO_534000.out) (by decide)) hk (fun _ h=>h.2)) (fun _ h=>h.1));replace BK528:=am (jd.blk hk (g':=gb528) (o:=.cells #[.slice A1_0 l1_0.length c1_0] 37 (0,0)) (kq BK528.out) NB528_0.out (by simp));replace BK529:=am (jd.blk hk (g':=gb529) (o:=.cells #[.slice none 0 0] 32 (0,0)) (kq BK529.out) NB529_0.out (by simp));replace BK533:=am (jd.blk hk (g':=gb533) (o:=.cells #[.slice Ao88 x534000_2.length co88] 32 (0,0)) (kq BK533.out) NB533_0.out (by simp));replace HK:=am (jd.trans (Y5) hk (.inl rfl));replace HB:=am (hb);replace HI0:=am (hi);(try clear hb);(try clear hb2);(try clear hk);(try clear hi);have hcz93_0:=bc0 BK533.out;have hfz93_0:=jb BK533.out 0) |((with_reducible refine jy (f:=92) rfl ?_);refine gL (some 55) Try.func92 #[.agg #[.slice Ao88 x534000_2.length co88], .int .i64 t554, .int .i64 t556] ?_;(with_reducible refine (jfa.calls kj37 _ _ x534000_2 t554 t556 t564 _ ?side1 ?side2 A83.out).mono ?_);(case side1=>exact cq (Kd.jB HO_534000.out).2.2);(case side2=>exact (Kd.jB HO_534000.out).2.1);rintro e w94 ⟨v565,rfl,ho0,hb⟩;refine ⟨_,rfl,?_⟩;have HO566:=am (Kd.jia (Kd.R_new' ho0 (Kd.R_lt (rq HO_534000.out))) (jba (w:=w) (g:=g) (row:=none) (Y5)));replace HO_534000:=am (Kd.R_elder' (rq HO_534000.out) (Kd.R_base ho0) hb);replace BK528:=am (je (g:=gb528) (o:=.cells #[.slice A1_0 l1_0.length c1_0] 37 (0,0)) (kq BK528.out) hb);replace BK529:=am (je (g:=gb529) (o:=.cells #[.slice none 0 0] 32 (0,0)) (kq BK529.out) hb);replace BK533:=am (je (g:=gb533) (o:=.cells #[.slice Ao88 x534000_2.length co88] 32 (0,0)) (kq BK533.out) hb);replace HK:=am (jd.trans (Y5) (jd.of_below hb g none) (.inl rfl));replace HB:=am (jf (Y8) hb);replace HI0:=am (jc.below (Y3) hb);(try clear hb);(try clear hb2);(try clear hk);(try clear hi);(try clear ho0);obtain ⟨Ao95,co95,eo95⟩:=Kd.jZ HO566.out;subst eo95;have hcz96_0:=bc0 BK533.out;have hfz96_0:=jb BK533.out 0))
           go_roundg kj37
           case measure=>have:=HK1.out;have:=HK2.out;have:=HJ37.out;omega
           case rel=>exact ⟨(wrap64 (x7_2 - 1)),(t561),(t564),(.slice Ao95 t564.length co95),(sq),H',⟨by have:=HK1.out;have:=HK2.out;have:=HJ37.out;omega⟩,⟨by (with_reducible repeat (first | apply Kd.jU | apply Kd.jW | apply Kd.jS));exact Kd.jH (Kd.jra (p:=⟨gb533,0,none⟩) (Kd.jN HO566.out BK533.out (by decide)) (fun _ hk=>hk.2) (.slice Ao95 t564.length co95)) (fun _ hk=>trivial)⟩,⟨by (with_reducible repeat (first | refine jh ?_ _ | refine jg ?_ | refine jk ?_ _));refine jO ?_ NB528_533.out _;(with_reducible repeat (first | refine jh ?_ _ | refine jg ?_ | refine jk ?_ _));exact BK528.out⟩,⟨by (with_reducible repeat (first | refine jh ?_ _ | refine jg ?_ | refine jk ?_ _));refine jO ?_ NB529_533.out _;(with_reducible repeat (first | refine jh ?_ _ | refine jg ?_ | refine jk ?_ _));exact BK529.out⟩,⟨by (with_reducible repeat (first | refine jh ?_ _ | refine jg ?_ | refine jk ?_ _));refine jya (cs:=#[.slice Ao88 x534000_2.length co88]) ?_ 0 _ rfl;(with_reducible repeat (first | refine jh ?_ _ | refine jg ?_ | refine jk ?_ _));exact BK533.out⟩,⟨Y3⟩,⟨Y5⟩,⟨Y8⟩⟩
        ·replace c45:=Bool.eq_false_iff.mpr c45
         subst c45
         have H1:(some (x534000_2,x1001_2))=some (r1,r2):=by rw [if_neg (show ¬ (false=true) by decide)] at H;exact H
         clear H
         have H:=H1
         clear H1
         simp only [Option.some.injEq,Prod.mk.injEq] at H
         obtain ⟨rfl,rfl⟩:=H
         have hnb97:=NB533_528.out
         have hnc97:=NB528_533.out
         have hnb98:=NB533_529.out
         have hnc98:=NB529_533.out
         have hnb99:=NB533_0.out
         have hnc99:=NB0_533.out
         have hcz100_0:=bc0 BK533.out
         have hfz100_0:=jb BK533.out 0
         obtain ⟨Ao101,co101,eo101⟩:=Kd.jZ HO_534000.out
         subst eo101
         have hnb102:=NB529_528.out
         have hnc102:=NB528_529.out
         have hnb103:=NB529_0.out
         have hnc103:=NB0_529.out
         have hcz104_0:=bc0 BK529.out
         have hfz104_0:=jb BK529.out 0
         go_wp2
         refine bodyPost_ret (results_cell_row rfl _ _ gb529 32 #[.slice Ao101 x534000_2.length co101] (0,0) _ rfl (by (with_reducible repeat (first | refine jh ?_ _ | refine jg ?_ | refine jk ?_ _));refine jya (cs:=#[.slice none 0 0]) ?_ 0 _ rfl;(with_reducible repeat (first | refine jh ?_ _ | refine jg ?_ | refine jk ?_ _));exact BK529.out) Try.underlying32 rfl (by kernel_rfl)) rfl ?_
         exact ⟨_,Y1,by (with_reducible repeat (first | apply Kd.jU | apply Kd.jW | apply Kd.jS));exact Kd.jH (Kd.jra (p:=⟨gb529,0,none⟩) (Kd.jN HO_534000.out BK529.out (by decide)) (fun _ hk=>hk.2) (.slice Ao101 x534000_2.length co101)) (fun _ hk=>trivial),Y3,Y8,Y5⟩
def jL.l0 : Nat → List ByteArray → Int → Int → List Int → Int → List (S94) → Option ((List (S94)) × Int)
 | 0,_,_,_,_,_,_=>none
 | k+1,x3,x5,x6,x1000,x1001,x575000=>if x6<x5 then (if 0≤x6 then (if x6<(x3.length:Int) then ((jl.f k x1000 x1001 x6).bind fun bt581=>((jv.f k x1000 bt581.2 (([0,bt581.1,wrap64 (x6 - 1)]:List Int))).bind fun bt586=>(if x575000.length<5864062014805 then (jL.l0 k x3 x5 (wrap64 (x6+1)) x1000 bt586.2 (x575000 ++ [(⟨rdOf ByteArray.empty x3 x6,bt586.1⟩:S94)])) else (none)))) else (none)) else (none)) else (some (x575000,x1001))
def jL.f (k : Nat) (s0_0 : List Int) (s0_1 : Int) : Option ((List (S94)) × Int) := (jv.f k s0_0 s0_1 (([4, 5, 3, 6, 2, 1, 8] : List Int))).bind fun bt578 => (jL.l0 k (([(⟨#[97, 110, 121]⟩ : ByteArray), (⟨#[105, 111]⟩ : ByteArray), (⟨#[107, 101, 121]⟩ : ByteArray), (⟨#[116, 105, 109, 101]⟩ : ByteArray), (⟨#[110, 101, 116]⟩ : ByteArray), (⟨#[100, 105, 115, 107]⟩ : ByteArray), (⟨#[116, 121, 112, 101]⟩ : ByteArray), (⟨#[111, 100, 100]⟩ : ByteArray)] : List ByteArray)) bt578.1 1 s0_0 bt578.2 (([(⟨(⟨#[97, 110, 121]⟩ : ByteArray), (-1)⟩ : S94)] : List (S94))))
def jL.T7 : Bool × List (List Nat × List Nat) := (true, [([], []), ([0], [0]), ([], []), ([], []), ([2, 3], [2, 3]), ([4], [4]), ([], []), ([], []), ([], []), ([7, 8], [7, 8]), ([], []), ([10], [10]), ([9, 11], [9, 11]), ([6, 12, 9], [6, 12]), ([5, 13], [5, 13]), ([14], [14]), ([1, 15, 13], [1, 15]), ([0, 1, 2, 3, 4, 5, 6, 7, 8, 9, 10, 11, 12, 13, 14, 15, 16], []), ([17, 16, 16, 0, 1, 2, 3, 4, 5, 6, 7, 8, 9, 10, 11, 12, 13, 14, 15, 16], [16, 17])])
def jL.B7 : List Nat := [0, 1, 0, 0, 12, 28, 0, 0, 0, 384, 0, 1024, 3968, 8128, 16380, 32764, 65535, 131071, 262143]
theorem jL.tab7 : rtab .any (opsOf Try.f105 7) = jL.T7 := by kernel_rfl
theorem jL.bits7 : jFb jL.T7.2 jL.B7 = true := by kernel_rfl
set_option maxHeartbeats 8000000 in
set_option maxRecDepth 100000 in
theorem jL.calls (k : Nat) (g : Nat) (s0_0 : List Int) (s0_1 : Int) (r1 : List (S94)) (r2 : Int) (w0 w : World) (hI : jc w0 w g s0_0 s0_1) (hB : Below w0.heap.size w0 w) (h : jL.f k s0_0 s0_1 = some (r1, r2)) :
  Calls Try.prog 105 #[.pointer (some ⟨g,0,none⟩)] w fun e w'=>∃ v0_:Value,e=.returned (.agg #[v0_])∧Kd.R k94 94 w' w.heap.size (fun _=>True) v0_ r1∧jc w0 w' g s0_0 r2∧Below w0.heap.size w0 w'∧jd w w' g none:=by
 have hu37:=Try.underlying37
 have hu94:=Try.underlying94
 have HI0:=am hI
 have HK:=am (jd.refl w g none)
 have HL:=am hB.size
 clear hI
 have HW0:=am hB.size
 have HB:=am hB
 clear hB
 have H:((jv.f k s0_0 s0_1 (([4,5,3,6,2,1,8]:List Int))).bind fun bt578=>(jL.l0 k (([(⟨#[97,110,121]⟩:ByteArray),(⟨#[105,111]⟩:ByteArray),(⟨#[107,101,121]⟩:ByteArray),(⟨#[116,105,109,101]⟩:ByteArray),(⟨#[110,101,116]⟩:ByteArray),(⟨#[100,105,115,107]⟩:ByteArray),(⟨#[116,121,112,101]⟩:ByteArray),(⟨#[111,100,100]⟩:ByteArray)]:List ByteArray)) bt578.1 1 s0_0 bt578.2 (([(⟨(⟨#[97,110,121]⟩:ByteArray),(-1)⟩:S94)]:List (S94)))))=some (r1,r2):=h
 clear h
 obtain ⟨y568,hy568⟩:∃ y_:List ByteArray,y_=(([(⟨#[97,110,121]⟩:ByteArray),(⟨#[105,111]⟩:ByteArray),(⟨#[107,101,121]⟩:ByteArray),(⟨#[116,105,109,101]⟩:ByteArray),(⟨#[110,101,116]⟩:ByteArray),(⟨#[100,105,115,107]⟩:ByteArray),(⟨#[116,121,112,101]⟩:ByteArray),(⟨#[111,100,100]⟩:ByteArray)]:List ByteArray)):=⟨_,rfl⟩
 replace H:((jv.f k s0_0 s0_1 (([4,5,3,6,2,1,8]:List Int))).bind fun bt578=>(jL.l0 k y568 bt578.1 1 s0_0 bt578.2 (([(⟨(⟨#[97,110,121]⟩:ByteArray),(-1)⟩:S94)]:List (S94)))))=some (r1,r2):=by first |(rw [hy568];with_reducible exact H) |(have H2_:=(Option.bind_some _ _).symm.trans H;rw [hy568];with_reducible exact H2_) |(have H2_:=(Option.bind_some _ _).symm.trans H;with_reducible exact H2_) | with_reducible exact H |(rw [hy568];exact H) | exact H
 have Ny568:=am hy568
 clear hy568
 obtain ⟨y571,hy571⟩:∃ y_:List (S94),y_=(([(⟨(⟨#[97,110,121]⟩:ByteArray),(-1)⟩:S94)]:List (S94))):=⟨_,rfl⟩
 replace H:((jv.f k s0_0 s0_1 (([4,5,3,6,2,1,8]:List Int))).bind fun bt578=>(jL.l0 k y568 bt578.1 1 s0_0 bt578.2 y571))=some (r1,r2):=by first |(rw [hy571];with_reducible exact H) |(have H2_:=(Option.bind_some _ _).symm.trans H;rw [hy571];with_reducible exact H2_) |(have H2_:=(Option.bind_some _ _).symm.trans H;with_reducible exact H2_) | with_reducible exact H |(rw [hy571];exact H) | exact H
 have Ny571:=am hy571
 clear hy571
 obtain ⟨y575,hy575⟩:∃ y_:List Int,y_=(([4,5,3,6,2,1,8]:List Int)):=⟨_,rfl⟩
 replace H:((jv.f k s0_0 s0_1 y575).bind fun bt578=>(jL.l0 k y568 bt578.1 1 s0_0 bt578.2 y571))=some (r1,r2):=by first |(rw [hy575];with_reducible exact H) |(have H2_:=(Option.bind_some _ _).symm.trans H;rw [hy575];with_reducible exact H2_) |(have H2_:=(Option.bind_some _ _).symm.trans H;with_reducible exact H2_) | with_reducible exact H |(rw [hy575];exact H) | exact H
 have Ny575:=am hy575
 clear hy575
 replace H:=bzS H
 obtain ⟨⟨t578,t579⟩,A20,H⟩:=H
 replace H:(jL.l0 k y568 t578 1 s0_0 t579 y571)=some (r1,r2):=H
 have A2:=am A20
 clear A20
 have H':=am H
 clear H
 go_enter Try.func105,Try.ntmps105
 go_wp2_with (first |((with_reducible refine jD (N:=2) rfl ?_);refine bE (N:=2) (cs:=#[.slice none 0 0]) (t:=37) ?_;intro gb567 hg w3 hbox hb;have BK567:=am (hbox);have GW567:=am ((Y6:w.heap.size≤gb567));have GE567:=am ((Nat.le_trans HW0.out (Y6:w.heap.size≤gb567):w0.heap.size≤gb567));have NB0_567:=am ((Y24:g≠gb567));have NB567_0:=am ((Y25:gb567≠g));replace HK:=am (jd.trans (Y13) (jd.of_below hb g none) (.inl rfl));replace HB:=am (jf (Y14) hb);replace HI0:=am (jc.below (Y12) hb);clear hb hbox hg) |((with_reducible refine jD (N:=7) rfl ?_);refine Kd.R_lit Kd.string _ 9 ?hg (N:=7) ?hd (xs:=([(⟨#[97,110,121]⟩:ByteArray),(⟨#[105,111]⟩:ByteArray),(⟨#[107,101,121]⟩:ByteArray),(⟨#[116,105,109,101]⟩:ByteArray),(⟨#[110,101,116]⟩:ByteArray),(⟨#[100,105,115,107]⟩:ByteArray),(⟨#[116,121,112,101]⟩:ByteArray),(⟨#[111,100,100]⟩:ByteArray)]:List ByteArray)) (inner:=[.string (⟨#[97,110,121]⟩:ByteArray), .string (⟨#[105,111]⟩:ByteArray), .string (⟨#[107,101,121]⟩:ByteArray), .string (⟨#[116,105,109,101]⟩:ByteArray), .string (⟨#[110,101,116]⟩:ByteArray), .string (⟨#[100,105,115,107]⟩:ByteArray), .string (⟨#[116,121,112,101]⟩:ByteArray), .string (⟨#[111,100,100]⟩:ByteArray)]) (ok:=fun _=>True) (okp:=fun _=>True) ?hr ?hp (fun _ hk=>hk) trivial (Below.refl _ _) (Nat.le_refl _) (by simp) ?_;(case hd=>rfl);(case hg=>rfl);(case hr=>exact Y4);(case hp=>exact (Reps.one (show Kd.M Kd.string _ _ _ (⟨#[97,110,121]⟩:ByteArray) [.string (⟨#[97,110,121]⟩:ByteArray)] from rfl) (Reps.one (show Kd.M Kd.string _ _ _ (⟨#[105,111]⟩:ByteArray) [.string (⟨#[105,111]⟩:ByteArray)] from rfl) (Reps.one (show Kd.M Kd.string _ _ _ (⟨#[107,101,121]⟩:ByteArray) [.string (⟨#[107,101,121]⟩:ByteArray)] from rfl) (Reps.one (show Kd.M Kd.string _ _ _ (⟨#[116,105,109,101]⟩:ByteArray) [.string (⟨#[116,105,109,101]⟩:ByteArray)] from rfl) (Reps.one (show Kd.M Kd.string _ _ _ (⟨#[110,101,116]⟩:ByteArray) [.string (⟨#[110,101,116]⟩:ByteArray)] from rfl) (Reps.one (show Kd.M Kd.string _ _ _ (⟨#[100,105,115,107]⟩:ByteArray) [.string (⟨#[100,105,115,107]⟩:ByteArray)] from rfl) (Reps.one (show Kd.M Kd.string _ _ _ (⟨#[116,121,112,101]⟩:ByteArray) [.string (⟨#[116,121,112,101]⟩:ByteArray)] from rfl) (Reps.one (show Kd.M Kd.string _ _ _ (⟨#[111,100,100]⟩:ByteArray) [.string (⟨#[111,100,100]⟩:ByteArray)] from rfl) (Reps.none _ _))))))))));intro v569 w4 ho5 hb hg_ hnew_;clear hg_ hnew_;(first | rw [← Ny568.out] at ho5 |(simp only [Int.reduceToNat] at ho5;rw [← Ny568.out] at ho5));have HO570:=am (Kd.jia ho5 (jba (w:=w) (g:=g) (row:=none) (Y84)));replace BK567:=am (je (g:=gb567) (o:=.cells #[.slice none 0 0] 37 (0,0)) (kq BK567.out) hb);replace HK:=am (jd.trans (Y84) (jd.of_below hb g none) (.inl rfl));replace HB:=am (jf (Y116) hb);replace HI0:=am (jc.below (Y117) hb);clear hb ho5) |((with_reducible refine jD (N:=9) rfl ?_);refine Kd.R_lit k94 _ 94 ?hg (N:=9) ?hd (xs:=([(⟨(⟨#[97,110,121]⟩:ByteArray),(-1)⟩:S94)]:List (S94))) (inner:=[.string (⟨#[97,110,121]⟩:ByteArray), .int .i64 (-1)]) (ok:=fun _=>True) (okp:=fun _=>True) ?hr ?hp (fun _ hk=>hk) trivial (Below.refl _ _) (Nat.le_refl _) (by simp) ?_;(case hd=>rfl);(case hg=>rfl);(case hr=>exact Y4);(case hp=>exact (Reps.c2 (show Kd.M k94 _ _ _ (⟨(⟨#[97,110,121]⟩:ByteArray),(-1)⟩:S94) [.string (⟨#[97,110,121]⟩:ByteArray), .int .i64 (-1)] from (k94_mkM _ _ _ (⟨(⟨#[97,110,121]⟩:ByteArray),(-1)⟩:S94) )) (Reps.none _ _)));intro v572 w6 ho7 hb hg_ hnew_;clear hg_ hnew_;(first | rw [← Ny571.out] at ho7 |(simp only [Int.reduceToNat] at ho7;rw [← Ny571.out] at ho7));have HO573:=am (Kd.jia ho7 (jba (w:=w) (g:=g) (row:=none) (Y84)));replace HO570:=am (Kd.jX (rq HO570.out) hb);replace BK567:=am (je (g:=gb567) (o:=.cells #[.slice none 0 0] 37 (0,0)) (kq BK567.out) hb);replace HK:=am (jd.trans (Y84) (jd.of_below hb g none) (.inl rfl));replace HB:=am (jf (Y116) hb);replace HI0:=am (jc.below (Y117) hb);clear hb ho7;obtain ⟨Ao8,co8,eo8⟩:=Kd.jZ HO573.out;subst eo8) |((with_reducible refine jD (N:=4) rfl ?_);refine bE (N:=4) (cs:=#[.slice none 0 0]) (t:=37) ?_;intro gb574 hg w9 hbox hb;have BK574:=am (hbox);have GW574:=am ((Y149:w.heap.size≤gb574));have GE574:=am ((Nat.le_trans HW0.out (Y149:w.heap.size≤gb574):w0.heap.size≤gb574));have NB567_574:=am ((by rw [hg];exact Nat.ne_of_lt (jca (g:=gb567) (o:=.cells #[.slice none 0 0] 37 (0,0)) (kq BK567.out)):gb567≠gb574));have NB574_567:=am ((by rw [hg];exact Nat.ne_of_gt (jca (g:=gb567) (o:=.cells #[.slice none 0 0] 37 (0,0)) (kq BK567.out)):gb574≠gb567));have NB0_574:=am ((by rw [hg];exact Nat.ne_of_lt (jc.lt (show jc w0 _ g s0_0 s0_1 from by repeat (first |(with_reducible first | exact HI0.out | apply jc.alloc | apply jc.drewN | apply jc.drew | apply jc.jeb | refine jc.far ?_ NB0_567.out _) | exact HI0.out))):g≠gb574));have NB574_0:=am ((by rw [hg];exact Nat.ne_of_gt (jc.lt (show jc w0 _ g s0_0 s0_1 from by repeat (first |(with_reducible first | exact HI0.out | apply jc.alloc | apply jc.drewN | apply jc.drew | apply jc.jeb | refine jc.far ?_ NB0_567.out _) | exact HI0.out))):gb574≠g));replace HO570:=am (Kd.jX (rq HO570.out) hb);replace HO573:=am (Kd.jX (rq HO573.out) hb);replace BK567:=am (je (g:=gb567) (o:=.cells #[.slice none 0 0] 37 (0,0)) (kq BK567.out) hb);replace HK:=am (jd.trans (Y84) (jd.of_below hb g none) (.inl rfl));replace HB:=am (jf (Y116) hb);replace HI0:=am (jc.below (Y117) hb);clear hb hbox hg;have hnb10:=NB574_567.out;have hnc10:=NB567_574.out;have hnb11:=NB574_0.out;have hnc11:=NB0_574.out;have hcz12_0:=bc0 BK574.out;have hfz12_0:=jb BK574.out 0) |((with_reducible refine jD (N:=12) rfl ?_);refine Kd.R_lit (Kd.int .i64) _ 3 ?hg (N:=12) ?hd (xs:=([4,5,3,6,2,1,8]:List Int)) (inner:=[.int .i64 4, .int .i64 5, .int .i64 3, .int .i64 6, .int .i64 2, .int .i64 1, .int .i64 8]) (ok:=fun _=>True) (okp:=fun _=>True) ?hr ?hp (fun _ hk=>hk) trivial (Below.refl _ _) (Nat.le_refl _) (by simp) ?_;(case hd=>rfl);(case hg=>rfl);(case hr=>exact Y4);(case hp=>exact (Reps.one (show Kd.M (Kd.int .i64) _ _ _ 4 [.int .i64 4] from rfl) (Reps.one (show Kd.M (Kd.int .i64) _ _ _ 5 [.int .i64 5] from rfl) (Reps.one (show Kd.M (Kd.int .i64) _ _ _ 3 [.int .i64 3] from rfl) (Reps.one (show Kd.M (Kd.int .i64) _ _ _ 6 [.int .i64 6] from rfl) (Reps.one (show Kd.M (Kd.int .i64) _ _ _ 2 [.int .i64 2] from rfl) (Reps.one (show Kd.M (Kd.int .i64) _ _ _ 1 [.int .i64 1] from rfl) (Reps.one (show Kd.M (Kd.int .i64) _ _ _ 8 [.int .i64 8] from rfl) (Reps.none _ _)))))))));intro v576 w13 ho14 hb hg_ hnew_;clear hg_ hnew_;(first | rw [← Ny575.out] at ho14 |(simp only [Int.reduceToNat] at ho14;rw [← Ny575.out] at ho14));have HO577:=am (Kd.jia ho14 (jba (w:=w) (g:=g) (row:=none) (Y29)));replace HO570:=am (Kd.jX (by (with_reducible repeat (first | apply Kd.jU | apply Kd.jW | apply Kd.jS));exact (Kd.jH (Kd.jra (p:=⟨gb574,0,none⟩) (Kd.jN HO570.out BK574.out (by decide)) (fun _ hk=>hk.2) (.slice Ao8 y571.length co8)) (fun _ h_=>h_.1))) hb);replace HO573:=am (Kd.jX (by (with_reducible repeat (first | apply Kd.jU | apply Kd.jW | apply Kd.jS));exact (Kd.jH (Kd.jra (p:=⟨gb574,0,none⟩) (Kd.jN HO573.out BK574.out (by decide)) (fun _ hk=>hk.2) (.slice Ao8 y571.length co8)) (fun _ h_=>h_.1))) hb);replace BK567:=am (je (g:=gb567) (o:=.cells #[.slice none 0 0] 37 (0,0)) (by (with_reducible repeat (first | refine jh ?_ _ | refine jg ?_ | refine jk ?_ _));refine jO ?_ NB567_574.out _;(with_reducible repeat (first | refine jh ?_ _ | refine jg ?_ | refine jk ?_ _));exact BK567.out) hb);replace BK574:=am (je (g:=gb574) (o:=.cells #[.slice Ao8 y571.length co8] 37 (0,0)) (by (with_reducible repeat (first | refine jh ?_ _ | refine jg ?_ | refine jk ?_ _));refine jya (cs:=#[.slice none 0 0]) ?_ 0 _ rfl;(with_reducible repeat (first | refine jh ?_ _ | refine jg ?_ | refine jk ?_ _));exact BK574.out) hb);replace HK:=am (jd.trans (Y29) (jd.of_below hb g none) (.inl rfl));replace HB:=am (jf (Y40) hb);replace HI0:=am (jc.below (show jc w0 (w9.setCell ⟨gb574,0,none⟩ (.slice Ao8 y571.length co8)) g s0_0 s0_1 from Y26) hb);clear hb ho14;obtain ⟨Ao15,co15,eo15⟩:=Kd.jZ HO577.out;subst eo15) |((with_reducible refine jy (f:=89) rfl ?_);refine gL (some 13) Try.func89 #[.pointer (some ⟨g,0,none⟩), .slice Ao15 y575.length co15] ?_;(with_reducible refine (jv.calls k g s0_0 s0_1 _ _ y575 t578 t579 w0 _ ?side1 ?side2 ?side3 ?side4 ?side5 A2.out).mono ?_);(case side1=>exact Y26);(case side2=>exact Y40);(case side3=>exact cq (Kd.jB HO577.out).2.2);(case side4=>exact (Kd.jB HO577.out).2.1);(case side5=>exact jnb (jc.own_ne HI0.out HO577.out (by decide)));rintro e w16 ⟨rfl,hi,hb,hk⟩;refine ⟨_,rfl,?_⟩;replace BK567:=am (jd.blk hk (g':=gb567) (o:=.cells #[.slice none 0 0] 37 (0,0)) (kq BK567.out) NB567_0.out (by simp));replace HO570:=am (Kd.jH (Kd.jla (jc.apart (show jc w0 _ g s0_0 s0_1 from Y26) (rq HO570.out) (by decide)) hk (fun _ h=>h.2)) (fun _ h=>h.1));replace HO573:=am (Kd.jH (Kd.jla (jc.apart (show jc w0 _ g s0_0 s0_1 from Y26) (rq HO573.out) (by decide)) hk (fun _ h=>h.2)) (fun _ h=>h.1));replace BK574:=am (jd.blk hk (g':=gb574) (o:=.cells #[.slice Ao8 y571.length co8] 37 (0,0)) (kq BK574.out) NB574_0.out (by simp));replace HO577:=am (Kd.jH (Kd.jla (jc.apart (show jc w0 _ g s0_0 s0_1 from Y26) (rq HO577.out) (by decide)) hk (fun _ h=>h.2)) (fun _ h=>h.1));replace HK:=am (jd.trans (Y29) hk (.inl rfl));replace HB:=am (hb);replace HI0:=am (hi);(try clear hb);(try clear hb2);(try clear hk);(try clear hi)))
 go_loopg [6] k (fun kq v6 w'=>∃ (x6_1:Int) (x1001_1:Int) (x575000_1:List (S94)) (u575000:Value),v6=.int .i64 x6_1∧jC (jL.l0 kq y568 t578 x6_1 s0_0 x1001_1 x575000_1=some (r1,r2))∧jC (kq≤k)∧jC (Kd.R Kd.string 9 w' w.heap.size (fun _=>True) v569 y568)∧jC (Kd.R k94 94 w' w.heap.size (fun _=>True) u575000 x575000_1)∧jC (w'.heap[gb567]?=some (.cells #[(.slice none 0 0)] 37 (0,0)))∧jC (w'.heap[gb574]?=some (.cells #[u575000] 37 (0,0)))∧jC (jc w0 w' g s0_0 x1001_1)∧jC (jd w w' g none)∧jC (Below w0.heap.size w0 w'))
 case atStart=>exact ⟨(1),(t579),(y571),(.slice Ao8 y571.length co8),(sq),H',⟨Nat.le_refl _⟩,⟨rq HO570.out⟩,⟨rq HO573.out⟩,⟨kq BK567.out⟩,⟨kq BK574.out⟩,⟨Y26⟩,⟨Y29⟩,⟨Y40⟩⟩
 case round =>
  clear H'
  try clear c1
  try clear c2
  try clear p2
  try clear c8
  try clear c10
  try clear c11
  try clear hcz12_0
  try clear hfz12_0
  obtain ⟨x6_1,x1001_1,x575000_1,u575000,rfl,HA,HK1,HO_3,HO_575000,BK567,BK574,HI0,HK,HB⟩:=hrel
  cases gk with
  | zero=>exact absurd HA.out (by simp [jL.l0])
  | succ k1 =>
   have H:=HA.out
   clear HA
   simp only [jL.l0] at H
   by_cases c17:x6_1<t578
   ·rw [if_pos c17] at H
    have c17b0:decide (x6_1<t578)=true:=dzT c17
    clear c17
    by_cases c18:0≤x6_1
    ·rw [if_pos c18] at H
     have c18b0:decide (0≤x6_1)=true:=dzT c18
     clear c18
     by_cases c19:x6_1<(y568.length:Int)
     ·rw [if_pos c19] at H
      have c19b0:decide (x6_1<(y568.length:Int))=true:=dzT c19
      clear c19
      replace H:=bzS H
      obtain ⟨⟨t581,t582⟩,A200,H⟩:=H
      replace H:((jv.f k1 s0_0 t582 (([0,t581,wrap64 (x6_1 - 1)]:List Int))).bind fun bt586=>(if x575000_1.length<5864062014805 then (jL.l0 k1 y568 t578 (wrap64 (x6_1+1)) s0_0 bt586.2 (x575000_1 ++ [(⟨rdOf ByteArray.empty y568 x6_1,bt586.1⟩:S94)])) else (none)))=some (r1,r2):=H
      have A20:=am A200
      clear A200
      obtain ⟨y583,hy583⟩:∃ y_:List Int,y_=(([0,t581,wrap64 (x6_1 - 1)]:List Int)):=⟨_,rfl⟩
      replace H:((jv.f k1 s0_0 t582 y583).bind fun bt586=>(if x575000_1.length<5864062014805 then (jL.l0 k1 y568 t578 (wrap64 (x6_1+1)) s0_0 bt586.2 (x575000_1 ++ [(⟨rdOf ByteArray.empty y568 x6_1,bt586.1⟩:S94)])) else (none)))=some (r1,r2):=by first |(rw [hy583];with_reducible exact H) |(have H2_:=(Option.bind_some _ _).symm.trans H;rw [hy583];with_reducible exact H2_) |(have H2_:=(Option.bind_some _ _).symm.trans H;with_reducible exact H2_) | with_reducible exact H |(rw [hy583];exact H) | exact H
      have Ny583:=am hy583
      clear hy583
      replace H:=bzS H
      obtain ⟨⟨t586,t587⟩,A210,H⟩:=H
      replace H:(if x575000_1.length<5864062014805 then (jL.l0 k1 y568 t578 (wrap64 (x6_1+1)) s0_0 t587 (x575000_1 ++ [(⟨rdOf ByteArray.empty y568 x6_1,t586⟩:S94)])) else (none))=some (r1,r2):=H
      have A21:=am A210
      clear A210
      by_cases c22:x575000_1.length<5864062014805
      ·rw [if_pos c22] at H
       have LMc22:=am c22
       clear c22
       obtain ⟨y588,hy588⟩:∃ y_:List (S94),y_=(x575000_1 ++ [(⟨rdOf ByteArray.empty y568 x6_1,t586⟩:S94)]):=⟨_,rfl⟩
       replace H:(jL.l0 k1 y568 t578 (wrap64 (x6_1+1)) s0_0 t587 y588)=some (r1,r2):=by first |(rw [hy588];with_reducible exact H) |(have H2_:=(Option.bind_some _ _).symm.trans H;rw [hy588];with_reducible exact H2_) |(have H2_:=(Option.bind_some _ _).symm.trans H;with_reducible exact H2_) | with_reducible exact H |(rw [hy588];exact H) | exact H
       have Ny588:=am hy588
       clear hy588
       have H':=am H
       clear H
       try go_wp2
       replace HO_3:=am (Kd.jS HO_3.out)
       replace HO_575000:=am (Kd.jS HO_575000.out)
       replace BK567:=am (jg BK567.out)
       replace BK574:=am (jg BK574.out)
       replace HI0:=am (jc.drew HI0.out)
       replace HK:=am (jV HK.out)
       replace HB:=am (jr HB.out)
       obtain ⟨Ao24,co24,eo24⟩:=Kd.jZ HO_3.out
       (first | subst eo24 |(injection eo24 with f1_ f2_ f3_;have f4_:=f1_.symm;have f5_:=f3_.symm;clear f1_ f2_ f3_;subst f4_;subst f5_))
       have p580:0≤(x6_1:Int):=ozD (uq)
       have q580:x6_1<(y568.length:Int):=ozD (uq)
       obtain ⟨ad580,e580,hx580_0⟩:=Kd.at_string (Kd.jB HO_3.out).2.2 x6_1 p580 q580
       cases e580
       replace p580:=ezT p580
       replace q580:=ezT q580
       refine jLb (n:=19) (S:=fun w'=>w'.cell? ⟨gb574,0,none⟩=some (u575000)∧w'.cell? (ad580.add (x6_1).toNat)=some (.string (rdOf ByteArray.empty y568 x6_1))) (ds:=[16,18]) #[false,false,false,false,false,false,false,false,false,false,false,false,false,false,false,false,false,false,false] (by kernel_rfl) rfl rfl ⟨(jG BK574.out 0).trans rfl,hx580_0⟩ (fun hHeld=>?_);refine jyb jL.tab7 jL.bits7 (fun HT_ HW_=>?_)
       generalize wr.drew=w23 at HO_3 HO_575000 BK567 BK574 HI0 HK HB hx580_0 hHeld ⊢
       refine pq (i:=0) (N:=some 19) #[true,false,false,false,false,false,false,false,false,false,false,false,false,false,false,false,false,false,false] ?_
       refine pq (i:=2) (N:=some 21) #[true,false,true,false,false,false,false,false,false,false,false,false,false,false,false,false,false,false,false] ?_
       refine pq (i:=3) (N:=some 22) #[true,false,true,true,false,false,false,false,false,false,false,false,false,false,false,false,false,false,false] ?_
       refine pq (i:=4) (N:=some 23) #[true,false,true,true,true,false,false,false,false,false,false,false,false,false,false,false,false,false,false] ?_
       refine pq (i:=6) (N:=some 25) #[true,false,true,true,true,false,true,false,false,false,false,false,false,false,false,false,false,false,false] ?_
       refine pq (i:=7) (N:=some 26) #[true,false,true,true,true,false,true,true,false,false,false,false,false,false,false,false,false,false,false] ?_
       refine pq (i:=8) (N:=some 27) #[true,false,true,true,true,false,true,true,true,false,false,false,false,false,false,false,false,false,false] ?_
       refine pq (i:=10) (N:=some 29) #[true,false,true,true,true,false,true,true,true,false,true,false,false,false,false,false,false,false,false] ?_
       refine pq (i:=11) (N:=some 30) #[true,false,true,true,true,false,true,true,true,false,true,true,false,false,false,false,false,false,false] ?_
       refine jzb (i:=1) (N:=some 20) (v:=?_) (a':=?_) #[true,true,true,true,true,false,true,true,true,false,true,true,false,false,false,false,false,false,false] rfl rfl (jgb HT_.out HW_.out (by kernel_rfl)) (fun _ _ _ h=>h) (Or.inl ⟨by rfl,?_⟩) hHeld ?_ ?_
       rotate_left
       ·rintro w' ⟨s0,s1⟩
        go_simp
        with_reducible rfl
       rotate_left
       ·exact sa
       refine jzb (i:=5) (N:=some 24) (v:=?_) (a':=?_) #[true,true,true,true,true,true,true,true,true,false,true,true,false,false,false,false,false,false,false] rfl rfl (jgb HT_.out HW_.out (by kernel_rfl)) (fun _ _ _ h=>h) (Or.inl ⟨by rfl,?_⟩) hHeld ?_ ?_
       rotate_left
       ·rintro w' ⟨s0,s1⟩
        go_simp
        with_reducible rfl
       rotate_left
       ·exact sa
       refine one_ (i:=9) (N:=some 28) #[true,true,true,true,true,true,true,true,true,true,true,true,false,false,false,false,false,false,false] rfl rfl (jbb HT_.out (by kernel_rfl)) (by decide) (fun K hK=>?_)
       refine goes_ Try.func88 (by kernel_rfl) rfl #[.pointer (some ⟨g,0,none⟩), .int .i64 x6_1] (by rfl) rfl rfl (aq) ?_
       with_reducible refine (jl.calls k1 g s0_0 x1001_1 x6_1 t581 t582 w0 _ ?side1 ?side2 A20.out).mono ?_
       (case side1=>exact Y26)
       (case side2=>exact Y40)
       rintro e w25 ⟨rfl,hi,hb,hk⟩
       have HS1_:=keep_cell hk (hHeld.2) (Y150)
       refine ⟨_,rfl,?_⟩
       replace HO_3:=am (Kd.jH (Kd.jla (jc.apart (show jc w0 _ g s0_0 x1001_1 from Y26) (rq HO_3.out) (by decide)) hk (fun _ h=>h.2)) (fun _ h=>h.1))
       replace HO_575000:=am (Kd.jH (Kd.jla (jc.apart (show jc w0 _ g s0_0 x1001_1 from Y26) (rq HO_575000.out) (by decide)) hk (fun _ h=>h.2)) (fun _ h=>h.1))
       replace BK567:=am (jd.blk hk (g':=gb567) (o:=.cells #[.slice none 0 0] 37 (0,0)) (kq BK567.out) NB567_0.out (by simp))
       replace BK574:=am (jd.blk hk (g':=gb574) (o:=.cells #[u575000] 37 (0,0)) (kq BK574.out) NB574_0.out (by simp))
       replace HK:=am (jd.trans (Y29) hk (.inl rfl))
       replace HB:=am (hb)
       replace HI0:=am (hi)
       (try clear hb)
       (try clear hb2)
       (try clear hk)
       (try clear hi)
       refine hK.out _ _ ⟨(jG BK574.out 0).trans rfl,HS1_⟩ (fun hHeld=>?_)
       clear hK K
       refine jJb (a':=?_) ?_ ?_
       rotate_left
       ·show Act.put _ (some 28) _=_
        simp only [Act.put,List.setIfInBounds_toArray,List.set_cons_zero,List.set_cons_succ,job,jsb]
        rfl
       refine one_ (i:=12) (N:=some 31) #[true,true,true,true,true,true,true,true,true,true,true,true,true,false,false,false,false,false,false] rfl rfl (jbb HT_.out (by kernel_rfl)) (by decide) (fun K hK=>?_)
       refine Kd.jDb (Kd.int .i64) _ 3 ?hg (N:=31) ?hd (xs:=([0,t581,wrap64 (x6_1 - 1)]:List Int)) (inner:=[.int .i64 0, .int .i64 t581, .int .i64 (wrap64 (x6_1 - 1))]) (ok:=fun _=>True) (okp:=fun _=>True) ?hr ?hp (fun _ hk=>hk) trivial (Below.refl _ _) (Nat.le_refl _) (by simp) ?_;(case hd=>rfl);(case hg=>rfl);(case hr=>exact Y4);(case hp=>exact (Reps.one (show Kd.M (Kd.int .i64) _ _ _ 0 [.int .i64 0] from rfl) (Reps.one (show Kd.M (Kd.int .i64) _ _ _ t581 [.int .i64 t581] from rfl) (Reps.one (show Kd.M (Kd.int .i64) _ _ _ (wrap64 (x6_1 - 1)) [.int .i64 (wrap64 (x6_1 - 1))] from rfl) (Reps.none _ _)))))
       intro v584 w26 ho27 hb hg_ hnew_
       have HS1_:=(hb.cell (World.block_lt_of_cell? _ _ (hHeld.2))).trans (hHeld.2)
       clear hg_ hnew_
       (first | rw [← Ny583.out] at ho27 |(simp only [Int.reduceToNat] at ho27;rw [← Ny583.out] at ho27))
       have HO585:=am (Kd.jia ho27 (jba (w:=w) (g:=g) (row:=none) (Y29)))
       replace HO_3:=am (Kd.jX (rq HO_3.out) hb)
       replace HO_575000:=am (Kd.jX (rq HO_575000.out) hb)
       replace BK567:=am (je (g:=gb567) (o:=.cells #[.slice none 0 0] 37 (0,0)) (kq BK567.out) hb)
       replace BK574:=am (je (g:=gb574) (o:=.cells #[u575000] 37 (0,0)) (kq BK574.out) hb)
       replace HK:=am (jd.trans (Y29) (jd.of_below hb g none) (.inl rfl))
       replace HB:=am (jf (Y40) hb)
       replace HI0:=am (jc.below (Y26) hb)
       clear hb ho27
       obtain ⟨Ao28,co28,eo28⟩:=Kd.jZ HO585.out
       (first | subst eo28 |(injection eo28 with f1_ f2_ f3_;have f4_:=f1_.symm;have f5_:=f3_.symm;clear f1_ f2_ f3_;subst f4_;subst f5_))
       refine hK.out _ _ ⟨(jG BK574.out 0).trans rfl,HS1_⟩ (fun hHeld=>?_)
       clear hK K
       refine jJb (a':=?_) ?_ ?_
       rotate_left
       ·show Act.put _ (some 31) _=_
        simp only [Act.put,List.setIfInBounds_toArray,List.set_cons_zero,List.set_cons_succ,job,jsb]
        rfl
       refine one_ (i:=13) (N:=some 32) #[true,true,true,true,true,true,true,true,true,true,true,true,true,true,false,false,false,false,false] rfl rfl (jbb HT_.out (by kernel_rfl)) (by decide) (fun K hK=>?_)
       refine goes_ Try.func89 (by kernel_rfl) rfl #[.pointer (some ⟨g,0,none⟩), .slice Ao28 y583.length co28] (by rfl) rfl rfl (aq) ?_
       with_reducible refine (jv.calls k1 g s0_0 t582 _ _ y583 t586 t587 w0 _ ?side1 ?side2 ?side3 ?side4 ?side5 A21.out).mono ?_
       (case side1=>exact Y26)
       (case side2=>exact Y40)
       (case side3=>exact cq (Kd.jB HO585.out).2.2)
       (case side4=>exact (Kd.jB HO585.out).2.1)
       (case side5=>exact jnb (jc.own_ne HI0.out HO585.out (by decide)))
       rintro e w29 ⟨rfl,hi,hb,hk⟩
       have HS1_:=keep_cell hk (hHeld.2) (Y150)
       refine ⟨_,rfl,?_⟩
       replace HO_3:=am (Kd.jH (Kd.jla (jc.apart (show jc w0 _ g s0_0 t582 from Y26) (rq HO_3.out) (by decide)) hk (fun _ h=>h.2)) (fun _ h=>h.1))
       replace HO_575000:=am (Kd.jH (Kd.jla (jc.apart (show jc w0 _ g s0_0 t582 from Y26) (rq HO_575000.out) (by decide)) hk (fun _ h=>h.2)) (fun _ h=>h.1))
       replace BK567:=am (jd.blk hk (g':=gb567) (o:=.cells #[.slice none 0 0] 37 (0,0)) (kq BK567.out) NB567_0.out (by simp))
       replace BK574:=am (jd.blk hk (g':=gb574) (o:=.cells #[u575000] 37 (0,0)) (kq BK574.out) NB574_0.out (by simp))
       replace HO585:=am (Kd.jH (Kd.jla (jc.apart (show jc w0 _ g s0_0 t582 from Y26) (rq HO585.out) (by decide)) hk (fun _ h=>h.2)) (fun _ h=>h.1))
       replace HK:=am (jd.trans (Y29) hk (.inl rfl))
       replace HB:=am (hb)
       replace HI0:=am (hi)
       (try clear hb)
       (try clear hb2)
       (try clear hk)
       (try clear hi)
       refine hK.out _ _ ⟨(jG BK574.out 0).trans rfl,HS1_⟩ (fun hHeld=>?_)
       clear hK K
       refine jJb (a':=?_) ?_ ?_
       rotate_left
       ·show Act.put _ (some 32) _=_
        simp only [Act.put,List.setIfInBounds_toArray,List.set_cons_zero,List.set_cons_succ,job,jsb]
        rfl
       refine pq (i:=14) (N:=some 33) #[true,true,true,true,true,true,true,true,true,true,true,true,true,true,true,false,false,false,false] ?_
       refine one_ (i:=15) (N:=some 34) #[true,true,true,true,true,true,true,true,true,true,true,true,true,true,true,true,false,false,false] rfl rfl (jbb HT_.out (by kernel_rfl)) (by decide) (fun K hK=>?_)
       refine value_ (w1:=?_) (v:=?_) (by rfl) rfl ?_ ?_
       rotate_left 2
       ·go_simp
        constructor
        ·rfl
        ·rfl
       refine hK.out _ _ ⟨(jG (jk BK574.out _) 0).trans rfl,(World.cell?_alloc_lt _ _ _ (World.block_lt_of_cell? _ _ (hHeld.2))).trans (hHeld.2)⟩ (fun hHeld=>?_)
       clear hK K
       refine jJb (a':=?_) ?_ ?_
       rotate_left
       ·show Act.put _ (some 34) _=_
        simp only [Act.put,List.setIfInBounds_toArray,List.set_cons_zero,List.set_cons_succ,job,jsb]
        rfl
       refine last_ (i:=16) (N:=some 35) #[true,true,true,true,true,true,true,true,true,true,true,true,true,true,true,true,true,false,false] rfl rfl (jbb HT_.out (by kernel_rfl)) (by decide) (fun K hK=>?_)
       refine Kd.R_append_step k94 w.heap.size (by rfl) (.tmp 20) (.tmp 34) 35 94 (.agg #[(.string ⟨#[]⟩),(.int .i64 0)]) 24 rfl Try.underlying35 info94 rfl (by decide) (by omega) u575000 x575000_1 (⟨rdOf ByteArray.empty y568 x6_1,t586⟩:S94) [.string (rdOf ByteArray.empty y568 x6_1), .int .i64 t586] (fun _=>True) (fun _=>False) rfl rfl ?aP (fun _ hk=>hk.elim) ?aF ?aO (Below.refl _ _) ?aS ?aL ?_
       (case aP=>exact k94_mkM _ _ _ (⟨rdOf ByteArray.empty y568 x6_1,t586⟩:S94))
       (case aF=>exact (fun _ _=>trivial))
       (case aO=>exact (rq HO_575000.out))
       (case aS=>exact (jba (w:=w) (g:=g) (row:=none) (Y29)))
       (case aL=>have:=LMc22.out;omega)
       intro v589 w30 ho hb hg hat
       rw [← Ny588.out] at ho
       have n0_:=am (Kd.R_over' (rq HO_3.out) (Kd.R_typed (rq HO_575000.out)) (by decide) hg)
       have n1_:=am (jCa (g:=gb567) (o:=.cells #[.slice none 0 0] 37 (0,0)) (kq BK567.out) hg (Kd.R_ne HO_575000.out BK567.out (by decide)))
       have n2_:=am (jCa (g:=gb574) (o:=.cells #[u575000] 37 (0,0)) (kq BK574.out) hg (Kd.R_ne HO_575000.out BK574.out (by decide)))
       have n3_:=am (jc.grown (Y26) hg (jc.own_ne HI0.out HO_575000.out (by decide)))
       have n4_:=am (Kd.R_over' (rq HO585.out) (Kd.R_typed (rq HO_575000.out)) (by decide) hg)
       have n5_:=am (below_weaken (Y40) HL.out hb)
       have n6_:=am (jd.trans (Y29) (jd.of_grown hg g) (Kd.R_base2 HO_575000.out))
       have n7_:=am (ho)
       clear HO_3
       clear BK567
       clear BK574
       clear HI0
       clear HO585
       clear HB
       clear HK
       clear HO_575000
       have HO_3:=n0_
       have BK567:=n1_
       have BK574:=n2_
       have HI0:=n3_
       have HO585:=n4_
       have HB:=n5_
       have HK:=n6_
       have HO590:=n7_
       clear n0_ n1_ n2_ n3_ n4_ n5_ n6_ n7_
       clear ho hb hg hat
       obtain ⟨Ao31,co31,eo31⟩:=Kd.jZ HO590.out
       (first | subst eo31 |(injection eo31 with f1_ f2_ f3_;have f4_:=f1_.symm;have f5_:=f3_.symm;clear f1_ f2_ f3_;subst f4_;subst f5_))
       refine hK.out _ _ ?_
       clear hK K
       refine jJb (a':=?_) ?_ ?_
       rotate_left
       ·show Act.put _ (some 35) _=_
        simp only [Act.put,List.setIfInBounds_toArray,List.set_cons_zero,List.set_cons_succ,job,jsb]
        rfl
       refine pq (i:=17) (N:=some 36) #[true,true,true,true,true,true,true,true,true,true,true,true,true,true,true,true,true,true,false] ?_
       refine last_ (i:=18) (N:=none) #[true,true,true,true,true,true,true,true,true,true,true,true,true,true,true,true,true,true,true] rfl rfl (jbb HT_.out (by kernel_rfl)) (by decide) (fun K hK=>?_)
       have hs32:w30.cell? ⟨gb574,0,none⟩=some (u575000):=(jG BK574.out 0).trans rfl
       have hfs32:=jb BK574.out 0
       have hns32_0:=NB567_574.out
       have hms32_0:=NB574_567.out
       refine jPb (w1:=?_) (by rfl) rfl ?_ ?_
       rotate_left
       ·go_simp
        rfl
       refine hK.out _ _ ?_
       clear hK K
       refine done_ (jUb HT_.out (by kernel_rfl)) ?_
       try go_wp2
       go_roundg k1
       case measure=>have:=HK1.out;omega
       case rel=>exact ⟨(wrap64 (x6_1+1)),(t587),(y588),(.slice Ao31 y588.length co31),(sq),H',⟨by have:=HK1.out;omega⟩,⟨by (with_reducible repeat (first | apply Kd.jU | apply Kd.jW | apply Kd.jS));exact Kd.jH (Kd.jra (p:=⟨gb574,0,none⟩) (Kd.jN HO_3.out BK574.out (by decide)) (fun _ hk=>hk.2) (.slice Ao31 y588.length co31)) (fun _ hk=>trivial)⟩,⟨by (with_reducible repeat (first | apply Kd.jU | apply Kd.jW | apply Kd.jS));exact Kd.jH (Kd.jra (p:=⟨gb574,0,none⟩) (Kd.jN HO590.out BK574.out (by decide)) (fun _ hk=>hk.2) (.slice Ao31 y588.length co31)) (fun _ hk=>trivial)⟩,⟨by (with_reducible repeat (first | refine jh ?_ _ | refine jg ?_ | refine jk ?_ _));refine jO ?_ NB567_574.out _;(with_reducible repeat (first | refine jh ?_ _ | refine jg ?_ | refine jk ?_ _));exact BK567.out⟩,⟨by (with_reducible repeat (first | refine jh ?_ _ | refine jg ?_ | refine jk ?_ _));refine jya (cs:=#[u575000]) ?_ 0 _ rfl;(with_reducible repeat (first | refine jh ?_ _ | refine jg ?_ | refine jk ?_ _));exact BK574.out⟩,⟨Y26⟩,⟨Y29⟩,⟨Y40⟩⟩
      ·rw [if_neg c22] at H
       exact absurd H (by simp)
     ·rw [if_neg c19] at H
      exact absurd H (by simp)
    ·rw [if_neg c18] at H
     exact absurd H (by simp)
   ·rw [if_neg c17] at H
    have c17b0:decide (x6_1<t578)=false:=dzF c17
    clear c17
    simp only [Option.some.injEq,Prod.mk.injEq] at H
    obtain ⟨rfl,rfl⟩:=H
    have hnb33:=NB574_567.out
    have hnc33:=NB567_574.out
    have hnb34:=NB574_0.out
    have hnc34:=NB0_574.out
    have hcz35_0:=bc0 BK574.out
    have hfz35_0:=jb BK574.out 0
    obtain ⟨Ao36,co36,eo36⟩:=Kd.jZ HO_575000.out
    subst eo36
    have hnb37:=NB567_0.out
    have hnc37:=NB0_567.out
    have hcz38_0:=bc0 BK567.out
    have hfz38_0:=jb BK567.out 0
    go_wp2
    refine bodyPost_ret (results_cell_row rfl _ _ gb567 37 #[.slice Ao36 x575000_1.length co36] (0,0) _ rfl (by (with_reducible repeat (first | refine jh ?_ _ | refine jg ?_ | refine jk ?_ _));refine jya (cs:=#[.slice none 0 0]) ?_ 0 _ rfl;(with_reducible repeat (first | refine jh ?_ _ | refine jg ?_ | refine jk ?_ _));exact BK567.out) Try.underlying37 rfl (by kernel_rfl)) rfl ?_
    exact ⟨_,Y1,by (with_reducible repeat (first | apply Kd.jU | apply Kd.jW | apply Kd.jS));exact Kd.jH (Kd.jra (p:=⟨gb567,0,none⟩) (Kd.jN HO_575000.out BK567.out (by decide)) (fun _ hk=>hk.2) (.slice Ao36 x575000_1.length co36)) (fun _ hk=>trivial),Y26,Y40,Y29⟩
def jMa.f (k : Nat) (s0_0 : List Int) (s0_1 : Int) (l1 : List ByteArray) : Option (ByteArray × Int) := (jl.f k s0_0 s0_1 (l1.length : Int)).bind fun bt591 => (if 0 ≤ bt591.1 then (if bt591.1 < (l1.length : Int) then (some (rdOf ByteArray.empty l1 bt591.1, bt591.2)) else (none)) else (none))
set_option maxHeartbeats 8000000 in
set_option maxRecDepth 100000 in
theorem jMa.calls (k : Nat) (g : Nat) (s0_0 : List Int) (s0_1 : Int) (A1 : Option Addr) (c1 : Nat) (l1 : List ByteArray) (r1 : ByteArray) (r2 : Int) (w0 w : World) (hI : jc w0 w g s0_0 s0_1) (hB : Below w0.heap.size w0 w) (hr1 : Kd.C Kd.string w A1 l1.length l1) (hc1 : l1.length ≤ c1) (hf1 : ∀ ad, A1 = some ad → 0 < l1.length → ad.block ≠ g) (h : jMa.f k s0_0 s0_1 l1 = some (r1, r2)) :
  Calls Try.prog 106 #[.pointer (some ⟨g,0,none⟩), .slice A1 l1.length c1] w fun e w'=>e=.returned (.string r1)∧jc w0 w' g s0_0 r2∧Below w0.heap.size w0 w'∧jd w w' g none:=by
 have HR1:=am hr1
 have HC1:=am hc1
 clear hr1 hc1
 have HI0:=am hI
 have HK:=am (jd.refl w g none)
 have HL:=am hB.size
 clear hI
 have HW0:=am hB.size
 have HB:=am hB
 clear hB
 have H:((jl.f k s0_0 s0_1 (l1.length:Int)).bind fun bt591=>(if 0≤bt591.1 then (if bt591.1<(l1.length:Int) then (some (rdOf ByteArray.empty l1 bt591.1,bt591.2)) else (none)) else (none)))=some (r1,r2):=h
 clear h
 replace H:=bzS H
 obtain ⟨⟨t591,t592⟩,A30,H⟩:=H
 replace H:(if 0≤t591 then (if t591<(l1.length:Int) then (some (rdOf ByteArray.empty l1 t591,t592)) else (none)) else (none))=some (r1,r2):=H
 have A3:=am A30
 clear A30
 by_cases c4:0≤t591
 ·rw [if_pos c4] at H
  have c4b0:decide (0≤t591)=true:=dzT c4
  clear c4
  by_cases c5:t591<(l1.length:Int)
  ·rw [if_pos c5] at H
   have c5b0:decide (t591<(l1.length:Int))=true:=dzT c5
   clear c5
   simp only [Option.some.injEq,Prod.mk.injEq] at H
   obtain ⟨rfl,rfl⟩:=H
   go_enter Try.func106,Try.ntmps106
   go_wp2_with (first |((with_reducible refine jy (f:=88) rfl ?_);refine gL (some 9) Try.func88 #[.pointer (some ⟨g,0,none⟩), .int .i64 (l1.length:Int)] ?_;(with_reducible refine (jl.calls k g s0_0 s0_1 (l1.length:Int) t591 t592 w0 _ ?side1 ?side2 A3.out).mono ?_);(case side1=>exact Y12);(case side2=>exact Y14);rintro e w6 ⟨rfl,hi,hb,hk⟩;refine ⟨_,rfl,?_⟩;replace HK:=am (jd.trans (Y13) hk (.inl rfl));replace HB:=am (hb);replace HI0:=am (hi);(try clear hb);(try clear hb2);(try clear hk);(try clear hi);have p593:0≤(t591:Int):=ozD (uq);have q593:t591<(l1.length:Int):=ozD (uq);obtain ⟨ad593,e593,hx593_0⟩:=Kd.at_string HR1.out t591 p593 q593;cases e593;replace hx593_0:=keep_cell HK.out hx593_0 (by first |(rw [add_block];exact hf1 _ rfl (by omega)) | exact hf1 _ rfl (by omega) | exact hf1 ad593 rfl (by omega));replace p593:=ezT p593;replace q593:=ezT q593))
   go_ret
   exact ⟨Y1,Y12,Y14,Y13⟩
  ·rw [if_neg c5] at H
   exact absurd H (by simp)
 ·rw [if_neg c4] at H
  exact absurd H (by simp)
end Go.Proofs.Ytecdfgejmbpclaa.P
end
