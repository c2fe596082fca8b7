/- One part of the proofs on this program: functions of the program as plain functions, that the code comes to them, and facts on them. -/
import Derived.Test.YtecdfgejmbpclaaYAll1
import Derived.Test.YtecdfgejmbpclaaYAll2
import Derived.Test.YtecdfgejmbpclaaYWAuto
section
namespace Go.Proofs.Ytecdfgejmbpclaa.P
open Go.RowKit Go.Proofs.YtecdfgejmbpclaaW.PrintWords Go.Proofs.YtecdfgejmbpclaaW.PrintLast Go.Proofs.YtecdfgejmbpclaaW.PrintMore
attribute [local go_sem] jxa jva jGa jFa jna jma jwa jua jD
set_option linter.unusedVariables false
set_option linter.unusedSimpArgs false
mutual
def jv.l0 : Nat → Int → List Int → Int → List (S94) → List (S54) → Option ((List (S54)) × Int)
 | 0,_,_,_,_,_=>none
 | k+1,x6,x1000,x1001,x332000,x337000=>if x6 > 0 then ((jl.f k x1000 x1001 (x332000.length:Int)).bind fun bt342=>((jw.f k x1000 bt342.2 (([1,2,3,0,99]:List Int))).bind fun bt347=>((jDb.f x337000 bt342.1 bt347.1).bind fun t349=>(jv.l0 k (wrap64 (x6 - 1)) x1000 bt347.2 x332000 t349)))) else ((jw.f k x1000 x1001 (([3,4,2,5,0]:List Int))).bind fun bt355=>(jv.l1 k bt355.1 x1000 bt355.2 x337000))
def jv.l1 : Nat → Int → List Int → Int → List (S54) → Option ((List (S54)) × Int)
 | 0,_,_,_,_=>none
 | k+1,x7,x1000,x1001,x337000=>if x7 > 0 then (jv.j2 k x7 (decide ((x337000.length:Int) > 1)) x1000 x1001 x337000) else (jv.j2 k x7 false x1000 x1001 x337000)
def jv.j2 : Nat → Int → Bool → List Int → Int → List (S54) → Option ((List (S54)) × Int)
 | 0,_,_,_,_,_=>none
 | k+1,x7,x39,x1000,x1001,x337000=>if x39=true then ((jl.f k x1000 x1001 (x337000.length:Int)).bind fun bt357=>((jl.f k x1000 bt357.2 (x337000.length:Int)).bind fun bt359=>(if bt357.1=bt359.1 then (if 0≤bt357.1 then (if bt357.1<(x337000.length:Int) then (jv.l1 k (wrap64 (x7 - 1)) x1000 bt359.2 (x337000.set (bt357.1:Int).toNat (⟨(jb x337000 bt357.1).f0,(jb x337000 bt357.1).f1,(jb x337000 bt357.1).f2,(jb x337000 bt357.1).f3,!((jb x337000 bt357.1).f4)⟩:S54))) else (none)) else (none)) else ((jl.f k x1000 bt359.2 3).bind fun bt363=>(if bt363.1=0 then (if 0≤bt357.1 then (if bt357.1<(x337000.length:Int) then ((some (x337000.set (bt357.1:Int).toNat (⟨(jb x337000 bt357.1).f0,(jb x337000 bt357.1).f1,bt359.1,(jb x337000 bt357.1).f3,(jb x337000 bt357.1).f4⟩:S54):List (S54))).bind fun y365=>(jv.l1 k (wrap64 (x7 - 1)) x1000 bt363.2 (y365.set (bt357.1:Int).toNat (⟨(jb y365 bt357.1).f0,(jb y365 bt357.1).f1,(jb y365 bt357.1).f2,(jb y365 bt357.1).f3,true⟩:S54)))) else (none)) else (none)) else ((jga.f k x337000 bt357.1 bt359.1).bind fun t367=>(jv.l1 k (wrap64 (x7 - 1)) x1000 bt363.2 t367))))))) else (some (x337000,x1001))
end
def jv.f (k : Nat) (s0_0 : List Int) (s0_1 : Int) (l1_0 : List (S94)) : Option ((List (S54)) × Int) := (jw.f k s0_0 s0_1 (([4, 5, 3, 6, 2, 1, 0] : List Int))).bind fun bt340 => (jv.l0 k bt340.1 s0_0 bt340.2 l1_0 (([] : List (S54))))
def jv.T5 : Bool × List (List Nat × List Nat) := (true, [([], []), ([], []), ([], []), ([2], [2]), ([3], [3]), ([1, 4], [1, 4]), ([], []), ([], []), ([6, 7, 5], [6, 7]), ([0, 5, 8, 8], [0, 5, 8]), ([9, 9, 0, 1, 2, 3, 4, 5, 6, 7, 8, 9], [9])])
def jv.B5 : List Nat := [0, 0, 0, 4, 12, 30, 0, 0, 254, 511, 1023]
theorem jv.tab5 : rtab .any (opsOf Try.f62 5) = jv.T5 := by kernel_rfl
theorem jv.bits5 : jGb jv.T5.2 jv.B5 = true := by kernel_rfl
def jv.T13 : Bool × List (List Nat × List Nat) := (true, [([], []), ([0], [0]), ([], []), ([], []), ([3], [3]), ([], []), ([4, 5], [4, 5]), ([6], [6]), ([7], [7]), ([8], [8]), ([1, 2, 0, 1, 2, 3, 4, 5, 6, 7, 8, 9], [1, 2]), ([10, 0, 1, 2, 3, 4, 5, 6, 7, 8, 9], [10]), ([11, 9, 0, 1, 2, 3, 4, 5, 6, 7, 8, 9], [9, 11])])
def jv.B13 : List Nat := [0, 1, 0, 0, 8, 0, 56, 120, 248, 504, 1023, 2047, 4095]
theorem jv.tab13 : rtab .any (opsOf Try.f62 13) = jv.T13 := by kernel_rfl
theorem jv.bits13 : jGb jv.T13.2 jv.B13 = true := by kernel_rfl
set_option maxHeartbeats 8000000 in
set_option maxRecDepth 100000 in
theorem jv.calls (k : Nat) (g : Nat) (s0_0 : List Int) (s0_1 : Int) (A1_0 : Option Addr) (c1_0 : Nat) (l1_0 : List (S94)) (r1 : List (S54)) (r2 : Int) (w0 w : World) (hI : ja w0 w g s0_0 s0_1) (hB : Below w0.heap.size w0 w) (hr1_0 : ∀ W_, jd w W_ g none → Kd.C k94 W_ A1_0 l1_0.length l1_0) (hc1_0 : l1_0.length ≤ c1_0) (h : jv.f k s0_0 s0_1 l1_0 = some (r1, r2)) :
  Calls Try.prog 62 #[.pointer (some ⟨g,0,none⟩), .agg #[.slice A1_0 l1_0.length c1_0]] w fun e w'=>∃ v0_:Value,e=.returned (.agg #[v0_])∧Kd.R k54 54 w' w.heap.size (fun _=>True) v0_ r1∧ja w0 w' g s0_0 r2∧Below w0.heap.size w0 w'∧jd w w' g none:=by
 have hu37:=Try.underlying37
 have hu32:=Try.underlying32
 have HR1_0:=am hr1_0
 have HC1_0:=am hc1_0
 clear hr1_0 hc1_0
 have HI0:=am hI
 have HK:=am (jd.refl w g none)
 have HL:=am hB.size
 clear hI
 have HW0:=am hB.size
 have HB:=am hB
 clear hB
 have H:((jw.f k s0_0 s0_1 (([4,5,3,6,2,1,0]:List Int))).bind fun bt340=>(jv.l0 k bt340.1 s0_0 bt340.2 l1_0 (([]:List (S54)))))=some (r1,r2):=h
 clear h
 obtain ⟨y333,hy333⟩:∃ y_:List (S54),y_=(([]:List (S54))):=⟨_,rfl⟩
 replace H:((jw.f k s0_0 s0_1 (([4,5,3,6,2,1,0]:List Int))).bind fun bt340=>(jv.l0 k bt340.1 s0_0 bt340.2 l1_0 y333))=some (r1,r2):=by first |(rw [hy333];with_reducible exact H) |(have H2_:=(Option.bind_some _ _).symm.trans H;rw [hy333];with_reducible exact H2_) |(have H2_:=(Option.bind_some _ _).symm.trans H;with_reducible exact H2_) | with_reducible exact H |(rw [hy333];exact H) | exact H
 have Ny333:=am hy333
 clear hy333
 obtain ⟨y337,hy337⟩:∃ y_:List Int,y_=(([4,5,3,6,2,1,0]:List Int)):=⟨_,rfl⟩
 replace H:((jw.f k s0_0 s0_1 y337).bind fun bt340=>(jv.l0 k bt340.1 s0_0 bt340.2 l1_0 y333))=some (r1,r2):=by first |(rw [hy337];with_reducible exact H) |(have H2_:=(Option.bind_some _ _).symm.trans H;rw [hy337];with_reducible exact H2_) |(have H2_:=(Option.bind_some _ _).symm.trans H;with_reducible exact H2_) | with_reducible exact H |(rw [hy337];exact H) | exact H
 have Ny337:=am hy337
 clear hy337
 replace H:=bzS H
 obtain ⟨⟨t340,t341⟩,A30,H⟩:=H
 replace H:(jv.l0 k t340 s0_0 t341 l1_0 y333)=some (r1,r2):=H
 have A3:=am A30
 clear A30
 have H':=am H
 clear H
 go_enter Try.func62,Try.ntmps62
 go_wp2_with (first |((with_reducible refine jG (N:=3) rfl ?_);(try (refine jLa (by rfl) ?_;dsimp only));refine jWa ?hg (N:=3) ?hd (cs:=#[.slice A1_0 l1_0.length c1_0]) (t:=37) ?hr ?_;(case hd=>rfl);(case hg=>rfl);(case hr=>exact Y3);intro gb331 hg w4 hbox hb;have BK331:=am (hbox);have GW331:=am ((Y8:w.heap.size≤gb331));have GE331:=am ((Nat.le_trans HW0.out (Y8:w.heap.size≤gb331):w0.heap.size≤gb331));have NB0_331:=am ((Y25:g≠gb331));have NB331_0:=am ((Y26:gb331≠g));replace HK:=am (jd.trans (Y14) (jd.of_below hb g none) (.inl rfl));replace HB:=am (jf (Y15) hb);replace HI0:=am (ja.below (Y13) hb);clear hb hbox hg) |((with_reducible refine jG (N:=4) rfl ?_);(try (refine jLa (by rfl) ?_;dsimp only));refine jWa ?hg (N:=4) ?hd (cs:=#[.slice none 0 0]) (t:=32) ?hr ?_;(case hd=>rfl);(case hg=>rfl);(case hr=>exact Y3);intro gb332 hg w5 hbox hb;have BK332:=am (hbox);have GW332:=am ((Y142:w.heap.size≤gb332));have GE332:=am ((Nat.le_trans HW0.out (Y142:w.heap.size≤gb332):w0.heap.size≤gb332));have NB331_332:=am ((by rw [hg];exact Nat.ne_of_lt (jha (g:=gb331) (o:=.cells #[.slice A1_0 l1_0.length c1_0] 37 (0,0)) (kq BK331.out)):gb331≠gb332));have NB332_331:=am ((by rw [hg];exact Nat.ne_of_gt (jha (g:=gb331) (o:=.cells #[.slice A1_0 l1_0.length c1_0] 37 (0,0)) (kq BK331.out)):gb332≠gb331));have NB0_332:=am ((by rw [hg];exact Nat.ne_of_lt (ja.lt (show ja w0 _ g s0_0 s0_1 from by repeat (first |(with_reducible first | exact HI0.out | apply ja.alloc | apply ja.drewN | apply ja.drew | apply ja.jdb | refine ja.far ?_ NB0_331.out _) | exact HI0.out))):g≠gb332));have NB332_0:=am ((by rw [hg];exact Nat.ne_of_gt (ja.lt (show ja w0 _ g s0_0 s0_1 from by repeat (first |(with_reducible first | exact HI0.out | apply ja.alloc | apply ja.drewN | apply ja.drew | apply ja.jdb | refine ja.far ?_ NB0_331.out _) | exact HI0.out))):gb332≠g));replace BK331:=am (jc (g:=gb331) (o:=.cells #[.slice A1_0 l1_0.length c1_0] 37 (0,0)) (kq BK331.out) hb);replace HK:=am (jd.trans (by repeat (first |(with_reducible first | exact HK.out | apply jd.set_ | apply jia | apply jZ | apply jja | refine jM ?_ GW331.out _) | exact HK.out)) (jd.of_below hb g none) (.inl rfl));replace HB:=am (jf (by repeat (first |(with_reducible first | exact HB.out | apply jC | apply jr | apply jy | refine jq ?_ (ja.ge HI0.out) | refine jq ?_ GE331.out) | exact HB.out)) hb);replace HI0:=am (ja.below (by repeat (first |(with_reducible first | exact HI0.out | apply ja.alloc | apply ja.drewN | apply ja.drew | apply ja.jdb | refine ja.far ?_ NB0_331.out _) | exact HI0.out)) hb);clear hb hbox hg) |((with_reducible refine jG (N:=10) rfl ?_);(try (refine jLa (by rfl) ?_;dsimp only));refine Kd.R_lit k54 _ 54 ?hg (N:=10) ?hd (xs:=([]:List (S54))) (inner:=[]) (ok:=fun _=>True) (okp:=fun _=>True) ?hr ?hp (fun _ hk=>hk) trivial (Below.refl _ _) (Nat.le_refl _) (by simp) ?_;(case hd=>rfl);(case hg=>rfl);(case hr=>exact Y3);(case hp=>exact (Reps.none _ _));intro v334 w6 ho7 hb hg_ hnew_;clear hg_ hnew_;(first | rw [← Ny333.out] at ho7 |(simp only [Int.reduceToNat] at ho7;rw [← Ny333.out] at ho7));have HO335:=am (Kd.jV ho7 (jda (w:=w) (g:=g) (row:=none) (Y117)));replace BK331:=am (jc (g:=gb331) (o:=.cells #[.slice A1_0 l1_0.length c1_0] 37 (0,0)) (kq BK331.out) hb);replace BK332:=am (jc (g:=gb332) (o:=.cells #[.slice none 0 0] 32 (0,0)) (kq BK332.out) hb);replace HK:=am (jd.trans (Y117) (jd.of_below hb g none) (.inl rfl));replace HB:=am (jf (Y143) hb);replace HI0:=am (ja.below (Y144) hb);clear hb ho7;obtain ⟨Ao8,co8,eo8⟩:=Kd.jN HO335.out;subst eo8) |((with_reducible refine jG (N:=5) rfl ?_);(try (refine jLa (by rfl) ?_;dsimp only));refine jWa ?hg (N:=5) ?hd (cs:=#[.slice none 0 0]) (t:=32) ?hr ?_;(case hd=>rfl);(case hg=>rfl);(case hr=>exact Y3);intro gb336 hg w9 hbox hb;have BK336:=am (hbox);have GW336:=am ((Y145:w.heap.size≤gb336));have GE336:=am ((Nat.le_trans HW0.out (Y145:w.heap.size≤gb336):w0.heap.size≤gb336));have NB331_336:=am ((by rw [hg];exact Nat.ne_of_lt (jha (g:=gb331) (o:=.cells #[.slice A1_0 l1_0.length c1_0] 37 (0,0)) (kq BK331.out)):gb331≠gb336));have NB336_331:=am ((by rw [hg];exact Nat.ne_of_gt (jha (g:=gb331) (o:=.cells #[.slice A1_0 l1_0.length c1_0] 37 (0,0)) (kq BK331.out)):gb336≠gb331));have NB332_336:=am ((by rw [hg];exact Nat.ne_of_lt (jha (g:=gb332) (o:=.cells #[.slice none 0 0] 32 (0,0)) (kq BK332.out)):gb332≠gb336));have NB336_332:=am ((by rw [hg];exact Nat.ne_of_gt (jha (g:=gb332) (o:=.cells #[.slice none 0 0] 32 (0,0)) (kq BK332.out)):gb336≠gb332));have NB0_336:=am ((by rw [hg];exact Nat.ne_of_lt (ja.lt (show ja w0 _ g s0_0 s0_1 from by repeat (first |(with_reducible first | exact HI0.out | apply ja.alloc | apply ja.drewN | apply ja.drew | apply ja.jdb | refine ja.far ?_ NB0_331.out _ | refine ja.far ?_ NB0_332.out _) | exact HI0.out))):g≠gb336));have NB336_0:=am ((by rw [hg];exact Nat.ne_of_gt (ja.lt (show ja w0 _ g s0_0 s0_1 from by repeat (first |(with_reducible first | exact HI0.out | apply ja.alloc | apply ja.drewN | apply ja.drew | apply ja.jdb | refine ja.far ?_ NB0_331.out _ | refine ja.far ?_ NB0_332.out _) | exact HI0.out))):gb336≠g));replace HO335:=am (Kd.jO (rq HO335.out) hb);replace BK331:=am (jc (g:=gb331) (o:=.cells #[.slice A1_0 l1_0.length c1_0] 37 (0,0)) (kq BK331.out) hb);replace BK332:=am (jc (g:=gb332) (o:=.cells #[.slice none 0 0] 32 (0,0)) (kq BK332.out) hb);replace HK:=am (jd.trans (Y117) (jd.of_below hb g none) (.inl rfl));replace HB:=am (jf (Y143) hb);replace HI0:=am (ja.below (Y144) hb);clear hb hbox hg;have hnb10:=NB336_331.out;have hnc10:=NB331_336.out;have hnb11:=NB336_332.out;have hnc11:=NB332_336.out;have hnb12:=NB336_0.out;have hnc12:=NB0_336.out;have hcz13_0:=bc0 BK336.out;have hfz13_0:=je BK336.out 0) |((with_reducible refine jG (N:=13) rfl ?_);(try (refine jLa (by rfl) ?_;dsimp only));refine Kd.R_lit (Kd.int .i64) _ 3 ?hg (N:=13) ?hd (xs:=([4,5,3,6,2,1,0]:List Int)) (inner:=[.int .i64 4, .int .i64 5, .int .i64 3, .int .i64 6, .int .i64 2, .int .i64 1, .int .i64 0]) (ok:=fun _=>True) (okp:=fun _=>True) ?hr ?hp (fun _ hk=>hk) trivial (Below.refl _ _) (Nat.le_refl _) (by simp) ?_;(case hd=>rfl);(case hg=>rfl);(case hr=>exact Y3);(case hp=>exact (Reps.one (show Kd.M (Kd.int .i64) _ _ _ 4 [.int .i64 4] from rfl) (Reps.one (show Kd.M (Kd.int .i64) _ _ _ 5 [.int .i64 5] from rfl) (Reps.one (show Kd.M (Kd.int .i64) _ _ _ 3 [.int .i64 3] from rfl) (Reps.one (show Kd.M (Kd.int .i64) _ _ _ 6 [.int .i64 6] from rfl) (Reps.one (show Kd.M (Kd.int .i64) _ _ _ 2 [.int .i64 2] from rfl) (Reps.one (show Kd.M (Kd.int .i64) _ _ _ 1 [.int .i64 1] from rfl) (Reps.one (show Kd.M (Kd.int .i64) _ _ _ 0 [.int .i64 0] from rfl) (Reps.none _ _)))))))));intro v338 w14 ho15 hb hg_ hnew_;clear hg_ hnew_;(first | rw [← Ny337.out] at ho15 |(simp only [Int.reduceToNat] at ho15;rw [← Ny337.out] at ho15));have HO339:=am (Kd.jV ho15 (jda (w:=w) (g:=g) (row:=none) (Y7)));replace HO335:=am (Kd.jO (by (with_reducible repeat (first | apply Kd.jW | apply Kd.jY | apply Kd.jU));exact (Kd.jH (Kd.jya (p:=⟨gb336,0,none⟩) (Kd.jR HO335.out BK336.out (by decide)) (fun _ hk=>hk.2) (.slice Ao8 y333.length co8)) (fun _ h_=>h_.1))) hb);replace BK331:=am (jc (g:=gb331) (o:=.cells #[.slice A1_0 l1_0.length c1_0] 37 (0,0)) (by (with_reducible repeat (first | refine jh ?_ _ | refine jg ?_ | refine jk ?_ _));refine jaa ?_ NB331_336.out _;(with_reducible repeat (first | refine jh ?_ _ | refine jg ?_ | refine jk ?_ _));exact BK331.out) hb);replace BK332:=am (jc (g:=gb332) (o:=.cells #[.slice none 0 0] 32 (0,0)) (by (with_reducible repeat (first | refine jh ?_ _ | refine jg ?_ | refine jk ?_ _));refine jaa ?_ NB332_336.out _;(with_reducible repeat (first | refine jh ?_ _ | refine jg ?_ | refine jk ?_ _));exact BK332.out) hb);replace BK336:=am (jc (g:=gb336) (o:=.cells #[.slice Ao8 y333.length co8] 32 (0,0)) (by (with_reducible repeat (first | refine jh ?_ _ | refine jg ?_ | refine jk ?_ _));refine jHa (cs:=#[.slice none 0 0]) ?_ 0 _ rfl;(with_reducible repeat (first | refine jh ?_ _ | refine jg ?_ | refine jk ?_ _));exact BK336.out) hb);replace HK:=am (jd.trans (Y7) (jd.of_below hb g none) (.inl rfl));replace HB:=am (jf (Y9) hb);replace HI0:=am (ja.below (show ja w0 (w9.setCell ⟨gb336,0,none⟩ (.slice Ao8 y333.length co8)) g s0_0 s0_1 from Y4) hb);clear hb ho15;obtain ⟨Ao16,co16,eo16⟩:=Kd.jN HO339.out;subst eo16) |((with_reducible refine jA (f:=89) rfl ?_);refine gL (some 14) Try.func89 #[.pointer (some ⟨g,0,none⟩), .slice Ao16 y337.length co16] ?_;(with_reducible refine (jw.calls k g s0_0 s0_1 _ _ y337 t340 t341 w0 _ ?side1 ?side2 ?side3 ?side4 ?side5 A3.out).mono ?_);(case side1=>exact Y4);(case side2=>exact Y9);(case side3=>exact cq (Kd.jm HO339.out).2.2);(case side4=>exact (Kd.jm HO339.out).2.1);(case side5=>exact jsb (ja.own_ne HI0.out HO339.out (by decide)));rintro e w17 ⟨rfl,hi,hb,hk⟩;refine ⟨_,rfl,?_⟩;replace BK331:=am (jd.blk hk (g':=gb331) (o:=.cells #[.slice A1_0 l1_0.length c1_0] 37 (0,0)) (kq BK331.out) NB331_0.out (by simp));replace BK332:=am (jd.blk hk (g':=gb332) (o:=.cells #[.slice none 0 0] 32 (0,0)) (kq BK332.out) NB332_0.out (by simp));replace HO335:=am (Kd.jH (Kd.joa (ja.apart (show ja w0 _ g s0_0 s0_1 from Y4) (rq HO335.out) (by decide)) hk (fun _ h=>h.2)) (fun _ h=>h.1));replace BK336:=am (jd.blk hk (g':=gb336) (o:=.cells #[.slice Ao8 y333.length co8] 32 (0,0)) (kq BK336.out) NB336_0.out (by simp));replace HO339:=am (Kd.jH (Kd.joa (ja.apart (show ja w0 _ g s0_0 s0_1 from Y4) (rq HO339.out) (by decide)) hk (fun _ h=>h.2)) (fun _ h=>h.1));replace HK:=am (jd.trans (Y7) hk (.inl rfl));replace HB:=am (hb);replace HI0:=am (hi);(try clear hb);(try clear hb2);(try clear hk);(try clear hi)))
 go_loopg [6] k (fun kq v6 w'=>∃ (x6_1:Int) (x1001_1:Int) (x337000_1:List (S54)) (u337000:Value),v6=.int .i64 x6_1∧jB (jv.l0 kq x6_1 s0_0 x1001_1 l1_0 x337000_1=some (r1,r2))∧jB (kq≤k)∧jB (Kd.R k54 54 w' w.heap.size (fun _=>True) u337000 x337000_1)∧jB (w'.heap[gb331]?=some (.cells #[(.slice A1_0 l1_0.length c1_0)] 37 (0,0)))∧jB (w'.heap[gb332]?=some (.cells #[(.slice none 0 0)] 32 (0,0)))∧jB (w'.heap[gb336]?=some (.cells #[u337000] 32 (0,0)))∧jB (ja w0 w' g s0_0 x1001_1)∧jB (jd w w' g none)∧jB (Below w0.heap.size w0 w'))
 case atStart=>exact ⟨(t340),(t341),(y333),(.slice Ao8 y333.length co8),(sq),H',⟨Nat.le_refl _⟩,⟨rq HO335.out⟩,⟨kq BK331.out⟩,⟨kq BK332.out⟩,⟨kq BK336.out⟩,⟨Y4⟩,⟨Y7⟩,⟨Y9⟩⟩
 case round =>
  clear H'
  try clear c1
  try clear p2
  try clear c6
  try clear c8
  try clear c10
  try clear c11
  try clear c12
  try clear hcz13_0
  try clear hfz13_0
  obtain ⟨x6_1,x1001_1,x337000_1,u337000,rfl,HA,HK1,HO_337000,BK331,BK332,BK336,HI0,HK,HB⟩:=hrel
  cases gk with
  | zero=>exact absurd HA.out (by simp [jv.l0])
  | succ k1 =>
   have H:=HA.out
   clear HA
   simp only [jv.l0] at H
   by_cases c18:x6_1 > 0
   ·rw [if_pos c18] at H
    have c18b0:decide (0<x6_1)=true:=dzT c18
    clear c18
    replace H:=bzS H
    obtain ⟨⟨t342,t343⟩,A190,H⟩:=H
    replace H:((jw.f k1 s0_0 t343 (([1,2,3,0,99]:List Int))).bind fun bt347=>((jDb.f x337000_1 t342 bt347.1).bind fun t349=>(jv.l0 k1 (wrap64 (x6_1 - 1)) s0_0 bt347.2 l1_0 t349)))=some (r1,r2):=H
    have A19:=am A190
    clear A190
    obtain ⟨y344,hy344⟩:∃ y_:List Int,y_=(([1,2,3,0,99]:List Int)):=⟨_,rfl⟩
    replace H:((jw.f k1 s0_0 t343 y344).bind fun bt347=>((jDb.f x337000_1 t342 bt347.1).bind fun t349=>(jv.l0 k1 (wrap64 (x6_1 - 1)) s0_0 bt347.2 l1_0 t349)))=some (r1,r2):=by first |(rw [hy344];with_reducible exact H) |(have H2_:=(Option.bind_some _ _).symm.trans H;rw [hy344];with_reducible exact H2_) |(have H2_:=(Option.bind_some _ _).symm.trans H;with_reducible exact H2_) | with_reducible exact H |(rw [hy344];exact H) | exact H
    have Ny344:=am hy344
    clear hy344
    replace H:=bzS H
    obtain ⟨⟨t347,t348⟩,A200,H⟩:=H
    replace H:((jDb.f x337000_1 t342 t347).bind fun t349=>(jv.l0 k1 (wrap64 (x6_1 - 1)) s0_0 t348 l1_0 t349))=some (r1,r2):=H
    have A20:=am A200
    clear A200
    replace H:=bzS H
    obtain ⟨t349,A210,H⟩:=H
    replace H:(jv.l0 k1 (wrap64 (x6_1 - 1)) s0_0 t348 l1_0 t349)=some (r1,r2):=H
    have A21:=am A210
    clear A210
    have H':=am H
    clear H
    obtain ⟨Ao22,co22,eo22⟩:=Kd.jN HO_337000.out
    subst eo22
    try go_wp2
    replace HO_337000:=am (Kd.jU HO_337000.out)
    replace BK331:=am (jg BK331.out)
    replace BK332:=am (jg BK332.out)
    replace BK336:=am (jg BK336.out)
    replace HI0:=am (ja.drew HI0.out)
    replace HK:=am (jZ HK.out)
    replace HB:=am (jy HB.out)
    refine jLb (n:=11) (S:=fun w'=>w'.cell? ⟨gb336,0,none⟩=some (.slice Ao22 x337000_1.length co22)∧w'.cell? ⟨gb331,0,none⟩=some (.slice A1_0 l1_0.length c1_0)) (ds:=[10]) #[false,false,false,false,false,false,false,false,false,false,false] (by kernel_rfl) rfl rfl ⟨(jI BK336.out 0).trans rfl,(jI BK331.out 0).trans rfl⟩ (fun hHeld=>?_);refine jAb jv.tab5 jv.bits5 (fun HT_ HW_=>?_)
    generalize wr.drew=w23 at HO_337000 BK331 BK332 BK336 HI0 HK HB hHeld ⊢
    refine pq (i:=1) (N:=some 20) #[false,true,false,false,false,false,false,false,false,false,false] ?_
    refine pq (i:=2) (N:=some 21) #[false,true,true,false,false,false,false,false,false,false,false] ?_
    refine pq (i:=6) (N:=some 25) #[false,true,true,false,false,false,true,false,false,false,false] ?_
    refine jBb (i:=0) (N:=some 19) (v:=?_) (a':=?_) #[true,true,true,false,false,false,true,false,false,false,false] rfl rfl (jgb HT_.out HW_.out (by kernel_rfl)) (fun _ _ _ h=>h) (Or.inl ⟨by rfl,?_⟩) hHeld ?_ ?_
    rotate_left
    ·rintro w' ⟨s0,s1⟩
     go_simp
     with_reducible rfl
    rotate_left
    ·exact sa
    refine jBb (i:=3) (N:=some 22) (v:=?_) (a':=?_) #[true,true,true,true,false,false,true,false,false,false,false] rfl rfl (jgb HT_.out HW_.out (by kernel_rfl)) (fun _ _ _ h=>h) (Or.inl ⟨by rfl,?_⟩) hHeld ?_ ?_
    rotate_left
    ·rintro w' ⟨s0,s1⟩
     go_simp
     with_reducible rfl
    rotate_left
    ·exact sa
    refine pq (i:=4) (N:=some 23) #[true,true,true,true,true,false,true,false,false,false,false] ?_
    refine join_ (σ:=Value) 3 #[true,true,true,true,true,true,true,true,false,false,false] (fun s_=>[(24, .int .i64 t342),(26,s_)]) (fun s_ w'=>(w'.cell? ⟨gb336,0,none⟩=some (.slice Ao22 x337000_1.length co22)∧w'.cell? ⟨gb331,0,none⟩=some (.slice A1_0 l1_0.length c1_0))∧(Kd.R (Kd.int .i64) 3 w' w.heap.size (fun _=>True) s_ y344)∧(Kd.R k54 54 w' w.heap.size (fun _=>True) (.slice Ao22 x337000_1.length co22) x337000_1)∧(w'.heap[gb331]?=some (.cells #[.slice A1_0 l1_0.length c1_0] 37 (0,0)))∧(w'.heap[gb332]?=some (.cells #[.slice none 0 0] 32 (0,0)))∧(w'.heap[gb336]?=some (.cells #[.slice Ao22 x337000_1.length co22] 32 (0,0)))∧(ja w0 w' g s0_0 t343)∧(jd w w' g none)∧(Below w0.heap.size w0 w')) ?_ ?_
    rotate_left
    ·intro hCont
     refine two_ (i:=5) (j:=7) (Ni:=some 24) (Nj:=some 26) #[true,true,true,true,true,true,true,false,false,false,false] #[true,true,true,true,true,false,true,true,false,false,false] rfl rfl rfl rfl (two_of HT_.out (by kernel_rfl)) (by decide) (by decide) (fun K hK=>?_) (fun K hK=>?_)
     ·skip
      refine goes_ Try.func88 (by kernel_rfl) rfl #[.pointer (some ⟨g,0,none⟩), .int .i64 (l1_0.length:Int)] (by rfl) rfl rfl (aq) ?_
      with_reducible refine (jl.calls k1 g s0_0 x1001_1 (l1_0.length:Int) t342 t343 w0 _ ?side1 ?side2 A19.out).mono ?_
      (case side1=>exact Y4)
      (case side2=>exact Y9)
      rintro e w24 ⟨rfl,hi,hb,hk⟩
      refine ⟨_,rfl,?_⟩
      replace HO_337000:=am (Kd.jH (Kd.joa (ja.apart (show ja w0 _ g s0_0 x1001_1 from Y4) (rq HO_337000.out) (by decide)) hk (fun _ h=>h.2)) (fun _ h=>h.1))
      replace BK331:=am (jd.blk hk (g':=gb331) (o:=.cells #[.slice A1_0 l1_0.length c1_0] 37 (0,0)) (kq BK331.out) NB331_0.out (by simp))
      replace BK332:=am (jd.blk hk (g':=gb332) (o:=.cells #[.slice none 0 0] 32 (0,0)) (kq BK332.out) NB332_0.out (by simp))
      replace BK336:=am (jd.blk hk (g':=gb336) (o:=.cells #[.slice Ao22 x337000_1.length co22] 32 (0,0)) (kq BK336.out) NB336_0.out (by simp))
      replace HK:=am (jd.trans (Y7) hk (.inl rfl))
      replace HB:=am (hb)
      replace HI0:=am (hi)
      (try clear hb)
      (try clear hb2)
      (try clear hk)
      (try clear hi)
      refine hK.out _ _ ⟨(jI BK336.out 0).trans rfl,(jI BK331.out 0).trans rfl⟩ (fun hHeld=>?_)
      clear hK K
      refine jJb (a':=?_) ?_ ?_
      rotate_left
      ·show Act.put _ (some 24) _=_
       simp only [Act.put,List.setIfInBounds_toArray,List.set_cons_zero,List.set_cons_succ,jqb,jwb]
       rfl
      refine one_ (i:=7) (N:=some 26) #[true,true,true,true,true,true,true,true,false,false,false] rfl rfl (jcb HT_.out (by kernel_rfl)) (by decide) (fun K hK=>?_)
      refine Kd.jEb (Kd.int .i64) _ 3 ?hg (N:=26) ?hd (xs:=([1,2,3,0,99]:List Int)) (inner:=[.int .i64 1, .int .i64 2, .int .i64 3, .int .i64 0, .int .i64 99]) (ok:=fun _=>True) (okp:=fun _=>True) ?hr ?hp (fun _ hk=>hk) trivial (Below.refl _ _) (Nat.le_refl _) (by simp) ?_;(case hd=>rfl);(case hg=>rfl);(case hr=>exact Y3);(case hp=>exact (Reps.one (show Kd.M (Kd.int .i64) _ _ _ 1 [.int .i64 1] from rfl) (Reps.one (show Kd.M (Kd.int .i64) _ _ _ 2 [.int .i64 2] from rfl) (Reps.one (show Kd.M (Kd.int .i64) _ _ _ 3 [.int .i64 3] from rfl) (Reps.one (show Kd.M (Kd.int .i64) _ _ _ 0 [.int .i64 0] from rfl) (Reps.one (show Kd.M (Kd.int .i64) _ _ _ 99 [.int .i64 99] from rfl) (Reps.none _ _)))))))
      intro v345 w25 ho26 hb hg_ hnew_
      clear hg_ hnew_
      (first | rw [← Ny344.out] at ho26 |(simp only [Int.reduceToNat] at ho26;rw [← Ny344.out] at ho26))
      have HO346:=am (Kd.jV ho26 (jda (w:=w) (g:=g) (row:=none) (Y7)))
      replace HO_337000:=am (Kd.jO (rq HO_337000.out) hb)
      replace BK331:=am (jc (g:=gb331) (o:=.cells #[.slice A1_0 l1_0.length c1_0] 37 (0,0)) (kq BK331.out) hb)
      replace BK332:=am (jc (g:=gb332) (o:=.cells #[.slice none 0 0] 32 (0,0)) (kq BK332.out) hb)
      replace BK336:=am (jc (g:=gb336) (o:=.cells #[.slice Ao22 x337000_1.length co22] 32 (0,0)) (kq BK336.out) hb)
      replace HK:=am (jd.trans (Y7) (jd.of_below hb g none) (.inl rfl))
      replace HB:=am (jf (Y9) hb)
      replace HI0:=am (ja.below (Y4) hb)
      clear hb ho26
      refine hK.out _ _ ⟨(jI BK336.out 0).trans rfl,(jI BK331.out 0).trans rfl⟩ (fun hHeld=>?_)
      clear hK K
      refine jJb (a':=?_) ?_ ?_
      rotate_left
      ·show Act.put _ (some 26) _=_
       simp only [Act.put,List.setIfInBounds_toArray,List.set_cons_zero,List.set_cons_succ,jqb,jwb]
       rfl
      exact jJb (by simp only [putAll,Act.put,List.setIfInBounds_toArray,List.set_cons_zero,List.set_cons_succ]) (hCont (v345) _ ⟨hHeld,(rq HO346.out),(rq HO_337000.out),(kq BK331.out),(kq BK332.out),(kq BK336.out),(Y4),(Y7),(Y9)⟩)
     ·skip
      refine Kd.jEb (Kd.int .i64) _ 3 ?hg (N:=26) ?hd (xs:=([1,2,3,0,99]:List Int)) (inner:=[.int .i64 1, .int .i64 2, .int .i64 3, .int .i64 0, .int .i64 99]) (ok:=fun _=>True) (okp:=fun _=>True) ?hr ?hp (fun _ hk=>hk) trivial (Below.refl _ _) (Nat.le_refl _) (by simp) ?_;(case hd=>rfl);(case hg=>rfl);(case hr=>exact Y3);(case hp=>exact (Reps.one (show Kd.M (Kd.int .i64) _ _ _ 1 [.int .i64 1] from rfl) (Reps.one (show Kd.M (Kd.int .i64) _ _ _ 2 [.int .i64 2] from rfl) (Reps.one (show Kd.M (Kd.int .i64) _ _ _ 3 [.int .i64 3] from rfl) (Reps.one (show Kd.M (Kd.int .i64) _ _ _ 0 [.int .i64 0] from rfl) (Reps.one (show Kd.M (Kd.int .i64) _ _ _ 99 [.int .i64 99] from rfl) (Reps.none _ _)))))))
      intro v345 w24 ho25 hb hg_ hnew_
      clear hg_ hnew_
      (first | rw [← Ny344.out] at ho25 |(simp only [Int.reduceToNat] at ho25;rw [← Ny344.out] at ho25))
      have HO346:=am (Kd.jV ho25 (jda (w:=w) (g:=g) (row:=none) (Y7)))
      replace HO_337000:=am (Kd.jO (rq HO_337000.out) hb)
      replace BK331:=am (jc (g:=gb331) (o:=.cells #[.slice A1_0 l1_0.length c1_0] 37 (0,0)) (kq BK331.out) hb)
      replace BK332:=am (jc (g:=gb332) (o:=.cells #[.slice none 0 0] 32 (0,0)) (kq BK332.out) hb)
      replace BK336:=am (jc (g:=gb336) (o:=.cells #[.slice Ao22 x337000_1.length co22] 32 (0,0)) (kq BK336.out) hb)
      replace HK:=am (jd.trans (Y7) (jd.of_below hb g none) (.inl rfl))
      replace HB:=am (jf (Y9) hb)
      replace HI0:=am (ja.below (Y4) hb)
      clear hb ho25
      refine hK.out _ _ ⟨(jI BK336.out 0).trans rfl,(jI BK331.out 0).trans rfl⟩ (fun hHeld=>?_)
      clear hK K
      refine jJb (a':=?_) ?_ ?_
      rotate_left
      ·show Act.put _ (some 26) _=_
       simp only [Act.put,List.setIfInBounds_toArray,List.set_cons_zero,List.set_cons_succ,jqb,jwb]
       rfl
      refine one_ (i:=5) (N:=some 24) #[true,true,true,true,true,true,true,true,false,false,false] rfl rfl (jcb HT_.out (by kernel_rfl)) (by decide) (fun K hK=>?_)
      refine goes_ Try.func88 (by kernel_rfl) rfl #[.pointer (some ⟨g,0,none⟩), .int .i64 (l1_0.length:Int)] (by rfl) rfl rfl (aq) ?_
      with_reducible refine (jl.calls k1 g s0_0 x1001_1 (l1_0.length:Int) t342 t343 w0 _ ?side1 ?side2 A19.out).mono ?_
      (case side1=>exact Y4)
      (case side2=>exact Y9)
      rintro e w26 ⟨rfl,hi,hb,hk⟩
      refine ⟨_,rfl,?_⟩
      replace HO_337000:=am (Kd.jH (Kd.joa (ja.apart (show ja w0 _ g s0_0 x1001_1 from Y4) (rq HO_337000.out) (by decide)) hk (fun _ h=>h.2)) (fun _ h=>h.1))
      replace BK331:=am (jd.blk hk (g':=gb331) (o:=.cells #[.slice A1_0 l1_0.length c1_0] 37 (0,0)) (kq BK331.out) NB331_0.out (by simp))
      replace BK332:=am (jd.blk hk (g':=gb332) (o:=.cells #[.slice none 0 0] 32 (0,0)) (kq BK332.out) NB332_0.out (by simp))
      replace BK336:=am (jd.blk hk (g':=gb336) (o:=.cells #[.slice Ao22 x337000_1.length co22] 32 (0,0)) (kq BK336.out) NB336_0.out (by simp))
      replace HO346:=am (Kd.jH (Kd.joa (ja.apart (show ja w0 _ g s0_0 x1001_1 from Y4) (rq HO346.out) (by decide)) hk (fun _ h=>h.2)) (fun _ h=>h.1))
      replace HK:=am (jd.trans (Y7) hk (.inl rfl))
      replace HB:=am (hb)
      replace HI0:=am (hi)
      (try clear hb)
      (try clear hb2)
      (try clear hk)
      (try clear hi)
      refine hK.out _ _ ⟨(jI BK336.out 0).trans rfl,(jI BK331.out 0).trans rfl⟩ (fun hHeld=>?_)
      clear hK K
      refine jJb (a':=?_) ?_ ?_
      rotate_left
      ·show Act.put _ (some 24) _=_
       simp only [Act.put,List.setIfInBounds_toArray,List.set_cons_zero,List.set_cons_succ,jqb,jwb]
       rfl
      exact jJb (by simp only [putAll,Act.put,List.setIfInBounds_toArray,List.set_cons_zero,List.set_cons_succ]) (hCont (v345) _ ⟨hHeld,(rq HO346.out),(rq HO_337000.out),(kq BK331.out),(kq BK332.out),(kq BK336.out),(Y4),(Y7),(Y9)⟩)
    rintro v345 w27 ⟨hS_,h0_,h1_,h2_,h3_,h4_,h5_,h6_,h7_⟩
    have n0_:jB (Kd.R (Kd.int .i64) 3 w27 w.heap.size (fun _=>True) v345 y344):=⟨h0_⟩
    have n1_:jB (Kd.R k54 54 w27 w.heap.size (fun _=>True) (.slice Ao22 x337000_1.length co22) x337000_1):=⟨h1_⟩
    have n2_:jB (w27.heap[gb331]?=some (.cells #[.slice A1_0 l1_0.length c1_0] 37 (0,0))):=⟨h2_⟩
    have n3_:jB (w27.heap[gb332]?=some (.cells #[.slice none 0 0] 32 (0,0))):=⟨h3_⟩
    have n4_:jB (w27.heap[gb336]?=some (.cells #[.slice Ao22 x337000_1.length co22] 32 (0,0))):=⟨h4_⟩
    have n5_:jB (ja w0 w27 g s0_0 t343):=⟨h5_⟩
    have n6_:jB (jd w w27 g none):=⟨h6_⟩
    have n7_:jB (Below w0.heap.size w0 w27):=⟨h7_⟩
    clear HO_337000
    clear BK331
    clear BK332
    clear BK336
    clear HI0
    clear HK
    clear HB
    clear h0_ h1_ h2_ h3_ h4_ h5_ h6_ h7_
    have HO346:=n0_
    have HO_337000:=n1_
    have BK331:=n2_
    have BK332:=n3_
    have BK336:=n4_
    have HI0:=n5_
    have HK:=n6_
    have HB:=n7_
    clear n0_ n1_ n2_ n3_ n4_ n5_ n6_ n7_
    have hHeld:w27.cell? ⟨gb336,0,none⟩=some (.slice Ao22 x337000_1.length co22)∧w27.cell? ⟨gb331,0,none⟩=some (.slice A1_0 l1_0.length c1_0):=hS_
    obtain ⟨Ao28,co28,eo28⟩:=Kd.jN HO346.out
    (first | subst eo28 |(injection eo28 with f1_ f2_ f3_;have f4_:=f1_.symm;have f5_:=f3_.symm;clear f1_ f2_ f3_;subst f4_;subst f5_))
    refine jJb (a':=?_) ?_ ?_
    rotate_left
    ·simp only [putAll,Act.put,List.setIfInBounds_toArray,List.set_cons_zero,List.set_cons_succ]
     rfl
    refine one_ (i:=8) (N:=some 27) #[true,true,true,true,true,true,true,true,true,false,false] rfl rfl (jcb HT_.out (by kernel_rfl)) (by decide) (fun K hK=>?_)
    refine goes_ Try.func89 (by kernel_rfl) rfl #[.pointer (some ⟨g,0,none⟩), .slice Ao28 y344.length co28] (by rfl) rfl rfl (aq) ?_
    with_reducible refine (jw.calls k1 g s0_0 t343 _ _ y344 t347 t348 w0 _ ?side1 ?side2 ?side3 ?side4 ?side5 A20.out).mono ?_
    (case side1=>exact Y4)
    (case side2=>exact Y9)
    (case side3=>exact cq (Kd.jm HO346.out).2.2)
    (case side4=>exact (Kd.jm HO346.out).2.1)
    (case side5=>exact jsb (ja.own_ne HI0.out HO346.out (by decide)))
    rintro e w29 ⟨rfl,hi,hb,hk⟩
    refine ⟨_,rfl,?_⟩
    replace HO_337000:=am (Kd.jH (Kd.joa (ja.apart (show ja w0 _ g s0_0 t343 from Y4) (rq HO_337000.out) (by decide)) hk (fun _ h=>h.2)) (fun _ h=>h.1))
    replace BK331:=am (jd.blk hk (g':=gb331) (o:=.cells #[.slice A1_0 l1_0.length c1_0] 37 (0,0)) (kq BK331.out) NB331_0.out (by simp))
    replace BK332:=am (jd.blk hk (g':=gb332) (o:=.cells #[.slice none 0 0] 32 (0,0)) (kq BK332.out) NB332_0.out (by simp))
    replace BK336:=am (jd.blk hk (g':=gb336) (o:=.cells #[.slice Ao22 x337000_1.length co22] 32 (0,0)) (kq BK336.out) NB336_0.out (by simp))
    replace HO346:=am (Kd.jH (Kd.joa (ja.apart (show ja w0 _ g s0_0 t343 from Y4) (rq HO346.out) (by decide)) hk (fun _ h=>h.2)) (fun _ h=>h.1))
    replace HK:=am (jd.trans (Y7) hk (.inl rfl))
    replace HB:=am (hb)
    replace HI0:=am (hi)
    (try clear hb)
    (try clear hb2)
    (try clear hk)
    (try clear hi)
    refine hK.out _ _ ⟨(jI BK336.out 0).trans rfl,(jI BK331.out 0).trans rfl⟩ (fun hHeld=>?_)
    clear hK K
    refine jJb (a':=?_) ?_ ?_
    rotate_left
    ·show Act.put _ (some 27) _=_
     simp only [Act.put,List.setIfInBounds_toArray,List.set_cons_zero,List.set_cons_succ,jqb,jwb]
     rfl
    refine one_ (i:=9) (N:=some 28) #[true,true,true,true,true,true,true,true,true,true,false] rfl rfl (jcb HT_.out (by kernel_rfl)) (by decide) (fun K hK=>?_)
    refine goes_ Try.func91 (by kernel_rfl) rfl #[.agg #[.slice Ao22 x337000_1.length co22], .int .i64 t342, .int .i64 t347] (by rfl) rfl rfl (aq) ?_
    with_reducible refine (jDb.calls _ _ x337000_1 t342 t347 t349 _ ?side1 ?side2 A21.out).mono ?_
    (case side1=>exact cq (Kd.jm HO_337000.out).2.2)
    (case side2=>exact (Kd.jm HO_337000.out).2.1)
    rintro e w30 ⟨v350,rfl,ho0,hb⟩
    refine ⟨_,rfl,?_⟩
    have HO351:=am (Kd.jV (Kd.jMb ho0 (Kd.R_lt (rq HO_337000.out))) (jda (w:=w) (g:=g) (row:=none) (Y7)))
    replace HO_337000:=am (Kd.job (rq HO_337000.out) (Kd.jNb ho0) hb)
    replace HO346:=am (Kd.jO (rq HO346.out) hb)
    replace BK331:=am (jc (g:=gb331) (o:=.cells #[.slice A1_0 l1_0.length c1_0] 37 (0,0)) (kq BK331.out) hb)
    replace BK332:=am (jc (g:=gb332) (o:=.cells #[.slice none 0 0] 32 (0,0)) (kq BK332.out) hb)
    replace BK336:=am (jc (g:=gb336) (o:=.cells #[.slice Ao22 x337000_1.length co22] 32 (0,0)) (kq BK336.out) hb)
    replace HK:=am (jd.trans (Y7) (jd.of_below hb g none) (.inl rfl))
    replace HB:=am (jf (Y9) hb)
    replace HI0:=am (ja.below (Y4) hb)
    (try clear hb)
    (try clear hb2)
    (try clear hk)
    (try clear hi)
    (try clear ho0)
    obtain ⟨Ao31,co31,eo31⟩:=Kd.jN HO351.out
    (first | subst eo31 |(injection eo31 with f1_ f2_ f3_;have f4_:=f1_.symm;have f5_:=f3_.symm;clear f1_ f2_ f3_;subst f4_;subst f5_))
    refine hK.out _ _ ⟨(jI BK336.out 0).trans rfl,(jI BK331.out 0).trans rfl⟩ (fun hHeld=>?_)
    clear hK K
    refine jJb (a':=?_) ?_ ?_
    rotate_left
    ·show Act.put _ (some 28) _=_
     simp only [Act.put,List.setIfInBounds_toArray,List.set_cons_zero,List.set_cons_succ,jqb,jwb]
     rfl
    refine last_ (i:=10) (N:=none) #[true,true,true,true,true,true,true,true,true,true,true] rfl rfl (jcb HT_.out (by kernel_rfl)) (by decide) (fun K hK=>?_)
    have hs32:w30.cell? ⟨gb336,0,none⟩=some (.slice Ao22 x337000_1.length co22):=(jI BK336.out 0).trans rfl
    have hfs32:=je BK336.out 0
    have hns32_0:=NB331_336.out
    have hns32_1:=NB332_336.out
    have hms32_0:=NB336_331.out
    have hms32_1:=NB336_332.out
    refine jRb (w1:=?_) (by rfl) rfl ?_ ?_
    rotate_left
    ·go_simp
     rfl
    refine hK.out _ _ ?_
    clear hK K
    refine done_ (jXb HT_.out (by kernel_rfl)) ?_
    try go_wp2
    go_roundg k1
    case measure=>have:=HK1.out;omega
    case rel=>exact ⟨(wrap64 (x6_1 - 1)),(t348),(t349),(.slice Ao31 t349.length co31),(sq),H',⟨by have:=HK1.out;omega⟩,⟨by (with_reducible repeat (first | apply Kd.jW | apply Kd.jY | apply Kd.jU));exact Kd.jH (Kd.jya (p:=⟨gb336,0,none⟩) (Kd.jR HO351.out BK336.out (by decide)) (fun _ hk=>hk.2) (.slice Ao31 t349.length co31)) (fun _ hk=>trivial)⟩,⟨by (with_reducible repeat (first | refine jh ?_ _ | refine jg ?_ | refine jk ?_ _));refine jaa ?_ NB331_336.out _;(with_reducible repeat (first | refine jh ?_ _ | refine jg ?_ | refine jk ?_ _));exact BK331.out⟩,⟨by (with_reducible repeat (first | refine jh ?_ _ | refine jg ?_ | refine jk ?_ _));refine jaa ?_ NB332_336.out _;(with_reducible repeat (first | refine jh ?_ _ | refine jg ?_ | refine jk ?_ _));exact BK332.out⟩,⟨by (with_reducible repeat (first | refine jh ?_ _ | refine jg ?_ | refine jk ?_ _));refine jHa (cs:=#[.slice Ao22 x337000_1.length co22]) ?_ 0 _ rfl;(with_reducible repeat (first | refine jh ?_ _ | refine jg ?_ | refine jk ?_ _));exact BK336.out⟩,⟨Y4⟩,⟨Y7⟩,⟨Y9⟩⟩
   ·rw [if_neg c18] at H
    have c18b0:decide (0<x6_1)=false:=dzF c18
    clear c18
    obtain ⟨y352,hy352⟩:∃ y_:List Int,y_=(([3,4,2,5,0]:List Int)):=⟨_,rfl⟩
    replace H:((jw.f k1 s0_0 x1001_1 y352).bind fun bt355=>(jv.l1 k1 bt355.1 s0_0 bt355.2 x337000_1))=some (r1,r2):=by first |(rw [hy352];with_reducible exact H) |(have H2_:=(Option.bind_some _ _).symm.trans H;rw [hy352];with_reducible exact H2_) |(have H2_:=(Option.bind_some _ _).symm.trans H;with_reducible exact H2_) | with_reducible exact H |(rw [hy352];exact H) | exact H
    have Ny352:=am hy352
    clear hy352
    replace H:=bzS H
    obtain ⟨⟨t355,t356⟩,A330,H⟩:=H
    replace H:(jv.l1 k1 t355 s0_0 t356 x337000_1)=some (r1,r2):=H
    have A33:=am A330
    clear A330
    have H':=am H
    clear H
    go_wp2_with (first |((with_reducible refine jG (N:=30) rfl ?_);(try (refine jLa (by rfl) ?_;dsimp only));refine Kd.R_lit (Kd.int .i64) _ 3 ?hg (N:=30) ?hd (xs:=([3,4,2,5,0]:List Int)) (inner:=[.int .i64 3, .int .i64 4, .int .i64 2, .int .i64 5, .int .i64 0]) (ok:=fun _=>True) (okp:=fun _=>True) ?hr ?hp (fun _ hk=>hk) trivial (Below.refl _ _) (Nat.le_refl _) (by simp) ?_;(case hd=>rfl);(case hg=>rfl);(case hr=>exact Y3);(case hp=>exact (Reps.one (show Kd.M (Kd.int .i64) _ _ _ 3 [.int .i64 3] from rfl) (Reps.one (show Kd.M (Kd.int .i64) _ _ _ 4 [.int .i64 4] from rfl) (Reps.one (show Kd.M (Kd.int .i64) _ _ _ 2 [.int .i64 2] from rfl) (Reps.one (show Kd.M (Kd.int .i64) _ _ _ 5 [.int .i64 5] from rfl) (Reps.one (show Kd.M (Kd.int .i64) _ _ _ 0 [.int .i64 0] from rfl) (Reps.none _ _)))))));intro v353 w34 ho35 hb hg_ hnew_;clear hg_ hnew_;(first | rw [← Ny352.out] at ho35 |(simp only [Int.reduceToNat] at ho35;rw [← Ny352.out] at ho35));have HO354:=am (Kd.jV ho35 (jda (w:=w) (g:=g) (row:=none) (Y7)));replace HO_337000:=am (Kd.jO (rq HO_337000.out) hb);replace BK331:=am (jc (g:=gb331) (o:=.cells #[.slice A1_0 l1_0.length c1_0] 37 (0,0)) (kq BK331.out) hb);replace BK332:=am (jc (g:=gb332) (o:=.cells #[.slice none 0 0] 32 (0,0)) (kq BK332.out) hb);replace BK336:=am (jc (g:=gb336) (o:=.cells #[u337000] 32 (0,0)) (kq BK336.out) hb);replace HK:=am (jd.trans (Y7) (jd.of_below hb g none) (.inl rfl));replace HB:=am (jf (Y9) hb);replace HI0:=am (ja.below (Y4) hb);clear hb ho35;obtain ⟨Ao36,co36,eo36⟩:=Kd.jN HO354.out;subst eo36) |((with_reducible refine jA (f:=89) rfl ?_);refine gL (some 31) Try.func89 #[.pointer (some ⟨g,0,none⟩), .slice Ao36 y352.length co36] ?_;(with_reducible refine (jw.calls k1 g s0_0 x1001_1 _ _ y352 t355 t356 w0 _ ?side1 ?side2 ?side3 ?side4 ?side5 A33.out).mono ?_);(case side1=>exact Y4);(case side2=>exact Y9);(case side3=>exact cq (Kd.jm HO354.out).2.2);(case side4=>exact (Kd.jm HO354.out).2.1);(case side5=>exact jsb (ja.own_ne HI0.out HO354.out (by decide)));rintro e w37 ⟨rfl,hi,hb,hk⟩;refine ⟨_,rfl,?_⟩;replace HO_337000:=am (Kd.jH (Kd.joa (ja.apart (show ja w0 _ g s0_0 x1001_1 from Y4) (rq HO_337000.out) (by decide)) hk (fun _ h=>h.2)) (fun _ h=>h.1));replace BK331:=am (jd.blk hk (g':=gb331) (o:=.cells #[.slice A1_0 l1_0.length c1_0] 37 (0,0)) (kq BK331.out) NB331_0.out (by simp));replace BK332:=am (jd.blk hk (g':=gb332) (o:=.cells #[.slice none 0 0] 32 (0,0)) (kq BK332.out) NB332_0.out (by simp));replace BK336:=am (jd.blk hk (g':=gb336) (o:=.cells #[u337000] 32 (0,0)) (kq BK336.out) NB336_0.out (by simp));replace HO354:=am (Kd.jH (Kd.joa (ja.apart (show ja w0 _ g s0_0 x1001_1 from Y4) (rq HO354.out) (by decide)) hk (fun _ h=>h.2)) (fun _ h=>h.1));replace HK:=am (jd.trans (Y7) hk (.inl rfl));replace HB:=am (hb);replace HI0:=am (hi);(try clear hb);(try clear hb2);(try clear hk);(try clear hi)))
    go_loopg [7] k1 (fun kq v7 w'=>∃ (x7_2:Int) (x1001_2:Int) (x337000_2:List (S54)) (u337000:Value),v7=.int .i64 x7_2∧jB (jv.l1 kq x7_2 s0_0 x1001_2 x337000_2=some (r1,r2))∧jB (kq≤k1)∧jB (Kd.R k54 54 w' w.heap.size (fun _=>True) u337000 x337000_2)∧jB (w'.heap[gb331]?=some (.cells #[(.slice A1_0 l1_0.length c1_0)] 37 (0,0)))∧jB (w'.heap[gb332]?=some (.cells #[(.slice none 0 0)] 32 (0,0)))∧jB (w'.heap[gb336]?=some (.cells #[u337000] 32 (0,0)))∧jB (ja w0 w' g s0_0 x1001_2)∧jB (jd w w' g none)∧jB (Below w0.heap.size w0 w'))
    case atStart=>exact ⟨(t355),(t356),(x337000_1),(u337000),(sq),H',⟨Nat.le_refl _⟩,⟨rq HO_337000.out⟩,⟨kq BK331.out⟩,⟨kq BK332.out⟩,⟨kq BK336.out⟩,⟨Y4⟩,⟨Y7⟩,⟨Y9⟩⟩
    case round =>
     clear H'
     try clear c1
     try clear p2
     try clear c6
     try clear p6
     try clear c8
     try clear c9
     try clear c10
     try clear c11
     try clear c12
     try clear c18
     try clear c18b0
     try clear hcz13_0
     try clear hfz13_0
     try clear p2
     obtain ⟨x7_2,x1001_2,x337000_2,u337000,rfl,HA,HK2,HO_337000,BK331,BK332,BK336,HI0,HK,HB⟩:=hrel
     cases gk with
     | zero=>exact absurd HA.out (by simp [jv.l1])
     | succ k2 =>
      have H:=HA.out
      clear HA
      simp only [jv.l1] at H
      have HC38:=am H
      clear H
      go_upto_region 7 with (fail)
      go_cut [39] (fun v39 wc=>∃ (kq:Nat) (x39_37:Bool),v39=.bool x39_37∧jB (jv.j2 kq x7_2 x39_37 s0_0 x1001_2 x337000_2=some (r1,r2))∧jB (kq≤k2)∧jB (Kd.R k54 54 wc w.heap.size (fun _=>True) u337000 x337000_2)∧jB (wc.heap[gb331]?=some (.cells #[(.slice A1_0 l1_0.length c1_0)] 37 (0,0)))∧jB (wc.heap[gb332]?=some (.cells #[(.slice none 0 0)] 32 (0,0)))∧jB (wc.heap[gb336]?=some (.cells #[u337000] 32 (0,0)))∧jB (ja w0 wc g s0_0 x1001_2)∧jB (jd w wc g none)∧jB (Below w0.heap.size w0 wc))
      case first =>
       have H:=HC38.out
       clear HC38
       by_cases c39:x7_2 > 0
       ·rw [if_pos c39] at H
        have c39b0:decide (0<x7_2)=true:=dzT c39
        clear c39
        (first | rw [c39b0] |(simp only [jqb,jwb];rw [c39b0]) | skip)
        have H':=am H
        clear H
        have hnb40:=NB336_331.out
        have hnc40:=NB331_336.out
        have hnb41:=NB336_332.out
        have hnc41:=NB332_336.out
        have hnb42:=NB336_0.out
        have hnc42:=NB0_336.out
        have hcz43_0:=bc0 BK336.out
        have hfz43_0:=je BK336.out 0
        obtain ⟨Ao44,co44,eo44⟩:=Kd.jN HO_337000.out
        subst eo44
        go_wp2
        go_meet
        case rel=>exact ⟨_,(decide ((x337000_2.length:Int) > 1)),(sq),H',⟨by have:=HK1.out;have:=HK2.out;first | omega | exact Nat.le_refl _⟩,⟨rq HO_337000.out⟩,⟨kq BK331.out⟩,⟨kq BK332.out⟩,⟨kq BK336.out⟩,⟨Y4⟩,⟨Y7⟩,⟨Y9⟩⟩
       ·rw [if_neg c39] at H
        have c39b0:decide (0<x7_2)=false:=dzF c39
        clear c39
        (first | rw [c39b0] |(simp only [jqb,jwb];rw [c39b0]) | skip)
        have H':=am H
        clear H
        go_wp2
        go_meet
        case rel=>exact ⟨_,(false),(sq),H',⟨by have:=HK1.out;have:=HK2.out;first | omega | exact Nat.le_refl _⟩,⟨rq HO_337000.out⟩,⟨kq BK331.out⟩,⟨kq BK332.out⟩,⟨kq BK336.out⟩,⟨Y4⟩,⟨Y7⟩,⟨Y9⟩⟩
      case rest =>
       clear HC38
       try clear c1
       try clear p2
       try clear c3
       try clear c4
       try clear c6
       try clear p6
       try clear c8
       try clear c9
       try clear c10
       try clear c11
       try clear c12
       try clear c18
       try clear c18b0
       try clear c39
       try clear c39b0
       try clear c40
       try clear c41
       try clear c42
       try clear hcz13_0
       try clear hcz43_0
       try clear hfz13_0
       try clear hfz43_0
       try clear p2
       try clear p6
       obtain ⟨kq,x39_37,rfl,HA,HJ37,HO_337000,BK331,BK332,BK336,HI0,HK,HB⟩:=hcut
       cases kq with
       | zero=>exact absurd HA.out (by simp [jv.j2])
       | succ kj37 =>
        have H:=HA.out
        clear HA
        simp only [jv.j2] at H
        by_cases c45:x39_37=true
        ·subst c45
         have H1:((jl.f kj37 s0_0 x1001_2 (x337000_2.length:Int)).bind fun bt357=>((jl.f kj37 s0_0 bt357.2 (x337000_2.length:Int)).bind fun bt359=>(if bt357.1=bt359.1 then (if 0≤bt357.1 then (if bt357.1<(x337000_2.length:Int) then (jv.l1 kj37 (wrap64 (x7_2 - 1)) s0_0 bt359.2 (x337000_2.set (bt357.1:Int).toNat (⟨(jb x337000_2 bt357.1).f0,(jb x337000_2 bt357.1).f1,(jb x337000_2 bt357.1).f2,(jb x337000_2 bt357.1).f3,!((jb x337000_2 bt357.1).f4)⟩:S54))) else (none)) else (none)) else ((jl.f kj37 s0_0 bt359.2 3).bind fun bt363=>(if bt363.1=0 then (if 0≤bt357.1 then (if bt357.1<(x337000_2.length:Int) then ((some (x337000_2.set (bt357.1:Int).toNat (⟨(jb x337000_2 bt357.1).f0,(jb x337000_2 bt357.1).f1,bt359.1,(jb x337000_2 bt357.1).f3,(jb x337000_2 bt357.1).f4⟩:S54):List (S54))).bind fun y365=>(jv.l1 kj37 (wrap64 (x7_2 - 1)) s0_0 bt363.2 (y365.set (bt357.1:Int).toNat (⟨(jb y365 bt357.1).f0,(jb y365 bt357.1).f1,(jb y365 bt357.1).f2,(jb y365 bt357.1).f3,true⟩:S54)))) else (none)) else (none)) else ((jga.f kj37 x337000_2 bt357.1 bt359.1).bind fun t367=>(jv.l1 kj37 (wrap64 (x7_2 - 1)) s0_0 bt363.2 t367)))))))=some (r1,r2):=by rw [if_pos rfl] at H;exact H
         clear H
         have H:=H1
         clear H1
         replace H:=bzS H
         obtain ⟨⟨t357,t358⟩,A460,H⟩:=H
         replace H:((jl.f kj37 s0_0 t358 (x337000_2.length:Int)).bind fun bt359=>(if t357=bt359.1 then (if 0≤t357 then (if t357<(x337000_2.length:Int) then (jv.l1 kj37 (wrap64 (x7_2 - 1)) s0_0 bt359.2 (x337000_2.set (t357:Int).toNat (⟨(jb x337000_2 t357).f0,(jb x337000_2 t357).f1,(jb x337000_2 t357).f2,(jb x337000_2 t357).f3,!((jb x337000_2 t357).f4)⟩:S54))) else (none)) else (none)) else ((jl.f kj37 s0_0 bt359.2 3).bind fun bt363=>(if bt363.1=0 then (if 0≤t357 then (if t357<(x337000_2.length:Int) then ((some (x337000_2.set (t357:Int).toNat (⟨(jb x337000_2 t357).f0,(jb x337000_2 t357).f1,bt359.1,(jb x337000_2 t357).f3,(jb x337000_2 t357).f4⟩:S54):List (S54))).bind fun y365=>(jv.l1 kj37 (wrap64 (x7_2 - 1)) s0_0 bt363.2 (y365.set (t357:Int).toNat (⟨(jb y365 t357).f0,(jb y365 t357).f1,(jb y365 t357).f2,(jb y365 t357).f3,true⟩:S54)))) else (none)) else (none)) else ((jga.f kj37 x337000_2 t357 bt359.1).bind fun t367=>(jv.l1 kj37 (wrap64 (x7_2 - 1)) s0_0 bt363.2 t367))))))=some (r1,r2):=H
         have A46:=am A460
         clear A460
         replace H:=bzS H
         obtain ⟨⟨t359,t360⟩,A470,H⟩:=H
         replace H:(if t357=t359 then (if 0≤t357 then (if t357<(x337000_2.length:Int) then (jv.l1 kj37 (wrap64 (x7_2 - 1)) s0_0 t360 (x337000_2.set (t357:Int).toNat (⟨(jb x337000_2 t357).f0,(jb x337000_2 t357).f1,(jb x337000_2 t357).f2,(jb x337000_2 t357).f3,!((jb x337000_2 t357).f4)⟩:S54))) else (none)) else (none)) else ((jl.f kj37 s0_0 t360 3).bind fun bt363=>(if bt363.1=0 then (if 0≤t357 then (if t357<(x337000_2.length:Int) then ((some (x337000_2.set (t357:Int).toNat (⟨(jb x337000_2 t357).f0,(jb x337000_2 t357).f1,t359,(jb x337000_2 t357).f3,(jb x337000_2 t357).f4⟩:S54):List (S54))).bind fun y365=>(jv.l1 kj37 (wrap64 (x7_2 - 1)) s0_0 bt363.2 (y365.set (t357:Int).toNat (⟨(jb y365 t357).f0,(jb y365 t357).f1,(jb y365 t357).f2,(jb y365 t357).f3,true⟩:S54)))) else (none)) else (none)) else ((jga.f kj37 x337000_2 t357 t359).bind fun t367=>(jv.l1 kj37 (wrap64 (x7_2 - 1)) s0_0 bt363.2 t367)))))=some (r1,r2):=H
         have A47:=am A470
         clear A470
         by_cases c48:t357=t359
         ·rw [if_pos c48] at H
          have c48b0:(t357 == t359)=true:=beq_iff_eq.mpr c48
          have c48b1:(t357 != t359)=false:=bne_eq_false_iff_eq.mpr c48
          clear c48
          by_cases c49:0≤t357
          ·rw [if_pos c49] at H
           have c49b0:decide (0≤t357)=true:=dzT c49
           clear c49
           by_cases c50:t357<(x337000_2.length:Int)
           ·rw [if_pos c50] at H
            have c50b0:decide (t357<(x337000_2.length:Int))=true:=dzT c50
            clear c50
            obtain ⟨y362,hy362⟩:∃ y_:List (S54),y_=(x337000_2.set (t357:Int).toNat (⟨(jb x337000_2 t357).f0,(jb x337000_2 t357).f1,(jb x337000_2 t357).f2,(jb x337000_2 t357).f3,!((jb x337000_2 t357).f4)⟩:S54)):=⟨_,rfl⟩
            replace H:(jv.l1 kj37 (wrap64 (x7_2 - 1)) s0_0 t360 y362)=some (r1,r2):=by first |(rw [hy362];with_reducible exact H) |(have H2_:=(Option.bind_some _ _).symm.trans H;rw [hy362];with_reducible exact H2_) |(have H2_:=(Option.bind_some _ _).symm.trans H;with_reducible exact H2_) | with_reducible exact H |(rw [hy362];exact H) | exact H
            have Ny362:=am hy362
            clear hy362
            have H':=am H
            clear H
            have hnb52:=NB336_331.out
            have hnc52:=NB331_336.out
            have hnb53:=NB336_332.out
            have hnc53:=NB332_336.out
            have hnb54:=NB336_0.out
            have hnc54:=NB0_336.out
            have hcz55_0:=bc0 BK336.out
            have hfz55_0:=je BK336.out 0
            obtain ⟨Ao56,co56,eo56⟩:=Kd.jN HO_337000.out
            subst eo56
            try go_wp2_with (first |((with_reducible refine jA (f:=88) rfl ?_);refine gL (some 46) Try.func88 #[.pointer (some ⟨g,0,none⟩), .int .i64 (x337000_2.length:Int)] ?_;(with_reducible refine (jl.calls kj37 g s0_0 x1001_2 (x337000_2.length:Int) t357 t358 w0 _ ?side1 ?side2 A46.out).mono ?_);(case side1=>exact Y4);(case side2=>exact Y9);rintro e w57 ⟨rfl,hi,hb,hk⟩;refine ⟨_,rfl,?_⟩;replace HO_337000:=am (Kd.jH (Kd.joa (ja.apart (show ja w0 _ g s0_0 x1001_2 from Y4) (rq HO_337000.out) (by decide)) hk (fun _ h=>h.2)) (fun _ h=>h.1));replace BK331:=am (jd.blk hk (g':=gb331) (o:=.cells #[.slice A1_0 l1_0.length c1_0] 37 (0,0)) (kq BK331.out) NB331_0.out (by simp));replace BK332:=am (jd.blk hk (g':=gb332) (o:=.cells #[.slice none 0 0] 32 (0,0)) (kq BK332.out) NB332_0.out (by simp));replace BK336:=am (jd.blk hk (g':=gb336) (o:=.cells #[.slice Ao56 x337000_2.length co56] 32 (0,0)) (kq BK336.out) NB336_0.out (by simp));replace HK:=am (jd.trans (Y7) hk (.inl rfl));replace HB:=am (hb);replace HI0:=am (hi);(try clear hb);(try clear hb2);(try clear hk);(try clear hi);have hcz58_0:=bc0 BK336.out;have hfz58_0:=je BK336.out 0) |((with_reducible refine jA (f:=88) rfl ?_);refine gL (some 51) Try.func88 #[.pointer (some ⟨g,0,none⟩), .int .i64 (x337000_2.length:Int)] ?_;(with_reducible refine (jl.calls kj37 g s0_0 t358 (x337000_2.length:Int) t359 t360 w0 _ ?side1 ?side2 A47.out).mono ?_);(case side1=>exact Y4);(case side2=>exact Y9);rintro e w59 ⟨rfl,hi,hb,hk⟩;refine ⟨_,rfl,?_⟩;replace HO_337000:=am (Kd.jH (Kd.joa (ja.apart (show ja w0 _ g s0_0 t358 from Y4) (rq HO_337000.out) (by decide)) hk (fun _ h=>h.2)) (fun _ h=>h.1));replace BK331:=am (jd.blk hk (g':=gb331) (o:=.cells #[.slice A1_0 l1_0.length c1_0] 37 (0,0)) (kq BK331.out) NB331_0.out (by simp));replace BK332:=am (jd.blk hk (g':=gb332) (o:=.cells #[.slice none 0 0] 32 (0,0)) (kq BK332.out) NB332_0.out (by simp));replace BK336:=am (jd.blk hk (g':=gb336) (o:=.cells #[.slice Ao56 x337000_2.length co56] 32 (0,0)) (kq BK336.out) NB336_0.out (by simp));replace HK:=am (jd.trans (Y7) hk (.inl rfl));replace HB:=am (hb);replace HI0:=am (hi);(try clear hb);(try clear hb2);(try clear hk);(try clear hi)))
            replace HO_337000:=am (Kd.jU HO_337000.out)
            replace BK331:=am (jg BK331.out)
            replace BK332:=am (jg BK332.out)
            replace BK336:=am (jg BK336.out)
            replace HI0:=am (ja.drew HI0.out)
            replace HK:=am (jZ HK.out)
            replace HB:=am (jy HB.out)
            have p361:0≤(t357:Int):=ozD (uq)
            have q361:t357<(x337000_2.length:Int):=ozD (uq)
            obtain ⟨ad361,e361,hx361_0,hx361_1,hx361_2,hx361_3,hx361_4⟩:=jpb (Kd.jm HO_337000.out).2.2 t357 p361 q361
            cases e361
            replace p361:=ezT p361
            replace q361:=ezT q361
            have p51:0≤(t357:Int):=ozD (uq)
            have q51:(t357:Int)<((x337000_2.length:Int):Int):=ozD (uq)
            obtain ⟨go51,co51,eo51,gb51,gl51,cl51,HG51⟩:=Kd.R_form HO_337000.out (by omega)
            (first | cases eo51 |(injection eo51 with ea_ en_ ec_;(first | subst ea_ |(injection ea_ with ea_;subst ea_));subst ec_;clear en_))
            have GB51:=am gb51
            have GG51:=am HG51
            clear gb51 gl51 HG51
            (first | simp only [add_plain] at hx361_0 | skip)
            (first | simp only [add_plain] at hx361_1 | skip)
            (first | simp only [add_plain] at hx361_2 | skip)
            (first | simp only [add_plain] at hx361_3 | skip)
            (first | simp only [add_plain] at hx361_4 | skip)
            obtain ⟨ce51,hcl51,hM51,hcc51,hfr51⟩:=Kd.jub HO_337000.out z54 (t357:Int) p51 q51
            obtain rfl:=jUa hM51
            have hx51_0:World.cell? _ ⟨go51,(t357:Int).toNat * 5,none⟩=some (.int .i64 ((jb x337000_2 t357).f0)):=hcc51 0 _ rfl
            have hx51_1:World.cell? _ ⟨go51,(t357:Int).toNat * 5+1,none⟩=some (.int .i64 ((jb x337000_2 t357).f1)):=hcc51 1 _ rfl
            have hx51_2:World.cell? _ ⟨go51,(t357:Int).toNat * 5+2,none⟩=some (.int .i64 ((jb x337000_2 t357).f2)):=hcc51 2 _ rfl
            have hx51_3:World.cell? _ ⟨go51,(t357:Int).toNat * 5+3,none⟩=some (.int .i64 ((jb x337000_2 t357).f3)):=hcc51 3 _ rfl
            have hx51_4:World.cell? _ ⟨go51,(t357:Int).toNat * 5+4,none⟩=some (.bool ((jb x337000_2 t357).f4)):=hcc51 4 _ rfl
            have hf51_0:World.frozen? _ ⟨go51,(t357:Int).toNat * 5,none⟩=false:=hfr51 0
            have hf51_1:World.frozen? _ ⟨go51,(t357:Int).toNat * 5+1,none⟩=false:=hfr51 1
            have hf51_2:World.frozen? _ ⟨go51,(t357:Int).toNat * 5+2,none⟩=false:=hfr51 2
            have hf51_3:World.frozen? _ ⟨go51,(t357:Int).toNat * 5+3,none⟩=false:=hfr51 3
            have hf51_4:World.frozen? _ ⟨go51,(t357:Int).toNat * 5+4,none⟩=false:=hfr51 4
            clear hcl51 hcc51 hfr51 hM51
            replace p51:=ezT p51
            replace q51:=ezT q51
            have HN0_go51:=am (show g≠go51 from by have h_:=ja.own_ne HI0.out HO_337000.out (by decide);intro e_;exact h_ (by rw [e_];rfl))
            obtain ⟨ce61,hcl61,hM61,hcc61,hfr61⟩:=Kd.jub HO_337000.out z54 (t357:Int) (ozD (uq)) (by have h_:(t357:Int)<((x337000_2.length:Int):Int):=ozD (uq);first | exact h_ |(have e_:=(Kd.jm HO_337000.out).1;omega) | simpa using h_)
            obtain rfl:=jUa hM61
            have HP61:=(Kd.R_seg HO_337000.out (t357:Int) (ozD (uq)) (by have h_:(t357:Int)<((x337000_2.length:Int):Int):=ozD (uq);first | exact h_ |(have e_:=(Kd.jm HO_337000.out).1;omega) | simpa using h_) (seg:=[.bool (!((jb x337000_2 t357).f4))]) (j:=4) hcl61 hcc61 (show 5≤5 from by decide) (x':=(⟨(jb x337000_2 t357).f0,(jb x337000_2 t357).f1,(jb x337000_2 t357).f2,(jb x337000_2 t357).f3,!((jb x337000_2 t357).f4)⟩:S54)) (jSb _ _ _ (⟨(jb x337000_2 t357).f0,(jb x337000_2 t357).f1,(jb x337000_2 t357).f2,(jb x337000_2 t357).f3,!((jb x337000_2 t357).f4)⟩:S54) ) (fun _ hk=>hk)).1
            rw [← Ny362.out] at HP61
            have HQ61:=am HP61
            clear hcl61 hcc61 hfr61 hM61 HP61
            refine jLb (n:=13) (S:=fun w'=>w'.cell? ⟨gb336,0,none⟩=some (.slice (some ⟨go51,0,none⟩) x337000_2.length co56)∧w'.cell? ⟨go51,((t357).toNat * 5),none⟩=some (.int .i64 ((jb x337000_2 t357).f0))∧w'.cell? ⟨go51,((t357).toNat * 5)+1,none⟩=some (.int .i64 ((jb x337000_2 t357).f1))∧w'.cell? ⟨go51,((t357).toNat * 5)+2,none⟩=some (.int .i64 ((jb x337000_2 t357).f2))∧w'.cell? ⟨go51,((t357).toNat * 5)+3,none⟩=some (.int .i64 ((jb x337000_2 t357).f3))∧w'.cell? ⟨go51,((t357).toNat * 5)+4,none⟩=some (.bool ((jb x337000_2 t357).f4))) (ds:=[12]) #[false,false,false,false,false,false,false,false,false,false,false,false,false] (by kernel_rfl) rfl rfl ⟨(jI BK336.out 0).trans rfl,hx361_0,hx361_1,hx361_2,hx361_3,hx361_4⟩ (fun hHeld=>?_);refine jAb jv.tab13 jv.bits13 (fun HT_ HW_=>?_)
            generalize w59.drew=w60 at HO_337000 BK331 BK332 BK336 HI0 HK HB GG51 HQ61 hf51_0 hf51_1 hf51_2 hf51_3 hf51_4 hx361_0 hx361_1 hx361_2 hx361_3 hx361_4 hx51_0 hx51_1 hx51_2 hx51_3 hx51_4 hHeld ⊢
            refine pq (i:=0) (N:=some 60) #[true,false,false,false,false,false,false,false,false,false,false,false,false] ?_
            refine pq (i:=2) (N:=some 62) #[true,false,true,false,false,false,false,false,false,false,false,false,false] ?_
            refine pq (i:=3) (N:=some 63) #[true,false,true,true,false,false,false,false,false,false,false,false,false] ?_
            refine pq (i:=5) (N:=some 65) #[true,false,true,true,false,true,false,false,false,false,false,false,false] ?_
            refine jBb (i:=1) (N:=some 61) (v:=?_) (a':=?_) #[true,true,true,true,false,true,false,false,false,false,false,false,false] rfl rfl (jgb HT_.out HW_.out (by kernel_rfl)) (fun _ _ _ h=>h) (Or.inl ⟨by rfl,?_⟩) hHeld ?_ ?_
            rotate_left
            ·rintro w' ⟨s0,s1,s2,s3,s4,s5⟩
             go_simp
             with_reducible rfl
            rotate_left
            ·exact sa
            refine jBb (i:=4) (N:=some 64) (v:=?_) (a':=?_) #[true,true,true,true,true,true,false,false,false,false,false,false,false] rfl rfl (jgb HT_.out HW_.out (by kernel_rfl)) (fun _ _ _ h=>h) (Or.inl ⟨by rfl,?_⟩) hHeld ?_ ?_
            rotate_left
            ·rintro w' ⟨s0,s1,s2,s3,s4,s5⟩
             go_simp
             with_reducible rfl
            rotate_left
            ·exact sa
            refine pq (i:=6) (N:=some 66) #[true,true,true,true,true,true,true,false,false,false,false,false,false] ?_
            refine pq (i:=7) (N:=some 67) #[true,true,true,true,true,true,true,true,false,false,false,false,false] ?_
            refine jBb (i:=8) (N:=some 68) (v:=?_) (a':=?_) #[true,true,true,true,true,true,true,true,true,false,false,false,false] rfl rfl (jgb HT_.out HW_.out (by kernel_rfl)) (fun _ _ _ h=>h) (Or.inl ⟨by rfl,?_⟩) hHeld ?_ ?_
            rotate_left
            ·rintro w' ⟨s0,s1,s2,s3,s4,s5⟩
             go_simp
             with_reducible rfl
            rotate_left
            ·exact sa
            refine pq (i:=9) (N:=some 69) #[true,true,true,true,true,true,true,true,true,true,false,false,false] ?_
            refine pq (i:=10) (N:=some 70) #[true,true,true,true,true,true,true,true,true,true,true,false,false] ?_
            refine pq (i:=11) (N:=some 71) #[true,true,true,true,true,true,true,true,true,true,true,true,false] ?_
            refine last_ (i:=12) (N:=none) #[true,true,true,true,true,true,true,true,true,true,true,true,true] rfl rfl (jcb HT_.out (by kernel_rfl)) (by decide) (fun K hK=>?_)
            refine jRb (w1:=?_) (by rfl) rfl ?_ ?_
            rotate_left
            ·go_simp
             rfl
            refine hK.out _ _ ?_
            clear hK K
            refine done_ (jXb HT_.out (by kernel_rfl)) ?_
            try go_wp2
            go_roundg kj37
            case measure=>have:=HK1.out;have:=HK2.out;have:=HJ37.out;omega
            case rel=>exact ⟨(wrap64 (x7_2 - 1)),(t360),(y362),(.slice (some ⟨go51,0,none⟩) x337000_2.length co56),(sq),H',⟨by have:=HK1.out;have:=HK2.out;have:=HJ37.out;omega⟩,⟨rq HQ61.out⟩,⟨by (with_reducible repeat (first | refine jh ?_ _ | refine jg ?_ | refine jk ?_ _));refine jaa ?_ (by have h_:=Kd.R_ne HO_337000.out BK331.out (by decide);intro e_;exact h_ (by rw [e_];rfl)) _;(with_reducible repeat (first | refine jh ?_ _ | refine jg ?_ | refine jk ?_ _));exact BK331.out⟩,⟨by (with_reducible repeat (first | refine jh ?_ _ | refine jg ?_ | refine jk ?_ _));refine jaa ?_ (by have h_:=Kd.R_ne HO_337000.out BK332.out (by decide);intro e_;exact h_ (by rw [e_];rfl)) _;(with_reducible repeat (first | refine jh ?_ _ | refine jg ?_ | refine jk ?_ _));exact BK332.out⟩,⟨by (with_reducible repeat (first | refine jh ?_ _ | refine jg ?_ | refine jk ?_ _));refine jaa ?_ (by have h_:=Kd.R_ne HO_337000.out BK336.out (by decide);intro e_;exact h_ (by rw [e_];rfl)) _;(with_reducible repeat (first | refine jh ?_ _ | refine jg ?_ | refine jk ?_ _));exact BK336.out⟩,⟨by repeat (first |(with_reducible first | exact HI0.out | apply ja.alloc | apply ja.drewN | apply ja.drew | apply ja.jdb | refine ja.far ?_ HN0_go51.out _ | refine ja.far ?_ NB0_331.out _ | refine ja.far ?_ NB0_332.out _ | refine ja.far ?_ NB0_336.out _) | exact HI0.out)⟩,⟨by repeat (first |(with_reducible first | exact HK.out | apply jd.set_ | apply jia | apply jZ | apply jja | refine jM ?_ GB51.out _ | refine jM ?_ GW331.out _ | refine jM ?_ GW332.out _ | refine jM ?_ GW336.out _) | exact HK.out)⟩,⟨by repeat (first |(with_reducible first | exact HB.out | apply jC | apply jr | apply jy | refine jq ?_ (Nat.le_trans HL.out GB51.out) | refine jq ?_ (ja.ge HI0.out) | refine jq ?_ GE331.out | refine jq ?_ GE332.out | refine jq ?_ GE336.out) | exact HB.out)⟩⟩
           ·rw [if_neg c50] at H
            exact absurd H (by simp)
          ·rw [if_neg c49] at H
           exact absurd H (by simp)
         ·rw [if_neg c48] at H
          have c48b0:(t357 == t359)=false:=beq_eq_false_iff_ne.mpr c48
          have c48b1:(t357 != t359)=true:=bne_iff_ne.mpr c48
          replace H:=bzS H
          obtain ⟨⟨t363,t364⟩,A620,H⟩:=H
          replace H:(if t363=0 then (if 0≤t357 then (if t357<(x337000_2.length:Int) then ((some (x337000_2.set (t357:Int).toNat (⟨(jb x337000_2 t357).f0,(jb x337000_2 t357).f1,t359,(jb x337000_2 t357).f3,(jb x337000_2 t357).f4⟩:S54):List (S54))).bind fun y365=>(jv.l1 kj37 (wrap64 (x7_2 - 1)) s0_0 t364 (y365.set (t357:Int).toNat (⟨(jb y365 t357).f0,(jb y365 t357).f1,(jb y365 t357).f2,(jb y365 t357).f3,true⟩:S54)))) else (none)) else (none)) else ((jga.f kj37 x337000_2 t357 t359).bind fun t367=>(jv.l1 kj37 (wrap64 (x7_2 - 1)) s0_0 t364 t367)))=some (r1,r2):=H
          have A62:=am A620
          clear A620
          by_cases c63:t363=0
          ·rw [if_pos c63] at H
           have c63b0:(t363 == 0)=true:=beq_iff_eq.mpr c63
           have c63b1:(t363 != 0)=false:=bne_eq_false_iff_eq.mpr c63
           clear c63
           by_cases c64:0≤t357
           ·rw [if_pos c64] at H
            have c64b0:decide (0≤t357)=true:=dzT c64
            clear c64
            by_cases c65:t357<(x337000_2.length:Int)
            ·rw [if_pos c65] at H
             have c65b0:decide (t357<(x337000_2.length:Int))=true:=dzT c65
             clear c65
             obtain ⟨y365,hy365⟩:∃ y_:List (S54),y_=(x337000_2.set (t357:Int).toNat (⟨(jb x337000_2 t357).f0,(jb x337000_2 t357).f1,t359,(jb x337000_2 t357).f3,(jb x337000_2 t357).f4⟩:S54)):=⟨_,rfl⟩
             replace H:(jv.l1 kj37 (wrap64 (x7_2 - 1)) s0_0 t364 (y365.set (t357:Int).toNat (⟨(jb y365 t357).f0,(jb y365 t357).f1,(jb y365 t357).f2,(jb y365 t357).f3,true⟩:S54)))=some (r1,r2):=by first |(rw [hy365];with_reducible exact H) |(have H2_:=(Option.bind_some _ _).symm.trans H;rw [hy365];with_reducible exact H2_) |(have H2_:=(Option.bind_some _ _).symm.trans H;with_reducible exact H2_) | with_reducible exact H |(rw [hy365];exact H) | exact H
             have Ny365:=am hy365
             clear hy365
             obtain ⟨y366,hy366⟩:∃ y_:List (S54),y_=(y365.set (t357:Int).toNat (⟨(jb y365 t357).f0,(jb y365 t357).f1,(jb y365 t357).f2,(jb y365 t357).f3,true⟩:S54)):=⟨_,rfl⟩
             replace H:(jv.l1 kj37 (wrap64 (x7_2 - 1)) s0_0 t364 y366)=some (r1,r2):=by first |(rw [hy366];with_reducible exact H) |(have H2_:=(Option.bind_some _ _).symm.trans H;rw [hy366];with_reducible exact H2_) |(have H2_:=(Option.bind_some _ _).symm.trans H;with_reducible exact H2_) | with_reducible exact H |(rw [hy366];exact H) | exact H
             have Ny366:=am hy366
             clear hy366
             have H':=am H
             clear H
             have hnb68:=NB336_331.out
             have hnc68:=NB331_336.out
             have hnb69:=NB336_332.out
             have hnc69:=NB332_336.out
             have hnb70:=NB336_0.out
             have hnc70:=NB0_336.out
             have hcz71_0:=bc0 BK336.out
             have hfz71_0:=je BK336.out 0
             obtain ⟨Ao72,co72,eo72⟩:=Kd.jN HO_337000.out
             subst eo72
             go_wp2_with (first |((with_reducible refine jA (f:=88) rfl ?_);refine gL (some 46) Try.func88 #[.pointer (some ⟨g,0,none⟩), .int .i64 (x337000_2.length:Int)] ?_;(with_reducible refine (jl.calls kj37 g s0_0 x1001_2 (x337000_2.length:Int) t357 t358 w0 _ ?side1 ?side2 A46.out).mono ?_);(case side1=>exact Y4);(case side2=>exact Y9);rintro e w73 ⟨rfl,hi,hb,hk⟩;refine ⟨_,rfl,?_⟩;replace HO_337000:=am (Kd.jH (Kd.joa (ja.apart (show ja w0 _ g s0_0 x1001_2 from Y4) (rq HO_337000.out) (by decide)) hk (fun _ h=>h.2)) (fun _ h=>h.1));replace BK331:=am (jd.blk hk (g':=gb331) (o:=.cells #[.slice A1_0 l1_0.length c1_0] 37 (0,0)) (kq BK331.out) NB331_0.out (by simp));replace BK332:=am (jd.blk hk (g':=gb332) (o:=.cells #[.slice none 0 0] 32 (0,0)) (kq BK332.out) NB332_0.out (by simp));replace BK336:=am (jd.blk hk (g':=gb336) (o:=.cells #[.slice Ao72 x337000_2.length co72] 32 (0,0)) (kq BK336.out) NB336_0.out (by simp));replace HK:=am (jd.trans (Y7) hk (.inl rfl));replace HB:=am (hb);replace HI0:=am (hi);(try clear hb);(try clear hb2);(try clear hk);(try clear hi);have hcz74_0:=bc0 BK336.out;have hfz74_0:=je BK336.out 0) |((with_reducible refine jA (f:=88) rfl ?_);refine gL (some 51) Try.func88 #[.pointer (some ⟨g,0,none⟩), .int .i64 (x337000_2.length:Int)] ?_;(with_reducible refine (jl.calls kj37 g s0_0 t358 (x337000_2.length:Int) t359 t360 w0 _ ?side1 ?side2 A47.out).mono ?_);(case side1=>exact Y4);(case side2=>exact Y9);rintro e w75 ⟨rfl,hi,hb,hk⟩;refine ⟨_,rfl,?_⟩;replace HO_337000:=am (Kd.jH (Kd.joa (ja.apart (show ja w0 _ g s0_0 t358 from Y4) (rq HO_337000.out) (by decide)) hk (fun _ h=>h.2)) (fun _ h=>h.1));replace BK331:=am (jd.blk hk (g':=gb331) (o:=.cells #[.slice A1_0 l1_0.length c1_0] 37 (0,0)) (kq BK331.out) NB331_0.out (by simp));replace BK332:=am (jd.blk hk (g':=gb332) (o:=.cells #[.slice none 0 0] 32 (0,0)) (kq BK332.out) NB332_0.out (by simp));replace BK336:=am (jd.blk hk (g':=gb336) (o:=.cells #[.slice Ao72 x337000_2.length co72] 32 (0,0)) (kq BK336.out) NB336_0.out (by simp));replace HK:=am (jd.trans (Y7) hk (.inl rfl));replace HB:=am (hb);replace HI0:=am (hi);(try clear hb);(try clear hb2);(try clear hk);(try clear hi)) |((with_reducible refine jA (f:=88) rfl ?_);refine gL (some 74) Try.func88 #[.pointer (some ⟨g,0,none⟩), .int .i64 3] ?_;(with_reducible refine (jl.calls kj37 g s0_0 t360 3 t363 t364 w0 _ ?side1 ?side2 A62.out).mono ?_);(case side1=>exact Y4);(case side2=>exact Y9);rintro e w76 ⟨rfl,hi,hb,hk⟩;refine ⟨_,rfl,?_⟩;replace HO_337000:=am (Kd.jH (Kd.joa (ja.apart (show ja w0 _ g s0_0 t360 from Y4) (rq HO_337000.out) (by decide)) hk (fun _ h=>h.2)) (fun _ h=>h.1));replace BK331:=am (jd.blk hk (g':=gb331) (o:=.cells #[.slice A1_0 l1_0.length c1_0] 37 (0,0)) (kq BK331.out) NB331_0.out (by simp));replace BK332:=am (jd.blk hk (g':=gb332) (o:=.cells #[.slice none 0 0] 32 (0,0)) (kq BK332.out) NB332_0.out (by simp));replace BK336:=am (jd.blk hk (g':=gb336) (o:=.cells #[.slice Ao72 x337000_2.length co72] 32 (0,0)) (kq BK336.out) NB336_0.out (by simp));replace HK:=am (jd.trans (Y7) hk (.inl rfl));replace HB:=am (hb);replace HI0:=am (hi);(try clear hb);(try clear hb2);(try clear hk);(try clear hi);have hcz77_0:=bc0 BK336.out;have hfz77_0:=je BK336.out 0;have p66:0≤(t357:Int):=ozD (uq);have q66:(t357:Int)<((x337000_2.length:Int):Int):=ozD (uq);obtain ⟨go66,co66,eo66,gb66,gl66,cl66,HG66⟩:=Kd.R_form HO_337000.out (by omega);(first | cases eo66 |(injection eo66 with ea_ en_ ec_;(first | subst ea_ |(injection ea_ with ea_;subst ea_));subst ec_;clear en_));have GB66:=am gb66;have GG66:=am HG66;clear gb66 gl66 HG66;obtain ⟨ce66,hcl66,hM66,hcc66,hfr66⟩:=Kd.jub HO_337000.out z54 (t357:Int) p66 q66;obtain rfl:=jUa hM66;have hx66_0:w76.cell? ⟨go66,(t357:Int).toNat * 5,none⟩=some (.int .i64 ((jb x337000_2 t357).f0)):=hcc66 0 _ rfl;have hx66_1:w76.cell? ⟨go66,(t357:Int).toNat * 5+1,none⟩=some (.int .i64 ((jb x337000_2 t357).f1)):=hcc66 1 _ rfl;have hx66_2:w76.cell? ⟨go66,(t357:Int).toNat * 5+2,none⟩=some (.int .i64 ((jb x337000_2 t357).f2)):=hcc66 2 _ rfl;have hx66_3:w76.cell? ⟨go66,(t357:Int).toNat * 5+3,none⟩=some (.int .i64 ((jb x337000_2 t357).f3)):=hcc66 3 _ rfl;have hx66_4:w76.cell? ⟨go66,(t357:Int).toNat * 5+4,none⟩=some (.bool ((jb x337000_2 t357).f4)):=hcc66 4 _ rfl;have hf66_0:w76.frozen? ⟨go66,(t357:Int).toNat * 5,none⟩=false:=hfr66 0;have hf66_1:w76.frozen? ⟨go66,(t357:Int).toNat * 5+1,none⟩=false:=hfr66 1;have hf66_2:w76.frozen? ⟨go66,(t357:Int).toNat * 5+2,none⟩=false:=hfr66 2;have hf66_3:w76.frozen? ⟨go66,(t357:Int).toNat * 5+3,none⟩=false:=hfr66 3;have hf66_4:w76.frozen? ⟨go66,(t357:Int).toNat * 5+4,none⟩=false:=hfr66 4;clear hcl66 hcc66 hfr66 hM66;replace p66:=ezT p66;replace q66:=ezT q66;have HX78:=am (show Kd.R k54 54 w76 w.heap.size (fun _=>True) (.slice (some ⟨go66,0,none⟩) x337000_2.length co72) x337000_2 from (rq HO_337000.out));obtain ⟨ce78,hcl78,hM78,hcc78,hfr78⟩:=Kd.jub HX78.out z54 (t357:Int) (ozD (uq)) (by have h_:(t357:Int)<((x337000_2.length:Int):Int):=ozD (uq);first | exact h_ |(have e_:=(Kd.jm HO_337000.out).1;omega) | simpa using h_);obtain rfl:=jUa hM78;have HP78:=Kd.R_seg HX78.out (t357:Int) (ozD (uq)) (by have h_:(t357:Int)<((x337000_2.length:Int):Int):=ozD (uq);first | exact h_ |(have e_:=(Kd.jm HO_337000.out).1;omega) | simpa using h_) (seg:=[.int .i64 t359]) (j:=2) hcl78 hcc78 (show 3≤5 from by decide) (x':=(⟨(jb x337000_2 t357).f0,(jb x337000_2 t357).f1,t359,(jb x337000_2 t357).f3,(jb x337000_2 t357).f4⟩:S54)) (jSb _ _ _ (⟨(jb x337000_2 t357).f0,(jb x337000_2 t357).f1,t359,(jb x337000_2 t357).f3,(jb x337000_2 t357).f4⟩:S54) ) (fun _ hk=>hk);have hx78_2:=hcc78 2 _ rfl;(try simp only [show (k54).sz=5 from rfl,Nat.mul_one,Nat.add_zero] at hx78_2);have hf78_2:=hfr78 2;(try simp only [show (k54).sz=5 from rfl,Nat.mul_one,Nat.add_zero] at hf78_2);clear hcl78 hcc78 hfr78 hM78) |((with_reducible refine jYb (t:=3) (p:=81) rfl ?_);refine jQb (t:=3) (p:=81) (v:=?vo_w79) (w1:=(w76.setCell ⟨go66,(t357:Int).toNat * 5+2,none⟩ (.int .i64 t359))) ?hg ?ho ?hn ?hr ?_;(case ho=>rfl);(case hg=>rfl);(case hn=>rfl);(case hr=>exact Y3);intro w79 hw;have hg:w76.grownBy w79 (some go66):=(by rw [hw];exact HP78.2);have hp_:Kd.R k54 54 w79 w.heap.size (fun _=>True) (.slice (some ⟨go66,0,none⟩) x337000_2.length co72) y365:=(by rw [hw,Ny365.out];exact HP78.1);clear HP78;replace BK331:=am (jEa (g:=gb331) (o:=.cells #[.slice A1_0 l1_0.length c1_0] 37 (0,0)) (kq BK331.out) hg (Kd.R_ne HO_337000.out BK331.out (by decide)));replace BK332:=am (jEa (g:=gb332) (o:=.cells #[.slice none 0 0] 32 (0,0)) (kq BK332.out) hg (Kd.R_ne HO_337000.out BK332.out (by decide)));replace BK336:=am (jEa (g:=gb336) (o:=.cells #[.slice (some ⟨go66,0,none⟩) x337000_2.length co72] 32 (0,0)) (kq BK336.out) hg (Kd.R_ne HO_337000.out BK336.out (by decide)));replace HI0:=am (ja.grown (Y4) hg (ja.own_ne HI0.out HO_337000.out (by decide)));replace HB:=am ((by rw [hw];exact jq (HB.out) (Nat.le_trans HL.out GB66.out):Below w0.heap.size w0 w79));replace HK:=am (jd.trans (Y7) (jd.of_grown hg g) (Kd.R_base2 HO_337000.out));replace HO_337000:=am (hp_);clear hg hw hp_;have hcz80_0:=bc0 BK336.out;have hfz80_0:=je BK336.out 0;have p67:0≤(t357:Int):=ozD (uq);have q67:(t357:Int)<((x337000_2.length:Int):Int):=ozD (uq);obtain ⟨ce67,hcl67,hM67,hcc67,hfr67⟩:=Kd.jub HO_337000.out z54 (t357:Int) p67 q67;obtain rfl:=jUa hM67;have hx67_0:w79.cell? ⟨go66,(t357:Int).toNat * 5,none⟩=some (.int .i64 ((jb y365 t357).f0)):=hcc67 0 _ rfl;have hx67_1:w79.cell? ⟨go66,(t357:Int).toNat * 5+1,none⟩=some (.int .i64 ((jb y365 t357).f1)):=hcc67 1 _ rfl;have hx67_2:w79.cell? ⟨go66,(t357:Int).toNat * 5+2,none⟩=some (.int .i64 ((jb y365 t357).f2)):=hcc67 2 _ rfl;have hx67_3:w79.cell? ⟨go66,(t357:Int).toNat * 5+3,none⟩=some (.int .i64 ((jb y365 t357).f3)):=hcc67 3 _ rfl;have hx67_4:w79.cell? ⟨go66,(t357:Int).toNat * 5+4,none⟩=some (.bool ((jb y365 t357).f4)):=hcc67 4 _ rfl;have hf67_0:w79.frozen? ⟨go66,(t357:Int).toNat * 5,none⟩=false:=hfr67 0;have hf67_1:w79.frozen? ⟨go66,(t357:Int).toNat * 5+1,none⟩=false:=hfr67 1;have hf67_2:w79.frozen? ⟨go66,(t357:Int).toNat * 5+2,none⟩=false:=hfr67 2;have hf67_3:w79.frozen? ⟨go66,(t357:Int).toNat * 5+3,none⟩=false:=hfr67 3;have hf67_4:w79.frozen? ⟨go66,(t357:Int).toNat * 5+4,none⟩=false:=hfr67 4;clear hcl67 hcc67 hfr67 hM67;replace p67:=ezT p67;replace q67:=ezT q67;have HX81:=am (show Kd.R k54 54 w79 w.heap.size (fun _=>True) (.slice (some ⟨go66,0,none⟩) x337000_2.length co72) y365 from (rq HO_337000.out));obtain ⟨ce81,hcl81,hM81,hcc81,hfr81⟩:=Kd.jub HX81.out z54 (t357:Int) (ozD (uq)) (by have h_:(t357:Int)<((x337000_2.length:Int):Int):=ozD (uq);first | exact h_ |(have e_:=(Kd.jm HO_337000.out).1;omega) | simpa using h_);obtain rfl:=jUa hM81;have HP81:=Kd.R_seg HX81.out (t357:Int) (ozD (uq)) (by have h_:(t357:Int)<((x337000_2.length:Int):Int):=ozD (uq);first | exact h_ |(have e_:=(Kd.jm HO_337000.out).1;omega) | simpa using h_) (seg:=[.bool true]) (j:=4) hcl81 hcc81 (show 5≤5 from by decide) (x':=(⟨(jb y365 t357).f0,(jb y365 t357).f1,(jb y365 t357).f2,(jb y365 t357).f3,true⟩:S54)) (jSb _ _ _ (⟨(jb y365 t357).f0,(jb y365 t357).f1,(jb y365 t357).f2,(jb y365 t357).f3,true⟩:S54) ) (fun _ hk=>hk);have hx81_4:=hcc81 4 _ rfl;(try simp only [show (k54).sz=5 from rfl,Nat.mul_one,Nat.add_zero] at hx81_4);have hf81_4:=hfr81 4;(try simp only [show (k54).sz=5 from rfl,Nat.mul_one,Nat.add_zero] at hf81_4);clear hcl81 hcc81 hfr81 hM81) |((with_reducible refine jYb (t:=4) (p:=86) rfl ?_);refine jQb (t:=4) (p:=86) (v:=?vo_w82) (w1:=(w79.setCell ⟨go66,(t357:Int).toNat * 5+4,none⟩ (.bool true))) ?hg ?ho ?hn ?hr ?_;(case ho=>rfl);(case hg=>rfl);(case hn=>rfl);(case hr=>exact Y3);intro w82 hw;have hg:w79.grownBy w82 (some go66):=(by rw [hw];exact HP81.2);have hp_:Kd.R k54 54 w82 w.heap.size (fun _=>True) (.slice (some ⟨go66,0,none⟩) x337000_2.length co72) y366:=(by rw [hw,Ny366.out];exact HP81.1);clear HP81;replace BK331:=am (jEa (g:=gb331) (o:=.cells #[.slice A1_0 l1_0.length c1_0] 37 (0,0)) (kq BK331.out) hg (Kd.R_ne HO_337000.out BK331.out (by decide)));replace BK332:=am (jEa (g:=gb332) (o:=.cells #[.slice none 0 0] 32 (0,0)) (kq BK332.out) hg (Kd.R_ne HO_337000.out BK332.out (by decide)));replace BK336:=am (jEa (g:=gb336) (o:=.cells #[.slice (some ⟨go66,0,none⟩) x337000_2.length co72] 32 (0,0)) (kq BK336.out) hg (Kd.R_ne HO_337000.out BK336.out (by decide)));replace HI0:=am (ja.grown (Y4) hg (ja.own_ne HI0.out HO_337000.out (by decide)));replace HB:=am ((by rw [hw];exact jq (HB.out) (Nat.le_trans HL.out GB66.out):Below w0.heap.size w0 w82));replace HK:=am (jd.trans (Y7) (jd.of_grown hg g) (Kd.R_base2 HO_337000.out));replace HO_337000:=am (hp_);clear hg hw hp_))
             go_roundg kj37
             case measure=>have:=HK1.out;have:=HK2.out;have:=HJ37.out;omega
             case rel=>exact ⟨(wrap64 (x7_2 - 1)),(t364),(y366),(.slice (some ⟨go66,0,none⟩) x337000_2.length co72),(sq),H',⟨by have:=HK1.out;have:=HK2.out;have:=HJ37.out;omega⟩,⟨rq HO_337000.out⟩,⟨kq BK331.out⟩,⟨kq BK332.out⟩,⟨kq BK336.out⟩,⟨Y4⟩,⟨Y7⟩,⟨Y9⟩⟩
            ·rw [if_neg c65] at H
             exact absurd H (by simp)
           ·rw [if_neg c64] at H
            exact absurd H (by simp)
          ·rw [if_neg c63] at H
           have c63b0:(t363 == 0)=false:=beq_eq_false_iff_ne.mpr c63
           have c63b1:(t363 != 0)=true:=bne_iff_ne.mpr c63
           replace H:=bzS H
           obtain ⟨t367,A830,H⟩:=H
           replace H:(jv.l1 kj37 (wrap64 (x7_2 - 1)) s0_0 t364 t367)=some (r1,r2):=H
           have A83:=am A830
           clear A830
           have H':=am H
           clear H
           have hnb84:=NB336_331.out
           have hnc84:=NB331_336.out
           have hnb85:=NB336_332.out
           have hnc85:=NB332_336.out
           have hnb86:=NB336_0.out
           have hnc86:=NB0_336.out
           have hcz87_0:=bc0 BK336.out
           have hfz87_0:=je BK336.out 0
           obtain ⟨Ao88,co88,eo88⟩:=Kd.jN HO_337000.out
           subst eo88
           go_wp2_with (first |((with_reducible refine jA (f:=88) rfl ?_);refine gL (some 46) Try.func88 #[.pointer (some ⟨g,0,none⟩), .int .i64 (x337000_2.length:Int)] ?_;(with_reducible refine (jl.calls kj37 g s0_0 x1001_2 (x337000_2.length:Int) t357 t358 w0 _ ?side1 ?side2 A46.out).mono ?_);(case side1=>exact Y4);(case side2=>exact Y9);rintro e w89 ⟨rfl,hi,hb,hk⟩;refine ⟨_,rfl,?_⟩;replace HO_337000:=am (Kd.jH (Kd.joa (ja.apart (show ja w0 _ g s0_0 x1001_2 from Y4) (rq HO_337000.out) (by decide)) hk (fun _ h=>h.2)) (fun _ h=>h.1));replace BK331:=am (jd.blk hk (g':=gb331) (o:=.cells #[.slice A1_0 l1_0.length c1_0] 37 (0,0)) (kq BK331.out) NB331_0.out (by simp));replace BK332:=am (jd.blk hk (g':=gb332) (o:=.cells #[.slice none 0 0] 32 (0,0)) (kq BK332.out) NB332_0.out (by simp));replace BK336:=am (jd.blk hk (g':=gb336) (o:=.cells #[.slice Ao88 x337000_2.length co88] 32 (0,0)) (kq BK336.out) NB336_0.out (by simp));replace HK:=am (jd.trans (Y7) hk (.inl rfl));replace HB:=am (hb);replace HI0:=am (hi);(try clear hb);(try clear hb2);(try clear hk);(try clear hi);have hcz90_0:=bc0 BK336.out;have hfz90_0:=je BK336.out 0) |((with_reducible refine jA (f:=88) rfl ?_);refine gL (some 51) Try.func88 #[.pointer (some ⟨g,0,none⟩), .int .i64 (x337000_2.length:Int)] ?_;(with_reducible refine (jl.calls kj37 g s0_0 t358 (x337000_2.length:Int) t359 t360 w0 _ ?side1 ?side2 A47.out).mono ?_);(case side1=>exact Y4);(case side2=>exact Y9);rintro e w91 ⟨rfl,hi,hb,hk⟩;refine ⟨_,rfl,?_⟩;replace HO_337000:=am (Kd.jH (Kd.joa (ja.apart (show ja w0 _ g s0_0 t358 from Y4) (rq HO_337000.out) (by decide)) hk (fun _ h=>h.2)) (fun _ h=>h.1));replace BK331:=am (jd.blk hk (g':=gb331) (o:=.cells #[.slice A1_0 l1_0.length c1_0] 37 (0,0)) (kq BK331.out) NB331_0.out (by simp));replace BK332:=am (jd.blk hk (g':=gb332) (o:=.cells #[.slice none 0 0] 32 (0,0)) (kq BK332.out) NB332_0.out (by simp));replace BK336:=am (jd.blk hk (g':=gb336) (o:=.cells #[.slice Ao88 x337000_2.length co88] 32 (0,0)) (kq BK336.out) NB336_0.out (by simp));replace HK:=am (jd.trans (Y7) hk (.inl rfl));replace HB:=am (hb);replace HI0:=am (hi);(try clear hb);(try clear hb2);(try clear hk);(try clear hi)) |((with_reducible refine jA (f:=88) rfl ?_);refine gL (some 74) Try.func88 #[.pointer (some ⟨g,0,none⟩), .int .i64 3] ?_;(with_reducible refine (jl.calls kj37 g s0_0 t360 3 t363 t364 w0 _ ?side1 ?side2 A62.out).mono ?_);(case side1=>exact Y4);(case side2=>exact Y9);rintro e w92 ⟨rfl,hi,hb,hk⟩;refine ⟨_,rfl,?_⟩;replace HO_337000:=am (Kd.jH (Kd.joa (ja.apart (show ja w0 _ g s0_0 t360 from Y4) (rq HO_337000.out) (by decide)) hk (fun _ h=>h.2)) (fun _ h=>h.1));replace BK331:=am (jd.blk hk (g':=gb331) (o:=.cells #[.slice A1_0 l1_0.length c1_0] 37 (0,0)) (kq BK331.out) NB331_0.out (by simp));replace BK332:=am (jd.blk hk (g':=gb332) (o:=.cells #[.slice none 0 0] 32 (0,0)) (kq BK332.out) NB332_0.out (by simp));replace BK336:=am (jd.blk hk (g':=gb336) (o:=.cells #[.slice Ao88 x337000_2.length co88] 32 (0,0)) (kq BK336.out) NB336_0.out (by simp));replace HK:=am (jd.trans (Y7) hk (.inl rfl));replace HB:=am (hb);replace HI0:=am (hi);(try clear hb);(try clear hb2);(try clear hk);(try clear hi);have hcz93_0:=bc0 BK336.out;have hfz93_0:=je BK336.out 0) |((with_reducible refine jA (f:=92) rfl ?_);refine gL (some 55) Try.func92 #[.agg #[.slice Ao88 x337000_2.length co88], .int .i64 t357, .int .i64 t359] ?_;(with_reducible refine (jga.calls kj37 _ _ x337000_2 t357 t359 t367 _ ?side1 ?side2 A83.out).mono ?_);(case side1=>exact cq (Kd.jm HO_337000.out).2.2);(case side2=>exact (Kd.jm HO_337000.out).2.1);rintro e w94 ⟨v368,rfl,ho0,hb⟩;refine ⟨_,rfl,?_⟩;have HO369:=am (Kd.jV (Kd.jMb ho0 (Kd.R_lt (rq HO_337000.out))) (jda (w:=w) (g:=g) (row:=none) (Y7)));replace HO_337000:=am (Kd.job (rq HO_337000.out) (Kd.jNb ho0) hb);replace BK331:=am (jc (g:=gb331) (o:=.cells #[.slice A1_0 l1_0.length c1_0] 37 (0,0)) (kq BK331.out) hb);replace BK332:=am (jc (g:=gb332) (o:=.cells #[.slice none 0 0] 32 (0,0)) (kq BK332.out) hb);replace BK336:=am (jc (g:=gb336) (o:=.cells #[.slice Ao88 x337000_2.length co88] 32 (0,0)) (kq BK336.out) hb);replace HK:=am (jd.trans (Y7) (jd.of_below hb g none) (.inl rfl));replace HB:=am (jf (Y9) hb);replace HI0:=am (ja.below (Y4) hb);(try clear hb);(try clear hb2);(try clear hk);(try clear hi);(try clear ho0);obtain ⟨Ao95,co95,eo95⟩:=Kd.jN HO369.out;subst eo95;have hcz96_0:=bc0 BK336.out;have hfz96_0:=je BK336.out 0))
           go_roundg kj37
           case measure=>have:=HK1.out;have:=HK2.out;have:=HJ37.out;omega
           case rel=>exact ⟨(wrap64 (x7_2 - 1)),(t364),(t367),(.slice Ao95 t367.length co95),(sq),H',⟨by have:=HK1.out;have:=HK2.out;have:=HJ37.out;omega⟩,⟨by (with_reducible repeat (first | apply Kd.jW | apply Kd.jY | apply Kd.jU));exact Kd.jH (Kd.jya (p:=⟨gb336,0,none⟩) (Kd.jR HO369.out BK336.out (by decide)) (fun _ hk=>hk.2) (.slice Ao95 t367.length co95)) (fun _ hk=>trivial)⟩,⟨by (with_reducible repeat (first | refine jh ?_ _ | refine jg ?_ | refine jk ?_ _));refine jaa ?_ NB331_336.out _;(with_reducible repeat (first | refine jh ?_ _ | refine jg ?_ | refine jk ?_ _));exact BK331.out⟩,⟨by (with_reducible repeat (first | refine jh ?_ _ | refine jg ?_ | refine jk ?_ _));refine jaa ?_ NB332_336.out _;(with_reducible repeat (first | refine jh ?_ _ | refine jg ?_ | refine jk ?_ _));exact BK332.out⟩,⟨by (with_reducible repeat (first | refine jh ?_ _ | refine jg ?_ | refine jk ?_ _));refine jHa (cs:=#[.slice Ao88 x337000_2.length co88]) ?_ 0 _ rfl;(with_reducible repeat (first | refine jh ?_ _ | refine jg ?_ | refine jk ?_ _));exact BK336.out⟩,⟨Y4⟩,⟨Y7⟩,⟨Y9⟩⟩
        ·replace c45:=Bool.eq_false_iff.mpr c45
         subst c45
         have H1:(some (x337000_2,x1001_2))=some (r1,r2):=by rw [if_neg (show ¬ (false=true) by decide)] at H;exact H
         clear H
         have H:=H1
         clear H1
         simp only [Option.some.injEq,Prod.mk.injEq] at H
         obtain ⟨rfl,rfl⟩:=H
         have hnb97:=NB336_331.out
         have hnc97:=NB331_336.out
         have hnb98:=NB336_332.out
         have hnc98:=NB332_336.out
         have hnb99:=NB336_0.out
         have hnc99:=NB0_336.out
         have hcz100_0:=bc0 BK336.out
         have hfz100_0:=je BK336.out 0
         obtain ⟨Ao101,co101,eo101⟩:=Kd.jN HO_337000.out
         subst eo101
         have hnb102:=NB332_331.out
         have hnc102:=NB331_332.out
         have hnb103:=NB332_0.out
         have hnc103:=NB0_332.out
         have hcz104_0:=bc0 BK332.out
         have hfz104_0:=je BK332.out 0
         go_wp2
         refine bodyPost_ret (results_cell_row rfl _ _ gb332 32 #[.slice Ao101 x337000_2.length co101] (0,0) _ rfl (by (with_reducible repeat (first | refine jh ?_ _ | refine jg ?_ | refine jk ?_ _));refine jHa (cs:=#[.slice none 0 0]) ?_ 0 _ rfl;(with_reducible repeat (first | refine jh ?_ _ | refine jg ?_ | refine jk ?_ _));exact BK332.out) Try.underlying32 rfl (by kernel_rfl)) rfl ?_
         exact ⟨_,Y2,by (with_reducible repeat (first | apply Kd.jW | apply Kd.jY | apply Kd.jU));exact Kd.jH (Kd.jya (p:=⟨gb332,0,none⟩) (Kd.jR HO_337000.out BK332.out (by decide)) (fun _ hk=>hk.2) (.slice Ao101 x337000_2.length co101)) (fun _ hk=>trivial),Y4,Y9,Y7⟩
def jP.l0 : Nat → List ByteArray → Int → Int → List Int → Int → List (S94) → Option ((List (S94)) × Int)
 | 0,_,_,_,_,_,_=>none
 | k+1,x3,x5,x6,x1000,x1001,x378000=>if x6<x5 then (if 0≤x6 then (if x6<(x3.length:Int) then ((jl.f k x1000 x1001 x6).bind fun bt384=>((jw.f k x1000 bt384.2 (([0,bt384.1,wrap64 (x6 - 1)]:List Int))).bind fun bt389=>(if x378000.length<5864062014805 then (jP.l0 k x3 x5 (wrap64 (x6+1)) x1000 bt389.2 (x378000 ++ [(⟨rdOf ByteArray.empty x3 x6,bt389.1⟩:S94)])) else (none)))) else (none)) else (none)) else (some (x378000,x1001))
def jP.f (k : Nat) (s0_0 : List Int) (s0_1 : Int) : Option ((List (S94)) × Int) := (jw.f k s0_0 s0_1 (([4, 5, 3, 6, 2, 1, 8] : List Int))).bind fun bt381 => (jP.l0 k (([(⟨#[97, 110, 121]⟩ : ByteArray), (⟨#[105, 111]⟩ : ByteArray), (⟨#[107, 101, 121]⟩ : ByteArray), (⟨#[116, 105, 109, 101]⟩ : ByteArray), (⟨#[110, 101, 116]⟩ : ByteArray), (⟨#[100, 105, 115, 107]⟩ : ByteArray), (⟨#[116, 121, 112, 101]⟩ : ByteArray), (⟨#[111, 100, 100]⟩ : ByteArray)] : List ByteArray)) bt381.1 1 s0_0 bt381.2 (([(⟨(⟨#[97, 110, 121]⟩ : ByteArray), (-1)⟩ : S94)] : List (S94))))
def jP.T7 : Bool × List (List Nat × List Nat) := (true, [([], []), ([0], [0]), ([], []), ([], []), ([2, 3], [2, 3]), ([4], [4]), ([], []), ([], []), ([], []), ([7, 8], [7, 8]), ([], []), ([10], [10]), ([9, 11], [9, 11]), ([6, 12, 9], [6, 12]), ([5, 13], [5, 13]), ([14], [14]), ([1, 15, 13], [1, 15]), ([0, 1, 2, 3, 4, 5, 6, 7, 8, 9, 10, 11, 12, 13, 14, 15, 16], []), ([17, 16, 16, 0, 1, 2, 3, 4, 5, 6, 7, 8, 9, 10, 11, 12, 13, 14, 15, 16], [16, 17])])
def jP.B7 : List Nat := [0, 1, 0, 0, 12, 28, 0, 0, 0, 384, 0, 1024, 3968, 8128, 16380, 32764, 65535, 131071, 262143]
theorem jP.tab7 : rtab .any (opsOf Try.f105 7) = jP.T7 := by kernel_rfl
theorem jP.bits7 : jGb jP.T7.2 jP.B7 = true := by kernel_rfl
set_option maxHeartbeats 8000000 in
set_option maxRecDepth 100000 in
theorem jP.calls (k : Nat) (g : Nat) (s0_0 : List Int) (s0_1 : Int) (r1 : List (S94)) (r2 : Int) (w0 w : World) (hI : ja w0 w g s0_0 s0_1) (hB : Below w0.heap.size w0 w) (h : jP.f k s0_0 s0_1 = some (r1, r2)) :
  Calls Try.prog 105 #[.pointer (some ⟨g,0,none⟩)] w fun e w'=>∃ v0_:Value,e=.returned (.agg #[v0_])∧Kd.R k94 94 w' w.heap.size (fun _=>True) v0_ r1∧ja w0 w' g s0_0 r2∧Below w0.heap.size w0 w'∧jd w w' g none:=by
 have hu37:=Try.underlying37
 have hu94:=Try.underlying94
 have HI0:=am hI
 have HK:=am (jd.refl w g none)
 have HL:=am hB.size
 clear hI
 have HW0:=am hB.size
 have HB:=am hB
 clear hB
 have H:((jw.f k s0_0 s0_1 (([4,5,3,6,2,1,8]:List Int))).bind fun bt381=>(jP.l0 k (([(⟨#[97,110,121]⟩:ByteArray),(⟨#[105,111]⟩:ByteArray),(⟨#[107,101,121]⟩:ByteArray),(⟨#[116,105,109,101]⟩:ByteArray),(⟨#[110,101,116]⟩:ByteArray),(⟨#[100,105,115,107]⟩:ByteArray),(⟨#[116,121,112,101]⟩:ByteArray),(⟨#[111,100,100]⟩:ByteArray)]:List ByteArray)) bt381.1 1 s0_0 bt381.2 (([(⟨(⟨#[97,110,121]⟩:ByteArray),(-1)⟩:S94)]:List (S94)))))=some (r1,r2):=h
 clear h
 obtain ⟨y371,hy371⟩:∃ y_:List ByteArray,y_=(([(⟨#[97,110,121]⟩:ByteArray),(⟨#[105,111]⟩:ByteArray),(⟨#[107,101,121]⟩:ByteArray),(⟨#[116,105,109,101]⟩:ByteArray),(⟨#[110,101,116]⟩:ByteArray),(⟨#[100,105,115,107]⟩:ByteArray),(⟨#[116,121,112,101]⟩:ByteArray),(⟨#[111,100,100]⟩:ByteArray)]:List ByteArray)):=⟨_,rfl⟩
 replace H:((jw.f k s0_0 s0_1 (([4,5,3,6,2,1,8]:List Int))).bind fun bt381=>(jP.l0 k y371 bt381.1 1 s0_0 bt381.2 (([(⟨(⟨#[97,110,121]⟩:ByteArray),(-1)⟩:S94)]:List (S94)))))=some (r1,r2):=by first |(rw [hy371];with_reducible exact H) |(have H2_:=(Option.bind_some _ _).symm.trans H;rw [hy371];with_reducible exact H2_) |(have H2_:=(Option.bind_some _ _).symm.trans H;with_reducible exact H2_) | with_reducible exact H |(rw [hy371];exact H) | exact H
 have Ny371:=am hy371
 clear hy371
 obtain ⟨y374,hy374⟩:∃ y_:List (S94),y_=(([(⟨(⟨#[97,110,121]⟩:ByteArray),(-1)⟩:S94)]:List (S94))):=⟨_,rfl⟩
 replace H:((jw.f k s0_0 s0_1 (([4,5,3,6,2,1,8]:List Int))).bind fun bt381=>(jP.l0 k y371 bt381.1 1 s0_0 bt381.2 y374))=some (r1,r2):=by first |(rw [hy374];with_reducible exact H) |(have H2_:=(Option.bind_some _ _).symm.trans H;rw [hy374];with_reducible exact H2_) |(have H2_:=(Option.bind_some _ _).symm.trans H;with_reducible exact H2_) | with_reducible exact H |(rw [hy374];exact H) | exact H
 have Ny374:=am hy374
 clear hy374
 obtain ⟨y378,hy378⟩:∃ y_:List Int,y_=(([4,5,3,6,2,1,8]:List Int)):=⟨_,rfl⟩
 replace H:((jw.f k s0_0 s0_1 y378).bind fun bt381=>(jP.l0 k y371 bt381.1 1 s0_0 bt381.2 y374))=some (r1,r2):=by first |(rw [hy378];with_reducible exact H) |(have H2_:=(Option.bind_some _ _).symm.trans H;rw [hy378];with_reducible exact H2_) |(have H2_:=(Option.bind_some _ _).symm.trans H;with_reducible exact H2_) | with_reducible exact H |(rw [hy378];exact H) | exact H
 have Ny378:=am hy378
 clear hy378
 replace H:=bzS H
 obtain ⟨⟨t381,t382⟩,A20,H⟩:=H
 replace H:(jP.l0 k y371 t381 1 s0_0 t382 y374)=some (r1,r2):=H
 have A2:=am A20
 clear A20
 have H':=am H
 clear H
 go_enter Try.func105,Try.ntmps105
 go_wp2_with (first |((with_reducible refine jG (N:=2) rfl ?_);refine bE (N:=2) (cs:=#[.slice none 0 0]) (t:=37) ?_;intro gb370 hg w3 hbox hb;have BK370:=am (hbox);have GW370:=am ((Y8:w.heap.size≤gb370));have GE370:=am ((Nat.le_trans HW0.out (Y8:w.heap.size≤gb370):w0.heap.size≤gb370));have NB0_370:=am ((Y25:g≠gb370));have NB370_0:=am ((Y26:gb370≠g));replace HK:=am (jd.trans (Y14) (jd.of_below hb g none) (.inl rfl));replace HB:=am (jf (Y15) hb);replace HI0:=am (ja.below (Y13) hb);clear hb hbox hg) |((with_reducible refine jG (N:=7) rfl ?_);refine Kd.R_lit Kd.string _ 9 ?hg (N:=7) ?hd (xs:=([(⟨#[97,110,121]⟩:ByteArray),(⟨#[105,111]⟩:ByteArray),(⟨#[107,101,121]⟩:ByteArray),(⟨#[116,105,109,101]⟩:ByteArray),(⟨#[110,101,116]⟩:ByteArray),(⟨#[100,105,115,107]⟩:ByteArray),(⟨#[116,121,112,101]⟩:ByteArray),(⟨#[111,100,100]⟩:ByteArray)]:List ByteArray)) (inner:=[.string (⟨#[97,110,121]⟩:ByteArray), .string (⟨#[105,111]⟩:ByteArray), .string (⟨#[107,101,121]⟩:ByteArray), .string (⟨#[116,105,109,101]⟩:ByteArray), .string (⟨#[110,101,116]⟩:ByteArray), .string (⟨#[100,105,115,107]⟩:ByteArray), .string (⟨#[116,121,112,101]⟩:ByteArray), .string (⟨#[111,100,100]⟩:ByteArray)]) (ok:=fun _=>True) (okp:=fun _=>True) ?hr ?hp (fun _ hk=>hk) trivial (Below.refl _ _) (Nat.le_refl _) (by simp) ?_;(case hd=>rfl);(case hg=>rfl);(case hr=>exact Y3);(case hp=>exact (Reps.one (show Kd.M Kd.string _ _ _ (⟨#[97,110,121]⟩:ByteArray) [.string (⟨#[97,110,121]⟩:ByteArray)] from rfl) (Reps.one (show Kd.M Kd.string _ _ _ (⟨#[105,111]⟩:ByteArray) [.string (⟨#[105,111]⟩:ByteArray)] from rfl) (Reps.one (show Kd.M Kd.string _ _ _ (⟨#[107,101,121]⟩:ByteArray) [.string (⟨#[107,101,121]⟩:ByteArray)] from rfl) (Reps.one (show Kd.M Kd.string _ _ _ (⟨#[116,105,109,101]⟩:ByteArray) [.string (⟨#[116,105,109,101]⟩:ByteArray)] from rfl) (Reps.one (show Kd.M Kd.string _ _ _ (⟨#[110,101,116]⟩:ByteArray) [.string (⟨#[110,101,116]⟩:ByteArray)] from rfl) (Reps.one (show Kd.M Kd.string _ _ _ (⟨#[100,105,115,107]⟩:ByteArray) [.string (⟨#[100,105,115,107]⟩:ByteArray)] from rfl) (Reps.one (show Kd.M Kd.string _ _ _ (⟨#[116,121,112,101]⟩:ByteArray) [.string (⟨#[116,121,112,101]⟩:ByteArray)] from rfl) (Reps.one (show Kd.M Kd.string _ _ _ (⟨#[111,100,100]⟩:ByteArray) [.string (⟨#[111,100,100]⟩:ByteArray)] from rfl) (Reps.none _ _))))))))));intro v372 w4 ho5 hb hg_ hnew_;clear hg_ hnew_;(first | rw [← Ny371.out] at ho5 |(simp only [Int.reduceToNat] at ho5;rw [← Ny371.out] at ho5));have HO373:=am (Kd.jV ho5 (jda (w:=w) (g:=g) (row:=none) (Y86)));replace BK370:=am (jc (g:=gb370) (o:=.cells #[.slice none 0 0] 37 (0,0)) (kq BK370.out) hb);replace HK:=am (jd.trans (Y86) (jd.of_below hb g none) (.inl rfl));replace HB:=am (jf (Y118) hb);replace HI0:=am (ja.below (Y119) hb);clear hb ho5) |((with_reducible refine jG (N:=9) rfl ?_);refine Kd.R_lit k94 _ 94 ?hg (N:=9) ?hd (xs:=([(⟨(⟨#[97,110,121]⟩:ByteArray),(-1)⟩:S94)]:List (S94))) (inner:=[.string (⟨#[97,110,121]⟩:ByteArray), .int .i64 (-1)]) (ok:=fun _=>True) (okp:=fun _=>True) ?hr ?hp (fun _ hk=>hk) trivial (Below.refl _ _) (Nat.le_refl _) (by simp) ?_;(case hd=>rfl);(case hg=>rfl);(case hr=>exact Y3);(case hp=>exact (Reps.c2 (show Kd.M k94 _ _ _ (⟨(⟨#[97,110,121]⟩:ByteArray),(-1)⟩:S94) [.string (⟨#[97,110,121]⟩:ByteArray), .int .i64 (-1)] from (k94_mkM _ _ _ (⟨(⟨#[97,110,121]⟩:ByteArray),(-1)⟩:S94) )) (Reps.none _ _)));intro v375 w6 ho7 hb hg_ hnew_;clear hg_ hnew_;(first | rw [← Ny374.out] at ho7 |(simp only [Int.reduceToNat] at ho7;rw [← Ny374.out] at ho7));have HO376:=am (Kd.jV ho7 (jda (w:=w) (g:=g) (row:=none) (Y86)));replace HO373:=am (Kd.jO (rq HO373.out) hb);replace BK370:=am (jc (g:=gb370) (o:=.cells #[.slice none 0 0] 37 (0,0)) (kq BK370.out) hb);replace HK:=am (jd.trans (Y86) (jd.of_below hb g none) (.inl rfl));replace HB:=am (jf (Y118) hb);replace HI0:=am (ja.below (Y119) hb);clear hb ho7;obtain ⟨Ao8,co8,eo8⟩:=Kd.jN HO376.out;subst eo8) |((with_reducible refine jG (N:=4) rfl ?_);refine bE (N:=4) (cs:=#[.slice none 0 0]) (t:=37) ?_;intro gb377 hg w9 hbox hb;have BK377:=am (hbox);have GW377:=am ((Y146:w.heap.size≤gb377));have GE377:=am ((Nat.le_trans HW0.out (Y146:w.heap.size≤gb377):w0.heap.size≤gb377));have NB370_377:=am ((by rw [hg];exact Nat.ne_of_lt (jha (g:=gb370) (o:=.cells #[.slice none 0 0] 37 (0,0)) (kq BK370.out)):gb370≠gb377));have NB377_370:=am ((by rw [hg];exact Nat.ne_of_gt (jha (g:=gb370) (o:=.cells #[.slice none 0 0] 37 (0,0)) (kq BK370.out)):gb377≠gb370));have NB0_377:=am ((by rw [hg];exact Nat.ne_of_lt (ja.lt (show ja w0 _ g s0_0 s0_1 from by repeat (first |(with_reducible first | exact HI0.out | apply ja.alloc | apply ja.drewN | apply ja.drew | apply ja.jdb | refine ja.far ?_ NB0_370.out _) | exact HI0.out))):g≠gb377));have NB377_0:=am ((by rw [hg];exact Nat.ne_of_gt (ja.lt (show ja w0 _ g s0_0 s0_1 from by repeat (first |(with_reducible first | exact HI0.out | apply ja.alloc | apply ja.drewN | apply ja.drew | apply ja.jdb | refine ja.far ?_ NB0_370.out _) | exact HI0.out))):gb377≠g));replace HO373:=am (Kd.jO (rq HO373.out) hb);replace HO376:=am (Kd.jO (rq HO376.out) hb);replace BK370:=am (jc (g:=gb370) (o:=.cells #[.slice none 0 0] 37 (0,0)) (kq BK370.out) hb);replace HK:=am (jd.trans (Y86) (jd.of_below hb g none) (.inl rfl));replace HB:=am (jf (Y118) hb);replace HI0:=am (ja.below (Y119) hb);clear hb hbox hg;have hnb10:=NB377_370.out;have hnc10:=NB370_377.out;have hnb11:=NB377_0.out;have hnc11:=NB0_377.out;have hcz12_0:=bc0 BK377.out;have hfz12_0:=je BK377.out 0) |((with_reducible refine jG (N:=12) rfl ?_);refine Kd.R_lit (Kd.int .i64) _ 3 ?hg (N:=12) ?hd (xs:=([4,5,3,6,2,1,8]:List Int)) (inner:=[.int .i64 4, .int .i64 5, .int .i64 3, .int .i64 6, .int .i64 2, .int .i64 1, .int .i64 8]) (ok:=fun _=>True) (okp:=fun _=>True) ?hr ?hp (fun _ hk=>hk) trivial (Below.refl _ _) (Nat.le_refl _) (by simp) ?_;(case hd=>rfl);(case hg=>rfl);(case hr=>exact Y3);(case hp=>exact (Reps.one (show Kd.M (Kd.int .i64) _ _ _ 4 [.int .i64 4] from rfl) (Reps.one (show Kd.M (Kd.int .i64) _ _ _ 5 [.int .i64 5] from rfl) (Reps.one (show Kd.M (Kd.int .i64) _ _ _ 3 [.int .i64 3] from rfl) (Reps.one (show Kd.M (Kd.int .i64) _ _ _ 6 [.int .i64 6] from rfl) (Reps.one (show Kd.M (Kd.int .i64) _ _ _ 2 [.int .i64 2] from rfl) (Reps.one (show Kd.M (Kd.int .i64) _ _ _ 1 [.int .i64 1] from rfl) (Reps.one (show Kd.M (Kd.int .i64) _ _ _ 8 [.int .i64 8] from rfl) (Reps.none _ _)))))))));intro v379 w13 ho14 hb hg_ hnew_;clear hg_ hnew_;(first | rw [← Ny378.out] at ho14 |(simp only [Int.reduceToNat] at ho14;rw [← Ny378.out] at ho14));have HO380:=am (Kd.jV ho14 (jda (w:=w) (g:=g) (row:=none) (Y30)));replace HO373:=am (Kd.jO (by (with_reducible repeat (first | apply Kd.jW | apply Kd.jY | apply Kd.jU));exact (Kd.jH (Kd.jya (p:=⟨gb377,0,none⟩) (Kd.jR HO373.out BK377.out (by decide)) (fun _ hk=>hk.2) (.slice Ao8 y374.length co8)) (fun _ h_=>h_.1))) hb);replace HO376:=am (Kd.jO (by (with_reducible repeat (first | apply Kd.jW | apply Kd.jY | apply Kd.jU));exact (Kd.jH (Kd.jya (p:=⟨gb377,0,none⟩) (Kd.jR HO376.out BK377.out (by decide)) (fun _ hk=>hk.2) (.slice Ao8 y374.length co8)) (fun _ h_=>h_.1))) hb);replace BK370:=am (jc (g:=gb370) (o:=.cells #[.slice none 0 0] 37 (0,0)) (by (with_reducible repeat (first | refine jh ?_ _ | refine jg ?_ | refine jk ?_ _));refine jaa ?_ NB370_377.out _;(with_reducible repeat (first | refine jh ?_ _ | refine jg ?_ | refine jk ?_ _));exact BK370.out) hb);replace BK377:=am (jc (g:=gb377) (o:=.cells #[.slice Ao8 y374.length co8] 37 (0,0)) (by (with_reducible repeat (first | refine jh ?_ _ | refine jg ?_ | refine jk ?_ _));refine jHa (cs:=#[.slice none 0 0]) ?_ 0 _ rfl;(with_reducible repeat (first | refine jh ?_ _ | refine jg ?_ | refine jk ?_ _));exact BK377.out) hb);replace HK:=am (jd.trans (Y30) (jd.of_below hb g none) (.inl rfl));replace HB:=am (jf (Y43) hb);replace HI0:=am (ja.below (show ja w0 (w9.setCell ⟨gb377,0,none⟩ (.slice Ao8 y374.length co8)) g s0_0 s0_1 from Y27) hb);clear hb ho14;obtain ⟨Ao15,co15,eo15⟩:=Kd.jN HO380.out;subst eo15) |((with_reducible refine jA (f:=89) rfl ?_);refine gL (some 13) Try.func89 #[.pointer (some ⟨g,0,none⟩), .slice Ao15 y378.length co15] ?_;(with_reducible refine (jw.calls k g s0_0 s0_1 _ _ y378 t381 t382 w0 _ ?side1 ?side2 ?side3 ?side4 ?side5 A2.out).mono ?_);(case side1=>exact Y27);(case side2=>exact Y43);(case side3=>exact cq (Kd.jm HO380.out).2.2);(case side4=>exact (Kd.jm HO380.out).2.1);(case side5=>exact jsb (ja.own_ne HI0.out HO380.out (by decide)));rintro e w16 ⟨rfl,hi,hb,hk⟩;refine ⟨_,rfl,?_⟩;replace BK370:=am (jd.blk hk (g':=gb370) (o:=.cells #[.slice none 0 0] 37 (0,0)) (kq BK370.out) NB370_0.out (by simp));replace HO373:=am (Kd.jH (Kd.joa (ja.apart (show ja w0 _ g s0_0 s0_1 from Y27) (rq HO373.out) (by decide)) hk (fun _ h=>h.2)) (fun _ h=>h.1));replace HO376:=am (Kd.jH (Kd.joa (ja.apart (show ja w0 _ g s0_0 s0_1 from Y27) (rq HO376.out) (by decide)) hk (fun _ h=>h.2)) (fun _ h=>h.1));replace BK377:=am (jd.blk hk (g':=gb377) (o:=.cells #[.slice Ao8 y374.length co8] 37 (0,0)) (kq BK377.out) NB377_0.out (by simp));replace HO380:=am (Kd.jH (Kd.joa (ja.apart (show ja w0 _ g s0_0 s0_1 from Y27) (rq HO380.out) (by decide)) hk (fun _ h=>h.2)) (fun _ h=>h.1));replace HK:=am (jd.trans (Y30) hk (.inl rfl));replace HB:=am (hb);replace HI0:=am (hi);(try clear hb);(try clear hb2);(try clear hk);(try clear hi)))
 go_loopg [6] k (fun kq v6 w'=>∃ (x6_1:Int) (x1001_1:Int) (x378000_1:List (S94)) (u378000:Value),v6=.int .i64 x6_1∧jB (jP.l0 kq y371 t381 x6_1 s0_0 x1001_1 x378000_1=some (r1,r2))∧jB (kq≤k)∧jB (Kd.R Kd.string 9 w' w.heap.size (fun _=>True) v372 y371)∧jB (Kd.R k94 94 w' w.heap.size (fun _=>True) u378000 x378000_1)∧jB (w'.heap[gb370]?=some (.cells #[(.slice none 0 0)] 37 (0,0)))∧jB (w'.heap[gb377]?=some (.cells #[u378000] 37 (0,0)))∧jB (ja w0 w' g s0_0 x1001_1)∧jB (jd w w' g none)∧jB (Below w0.heap.size w0 w'))
 case atStart=>exact ⟨(1),(t382),(y374),(.slice Ao8 y374.length co8),(sq),H',⟨Nat.le_refl _⟩,⟨rq HO373.out⟩,⟨rq HO376.out⟩,⟨kq BK370.out⟩,⟨kq BK377.out⟩,⟨Y27⟩,⟨Y30⟩,⟨Y43⟩⟩
 case round =>
  clear H'
  try clear c1
  try clear c2
  try clear p2
  try clear c8
  try clear c10
  try clear c11
  try clear hcz12_0
  try clear hfz12_0
  obtain ⟨x6_1,x1001_1,x378000_1,u378000,rfl,HA,HK1,HO_3,HO_378000,BK370,BK377,HI0,HK,HB⟩:=hrel
  cases gk with
  | zero=>exact absurd HA.out (by simp [jP.l0])
  | succ k1 =>
   have H:=HA.out
   clear HA
   simp only [jP.l0] at H
   by_cases c17:x6_1<t381
   ·rw [if_pos c17] at H
    have c17b0:decide (x6_1<t381)=true:=dzT c17
    clear c17
    by_cases c18:0≤x6_1
    ·rw [if_pos c18] at H
     have c18b0:decide (0≤x6_1)=true:=dzT c18
     clear c18
     by_cases c19:x6_1<(y371.length:Int)
     ·rw [if_pos c19] at H
      have c19b0:decide (x6_1<(y371.length:Int))=true:=dzT c19
      clear c19
      replace H:=bzS H
      obtain ⟨⟨t384,t385⟩,A200,H⟩:=H
      replace H:((jw.f k1 s0_0 t385 (([0,t384,wrap64 (x6_1 - 1)]:List Int))).bind fun bt389=>(if x378000_1.length<5864062014805 then (jP.l0 k1 y371 t381 (wrap64 (x6_1+1)) s0_0 bt389.2 (x378000_1 ++ [(⟨rdOf ByteArray.empty y371 x6_1,bt389.1⟩:S94)])) else (none)))=some (r1,r2):=H
      have A20:=am A200
      clear A200
      obtain ⟨y386,hy386⟩:∃ y_:List Int,y_=(([0,t384,wrap64 (x6_1 - 1)]:List Int)):=⟨_,rfl⟩
      replace H:((jw.f k1 s0_0 t385 y386).bind fun bt389=>(if x378000_1.length<5864062014805 then (jP.l0 k1 y371 t381 (wrap64 (x6_1+1)) s0_0 bt389.2 (x378000_1 ++ [(⟨rdOf ByteArray.empty y371 x6_1,bt389.1⟩:S94)])) else (none)))=some (r1,r2):=by first |(rw [hy386];with_reducible exact H) |(have H2_:=(Option.bind_some _ _).symm.trans H;rw [hy386];with_reducible exact H2_) |(have H2_:=(Option.bind_some _ _).symm.trans H;with_reducible exact H2_) | with_reducible exact H |(rw [hy386];exact H) | exact H
      have Ny386:=am hy386
      clear hy386
      replace H:=bzS H
      obtain ⟨⟨t389,t390⟩,A210,H⟩:=H
      replace H:(if x378000_1.length<5864062014805 then (jP.l0 k1 y371 t381 (wrap64 (x6_1+1)) s0_0 t390 (x378000_1 ++ [(⟨rdOf ByteArray.empty y371 x6_1,t389⟩:S94)])) else (none))=some (r1,r2):=H
      have A21:=am A210
      clear A210
      by_cases c22:x378000_1.length<5864062014805
      ·rw [if_pos c22] at H
       have LMc22:=am c22
       clear c22
       obtain ⟨y391,hy391⟩:∃ y_:List (S94),y_=(x378000_1 ++ [(⟨rdOf ByteArray.empty y371 x6_1,t389⟩:S94)]):=⟨_,rfl⟩
       replace H:(jP.l0 k1 y371 t381 (wrap64 (x6_1+1)) s0_0 t390 y391)=some (r1,r2):=by first |(rw [hy391];with_reducible exact H) |(have H2_:=(Option.bind_some _ _).symm.trans H;rw [hy391];with_reducible exact H2_) |(have H2_:=(Option.bind_some _ _).symm.trans H;with_reducible exact H2_) | with_reducible exact H |(rw [hy391];exact H) | exact H
       have Ny391:=am hy391
       clear hy391
       have H':=am H
       clear H
       try go_wp2
       replace HO_3:=am (Kd.jU HO_3.out)
       replace HO_378000:=am (Kd.jU HO_378000.out)
       replace BK370:=am (jg BK370.out)
       replace BK377:=am (jg BK377.out)
       replace HI0:=am (ja.drew HI0.out)
       replace HK:=am (jZ HK.out)
       replace HB:=am (jy HB.out)
       obtain ⟨Ao24,co24,eo24⟩:=Kd.jN HO_3.out
       (first | subst eo24 |(injection eo24 with f1_ f2_ f3_;have f4_:=f1_.symm;have f5_:=f3_.symm;clear f1_ f2_ f3_;subst f4_;subst f5_))
       have p383:0≤(x6_1:Int):=ozD (uq)
       have q383:x6_1<(y371.length:Int):=ozD (uq)
       obtain ⟨ad383,e383,hx383_0⟩:=Kd.at_string (Kd.jm HO_3.out).2.2 x6_1 p383 q383
       cases e383
       replace p383:=ezT p383
       replace q383:=ezT q383
       refine jLb (n:=19) (S:=fun w'=>w'.cell? ⟨gb377,0,none⟩=some (u378000)∧w'.cell? (ad383.add (x6_1).toNat)=some (.string (rdOf ByteArray.empty y371 x6_1))) (ds:=[16,18]) #[false,false,false,false,false,false,false,false,false,false,false,false,false,false,false,false,false,false,false] (by kernel_rfl) rfl rfl ⟨(jI BK377.out 0).trans rfl,hx383_0⟩ (fun hHeld=>?_);refine jAb jP.tab7 jP.bits7 (fun HT_ HW_=>?_)
       generalize wr.drew=w23 at HO_3 HO_378000 BK370 BK377 HI0 HK HB hx383_0 hHeld ⊢
       refine pq (i:=0) (N:=some 19) #[true,false,false,false,false,false,false,false,false,false,false,false,false,false,false,false,false,false,false] ?_
       refine pq (i:=2) (N:=some 21) #[true,false,true,false,false,false,false,false,false,false,false,false,false,false,false,false,false,false,false] ?_
       refine pq (i:=3) (N:=some 22) #[true,false,true,true,false,false,false,false,false,false,false,false,false,false,false,false,false,false,false] ?_
       refine pq (i:=4) (N:=some 23) #[true,false,true,true,true,false,false,false,false,false,false,false,false,false,false,false,false,false,false] ?_
       refine pq (i:=6) (N:=some 25) #[true,false,true,true,true,false,true,false,false,false,false,false,false,false,false,false,false,false,false] ?_
       refine pq (i:=7) (N:=some 26) #[true,false,true,true,true,false,true,true,false,false,false,false,false,false,false,false,false,false,false] ?_
       refine pq (i:=8) (N:=some 27) #[true,false,true,true,true,false,true,true,true,false,false,false,false,false,false,false,false,false,false] ?_
       refine pq (i:=10) (N:=some 29) #[true,false,true,true,true,false,true,true,true,false,true,false,false,false,false,false,false,false,false] ?_
       refine pq (i:=11) (N:=some 30) #[true,false,true,true,true,false,true,true,true,false,true,true,false,false,false,false,false,false,false] ?_
       refine jBb (i:=1) (N:=some 20) (v:=?_) (a':=?_) #[true,true,true,true,true,false,true,true,true,false,true,true,false,false,false,false,false,false,false] rfl rfl (jgb HT_.out HW_.out (by kernel_rfl)) (fun _ _ _ h=>h) (Or.inl ⟨by rfl,?_⟩) hHeld ?_ ?_
       rotate_left
       ·rintro w' ⟨s0,s1⟩
        go_simp
        with_reducible rfl
       rotate_left
       ·exact sa
       refine jBb (i:=5) (N:=some 24) (v:=?_) (a':=?_) #[true,true,true,true,true,true,true,true,true,false,true,true,false,false,false,false,false,false,false] rfl rfl (jgb HT_.out HW_.out (by kernel_rfl)) (fun _ _ _ h=>h) (Or.inl ⟨by rfl,?_⟩) hHeld ?_ ?_
       rotate_left
       ·rintro w' ⟨s0,s1⟩
        go_simp
        with_reducible rfl
       rotate_left
       ·exact sa
       refine one_ (i:=9) (N:=some 28) #[true,true,true,true,true,true,true,true,true,true,true,true,false,false,false,false,false,false,false] rfl rfl (jcb HT_.out (by kernel_rfl)) (by decide) (fun K hK=>?_)
       refine goes_ Try.func88 (by kernel_rfl) rfl #[.pointer (some ⟨g,0,none⟩), .int .i64 x6_1] (by rfl) rfl rfl (aq) ?_
       with_reducible refine (jl.calls k1 g s0_0 x1001_1 x6_1 t384 t385 w0 _ ?side1 ?side2 A20.out).mono ?_
       (case side1=>exact Y27)
       (case side2=>exact Y43)
       rintro e w25 ⟨rfl,hi,hb,hk⟩
       have HS1_:=keep_cell hk (hHeld.2) (Y147)
       refine ⟨_,rfl,?_⟩
       replace HO_3:=am (Kd.jH (Kd.joa (ja.apart (show ja w0 _ g s0_0 x1001_1 from Y27) (rq HO_3.out) (by decide)) hk (fun _ h=>h.2)) (fun _ h=>h.1))
       replace HO_378000:=am (Kd.jH (Kd.joa (ja.apart (show ja w0 _ g s0_0 x1001_1 from Y27) (rq HO_378000.out) (by decide)) hk (fun _ h=>h.2)) (fun _ h=>h.1))
       replace BK370:=am (jd.blk hk (g':=gb370) (o:=.cells #[.slice none 0 0] 37 (0,0)) (kq BK370.out) NB370_0.out (by simp))
       replace BK377:=am (jd.blk hk (g':=gb377) (o:=.cells #[u378000] 37 (0,0)) (kq BK377.out) NB377_0.out (by simp))
       replace HK:=am (jd.trans (Y30) hk (.inl rfl))
       replace HB:=am (hb)
       replace HI0:=am (hi)
       (try clear hb)
       (try clear hb2)
       (try clear hk)
       (try clear hi)
       refine hK.out _ _ ⟨(jI BK377.out 0).trans rfl,HS1_⟩ (fun hHeld=>?_)
       clear hK K
       refine jJb (a':=?_) ?_ ?_
       rotate_left
       ·show Act.put _ (some 28) _=_
        simp only [Act.put,List.setIfInBounds_toArray,List.set_cons_zero,List.set_cons_succ,jqb,jwb]
        rfl
       refine one_ (i:=12) (N:=some 31) #[true,true,true,true,true,true,true,true,true,true,true,true,true,false,false,false,false,false,false] rfl rfl (jcb HT_.out (by kernel_rfl)) (by decide) (fun K hK=>?_)
       refine Kd.jEb (Kd.int .i64) _ 3 ?hg (N:=31) ?hd (xs:=([0,t384,wrap64 (x6_1 - 1)]:List Int)) (inner:=[.int .i64 0, .int .i64 t384, .int .i64 (wrap64 (x6_1 - 1))]) (ok:=fun _=>True) (okp:=fun _=>True) ?hr ?hp (fun _ hk=>hk) trivial (Below.refl _ _) (Nat.le_refl _) (by simp) ?_;(case hd=>rfl);(case hg=>rfl);(case hr=>exact Y3);(case hp=>exact (Reps.one (show Kd.M (Kd.int .i64) _ _ _ 0 [.int .i64 0] from rfl) (Reps.one (show Kd.M (Kd.int .i64) _ _ _ t384 [.int .i64 t384] from rfl) (Reps.one (show Kd.M (Kd.int .i64) _ _ _ (wrap64 (x6_1 - 1)) [.int .i64 (wrap64 (x6_1 - 1))] from rfl) (Reps.none _ _)))))
       intro v387 w26 ho27 hb hg_ hnew_
       have HS1_:=(hb.cell (World.block_lt_of_cell? _ _ (hHeld.2))).trans (hHeld.2)
       clear hg_ hnew_
       (first | rw [← Ny386.out] at ho27 |(simp only [Int.reduceToNat] at ho27;rw [← Ny386.out] at ho27))
       have HO388:=am (Kd.jV ho27 (jda (w:=w) (g:=g) (row:=none) (Y30)))
       replace HO_3:=am (Kd.jO (rq HO_3.out) hb)
       replace HO_378000:=am (Kd.jO (rq HO_378000.out) hb)
       replace BK370:=am (jc (g:=gb370) (o:=.cells #[.slice none 0 0] 37 (0,0)) (kq BK370.out) hb)
       replace BK377:=am (jc (g:=gb377) (o:=.cells #[u378000] 37 (0,0)) (kq BK377.out) hb)
       replace HK:=am (jd.trans (Y30) (jd.of_below hb g none) (.inl rfl))
       replace HB:=am (jf (Y43) hb)
       replace HI0:=am (ja.below (Y27) hb)
       clear hb ho27
       obtain ⟨Ao28,co28,eo28⟩:=Kd.jN HO388.out
       (first | subst eo28 |(injection eo28 with f1_ f2_ f3_;have f4_:=f1_.symm;have f5_:=f3_.symm;clear f1_ f2_ f3_;subst f4_;subst f5_))
       refine hK.out _ _ ⟨(jI BK377.out 0).trans rfl,HS1_⟩ (fun hHeld=>?_)
       clear hK K
       refine jJb (a':=?_) ?_ ?_
       rotate_left
       ·show Act.put _ (some 31) _=_
        simp only [Act.put,List.setIfInBounds_toArray,List.set_cons_zero,List.set_cons_succ,jqb,jwb]
        rfl
       refine one_ (i:=13) (N:=some 32) #[true,true,true,true,true,true,true,true,true,true,true,true,true,true,false,false,false,false,false] rfl rfl (jcb HT_.out (by kernel_rfl)) (by decide) (fun K hK=>?_)
       refine goes_ Try.func89 (by kernel_rfl) rfl #[.pointer (some ⟨g,0,none⟩), .slice Ao28 y386.length co28] (by rfl) rfl rfl (aq) ?_
       with_reducible refine (jw.calls k1 g s0_0 t385 _ _ y386 t389 t390 w0 _ ?side1 ?side2 ?side3 ?side4 ?side5 A21.out).mono ?_
       (case side1=>exact Y27)
       (case side2=>exact Y43)
       (case side3=>exact cq (Kd.jm HO388.out).2.2)
       (case side4=>exact (Kd.jm HO388.out).2.1)
       (case side5=>exact jsb (ja.own_ne HI0.out HO388.out (by decide)))
       rintro e w29 ⟨rfl,hi,hb,hk⟩
       have HS1_:=keep_cell hk (hHeld.2) (Y147)
       refine ⟨_,rfl,?_⟩
       replace HO_3:=am (Kd.jH (Kd.joa (ja.apart (show ja w0 _ g s0_0 t385 from Y27) (rq HO_3.out) (by decide)) hk (fun _ h=>h.2)) (fun _ h=>h.1))
       replace HO_378000:=am (Kd.jH (Kd.joa (ja.apart (show ja w0 _ g s0_0 t385 from Y27) (rq HO_378000.out) (by decide)) hk (fun _ h=>h.2)) (fun _ h=>h.1))
       replace BK370:=am (jd.blk hk (g':=gb370) (o:=.cells #[.slice none 0 0] 37 (0,0)) (kq BK370.out) NB370_0.out (by simp))
       replace BK377:=am (jd.blk hk (g':=gb377) (o:=.cells #[u378000] 37 (0,0)) (kq BK377.out) NB377_0.out (by simp))
       replace HO388:=am (Kd.jH (Kd.joa (ja.apart (show ja w0 _ g s0_0 t385 from Y27) (rq HO388.out) (by decide)) hk (fun _ h=>h.2)) (fun _ h=>h.1))
       replace HK:=am (jd.trans (Y30) hk (.inl rfl))
       replace HB:=am (hb)
       replace HI0:=am (hi)
       (try clear hb)
       (try clear hb2)
       (try clear hk)
       (try clear hi)
       refine hK.out _ _ ⟨(jI BK377.out 0).trans rfl,HS1_⟩ (fun hHeld=>?_)
       clear hK K
       refine jJb (a':=?_) ?_ ?_
       rotate_left
       ·show Act.put _ (some 32) _=_
        simp only [Act.put,List.setIfInBounds_toArray,List.set_cons_zero,List.set_cons_succ,jqb,jwb]
        rfl
       refine pq (i:=14) (N:=some 33) #[true,true,true,true,true,true,true,true,true,true,true,true,true,true,true,false,false,false,false] ?_
       refine one_ (i:=15) (N:=some 34) #[true,true,true,true,true,true,true,true,true,true,true,true,true,true,true,true,false,false,false] rfl rfl (jcb HT_.out (by kernel_rfl)) (by decide) (fun K hK=>?_)
       refine value_ (w1:=?_) (v:=?_) (by rfl) rfl ?_ ?_
       rotate_left 2
       ·go_simp
        constructor
        ·rfl
        ·rfl
       refine hK.out _ _ ⟨(jI (jk BK377.out _) 0).trans rfl,(World.cell?_alloc_lt _ _ _ (World.block_lt_of_cell? _ _ (hHeld.2))).trans (hHeld.2)⟩ (fun hHeld=>?_)
       clear hK K
       refine jJb (a':=?_) ?_ ?_
       rotate_left
       ·show Act.put _ (some 34) _=_
        simp only [Act.put,List.setIfInBounds_toArray,List.set_cons_zero,List.set_cons_succ,jqb,jwb]
        rfl
       refine last_ (i:=16) (N:=some 35) #[true,true,true,true,true,true,true,true,true,true,true,true,true,true,true,true,true,false,false] rfl rfl (jcb HT_.out (by kernel_rfl)) (by decide) (fun K hK=>?_)
       refine Kd.R_append_step k94 w.heap.size (by rfl) (.tmp 20) (.tmp 34) 35 94 (.agg #[(.string ⟨#[]⟩),(.int .i64 0)]) 24 rfl Try.underlying35 info94 rfl (by decide) (by omega) u378000 x378000_1 (⟨rdOf ByteArray.empty y371 x6_1,t389⟩:S94) [.string (rdOf ByteArray.empty y371 x6_1), .int .i64 t389] (fun _=>True) (fun _=>False) rfl rfl ?aP (fun _ hk=>hk.elim) ?aF ?aO (Below.refl _ _) ?aS ?aL ?_
       (case aP=>exact k94_mkM _ _ _ (⟨rdOf ByteArray.empty y371 x6_1,t389⟩:S94))
       (case aF=>exact (fun _ _=>trivial))
       (case aO=>exact (rq HO_378000.out))
       (case aS=>exact (jda (w:=w) (g:=g) (row:=none) (Y30)))
       (case aL=>have:=LMc22.out;omega)
       intro v392 w30 ho hb hg hat
       rw [← Ny391.out] at ho
       have n0_:=am (Kd.R_over' (rq HO_3.out) (Kd.R_typed (rq HO_378000.out)) (by decide) hg)
       have n1_:=am (jEa (g:=gb370) (o:=.cells #[.slice none 0 0] 37 (0,0)) (kq BK370.out) hg (Kd.R_ne HO_378000.out BK370.out (by decide)))
       have n2_:=am (jEa (g:=gb377) (o:=.cells #[u378000] 37 (0,0)) (kq BK377.out) hg (Kd.R_ne HO_378000.out BK377.out (by decide)))
       have n3_:=am (ja.grown (Y27) hg (ja.own_ne HI0.out HO_378000.out (by decide)))
       have n4_:=am (Kd.R_over' (rq HO388.out) (Kd.R_typed (rq HO_378000.out)) (by decide) hg)
       have n5_:=am (below_weaken (Y43) HL.out hb)
       have n6_:=am (jd.trans (Y30) (jd.of_grown hg g) (Kd.R_base2 HO_378000.out))
       have n7_:=am (ho)
       clear HO_3
       clear BK370
       clear BK377
       clear HI0
       clear HO388
       clear HB
       clear HK
       clear HO_378000
       have HO_3:=n0_
       have BK370:=n1_
       have BK377:=n2_
       have HI0:=n3_
       have HO388:=n4_
       have HB:=n5_
       have HK:=n6_
       have HO393:=n7_
       clear n0_ n1_ n2_ n3_ n4_ n5_ n6_ n7_
       clear ho hb hg hat
       obtain ⟨Ao31,co31,eo31⟩:=Kd.jN HO393.out
       (first | subst eo31 |(injection eo31 with f1_ f2_ f3_;have f4_:=f1_.symm;have f5_:=f3_.symm;clear f1_ f2_ f3_;subst f4_;subst f5_))
       refine hK.out _ _ ?_
       clear hK K
       refine jJb (a':=?_) ?_ ?_
       rotate_left
       ·show Act.put _ (some 35) _=_
        simp only [Act.put,List.setIfInBounds_toArray,List.set_cons_zero,List.set_cons_succ,jqb,jwb]
        rfl
       refine pq (i:=17) (N:=some 36) #[true,true,true,true,true,true,true,true,true,true,true,true,true,true,true,true,true,true,false] ?_
       refine last_ (i:=18) (N:=none) #[true,true,true,true,true,true,true,true,true,true,true,true,true,true,true,true,true,true,true] rfl rfl (jcb HT_.out (by kernel_rfl)) (by decide) (fun K hK=>?_)
       have hs32:w30.cell? ⟨gb377,0,none⟩=some (u378000):=(jI BK377.out 0).trans rfl
       have hfs32:=je BK377.out 0
       have hns32_0:=NB370_377.out
       have hms32_0:=NB377_370.out
       refine jRb (w1:=?_) (by rfl) rfl ?_ ?_
       rotate_left
       ·go_simp
        rfl
       refine hK.out _ _ ?_
       clear hK K
       refine done_ (jXb HT_.out (by kernel_rfl)) ?_
       try go_wp2
       go_roundg k1
       case measure=>have:=HK1.out;omega
       case rel=>exact ⟨(wrap64 (x6_1+1)),(t390),(y391),(.slice Ao31 y391.length co31),(sq),H',⟨by have:=HK1.out;omega⟩,⟨by (with_reducible repeat (first | apply Kd.jW | apply Kd.jY | apply Kd.jU));exact Kd.jH (Kd.jya (p:=⟨gb377,0,none⟩) (Kd.jR HO_3.out BK377.out (by decide)) (fun _ hk=>hk.2) (.slice Ao31 y391.length co31)) (fun _ hk=>trivial)⟩,⟨by (with_reducible repeat (first | apply Kd.jW | apply Kd.jY | apply Kd.jU));exact Kd.jH (Kd.jya (p:=⟨gb377,0,none⟩) (Kd.jR HO393.out BK377.out (by decide)) (fun _ hk=>hk.2) (.slice Ao31 y391.length co31)) (fun _ hk=>trivial)⟩,⟨by (with_reducible repeat (first | refine jh ?_ _ | refine jg ?_ | refine jk ?_ _));refine jaa ?_ NB370_377.out _;(with_reducible repeat (first | refine jh ?_ _ | refine jg ?_ | refine jk ?_ _));exact BK370.out⟩,⟨by (with_reducible repeat (first | refine jh ?_ _ | refine jg ?_ | refine jk ?_ _));refine jHa (cs:=#[u378000]) ?_ 0 _ rfl;(with_reducible repeat (first | refine jh ?_ _ | refine jg ?_ | refine jk ?_ _));exact BK377.out⟩,⟨Y27⟩,⟨Y30⟩,⟨Y43⟩⟩
      ·rw [if_neg c22] at H
       exact absurd H (by simp)
     ·rw [if_neg c19] at H
      exact absurd H (by simp)
    ·rw [if_neg c18] at H
     exact absurd H (by simp)
   ·rw [if_neg c17] at H
    have c17b0:decide (x6_1<t381)=false:=dzF c17
    clear c17
    simp only [Option.some.injEq,Prod.mk.injEq] at H
    obtain ⟨rfl,rfl⟩:=H
    have hnb33:=NB377_370.out
    have hnc33:=NB370_377.out
    have hnb34:=NB377_0.out
    have hnc34:=NB0_377.out
    have hcz35_0:=bc0 BK377.out
    have hfz35_0:=je BK377.out 0
    obtain ⟨Ao36,co36,eo36⟩:=Kd.jN HO_378000.out
    subst eo36
    have hnb37:=NB370_0.out
    have hnc37:=NB0_370.out
    have hcz38_0:=bc0 BK370.out
    have hfz38_0:=je BK370.out 0
    go_wp2
    refine bodyPost_ret (results_cell_row rfl _ _ gb370 37 #[.slice Ao36 x378000_1.length co36] (0,0) _ rfl (by (with_reducible repeat (first | refine jh ?_ _ | refine jg ?_ | refine jk ?_ _));refine jHa (cs:=#[.slice none 0 0]) ?_ 0 _ rfl;(with_reducible repeat (first | refine jh ?_ _ | refine jg ?_ | refine jk ?_ _));exact BK370.out) Try.underlying37 rfl (by kernel_rfl)) rfl ?_
    exact ⟨_,Y2,by (with_reducible repeat (first | apply Kd.jW | apply Kd.jY | apply Kd.jU));exact Kd.jH (Kd.jya (p:=⟨gb370,0,none⟩) (Kd.jR HO_378000.out BK370.out (by decide)) (fun _ hk=>hk.2) (.slice Ao36 x378000_1.length co36)) (fun _ hk=>trivial),Y27,Y43,Y30⟩
def jRa.f (k : Nat) (s0_0 : List Int) (s0_1 : Int) (l1 : List ByteArray) : Option (ByteArray × Int) := (jl.f k s0_0 s0_1 (l1.length : Int)).bind fun bt394 => (if 0 ≤ bt394.1 then (if bt394.1 < (l1.length : Int) then (some (rdOf ByteArray.empty l1 bt394.1, bt394.2)) else (none)) else (none))
set_option maxHeartbeats 8000000 in
set_option maxRecDepth 100000 in
theorem jRa.calls (k : Nat) (g : Nat) (s0_0 : List Int) (s0_1 : Int) (A1 : Option Addr) (c1 : Nat) (l1 : List ByteArray) (r1 : ByteArray) (r2 : Int) (w0 w : World) (hI : ja w0 w g s0_0 s0_1) (hB : Below w0.heap.size w0 w) (hr1 : Kd.C Kd.string w A1 l1.length l1) (hc1 : l1.length ≤ c1) (hf1 : ∀ ad, A1 = some ad → 0 < l1.length → ad.block ≠ g) (h : jRa.f k s0_0 s0_1 l1 = some (r1, r2)) :
  Calls Try.prog 106 #[.pointer (some ⟨g,0,none⟩), .slice A1 l1.length c1] w fun e w'=>e=.returned (.string r1)∧ja w0 w' g s0_0 r2∧Below w0.heap.size w0 w'∧jd w w' g none:=by
 have HR1:=am hr1
 have HC1:=am hc1
 clear hr1 hc1
 have HI0:=am hI
 have HK:=am (jd.refl w g none)
 have HL:=am hB.size
 clear hI
 have HW0:=am hB.size
 have HB:=am hB
 clear hB
 have H:((jl.f k s0_0 s0_1 (l1.length:Int)).bind fun bt394=>(if 0≤bt394.1 then (if bt394.1<(l1.length:Int) then (some (rdOf ByteArray.empty l1 bt394.1,bt394.2)) else (none)) else (none)))=some (r1,r2):=h
 clear h
 replace H:=bzS H
 obtain ⟨⟨t394,t395⟩,A30,H⟩:=H
 replace H:(if 0≤t394 then (if t394<(l1.length:Int) then (some (rdOf ByteArray.empty l1 t394,t395)) else (none)) else (none))=some (r1,r2):=H
 have A3:=am A30
 clear A30
 by_cases c4:0≤t394
 ·rw [if_pos c4] at H
  have c4b0:decide (0≤t394)=true:=dzT c4
  clear c4
  by_cases c5:t394<(l1.length:Int)
  ·rw [if_pos c5] at H
   have c5b0:decide (t394<(l1.length:Int))=true:=dzT c5
   clear c5
   simp only [Option.some.injEq,Prod.mk.injEq] at H
   obtain ⟨rfl,rfl⟩:=H
   go_enter Try.func106,Try.ntmps106
   go_wp2_with (first |((with_reducible refine jA (f:=88) rfl ?_);refine gL (some 9) Try.func88 #[.pointer (some ⟨g,0,none⟩), .int .i64 (l1.length:Int)] ?_;(with_reducible refine (jl.calls k g s0_0 s0_1 (l1.length:Int) t394 t395 w0 _ ?side1 ?side2 A3.out).mono ?_);(case side1=>exact Y13);(case side2=>exact Y15);rintro e w6 ⟨rfl,hi,hb,hk⟩;refine ⟨_,rfl,?_⟩;replace HK:=am (jd.trans (Y14) hk (.inl rfl));replace HB:=am (hb);replace HI0:=am (hi);(try clear hb);(try clear hb2);(try clear hk);(try clear hi);have p396:0≤(t394:Int):=ozD (uq);have q396:t394<(l1.length:Int):=ozD (uq);obtain ⟨ad396,e396,hx396_0⟩:=Kd.at_string HR1.out t394 p396 q396;cases e396;replace hx396_0:=keep_cell HK.out hx396_0 (by first |(rw [add_block];exact hf1 _ rfl (by omega)) | exact hf1 _ rfl (by omega) | exact hf1 ad396 rfl (by omega));replace p396:=ezT p396;replace q396:=ezT q396))
   go_ret
   exact ⟨Y2,Y13,Y15,Y14⟩
  ·rw [if_neg c5] at H
   exact absurd H (by simp)
 ·rw [if_neg c4] at H
  exact absurd H (by simp)
end Go.Proofs.Ytecdfgejmbpclaa.P
end
