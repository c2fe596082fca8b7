/- One part of the proofs on this program: functions of the program as plain functions, that the code comes to them, and facts on them. -/
import Derived.Test.YteibechlncphnaaDoorYAll1
import Derived.Test.YteibechlncphnaaDoorYWAuto
section
namespace Go.Proofs.YteibechlncphnaaDoor.P
open Go.RowKit Go.Proofs.YteibechlncphnaaDoorW.PrintWords Go.Proofs.YteibechlncphnaaDoorW.PrintLast Go.Proofs.YteibechlncphnaaDoorW.PrintMore
attribute [local go_sem] jva jta jAa jza jga jfa jua jsa jA
set_option linter.unusedVariables false
set_option linter.unusedSimpArgs false
mutual
def jr.l0 : Nat → Int → List Int → Int → List (S99) → List (S66) → Option ((List (S66)) × Int)
 | 0,_,_,_,_,_=>none
 | k+1,x6,x1000,x1001,x137000,x142000=>if x6 > 0 then ((jm.f k x1000 x1001 (x137000.length:Int)).bind fun bt147=>((jy.f k x1000 bt147.2 (([1,2,3,0,99]:List Int))).bind fun bt152=>((jQb.f x142000 bt147.1 bt152.1).bind fun t154=>(jr.l0 k (wrap64 (x6 - 1)) x1000 bt152.2 x137000 t154)))) else ((jy.f k x1000 x1001 (([3,4,2,5,0]:List Int))).bind fun bt160=>(jr.l1 k bt160.1 x1000 bt160.2 x142000))
def jr.l1 : Nat → Int → List Int → Int → List (S66) → Option ((List (S66)) × Int)
 | 0,_,_,_,_=>none
 | k+1,x7,x1000,x1001,x142000=>if x7 > 0 then (jr.j2 k x7 (decide ((x142000.length:Int) > 1)) x1000 x1001 x142000) else (jr.j2 k x7 false x1000 x1001 x142000)
def jr.j2 : Nat → Int → Bool → List Int → Int → List (S66) → Option ((List (S66)) × Int)
 | 0,_,_,_,_,_=>none
 | k+1,x7,x39,x1000,x1001,x142000=>if x39=true then ((jm.f k x1000 x1001 (x142000.length:Int)).bind fun bt162=>((jm.f k x1000 bt162.2 (x142000.length:Int)).bind fun bt164=>(if bt162.1=bt164.1 then (if 0≤bt162.1 then (if bt162.1<(x142000.length:Int) then (jr.l1 k (wrap64 (x7 - 1)) x1000 bt164.2 (x142000.set (bt162.1:Int).toNat (⟨(ja x142000 bt162.1).f0,(ja x142000 bt162.1).f1,(ja x142000 bt162.1).f2,(ja x142000 bt162.1).f3,!((ja x142000 bt162.1).f4)⟩:S66))) else (none)) else (none)) else ((jm.f k x1000 bt164.2 3).bind fun bt168=>(if bt168.1=0 then (if 0≤bt162.1 then (if bt162.1<(x142000.length:Int) then ((some (x142000.set (bt162.1:Int).toNat (⟨(ja x142000 bt162.1).f0,(ja x142000 bt162.1).f1,bt164.1,(ja x142000 bt162.1).f3,(ja x142000 bt162.1).f4⟩:S66):List (S66))).bind fun y170=>(jr.l1 k (wrap64 (x7 - 1)) x1000 bt168.2 (y170.set (bt162.1:Int).toNat (⟨(ja y170 bt162.1).f0,(ja y170 bt162.1).f1,(ja y170 bt162.1).f2,(ja y170 bt162.1).f3,true⟩:S66)))) else (none)) else (none)) else ((jha.f k x142000 bt162.1 bt164.1).bind fun t172=>(jr.l1 k (wrap64 (x7 - 1)) x1000 bt168.2 t172))))))) else (some (x142000,x1001))
end
def jr.f (k : Nat) (s0_0 : List Int) (s0_1 : Int) (l1_0 : List (S99)) : Option ((List (S66)) × Int) := (jy.f k s0_0 s0_1 (([4, 5, 3, 6, 2, 1, 0] : List Int))).bind fun bt145 => (jr.l0 k bt145.1 s0_0 bt145.2 l1_0 (([] : List (S66))))
def jr.T5 : Bool × List (List Nat × List Nat) := (true, [([], []), ([], []), ([], []), ([2], [2]), ([3], [3]), ([1, 4], [1, 4]), ([], []), ([], []), ([6, 7, 5], [6, 7]), ([0, 5, 8, 8], [0, 5, 8]), ([9, 9, 0, 1, 2, 3, 4, 5, 6, 7, 8, 9], [9])])
def jr.B5 : List Nat := [0, 0, 0, 4, 12, 30, 0, 0, 254, 511, 1023]
theorem jr.tab5 : rtab .any (opsOf Tryd.f44 5) = jr.T5 := by kernel_rfl
theorem jr.bits5 : jLb jr.T5.2 jr.B5 = true := by kernel_rfl
def jr.T13 : Bool × List (List Nat × List Nat) := (true, [([], []), ([0], [0]), ([], []), ([], []), ([3], [3]), ([], []), ([4, 5], [4, 5]), ([6], [6]), ([7], [7]), ([8], [8]), ([1, 2, 0, 1, 2, 3, 4, 5, 6, 7, 8, 9], [1, 2]), ([10, 0, 1, 2, 3, 4, 5, 6, 7, 8, 9], [10]), ([11, 9, 0, 1, 2, 3, 4, 5, 6, 7, 8, 9], [9, 11])])
def jr.B13 : List Nat := [0, 1, 0, 0, 8, 0, 56, 120, 248, 504, 1023, 2047, 4095]
theorem jr.tab13 : rtab .any (opsOf Tryd.f44 13) = jr.T13 := by kernel_rfl
theorem jr.bits13 : jLb jr.T13.2 jr.B13 = true := by kernel_rfl
set_option maxHeartbeats 8000000 in
set_option maxRecDepth 100000 in
theorem jr.calls (k : Nat) (g : Nat) (s0_0 : List Int) (s0_1 : Int) (A1_0 : Option Addr) (c1_0 : Nat) (l1_0 : List (S99)) (r1 : List (S66)) (r2 : Int) (w0 w : World) (hI : jk w0 w g s0_0 s0_1) (hB : Below w0.heap.size w0 w) (hr1_0 : ∀ W_, jd w W_ g none → Kd.C k99 W_ A1_0 l1_0.length l1_0) (hc1_0 : l1_0.length ≤ c1_0) (h : jr.f k s0_0 s0_1 l1_0 = some (r1, r2)) :
  Calls Tryd.prog 44 #[.pointer (some ⟨g,0,none⟩), .agg #[.slice A1_0 l1_0.length c1_0]] w fun e w'=>∃ v0_:Value,e=.returned (.agg #[v0_])∧Kd.R k66 66 w' w.heap.size (fun _=>True) v0_ r1∧jk w0 w' g s0_0 r2∧Below w0.heap.size w0 w'∧jd w w' g none:=by
 have hu25:=Tryd.underlying25
 have hu28:=Tryd.underlying28
 have HR1_0:=am hr1_0
 have HC1_0:=am hc1_0
 clear hr1_0 hc1_0
 have HI0:=am hI
 have HK:=am (jd.refl w g none)
 have HL:=am hB.size
 clear hI
 have HW0:=am hB.size
 have HB:=am hB
 clear hB
 have H:((jy.f k s0_0 s0_1 (([4,5,3,6,2,1,0]:List Int))).bind fun bt145=>(jr.l0 k bt145.1 s0_0 bt145.2 l1_0 (([]:List (S66)))))=some (r1,r2):=h
 clear h
 obtain ⟨y138,hy138⟩:∃ y_:List (S66),y_=(([]:List (S66))):=⟨_,rfl⟩
 replace H:((jy.f k s0_0 s0_1 (([4,5,3,6,2,1,0]:List Int))).bind fun bt145=>(jr.l0 k bt145.1 s0_0 bt145.2 l1_0 y138))=some (r1,r2):=by first |(rw [hy138];with_reducible exact H) |(have H2_:=(Option.bind_some _ _).symm.trans H;rw [hy138];with_reducible exact H2_) |(have H2_:=(Option.bind_some _ _).symm.trans H;with_reducible exact H2_) | with_reducible exact H |(rw [hy138];exact H) | exact H
 have Ny138:=am hy138
 clear hy138
 obtain ⟨y142,hy142⟩:∃ y_:List Int,y_=(([4,5,3,6,2,1,0]:List Int)):=⟨_,rfl⟩
 replace H:((jy.f k s0_0 s0_1 y142).bind fun bt145=>(jr.l0 k bt145.1 s0_0 bt145.2 l1_0 y138))=some (r1,r2):=by first |(rw [hy142];with_reducible exact H) |(have H2_:=(Option.bind_some _ _).symm.trans H;rw [hy142];with_reducible exact H2_) |(have H2_:=(Option.bind_some _ _).symm.trans H;with_reducible exact H2_) | with_reducible exact H |(rw [hy142];exact H) | exact H
 have Ny142:=am hy142
 clear hy142
 replace H:=bzS H
 obtain ⟨⟨t145,t146⟩,A30,H⟩:=H
 replace H:(jr.l0 k t145 s0_0 t146 l1_0 y138)=some (r1,r2):=H
 have A3:=am A30
 clear A30
 have H':=am H
 clear H
 go_enter Tryd.func44,Tryd.ntmps44
 go_wp2_with (first |((with_reducible refine jD (N:=3) rfl ?_);(try (refine jTa (by rfl) ?_;dsimp only));refine jgb ?hg (N:=3) ?hd (cs:=#[.slice A1_0 l1_0.length c1_0]) (t:=25) ?hr ?_;(case hd=>rfl);(case hg=>rfl);(case hr=>exact Y4);intro gb136 hg w4 hbox hb;have BK136:=am (hbox);have GW136:=am ((Y6:w.heap.size≤gb136));have GE136:=am ((Nat.le_trans HW0.out (Y6:w.heap.size≤gb136):w0.heap.size≤gb136));have NB0_136:=am ((Y24:g≠gb136));have NB136_0:=am ((Y25:gb136≠g));replace HK:=am (jd.trans (Y13) (jd.of_below hb g none) (.inl rfl));replace HB:=am (je (Y14) hb);replace HI0:=am (jk.below (Y12) hb);clear hb hbox hg) |((with_reducible refine jD (N:=4) rfl ?_);(try (refine jTa (by rfl) ?_;dsimp only));refine jgb ?hg (N:=4) ?hd (cs:=#[.slice none 0 0]) (t:=28) ?hr ?_;(case hd=>rfl);(case hg=>rfl);(case hr=>exact Y4);intro gb137 hg w5 hbox hb;have BK137:=am (hbox);have GW137:=am ((Y156:w.heap.size≤gb137));have GE137:=am ((Nat.le_trans HW0.out (Y156:w.heap.size≤gb137):w0.heap.size≤gb137));have NB136_137:=am ((by rw [hg];exact Nat.ne_of_lt (jda (g:=gb136) (o:=.cells #[.slice A1_0 l1_0.length c1_0] 25 (0,0)) (kq BK136.out)):gb136≠gb137));have NB137_136:=am ((by rw [hg];exact Nat.ne_of_gt (jda (g:=gb136) (o:=.cells #[.slice A1_0 l1_0.length c1_0] 25 (0,0)) (kq BK136.out)):gb137≠gb136));have NB0_137:=am ((by rw [hg];exact Nat.ne_of_lt (jk.lt (show jk w0 _ g s0_0 s0_1 from by repeat (first |(with_reducible first | exact HI0.out | apply jk.alloc | apply jk.drewN | apply jk.drew | apply jk.jmb | refine jk.far ?_ NB0_136.out _) | exact HI0.out))):g≠gb137));have NB137_0:=am ((by rw [hg];exact Nat.ne_of_gt (jk.lt (show jk w0 _ g s0_0 s0_1 from by repeat (first |(with_reducible first | exact HI0.out | apply jk.alloc | apply jk.drewN | apply jk.drew | apply jk.jmb | refine jk.far ?_ NB0_136.out _) | exact HI0.out))):gb137≠g));replace BK136:=am (jc (g:=gb136) (o:=.cells #[.slice A1_0 l1_0.length c1_0] 25 (0,0)) (kq BK136.out) hb);replace HK:=am (jd.trans (by repeat (first |(with_reducible first | exact HK.out | apply jd.set_ | apply jja | apply jaa | apply jka | refine jO ?_ GW136.out _) | exact HK.out)) (jd.of_below hb g none) (.inl rfl));replace HB:=am (je (by repeat (first |(with_reducible first | exact HB.out | apply jv | apply jo | apply jq | refine jl ?_ (jk.ge HI0.out) | refine jl ?_ GE136.out) | exact HB.out)) hb);replace HI0:=am (jk.below (by repeat (first |(with_reducible first | exact HI0.out | apply jk.alloc | apply jk.drewN | apply jk.drew | apply jk.jmb | refine jk.far ?_ NB0_136.out _) | exact HI0.out)) hb);clear hb hbox hg) |((with_reducible refine jD (N:=10) rfl ?_);(try (refine jTa (by rfl) ?_;dsimp only));refine Kd.R_lit k66 _ 66 ?hg (N:=10) ?hd (xs:=([]:List (S66))) (inner:=[]) (ok:=fun _=>True) (okp:=fun _=>True) ?hr ?hp (fun _ hk=>hk) trivial (Below.refl _ _) (Nat.le_refl _) (by simp) ?_;(case hd=>rfl);(case hg=>rfl);(case hr=>exact Y4);(case hp=>exact (Reps.none _ _));intro v139 w6 ho7 hb hg_ hnew_;clear hg_ hnew_;(first | rw [← Ny138.out] at ho7 |(simp only [Int.reduceToNat] at ho7;rw [← Ny138.out] at ho7));have HO140:=am (Kd.jia ho7 (jea (w:=w) (g:=g) (row:=none) (Y125)));replace BK136:=am (jc (g:=gb136) (o:=.cells #[.slice A1_0 l1_0.length c1_0] 25 (0,0)) (kq BK136.out) hb);replace BK137:=am (jc (g:=gb137) (o:=.cells #[.slice none 0 0] 28 (0,0)) (kq BK137.out) hb);replace HK:=am (jd.trans (Y125) (jd.of_below hb g none) (.inl rfl));replace HB:=am (je (Y157) hb);replace HI0:=am (jk.below (Y158) hb);clear hb ho7;obtain ⟨Ao8,co8,eo8⟩:=Kd.jZ HO140.out;subst eo8) |((with_reducible refine jD (N:=5) rfl ?_);(try (refine jTa (by rfl) ?_;dsimp only));refine jgb ?hg (N:=5) ?hd (cs:=#[.slice none 0 0]) (t:=28) ?hr ?_;(case hd=>rfl);(case hg=>rfl);(case hr=>exact Y4);intro gb141 hg w9 hbox hb;have BK141:=am (hbox);have GW141:=am ((Y159:w.heap.size≤gb141));have GE141:=am ((Nat.le_trans HW0.out (Y159:w.heap.size≤gb141):w0.heap.size≤gb141));have NB136_141:=am ((by rw [hg];exact Nat.ne_of_lt (jda (g:=gb136) (o:=.cells #[.slice A1_0 l1_0.length c1_0] 25 (0,0)) (kq BK136.out)):gb136≠gb141));have NB141_136:=am ((by rw [hg];exact Nat.ne_of_gt (jda (g:=gb136) (o:=.cells #[.slice A1_0 l1_0.length c1_0] 25 (0,0)) (kq BK136.out)):gb141≠gb136));have NB137_141:=am ((by rw [hg];exact Nat.ne_of_lt (jda (g:=gb137) (o:=.cells #[.slice none 0 0] 28 (0,0)) (kq BK137.out)):gb137≠gb141));have NB141_137:=am ((by rw [hg];exact Nat.ne_of_gt (jda (g:=gb137) (o:=.cells #[.slice none 0 0] 28 (0,0)) (kq BK137.out)):gb141≠gb137));have NB0_141:=am ((by rw [hg];exact Nat.ne_of_lt (jk.lt (show jk w0 _ g s0_0 s0_1 from by repeat (first |(with_reducible first | exact HI0.out | apply jk.alloc | apply jk.drewN | apply jk.drew | apply jk.jmb | refine jk.far ?_ NB0_136.out _ | refine jk.far ?_ NB0_137.out _) | exact HI0.out))):g≠gb141));have NB141_0:=am ((by rw [hg];exact Nat.ne_of_gt (jk.lt (show jk w0 _ g s0_0 s0_1 from by repeat (first |(with_reducible first | exact HI0.out | apply jk.alloc | apply jk.drewN | apply jk.drew | apply jk.jmb | refine jk.far ?_ NB0_136.out _ | refine jk.far ?_ NB0_137.out _) | exact HI0.out))):gb141≠g));replace HO140:=am (Kd.jW (rq HO140.out) hb);replace BK136:=am (jc (g:=gb136) (o:=.cells #[.slice A1_0 l1_0.length c1_0] 25 (0,0)) (kq BK136.out) hb);replace BK137:=am (jc (g:=gb137) (o:=.cells #[.slice none 0 0] 28 (0,0)) (kq BK137.out) hb);replace HK:=am (jd.trans (Y125) (jd.of_below hb g none) (.inl rfl));replace HB:=am (je (Y157) hb);replace HI0:=am (jk.below (Y158) hb);clear hb hbox hg;have hnb10:=NB141_136.out;have hnc10:=NB136_141.out;have hnb11:=NB141_137.out;have hnc11:=NB137_141.out;have hnb12:=NB141_0.out;have hnc12:=NB0_141.out;have hcz13_0:=bc0 BK141.out;have hfz13_0:=jb BK141.out 0) |((with_reducible refine jD (N:=13) rfl ?_);(try (refine jTa (by rfl) ?_;dsimp only));refine Kd.R_lit (Kd.int .i64) _ 3 ?hg (N:=13) ?hd (xs:=([4,5,3,6,2,1,0]:List Int)) (inner:=[.int .i64 4, .int .i64 5, .int .i64 3, .int .i64 6, .int .i64 2, .int .i64 1, .int .i64 0]) (ok:=fun _=>True) (okp:=fun _=>True) ?hr ?hp (fun _ hk=>hk) trivial (Below.refl _ _) (Nat.le_refl _) (by simp) ?_;(case hd=>rfl);(case hg=>rfl);(case hr=>exact Y4);(case hp=>exact (Reps.one (show Kd.M (Kd.int .i64) _ _ _ 4 [.int .i64 4] from rfl) (Reps.one (show Kd.M (Kd.int .i64) _ _ _ 5 [.int .i64 5] from rfl) (Reps.one (show Kd.M (Kd.int .i64) _ _ _ 3 [.int .i64 3] from rfl) (Reps.one (show Kd.M (Kd.int .i64) _ _ _ 6 [.int .i64 6] from rfl) (Reps.one (show Kd.M (Kd.int .i64) _ _ _ 2 [.int .i64 2] from rfl) (Reps.one (show Kd.M (Kd.int .i64) _ _ _ 1 [.int .i64 1] from rfl) (Reps.one (show Kd.M (Kd.int .i64) _ _ _ 0 [.int .i64 0] from rfl) (Reps.none _ _)))))))));intro v143 w14 ho15 hb hg_ hnew_;clear hg_ hnew_;(first | rw [← Ny142.out] at ho15 |(simp only [Int.reduceToNat] at ho15;rw [← Ny142.out] at ho15));have HO144:=am (Kd.jia ho15 (jea (w:=w) (g:=g) (row:=none) (Y5)));replace HO140:=am (Kd.jW (by (with_reducible repeat (first | apply Kd.jX | apply Kd.jba | apply Kd.jV));exact (Kd.jI (Kd.jwa (p:=⟨gb141,0,none⟩) (Kd.jP HO140.out BK141.out (by decide)) (fun _ hk=>hk.2) (.slice Ao8 y138.length co8)) (fun _ h_=>h_.1))) hb);replace BK136:=am (jc (g:=gb136) (o:=.cells #[.slice A1_0 l1_0.length c1_0] 25 (0,0)) (by (with_reducible repeat (first | refine jg ?_ _ | refine jf ?_ | refine jh ?_ _));refine jT ?_ NB136_141.out _;(with_reducible repeat (first | refine jg ?_ _ | refine jf ?_ | refine jh ?_ _));exact BK136.out) hb);replace BK137:=am (jc (g:=gb137) (o:=.cells #[.slice none 0 0] 28 (0,0)) (by (with_reducible repeat (first | refine jg ?_ _ | refine jf ?_ | refine jh ?_ _));refine jT ?_ NB137_141.out _;(with_reducible repeat (first | refine jg ?_ _ | refine jf ?_ | refine jh ?_ _));exact BK137.out) hb);replace BK141:=am (jc (g:=gb141) (o:=.cells #[.slice Ao8 y138.length co8] 28 (0,0)) (by (with_reducible repeat (first | refine jg ?_ _ | refine jf ?_ | refine jh ?_ _));refine jya (cs:=#[.slice none 0 0]) ?_ 0 _ rfl;(with_reducible repeat (first | refine jg ?_ _ | refine jf ?_ | refine jh ?_ _));exact BK141.out) hb);replace HK:=am (jd.trans (Y5) (jd.of_below hb g none) (.inl rfl));replace HB:=am (je (Y8) hb);replace HI0:=am (jk.below (show jk w0 (w9.setCell ⟨gb141,0,none⟩ (.slice Ao8 y138.length co8)) g s0_0 s0_1 from Y3) hb);clear hb ho15;obtain ⟨Ao16,co16,eo16⟩:=Kd.jZ HO144.out;subst eo16) |((with_reducible refine jw (f:=69) rfl ?_);refine gL (some 14) Tryd.func69 #[.pointer (some ⟨g,0,none⟩), .slice Ao16 y142.length co16] ?_;(with_reducible refine (jy.calls k g s0_0 s0_1 _ _ y142 t145 t146 w0 _ ?side1 ?side2 ?side3 ?side4 ?side5 A3.out).mono ?_);(case side1=>exact Y3);(case side2=>exact Y8);(case side3=>exact cq (Kd.jC HO144.out).2.2);(case side4=>exact (Kd.jC HO144.out).2.1);(case side5=>exact jCb (jk.own_ne HI0.out HO144.out (by decide)));rintro e w17 ⟨rfl,hi,hb,hk⟩;refine ⟨_,rfl,?_⟩;replace BK136:=am (jd.blk hk (g':=gb136) (o:=.cells #[.slice A1_0 l1_0.length c1_0] 25 (0,0)) (kq BK136.out) NB136_0.out (by simp));replace BK137:=am (jd.blk hk (g':=gb137) (o:=.cells #[.slice none 0 0] 28 (0,0)) (kq BK137.out) NB137_0.out (by simp));replace HO140:=am (Kd.jI (Kd.jqa (jk.apart (show jk w0 _ g s0_0 s0_1 from Y3) (rq HO140.out) (by decide)) hk (fun _ h=>h.2)) (fun _ h=>h.1));replace BK141:=am (jd.blk hk (g':=gb141) (o:=.cells #[.slice Ao8 y138.length co8] 28 (0,0)) (kq BK141.out) NB141_0.out (by simp));replace HO144:=am (Kd.jI (Kd.jqa (jk.apart (show jk w0 _ g s0_0 s0_1 from Y3) (rq HO144.out) (by decide)) hk (fun _ h=>h.2)) (fun _ h=>h.1));replace HK:=am (jd.trans (Y5) hk (.inl rfl));replace HB:=am (hb);replace HI0:=am (hi);(try clear hb);(try clear hb2);(try clear hk);(try clear hi)))
 go_loopg [6] k (fun kq v6 w'=>∃ (x6_1:Int) (x1001_1:Int) (x142000_1:List (S66)) (u142000:Value),v6=.int .i64 x6_1∧jB (jr.l0 kq x6_1 s0_0 x1001_1 l1_0 x142000_1=some (r1,r2))∧jB (kq≤k)∧jB (Kd.R k66 66 w' w.heap.size (fun _=>True) u142000 x142000_1)∧jB (w'.heap[gb136]?=some (.cells #[(.slice A1_0 l1_0.length c1_0)] 25 (0,0)))∧jB (w'.heap[gb137]?=some (.cells #[(.slice none 0 0)] 28 (0,0)))∧jB (w'.heap[gb141]?=some (.cells #[u142000] 28 (0,0)))∧jB (jk w0 w' g s0_0 x1001_1)∧jB (jd w w' g none)∧jB (Below w0.heap.size w0 w'))
 case atStart=>exact ⟨(t145),(t146),(y138),(.slice Ao8 y138.length co8),(sq),H',⟨Nat.le_refl _⟩,⟨rq HO140.out⟩,⟨kq BK136.out⟩,⟨kq BK137.out⟩,⟨kq BK141.out⟩,⟨Y3⟩,⟨Y5⟩,⟨Y8⟩⟩
 case round =>
  clear H'
  try clear c1
  try clear p2
  try clear c4
  try clear c6
  try clear c10
  try clear c11
  try clear c12
  try clear hcz13_0
  try clear hfz13_0
  obtain ⟨x6_1,x1001_1,x142000_1,u142000,rfl,HA,HK1,HO_142000,BK136,BK137,BK141,HI0,HK,HB⟩:=hrel
  cases gk with
  | zero=>exact absurd HA.out (by simp [jr.l0])
  | succ k1 =>
   have H:=HA.out
   clear HA
   simp only [jr.l0] at H
   by_cases c18:x6_1 > 0
   ·rw [if_pos c18] at H
    have c18b0:decide (0<x6_1)=true:=dzT c18
    clear c18
    replace H:=bzS H
    obtain ⟨⟨t147,t148⟩,A190,H⟩:=H
    replace H:((jy.f k1 s0_0 t148 (([1,2,3,0,99]:List Int))).bind fun bt152=>((jQb.f x142000_1 t147 bt152.1).bind fun t154=>(jr.l0 k1 (wrap64 (x6_1 - 1)) s0_0 bt152.2 l1_0 t154)))=some (r1,r2):=H
    have A19:=am A190
    clear A190
    obtain ⟨y149,hy149⟩:∃ y_:List Int,y_=(([1,2,3,0,99]:List Int)):=⟨_,rfl⟩
    replace H:((jy.f k1 s0_0 t148 y149).bind fun bt152=>((jQb.f x142000_1 t147 bt152.1).bind fun t154=>(jr.l0 k1 (wrap64 (x6_1 - 1)) s0_0 bt152.2 l1_0 t154)))=some (r1,r2):=by first |(rw [hy149];with_reducible exact H) |(have H2_:=(Option.bind_some _ _).symm.trans H;rw [hy149];with_reducible exact H2_) |(have H2_:=(Option.bind_some _ _).symm.trans H;with_reducible exact H2_) | with_reducible exact H |(rw [hy149];exact H) | exact H
    have Ny149:=am hy149
    clear hy149
    replace H:=bzS H
    obtain ⟨⟨t152,t153⟩,A200,H⟩:=H
    replace H:((jQb.f x142000_1 t147 t152).bind fun t154=>(jr.l0 k1 (wrap64 (x6_1 - 1)) s0_0 t153 l1_0 t154))=some (r1,r2):=H
    have A20:=am A200
    clear A200
    replace H:=bzS H
    obtain ⟨t154,A210,H⟩:=H
    replace H:(jr.l0 k1 (wrap64 (x6_1 - 1)) s0_0 t153 l1_0 t154)=some (r1,r2):=H
    have A21:=am A210
    clear A210
    have H':=am H
    clear H
    obtain ⟨Ao22,co22,eo22⟩:=Kd.jZ HO_142000.out
    subst eo22
    try go_wp2
    replace HO_142000:=am (Kd.jV HO_142000.out)
    replace BK136:=am (jf BK136.out)
    replace BK137:=am (jf BK137.out)
    replace BK141:=am (jf BK141.out)
    replace HI0:=am (jk.drew HI0.out)
    replace HK:=am (jaa HK.out)
    replace HB:=am (jq HB.out)
    refine jVb (n:=11) (S:=fun w'=>w'.cell? ⟨gb141,0,none⟩=some (.slice Ao22 x142000_1.length co22)∧w'.cell? ⟨gb136,0,none⟩=some (.slice A1_0 l1_0.length c1_0)) (ds:=[10]) #[false,false,false,false,false,false,false,false,false,false,false] (by kernel_rfl) rfl rfl ⟨(jH BK141.out 0).trans rfl,(jH BK136.out 0).trans rfl⟩ (fun hHeld=>?_);refine jxb jr.tab5 jr.bits5 (fun HT_ HW_=>?_)
    generalize wr.drew=w23 at HO_142000 BK136 BK137 BK141 HI0 HK HB hHeld ⊢
    refine pq (i:=1) (N:=some 20) #[false,true,false,false,false,false,false,false,false,false,false] ?_
    refine pq (i:=2) (N:=some 21) #[false,true,true,false,false,false,false,false,false,false,false] ?_
    refine pq (i:=6) (N:=some 25) #[false,true,true,false,false,false,true,false,false,false,false] ?_
    refine jAb (i:=0) (N:=some 19) (v:=?_) (a':=?_) #[true,true,true,false,false,false,true,false,false,false,false] rfl rfl (jWa HT_.out HW_.out (by kernel_rfl)) (fun _ _ _ h=>h) (Or.inl ⟨by rfl,?_⟩) hHeld ?_ ?_
    rotate_left
    ·rintro w' ⟨s0,s1⟩
     go_simp
     with_reducible rfl
    rotate_left
    ·exact sa
    refine jAb (i:=3) (N:=some 22) (v:=?_) (a':=?_) #[true,true,true,true,false,false,true,false,false,false,false] rfl rfl (jWa HT_.out HW_.out (by kernel_rfl)) (fun _ _ _ h=>h) (Or.inl ⟨by rfl,?_⟩) hHeld ?_ ?_
    rotate_left
    ·rintro w' ⟨s0,s1⟩
     go_simp
     with_reducible rfl
    rotate_left
    ·exact sa
    refine pq (i:=4) (N:=some 23) #[true,true,true,true,true,false,true,false,false,false,false] ?_
    refine join_ (σ:=Value) 3 #[true,true,true,true,true,true,true,true,false,false,false] (fun s_=>[(24, .int .i64 t147),(26,s_)]) (fun s_ w'=>(w'.cell? ⟨gb141,0,none⟩=some (.slice Ao22 x142000_1.length co22)∧w'.cell? ⟨gb136,0,none⟩=some (.slice A1_0 l1_0.length c1_0))∧(Kd.R (Kd.int .i64) 3 w' w.heap.size (fun _=>True) s_ y149)∧(Kd.R k66 66 w' w.heap.size (fun _=>True) (.slice Ao22 x142000_1.length co22) x142000_1)∧(w'.heap[gb136]?=some (.cells #[.slice A1_0 l1_0.length c1_0] 25 (0,0)))∧(w'.heap[gb137]?=some (.cells #[.slice none 0 0] 28 (0,0)))∧(w'.heap[gb141]?=some (.cells #[.slice Ao22 x142000_1.length co22] 28 (0,0)))∧(jk w0 w' g s0_0 t148)∧(jd w w' g none)∧(Below w0.heap.size w0 w')) ?_ ?_
    rotate_left
    ·intro hCont
     refine two_ (i:=5) (j:=7) (Ni:=some 24) (Nj:=some 26) #[true,true,true,true,true,true,true,false,false,false,false] #[true,true,true,true,true,false,true,true,false,false,false] rfl rfl rfl rfl (two_of HT_.out (by kernel_rfl)) (by decide) (by decide) (fun K hK=>?_) (fun K hK=>?_)
     ·skip
      refine goes_ Tryd.func68 (by kernel_rfl) rfl #[.pointer (some ⟨g,0,none⟩), .int .i64 (l1_0.length:Int)] (by rfl) rfl rfl (aq) ?_
      with_reducible refine (jm.calls k1 g s0_0 x1001_1 (l1_0.length:Int) t147 t148 w0 _ ?side1 ?side2 A19.out).mono ?_
      (case side1=>exact Y3)
      (case side2=>exact Y8)
      rintro e w24 ⟨rfl,hi,hb,hk⟩
      refine ⟨_,rfl,?_⟩
      replace HO_142000:=am (Kd.jI (Kd.jqa (jk.apart (show jk w0 _ g s0_0 x1001_1 from Y3) (rq HO_142000.out) (by decide)) hk (fun _ h=>h.2)) (fun _ h=>h.1))
      replace BK136:=am (jd.blk hk (g':=gb136) (o:=.cells #[.slice A1_0 l1_0.length c1_0] 25 (0,0)) (kq BK136.out) NB136_0.out (by simp))
      replace BK137:=am (jd.blk hk (g':=gb137) (o:=.cells #[.slice none 0 0] 28 (0,0)) (kq BK137.out) NB137_0.out (by simp))
      replace BK141:=am (jd.blk hk (g':=gb141) (o:=.cells #[.slice Ao22 x142000_1.length co22] 28 (0,0)) (kq BK141.out) NB141_0.out (by simp))
      replace HK:=am (jd.trans (Y5) hk (.inl rfl))
      replace HB:=am (hb)
      replace HI0:=am (hi)
      (try clear hb)
      (try clear hb2)
      (try clear hk)
      (try clear hi)
      refine hK.out _ _ ⟨(jH BK141.out 0).trans rfl,(jH BK136.out 0).trans rfl⟩ (fun hHeld=>?_)
      clear hK K
      refine jZb (a':=?_) ?_ ?_
      rotate_left
      ·show Act.put _ (some 24) _=_
       simp only [Act.put,List.setIfInBounds_toArray,List.set_cons_zero,List.set_cons_succ,jwb,jBb]
       rfl
      refine one_ (i:=7) (N:=some 26) #[true,true,true,true,true,true,true,true,false,false,false] rfl rfl (jeb HT_.out (by kernel_rfl)) (by decide) (fun K hK=>?_)
      refine Kd.jTb (Kd.int .i64) _ 3 ?hg (N:=26) ?hd (xs:=([1,2,3,0,99]:List Int)) (inner:=[.int .i64 1, .int .i64 2, .int .i64 3, .int .i64 0, .int .i64 99]) (ok:=fun _=>True) (okp:=fun _=>True) ?hr ?hp (fun _ hk=>hk) trivial (Below.refl _ _) (Nat.le_refl _) (by simp) ?_;(case hd=>rfl);(case hg=>rfl);(case hr=>exact Y4);(case hp=>exact (Reps.one (show Kd.M (Kd.int .i64) _ _ _ 1 [.int .i64 1] from rfl) (Reps.one (show Kd.M (Kd.int .i64) _ _ _ 2 [.int .i64 2] from rfl) (Reps.one (show Kd.M (Kd.int .i64) _ _ _ 3 [.int .i64 3] from rfl) (Reps.one (show Kd.M (Kd.int .i64) _ _ _ 0 [.int .i64 0] from rfl) (Reps.one (show Kd.M (Kd.int .i64) _ _ _ 99 [.int .i64 99] from rfl) (Reps.none _ _)))))))
      intro v150 w25 ho26 hb hg_ hnew_
      clear hg_ hnew_
      (first | rw [← Ny149.out] at ho26 |(simp only [Int.reduceToNat] at ho26;rw [← Ny149.out] at ho26))
      have HO151:=am (Kd.jia ho26 (jea (w:=w) (g:=g) (row:=none) (Y5)))
      replace HO_142000:=am (Kd.jW (rq HO_142000.out) hb)
      replace BK136:=am (jc (g:=gb136) (o:=.cells #[.slice A1_0 l1_0.length c1_0] 25 (0,0)) (kq BK136.out) hb)
      replace BK137:=am (jc (g:=gb137) (o:=.cells #[.slice none 0 0] 28 (0,0)) (kq BK137.out) hb)
      replace BK141:=am (jc (g:=gb141) (o:=.cells #[.slice Ao22 x142000_1.length co22] 28 (0,0)) (kq BK141.out) hb)
      replace HK:=am (jd.trans (Y5) (jd.of_below hb g none) (.inl rfl))
      replace HB:=am (je (Y8) hb)
      replace HI0:=am (jk.below (Y3) hb)
      clear hb ho26
      refine hK.out _ _ ⟨(jH BK141.out 0).trans rfl,(jH BK136.out 0).trans rfl⟩ (fun hHeld=>?_)
      clear hK K
      refine jZb (a':=?_) ?_ ?_
      rotate_left
      ·show Act.put _ (some 26) _=_
       simp only [Act.put,List.setIfInBounds_toArray,List.set_cons_zero,List.set_cons_succ,jwb,jBb]
       rfl
      exact jZb (by simp only [putAll,Act.put,List.setIfInBounds_toArray,List.set_cons_zero,List.set_cons_succ]) (hCont (v150) _ ⟨hHeld,(rq HO151.out),(rq HO_142000.out),(kq BK136.out),(kq BK137.out),(kq BK141.out),(Y3),(Y5),(Y8)⟩)
     ·skip
      refine Kd.jTb (Kd.int .i64) _ 3 ?hg (N:=26) ?hd (xs:=([1,2,3,0,99]:List Int)) (inner:=[.int .i64 1, .int .i64 2, .int .i64 3, .int .i64 0, .int .i64 99]) (ok:=fun _=>True) (okp:=fun _=>True) ?hr ?hp (fun _ hk=>hk) trivial (Below.refl _ _) (Nat.le_refl _) (by simp) ?_;(case hd=>rfl);(case hg=>rfl);(case hr=>exact Y4);(case hp=>exact (Reps.one (show Kd.M (Kd.int .i64) _ _ _ 1 [.int .i64 1] from rfl) (Reps.one (show Kd.M (Kd.int .i64) _ _ _ 2 [.int .i64 2] from rfl) (Reps.one (show Kd.M (Kd.int .i64) _ _ _ 3 [.int .i64 3] from rfl) (Reps.one (show Kd.M (Kd.int .i64) _ _ _ 0 [.int .i64 0] from rfl) (Reps.one (show Kd.M (Kd.int .i64) _ _ _ 99 [.int .i64 99] from rfl) (Reps.none _ _)))))))
      intro v150 w24 ho25 hb hg_ hnew_
      clear hg_ hnew_
      (first | rw [← Ny149.out] at ho25 |(simp only [Int.reduceToNat] at ho25;rw [← Ny149.out] at ho25))
      have HO151:=am (Kd.jia ho25 (jea (w:=w) (g:=g) (row:=none) (Y5)))
      replace HO_142000:=am (Kd.jW (rq HO_142000.out) hb)
      replace BK136:=am (jc (g:=gb136) (o:=.cells #[.slice A1_0 l1_0.length c1_0] 25 (0,0)) (kq BK136.out) hb)
      replace BK137:=am (jc (g:=gb137) (o:=.cells #[.slice none 0 0] 28 (0,0)) (kq BK137.out) hb)
      replace BK141:=am (jc (g:=gb141) (o:=.cells #[.slice Ao22 x142000_1.length co22] 28 (0,0)) (kq BK141.out) hb)
      replace HK:=am (jd.trans (Y5) (jd.of_below hb g none) (.inl rfl))
      replace HB:=am (je (Y8) hb)
      replace HI0:=am (jk.below (Y3) hb)
      clear hb ho25
      refine hK.out _ _ ⟨(jH BK141.out 0).trans rfl,(jH BK136.out 0).trans rfl⟩ (fun hHeld=>?_)
      clear hK K
      refine jZb (a':=?_) ?_ ?_
      rotate_left
      ·show Act.put _ (some 26) _=_
       simp only [Act.put,List.setIfInBounds_toArray,List.set_cons_zero,List.set_cons_succ,jwb,jBb]
       rfl
      refine one_ (i:=5) (N:=some 24) #[true,true,true,true,true,true,true,true,false,false,false] rfl rfl (jeb HT_.out (by kernel_rfl)) (by decide) (fun K hK=>?_)
      refine goes_ Tryd.func68 (by kernel_rfl) rfl #[.pointer (some ⟨g,0,none⟩), .int .i64 (l1_0.length:Int)] (by rfl) rfl rfl (aq) ?_
      with_reducible refine (jm.calls k1 g s0_0 x1001_1 (l1_0.length:Int) t147 t148 w0 _ ?side1 ?side2 A19.out).mono ?_
      (case side1=>exact Y3)
      (case side2=>exact Y8)
      rintro e w26 ⟨rfl,hi,hb,hk⟩
      refine ⟨_,rfl,?_⟩
      replace HO_142000:=am (Kd.jI (Kd.jqa (jk.apart (show jk w0 _ g s0_0 x1001_1 from Y3) (rq HO_142000.out) (by decide)) hk (fun _ h=>h.2)) (fun _ h=>h.1))
      replace BK136:=am (jd.blk hk (g':=gb136) (o:=.cells #[.slice A1_0 l1_0.length c1_0] 25 (0,0)) (kq BK136.out) NB136_0.out (by simp))
      replace BK137:=am (jd.blk hk (g':=gb137) (o:=.cells #[.slice none 0 0] 28 (0,0)) (kq BK137.out) NB137_0.out (by simp))
      replace BK141:=am (jd.blk hk (g':=gb141) (o:=.cells #[.slice Ao22 x142000_1.length co22] 28 (0,0)) (kq BK141.out) NB141_0.out (by simp))
      replace HO151:=am (Kd.jI (Kd.jqa (jk.apart (show jk w0 _ g s0_0 x1001_1 from Y3) (rq HO151.out) (by decide)) hk (fun _ h=>h.2)) (fun _ h=>h.1))
      replace HK:=am (jd.trans (Y5) hk (.inl rfl))
      replace HB:=am (hb)
      replace HI0:=am (hi)
      (try clear hb)
      (try clear hb2)
      (try clear hk)
      (try clear hi)
      refine hK.out _ _ ⟨(jH BK141.out 0).trans rfl,(jH BK136.out 0).trans rfl⟩ (fun hHeld=>?_)
      clear hK K
      refine jZb (a':=?_) ?_ ?_
      rotate_left
      ·show Act.put _ (some 24) _=_
       simp only [Act.put,List.setIfInBounds_toArray,List.set_cons_zero,List.set_cons_succ,jwb,jBb]
       rfl
      exact jZb (by simp only [putAll,Act.put,List.setIfInBounds_toArray,List.set_cons_zero,List.set_cons_succ]) (hCont (v150) _ ⟨hHeld,(rq HO151.out),(rq HO_142000.out),(kq BK136.out),(kq BK137.out),(kq BK141.out),(Y3),(Y5),(Y8)⟩)
    rintro v150 w27 ⟨hS_,h0_,h1_,h2_,h3_,h4_,h5_,h6_,h7_⟩
    have n0_:jB (Kd.R (Kd.int .i64) 3 w27 w.heap.size (fun _=>True) v150 y149):=⟨h0_⟩
    have n1_:jB (Kd.R k66 66 w27 w.heap.size (fun _=>True) (.slice Ao22 x142000_1.length co22) x142000_1):=⟨h1_⟩
    have n2_:jB (w27.heap[gb136]?=some (.cells #[.slice A1_0 l1_0.length c1_0] 25 (0,0))):=⟨h2_⟩
    have n3_:jB (w27.heap[gb137]?=some (.cells #[.slice none 0 0] 28 (0,0))):=⟨h3_⟩
    have n4_:jB (w27.heap[gb141]?=some (.cells #[.slice Ao22 x142000_1.length co22] 28 (0,0))):=⟨h4_⟩
    have n5_:jB (jk w0 w27 g s0_0 t148):=⟨h5_⟩
    have n6_:jB (jd w w27 g none):=⟨h6_⟩
    have n7_:jB (Below w0.heap.size w0 w27):=⟨h7_⟩
    clear HO_142000
    clear BK136
    clear BK137
    clear BK141
    clear HI0
    clear HK
    clear HB
    clear h0_ h1_ h2_ h3_ h4_ h5_ h6_ h7_
    have HO151:=n0_
    have HO_142000:=n1_
    have BK136:=n2_
    have BK137:=n3_
    have BK141:=n4_
    have HI0:=n5_
    have HK:=n6_
    have HB:=n7_
    clear n0_ n1_ n2_ n3_ n4_ n5_ n6_ n7_
    have hHeld:w27.cell? ⟨gb141,0,none⟩=some (.slice Ao22 x142000_1.length co22)∧w27.cell? ⟨gb136,0,none⟩=some (.slice A1_0 l1_0.length c1_0):=hS_
    obtain ⟨Ao28,co28,eo28⟩:=Kd.jZ HO151.out
    (first | subst eo28 |(injection eo28 with f1_ f2_ f3_;have f4_:=f1_.symm;have f5_:=f3_.symm;clear f1_ f2_ f3_;subst f4_;subst f5_))
    refine jZb (a':=?_) ?_ ?_
    rotate_left
    ·simp only [putAll,Act.put,List.setIfInBounds_toArray,List.set_cons_zero,List.set_cons_succ]
     rfl
    refine one_ (i:=8) (N:=some 27) #[true,true,true,true,true,true,true,true,true,false,false] rfl rfl (jeb HT_.out (by kernel_rfl)) (by decide) (fun K hK=>?_)
    refine goes_ Tryd.func69 (by kernel_rfl) rfl #[.pointer (some ⟨g,0,none⟩), .slice Ao28 y149.length co28] (by rfl) rfl rfl (aq) ?_
    with_reducible refine (jy.calls k1 g s0_0 t148 _ _ y149 t152 t153 w0 _ ?side1 ?side2 ?side3 ?side4 ?side5 A20.out).mono ?_
    (case side1=>exact Y3)
    (case side2=>exact Y8)
    (case side3=>exact cq (Kd.jC HO151.out).2.2)
    (case side4=>exact (Kd.jC HO151.out).2.1)
    (case side5=>exact jCb (jk.own_ne HI0.out HO151.out (by decide)))
    rintro e w29 ⟨rfl,hi,hb,hk⟩
    refine ⟨_,rfl,?_⟩
    replace HO_142000:=am (Kd.jI (Kd.jqa (jk.apart (show jk w0 _ g s0_0 t148 from Y3) (rq HO_142000.out) (by decide)) hk (fun _ h=>h.2)) (fun _ h=>h.1))
    replace BK136:=am (jd.blk hk (g':=gb136) (o:=.cells #[.slice A1_0 l1_0.length c1_0] 25 (0,0)) (kq BK136.out) NB136_0.out (by simp))
    replace BK137:=am (jd.blk hk (g':=gb137) (o:=.cells #[.slice none 0 0] 28 (0,0)) (kq BK137.out) NB137_0.out (by simp))
    replace BK141:=am (jd.blk hk (g':=gb141) (o:=.cells #[.slice Ao22 x142000_1.length co22] 28 (0,0)) (kq BK141.out) NB141_0.out (by simp))
    replace HO151:=am (Kd.jI (Kd.jqa (jk.apart (show jk w0 _ g s0_0 t148 from Y3) (rq HO151.out) (by decide)) hk (fun _ h=>h.2)) (fun _ h=>h.1))
    replace HK:=am (jd.trans (Y5) hk (.inl rfl))
    replace HB:=am (hb)
    replace HI0:=am (hi)
    (try clear hb)
    (try clear hb2)
    (try clear hk)
    (try clear hi)
    refine hK.out _ _ ⟨(jH BK141.out 0).trans rfl,(jH BK136.out 0).trans rfl⟩ (fun hHeld=>?_)
    clear hK K
    refine jZb (a':=?_) ?_ ?_
    rotate_left
    ·show Act.put _ (some 27) _=_
     simp only [Act.put,List.setIfInBounds_toArray,List.set_cons_zero,List.set_cons_succ,jwb,jBb]
     rfl
    refine one_ (i:=9) (N:=some 28) #[true,true,true,true,true,true,true,true,true,true,false] rfl rfl (jeb HT_.out (by kernel_rfl)) (by decide) (fun K hK=>?_)
    refine goes_ Tryd.func71 (by kernel_rfl) rfl #[.agg #[.slice Ao22 x142000_1.length co22], .int .i64 t147, .int .i64 t152] (by rfl) rfl rfl (aq) ?_
    with_reducible refine (jQb.calls _ _ x142000_1 t147 t152 t154 _ ?side1 ?side2 A21.out).mono ?_
    (case side1=>exact cq (Kd.jC HO_142000.out).2.2)
    (case side2=>exact (Kd.jC HO_142000.out).2.1)
    rintro e w30 ⟨v155,rfl,ho0,hb⟩
    refine ⟨_,rfl,?_⟩
    have HO156:=am (Kd.jia (Kd.R_new' ho0 (Kd.R_lt (rq HO_142000.out))) (jea (w:=w) (g:=g) (row:=none) (Y5)))
    replace HO_142000:=am (Kd.R_elder' (rq HO_142000.out) (Kd.R_base ho0) hb)
    replace HO151:=am (Kd.jW (rq HO151.out) hb)
    replace BK136:=am (jc (g:=gb136) (o:=.cells #[.slice A1_0 l1_0.length c1_0] 25 (0,0)) (kq BK136.out) hb)
    replace BK137:=am (jc (g:=gb137) (o:=.cells #[.slice none 0 0] 28 (0,0)) (kq BK137.out) hb)
    replace BK141:=am (jc (g:=gb141) (o:=.cells #[.slice Ao22 x142000_1.length co22] 28 (0,0)) (kq BK141.out) hb)
    replace HK:=am (jd.trans (Y5) (jd.of_below hb g none) (.inl rfl))
    replace HB:=am (je (Y8) hb)
    replace HI0:=am (jk.below (Y3) hb)
    (try clear hb)
    (try clear hb2)
    (try clear hk)
    (try clear hi)
    (try clear ho0)
    obtain ⟨Ao31,co31,eo31⟩:=Kd.jZ HO156.out
    (first | subst eo31 |(injection eo31 with f1_ f2_ f3_;have f4_:=f1_.symm;have f5_:=f3_.symm;clear f1_ f2_ f3_;subst f4_;subst f5_))
    refine hK.out _ _ ⟨(jH BK141.out 0).trans rfl,(jH BK136.out 0).trans rfl⟩ (fun hHeld=>?_)
    clear hK K
    refine jZb (a':=?_) ?_ ?_
    rotate_left
    ·show Act.put _ (some 28) _=_
     simp only [Act.put,List.setIfInBounds_toArray,List.set_cons_zero,List.set_cons_succ,jwb,jBb]
     rfl
    refine last_ (i:=10) (N:=none) #[true,true,true,true,true,true,true,true,true,true,true] rfl rfl (jeb HT_.out (by kernel_rfl)) (by decide) (fun K hK=>?_)
    have hs32:w30.cell? ⟨gb141,0,none⟩=some (.slice Ao22 x142000_1.length co22):=(jH BK141.out 0).trans rfl
    have hfs32:=jb BK141.out 0
    have hns32_0:=NB136_141.out
    have hns32_1:=NB137_141.out
    have hms32_0:=NB141_136.out
    have hms32_1:=NB141_137.out
    refine jcc (w1:=?_) (by rfl) rfl ?_ ?_
    rotate_left
    ·go_simp
     rfl
    refine hK.out _ _ ?_
    clear hK K
    refine jqc (jbc HT_.out (by kernel_rfl)) ?_
    try go_wp2
    go_roundg k1
    case measure=>have:=HK1.out;omega
    case rel=>exact ⟨(wrap64 (x6_1 - 1)),(t153),(t154),(.slice Ao31 t154.length co31),(sq),H',⟨by have:=HK1.out;omega⟩,⟨by (with_reducible repeat (first | apply Kd.jX | apply Kd.jba | apply Kd.jV));exact Kd.jI (Kd.jwa (p:=⟨gb141,0,none⟩) (Kd.jP HO156.out BK141.out (by decide)) (fun _ hk=>hk.2) (.slice Ao31 t154.length co31)) (fun _ hk=>trivial)⟩,⟨by (with_reducible repeat (first | refine jg ?_ _ | refine jf ?_ | refine jh ?_ _));refine jT ?_ NB136_141.out _;(with_reducible repeat (first | refine jg ?_ _ | refine jf ?_ | refine jh ?_ _));exact BK136.out⟩,⟨by (with_reducible repeat (first | refine jg ?_ _ | refine jf ?_ | refine jh ?_ _));refine jT ?_ NB137_141.out _;(with_reducible repeat (first | refine jg ?_ _ | refine jf ?_ | refine jh ?_ _));exact BK137.out⟩,⟨by (with_reducible repeat (first | refine jg ?_ _ | refine jf ?_ | refine jh ?_ _));refine jya (cs:=#[.slice Ao22 x142000_1.length co22]) ?_ 0 _ rfl;(with_reducible repeat (first | refine jg ?_ _ | refine jf ?_ | refine jh ?_ _));exact BK141.out⟩,⟨Y3⟩,⟨Y5⟩,⟨Y8⟩⟩
   ·rw [if_neg c18] at H
    have c18b0:decide (0<x6_1)=false:=dzF c18
    clear c18
    obtain ⟨y157,hy157⟩:∃ y_:List Int,y_=(([3,4,2,5,0]:List Int)):=⟨_,rfl⟩
    replace H:((jy.f k1 s0_0 x1001_1 y157).bind fun bt160=>(jr.l1 k1 bt160.1 s0_0 bt160.2 x142000_1))=some (r1,r2):=by first |(rw [hy157];with_reducible exact H) |(have H2_:=(Option.bind_some _ _).symm.trans H;rw [hy157];with_reducible exact H2_) |(have H2_:=(Option.bind_some _ _).symm.trans H;with_reducible exact H2_) | with_reducible exact H |(rw [hy157];exact H) | exact H
    have Ny157:=am hy157
    clear hy157
    replace H:=bzS H
    obtain ⟨⟨t160,t161⟩,A330,H⟩:=H
    replace H:(jr.l1 k1 t160 s0_0 t161 x142000_1)=some (r1,r2):=H
    have A33:=am A330
    clear A330
    have H':=am H
    clear H
    go_wp2_with (first |((with_reducible refine jD (N:=30) rfl ?_);(try (refine jTa (by rfl) ?_;dsimp only));refine Kd.R_lit (Kd.int .i64) _ 3 ?hg (N:=30) ?hd (xs:=([3,4,2,5,0]:List Int)) (inner:=[.int .i64 3, .int .i64 4, .int .i64 2, .int .i64 5, .int .i64 0]) (ok:=fun _=>True) (okp:=fun _=>True) ?hr ?hp (fun _ hk=>hk) trivial (Below.refl _ _) (Nat.le_refl _) (by simp) ?_;(case hd=>rfl);(case hg=>rfl);(case hr=>exact Y4);(case hp=>exact (Reps.one (show Kd.M (Kd.int .i64) _ _ _ 3 [.int .i64 3] from rfl) (Reps.one (show Kd.M (Kd.int .i64) _ _ _ 4 [.int .i64 4] from rfl) (Reps.one (show Kd.M (Kd.int .i64) _ _ _ 2 [.int .i64 2] from rfl) (Reps.one (show Kd.M (Kd.int .i64) _ _ _ 5 [.int .i64 5] from rfl) (Reps.one (show Kd.M (Kd.int .i64) _ _ _ 0 [.int .i64 0] from rfl) (Reps.none _ _)))))));intro v158 w34 ho35 hb hg_ hnew_;clear hg_ hnew_;(first | rw [← Ny157.out] at ho35 |(simp only [Int.reduceToNat] at ho35;rw [← Ny157.out] at ho35));have HO159:=am (Kd.jia ho35 (jea (w:=w) (g:=g) (row:=none) (Y5)));replace HO_142000:=am (Kd.jW (rq HO_142000.out) hb);replace BK136:=am (jc (g:=gb136) (o:=.cells #[.slice A1_0 l1_0.length c1_0] 25 (0,0)) (kq BK136.out) hb);replace BK137:=am (jc (g:=gb137) (o:=.cells #[.slice none 0 0] 28 (0,0)) (kq BK137.out) hb);replace BK141:=am (jc (g:=gb141) (o:=.cells #[u142000] 28 (0,0)) (kq BK141.out) hb);replace HK:=am (jd.trans (Y5) (jd.of_below hb g none) (.inl rfl));replace HB:=am (je (Y8) hb);replace HI0:=am (jk.below (Y3) hb);clear hb ho35;obtain ⟨Ao36,co36,eo36⟩:=Kd.jZ HO159.out;subst eo36) |((with_reducible refine jw (f:=69) rfl ?_);refine gL (some 31) Tryd.func69 #[.pointer (some ⟨g,0,none⟩), .slice Ao36 y157.length co36] ?_;(with_reducible refine (jy.calls k1 g s0_0 x1001_1 _ _ y157 t160 t161 w0 _ ?side1 ?side2 ?side3 ?side4 ?side5 A33.out).mono ?_);(case side1=>exact Y3);(case side2=>exact Y8);(case side3=>exact cq (Kd.jC HO159.out).2.2);(case side4=>exact (Kd.jC HO159.out).2.1);(case side5=>exact jCb (jk.own_ne HI0.out HO159.out (by decide)));rintro e w37 ⟨rfl,hi,hb,hk⟩;refine ⟨_,rfl,?_⟩;replace HO_142000:=am (Kd.jI (Kd.jqa (jk.apart (show jk w0 _ g s0_0 x1001_1 from Y3) (rq HO_142000.out) (by decide)) hk (fun _ h=>h.2)) (fun _ h=>h.1));replace BK136:=am (jd.blk hk (g':=gb136) (o:=.cells #[.slice A1_0 l1_0.length c1_0] 25 (0,0)) (kq BK136.out) NB136_0.out (by simp));replace BK137:=am (jd.blk hk (g':=gb137) (o:=.cells #[.slice none 0 0] 28 (0,0)) (kq BK137.out) NB137_0.out (by simp));replace BK141:=am (jd.blk hk (g':=gb141) (o:=.cells #[u142000] 28 (0,0)) (kq BK141.out) NB141_0.out (by simp));replace HO159:=am (Kd.jI (Kd.jqa (jk.apart (show jk w0 _ g s0_0 x1001_1 from Y3) (rq HO159.out) (by decide)) hk (fun _ h=>h.2)) (fun _ h=>h.1));replace HK:=am (jd.trans (Y5) hk (.inl rfl));replace HB:=am (hb);replace HI0:=am (hi);(try clear hb);(try clear hb2);(try clear hk);(try clear hi)))
    go_loopg [7] k1 (fun kq v7 w'=>∃ (x7_2:Int) (x1001_2:Int) (x142000_2:List (S66)) (u142000:Value),v7=.int .i64 x7_2∧jB (jr.l1 kq x7_2 s0_0 x1001_2 x142000_2=some (r1,r2))∧jB (kq≤k1)∧jB (Kd.R k66 66 w' w.heap.size (fun _=>True) u142000 x142000_2)∧jB (w'.heap[gb136]?=some (.cells #[(.slice A1_0 l1_0.length c1_0)] 25 (0,0)))∧jB (w'.heap[gb137]?=some (.cells #[(.slice none 0 0)] 28 (0,0)))∧jB (w'.heap[gb141]?=some (.cells #[u142000] 28 (0,0)))∧jB (jk w0 w' g s0_0 x1001_2)∧jB (jd w w' g none)∧jB (Below w0.heap.size w0 w'))
    case atStart=>exact ⟨(t160),(t161),(x142000_1),(u142000),(sq),H',⟨Nat.le_refl _⟩,⟨rq HO_142000.out⟩,⟨kq BK136.out⟩,⟨kq BK137.out⟩,⟨kq BK141.out⟩,⟨Y3⟩,⟨Y5⟩,⟨Y8⟩⟩
    case round =>
     clear H'
     try clear c1
     try clear p2
     try clear c4
     try clear c6
     try clear p6
     try clear c7
     try clear c10
     try clear c11
     try clear c12
     try clear c18
     try clear c18b0
     try clear hcz13_0
     try clear hfz13_0
     try clear p2
     obtain ⟨x7_2,x1001_2,x142000_2,u142000,rfl,HA,HK2,HO_142000,BK136,BK137,BK141,HI0,HK,HB⟩:=hrel
     cases gk with
     | zero=>exact absurd HA.out (by simp [jr.l1])
     | succ k2 =>
      have H:=HA.out
      clear HA
      simp only [jr.l1] at H
      have HC38:=am H
      clear H
      go_upto_region 7 with (fail)
      go_cut [39] (fun v39 wc=>∃ (kq:Nat) (x39_37:Bool),v39=.bool x39_37∧jB (jr.j2 kq x7_2 x39_37 s0_0 x1001_2 x142000_2=some (r1,r2))∧jB (kq≤k2)∧jB (Kd.R k66 66 wc w.heap.size (fun _=>True) u142000 x142000_2)∧jB (wc.heap[gb136]?=some (.cells #[(.slice A1_0 l1_0.length c1_0)] 25 (0,0)))∧jB (wc.heap[gb137]?=some (.cells #[(.slice none 0 0)] 28 (0,0)))∧jB (wc.heap[gb141]?=some (.cells #[u142000] 28 (0,0)))∧jB (jk w0 wc g s0_0 x1001_2)∧jB (jd w wc g none)∧jB (Below w0.heap.size w0 wc))
      case first =>
       have H:=HC38.out
       clear HC38
       by_cases c39:x7_2 > 0
       ·rw [if_pos c39] at H
        have c39b0:decide (0<x7_2)=true:=dzT c39
        clear c39
        (first | rw [c39b0] |(simp only [jwb,jBb];rw [c39b0]) | skip)
        have H':=am H
        clear H
        have hnb40:=NB141_136.out
        have hnc40:=NB136_141.out
        have hnb41:=NB141_137.out
        have hnc41:=NB137_141.out
        have hnb42:=NB141_0.out
        have hnc42:=NB0_141.out
        have hcz43_0:=bc0 BK141.out
        have hfz43_0:=jb BK141.out 0
        obtain ⟨Ao44,co44,eo44⟩:=Kd.jZ HO_142000.out
        subst eo44
        go_wp2
        go_meet
        case rel=>exact ⟨_,(decide ((x142000_2.length:Int) > 1)),(sq),H',⟨by have:=HK1.out;have:=HK2.out;first | omega | exact Nat.le_refl _⟩,⟨rq HO_142000.out⟩,⟨kq BK136.out⟩,⟨kq BK137.out⟩,⟨kq BK141.out⟩,⟨Y3⟩,⟨Y5⟩,⟨Y8⟩⟩
       ·rw [if_neg c39] at H
        have c39b0:decide (0<x7_2)=false:=dzF c39
        clear c39
        (first | rw [c39b0] |(simp only [jwb,jBb];rw [c39b0]) | skip)
        have H':=am H
        clear H
        go_wp2
        go_meet
        case rel=>exact ⟨_,(false),(sq),H',⟨by have:=HK1.out;have:=HK2.out;first | omega | exact Nat.le_refl _⟩,⟨rq HO_142000.out⟩,⟨kq BK136.out⟩,⟨kq BK137.out⟩,⟨kq BK141.out⟩,⟨Y3⟩,⟨Y5⟩,⟨Y8⟩⟩
      case rest =>
       clear HC38
       try clear c1
       try clear p2
       try clear c3
       try clear c4
       try clear c6
       try clear p6
       try clear c7
       try clear c10
       try clear c11
       try clear c12
       try clear c18
       try clear c18b0
       try clear c39
       try clear c39b0
       try clear c40
       try clear c41
       try clear c42
       try clear c44
       try clear hcz13_0
       try clear hcz43_0
       try clear hfz13_0
       try clear hfz43_0
       try clear p2
       try clear p6
       obtain ⟨kq,x39_37,rfl,HA,HJ37,HO_142000,BK136,BK137,BK141,HI0,HK,HB⟩:=hcut
       cases kq with
       | zero=>exact absurd HA.out (by simp [jr.j2])
       | succ kj37 =>
        have H:=HA.out
        clear HA
        simp only [jr.j2] at H
        by_cases c45:x39_37=true
        ·subst c45
         have H1:((jm.f kj37 s0_0 x1001_2 (x142000_2.length:Int)).bind fun bt162=>((jm.f kj37 s0_0 bt162.2 (x142000_2.length:Int)).bind fun bt164=>(if bt162.1=bt164.1 then (if 0≤bt162.1 then (if bt162.1<(x142000_2.length:Int) then (jr.l1 kj37 (wrap64 (x7_2 - 1)) s0_0 bt164.2 (x142000_2.set (bt162.1:Int).toNat (⟨(ja x142000_2 bt162.1).f0,(ja x142000_2 bt162.1).f1,(ja x142000_2 bt162.1).f2,(ja x142000_2 bt162.1).f3,!((ja x142000_2 bt162.1).f4)⟩:S66))) else (none)) else (none)) else ((jm.f kj37 s0_0 bt164.2 3).bind fun bt168=>(if bt168.1=0 then (if 0≤bt162.1 then (if bt162.1<(x142000_2.length:Int) then ((some (x142000_2.set (bt162.1:Int).toNat (⟨(ja x142000_2 bt162.1).f0,(ja x142000_2 bt162.1).f1,bt164.1,(ja x142000_2 bt162.1).f3,(ja x142000_2 bt162.1).f4⟩:S66):List (S66))).bind fun y170=>(jr.l1 kj37 (wrap64 (x7_2 - 1)) s0_0 bt168.2 (y170.set (bt162.1:Int).toNat (⟨(ja y170 bt162.1).f0,(ja y170 bt162.1).f1,(ja y170 bt162.1).f2,(ja y170 bt162.1).f3,true⟩:S66)))) else (none)) else (none)) else ((jha.f kj37 x142000_2 bt162.1 bt164.1).bind fun t172=>(jr.l1 kj37 (wrap64 (x7_2 - 1)) s0_0 bt168.2 t172)))))))=some (r1,r2):=by rw [if_pos rfl] at H;exact H
         clear H
         have H:=H1
         clear H1
         replace H:=bzS H
         obtain ⟨⟨t162,t163⟩,A460,H⟩:=H
         replace H:((jm.f kj37 s0_0 t163 (x142000_2.length:Int)).bind fun bt164=>(if t162=bt164.1 then (if 0≤t162 then (if t162<(x142000_2.length:Int) then (jr.l1 kj37 (wrap64 (x7_2 - 1)) s0_0 bt164.2 (x142000_2.set (t162:Int).toNat (⟨(ja x142000_2 t162).f0,(ja x142000_2 t162).f1,(ja x142000_2 t162).f2,(ja x142000_2 t162).f3,!((ja x142000_2 t162).f4)⟩:S66))) else (none)) else (none)) else ((jm.f kj37 s0_0 bt164.2 3).bind fun bt168=>(if bt168.1=0 then (if 0≤t162 then (if t162<(x142000_2.length:Int) then ((some (x142000_2.set (t162:Int).toNat (⟨(ja x142000_2 t162).f0,(ja x142000_2 t162).f1,bt164.1,(ja x142000_2 t162).f3,(ja x142000_2 t162).f4⟩:S66):List (S66))).bind fun y170=>(jr.l1 kj37 (wrap64 (x7_2 - 1)) s0_0 bt168.2 (y170.set (t162:Int).toNat (⟨(ja y170 t162).f0,(ja y170 t162).f1,(ja y170 t162).f2,(ja y170 t162).f3,true⟩:S66)))) else (none)) else (none)) else ((jha.f kj37 x142000_2 t162 bt164.1).bind fun t172=>(jr.l1 kj37 (wrap64 (x7_2 - 1)) s0_0 bt168.2 t172))))))=some (r1,r2):=H
         have A46:=am A460
         clear A460
         replace H:=bzS H
         obtain ⟨⟨t164,t165⟩,A470,H⟩:=H
         replace H:(if t162=t164 then (if 0≤t162 then (if t162<(x142000_2.length:Int) then (jr.l1 kj37 (wrap64 (x7_2 - 1)) s0_0 t165 (x142000_2.set (t162:Int).toNat (⟨(ja x142000_2 t162).f0,(ja x142000_2 t162).f1,(ja x142000_2 t162).f2,(ja x142000_2 t162).f3,!((ja x142000_2 t162).f4)⟩:S66))) else (none)) else (none)) else ((jm.f kj37 s0_0 t165 3).bind fun bt168=>(if bt168.1=0 then (if 0≤t162 then (if t162<(x142000_2.length:Int) then ((some (x142000_2.set (t162:Int).toNat (⟨(ja x142000_2 t162).f0,(ja x142000_2 t162).f1,t164,(ja x142000_2 t162).f3,(ja x142000_2 t162).f4⟩:S66):List (S66))).bind fun y170=>(jr.l1 kj37 (wrap64 (x7_2 - 1)) s0_0 bt168.2 (y170.set (t162:Int).toNat (⟨(ja y170 t162).f0,(ja y170 t162).f1,(ja y170 t162).f2,(ja y170 t162).f3,true⟩:S66)))) else (none)) else (none)) else ((jha.f kj37 x142000_2 t162 t164).bind fun t172=>(jr.l1 kj37 (wrap64 (x7_2 - 1)) s0_0 bt168.2 t172)))))=some (r1,r2):=H
         have A47:=am A470
         clear A470
         by_cases c48:t162=t164
         ·rw [if_pos c48] at H
          have c48b0:(t162 == t164)=true:=beq_iff_eq.mpr c48
          have c48b1:(t162 != t164)=false:=bne_eq_false_iff_eq.mpr c48
          clear c48
          by_cases c49:0≤t162
          ·rw [if_pos c49] at H
           have c49b0:decide (0≤t162)=true:=dzT c49
           clear c49
           by_cases c50:t162<(x142000_2.length:Int)
           ·rw [if_pos c50] at H
            have c50b0:decide (t162<(x142000_2.length:Int))=true:=dzT c50
            clear c50
            obtain ⟨y167,hy167⟩:∃ y_:List (S66),y_=(x142000_2.set (t162:Int).toNat (⟨(ja x142000_2 t162).f0,(ja x142000_2 t162).f1,(ja x142000_2 t162).f2,(ja x142000_2 t162).f3,!((ja x142000_2 t162).f4)⟩:S66)):=⟨_,rfl⟩
            replace H:(jr.l1 kj37 (wrap64 (x7_2 - 1)) s0_0 t165 y167)=some (r1,r2):=by first |(rw [hy167];with_reducible exact H) |(have H2_:=(Option.bind_some _ _).symm.trans H;rw [hy167];with_reducible exact H2_) |(have H2_:=(Option.bind_some _ _).symm.trans H;with_reducible exact H2_) | with_reducible exact H |(rw [hy167];exact H) | exact H
            have Ny167:=am hy167
            clear hy167
            have H':=am H
            clear H
            have hnb52:=NB141_136.out
            have hnc52:=NB136_141.out
            have hnb53:=NB141_137.out
            have hnc53:=NB137_141.out
            have hnb54:=NB141_0.out
            have hnc54:=NB0_141.out
            have hcz55_0:=bc0 BK141.out
            have hfz55_0:=jb BK141.out 0
            obtain ⟨Ao56,co56,eo56⟩:=Kd.jZ HO_142000.out
            subst eo56
            try go_wp2_with (first |((with_reducible refine jw (f:=68) rfl ?_);refine gL (some 46) Tryd.func68 #[.pointer (some ⟨g,0,none⟩), .int .i64 (x142000_2.length:Int)] ?_;(with_reducible refine (jm.calls kj37 g s0_0 x1001_2 (x142000_2.length:Int) t162 t163 w0 _ ?side1 ?side2 A46.out).mono ?_);(case side1=>exact Y3);(case side2=>exact Y8);rintro e w57 ⟨rfl,hi,hb,hk⟩;refine ⟨_,rfl,?_⟩;replace HO_142000:=am (Kd.jI (Kd.jqa (jk.apart (show jk w0 _ g s0_0 x1001_2 from Y3) (rq HO_142000.out) (by decide)) hk (fun _ h=>h.2)) (fun _ h=>h.1));replace BK136:=am (jd.blk hk (g':=gb136) (o:=.cells #[.slice A1_0 l1_0.length c1_0] 25 (0,0)) (kq BK136.out) NB136_0.out (by simp));replace BK137:=am (jd.blk hk (g':=gb137) (o:=.cells #[.slice none 0 0] 28 (0,0)) (kq BK137.out) NB137_0.out (by simp));replace BK141:=am (jd.blk hk (g':=gb141) (o:=.cells #[.slice Ao56 x142000_2.length co56] 28 (0,0)) (kq BK141.out) NB141_0.out (by simp));replace HK:=am (jd.trans (Y5) hk (.inl rfl));replace HB:=am (hb);replace HI0:=am (hi);(try clear hb);(try clear hb2);(try clear hk);(try clear hi);have hcz58_0:=bc0 BK141.out;have hfz58_0:=jb BK141.out 0) |((with_reducible refine jw (f:=68) rfl ?_);refine gL (some 51) Tryd.func68 #[.pointer (some ⟨g,0,none⟩), .int .i64 (x142000_2.length:Int)] ?_;(with_reducible refine (jm.calls kj37 g s0_0 t163 (x142000_2.length:Int) t164 t165 w0 _ ?side1 ?side2 A47.out).mono ?_);(case side1=>exact Y3);(case side2=>exact Y8);rintro e w59 ⟨rfl,hi,hb,hk⟩;refine ⟨_,rfl,?_⟩;replace HO_142000:=am (Kd.jI (Kd.jqa (jk.apart (show jk w0 _ g s0_0 t163 from Y3) (rq HO_142000.out) (by decide)) hk (fun _ h=>h.2)) (fun _ h=>h.1));replace BK136:=am (jd.blk hk (g':=gb136) (o:=.cells #[.slice A1_0 l1_0.length c1_0] 25 (0,0)) (kq BK136.out) NB136_0.out (by simp));replace BK137:=am (jd.blk hk (g':=gb137) (o:=.cells #[.slice none 0 0] 28 (0,0)) (kq BK137.out) NB137_0.out (by simp));replace BK141:=am (jd.blk hk (g':=gb141) (o:=.cells #[.slice Ao56 x142000_2.length co56] 28 (0,0)) (kq BK141.out) NB141_0.out (by simp));replace HK:=am (jd.trans (Y5) hk (.inl rfl));replace HB:=am (hb);replace HI0:=am (hi);(try clear hb);(try clear hb2);(try clear hk);(try clear hi)))
            replace HO_142000:=am (Kd.jV HO_142000.out)
            replace BK136:=am (jf BK136.out)
            replace BK137:=am (jf BK137.out)
            replace BK141:=am (jf BK141.out)
            replace HI0:=am (jk.drew HI0.out)
            replace HK:=am (jaa HK.out)
            replace HB:=am (jq HB.out)
            have p166:0≤(t162:Int):=ozD (uq)
            have q166:t162<(x142000_2.length:Int):=ozD (uq)
            obtain ⟨ad166,e166,hx166_0,hx166_1,hx166_2,hx166_3,hx166_4⟩:=jlb (Kd.jC HO_142000.out).2.2 t162 p166 q166
            cases e166
            replace p166:=ezT p166
            replace q166:=ezT q166
            have p51:0≤(t162:Int):=ozD (uq)
            have q51:(t162:Int)<((x142000_2.length:Int):Int):=ozD (uq)
            obtain ⟨go51,co51,eo51,gb51,gl51,cl51,HG51⟩:=Kd.R_form HO_142000.out (by omega)
            (first | cases eo51 |(injection eo51 with ea_ en_ ec_;(first | subst ea_ |(injection ea_ with ea_;subst ea_));subst ec_;clear en_))
            have GB51:=am gb51
            have GG51:=am HG51
            clear gb51 gl51 HG51
            (first | simp only [add_plain] at hx166_0 | skip)
            (first | simp only [add_plain] at hx166_1 | skip)
            (first | simp only [add_plain] at hx166_2 | skip)
            (first | simp only [add_plain] at hx166_3 | skip)
            (first | simp only [add_plain] at hx166_4 | skip)
            obtain ⟨ce51,hcl51,hM51,hcc51,hfr51⟩:=Kd.jyb HO_142000.out z66 (t162:Int) p51 q51
            obtain rfl:=jRa hM51
            have hx51_0:World.cell? _ ⟨go51,(t162:Int).toNat * 5,none⟩=some (.int .i64 ((ja x142000_2 t162).f0)):=hcc51 0 _ rfl
            have hx51_1:World.cell? _ ⟨go51,(t162:Int).toNat * 5+1,none⟩=some (.int .i64 ((ja x142000_2 t162).f1)):=hcc51 1 _ rfl
            have hx51_2:World.cell? _ ⟨go51,(t162:Int).toNat * 5+2,none⟩=some (.int .i64 ((ja x142000_2 t162).f2)):=hcc51 2 _ rfl
            have hx51_3:World.cell? _ ⟨go51,(t162:Int).toNat * 5+3,none⟩=some (.int .i64 ((ja x142000_2 t162).f3)):=hcc51 3 _ rfl
            have hx51_4:World.cell? _ ⟨go51,(t162:Int).toNat * 5+4,none⟩=some (.bool ((ja x142000_2 t162).f4)):=hcc51 4 _ rfl
            have hf51_0:World.frozen? _ ⟨go51,(t162:Int).toNat * 5,none⟩=false:=hfr51 0
            have hf51_1:World.frozen? _ ⟨go51,(t162:Int).toNat * 5+1,none⟩=false:=hfr51 1
            have hf51_2:World.frozen? _ ⟨go51,(t162:Int).toNat * 5+2,none⟩=false:=hfr51 2
            have hf51_3:World.frozen? _ ⟨go51,(t162:Int).toNat * 5+3,none⟩=false:=hfr51 3
            have hf51_4:World.frozen? _ ⟨go51,(t162:Int).toNat * 5+4,none⟩=false:=hfr51 4
            clear hcl51 hcc51 hfr51 hM51
            replace p51:=ezT p51
            replace q51:=ezT q51
            have HN0_go51:=am (show g≠go51 from by have h_:=jk.own_ne HI0.out HO_142000.out (by decide);intro e_;exact h_ (by rw [e_];rfl))
            obtain ⟨ce61,hcl61,hM61,hcc61,hfr61⟩:=Kd.jyb HO_142000.out z66 (t162:Int) (ozD (uq)) (by have h_:(t162:Int)<((x142000_2.length:Int):Int):=ozD (uq);first | exact h_ |(have e_:=(Kd.jC HO_142000.out).1;omega) | simpa using h_)
            obtain rfl:=jRa hM61
            have HP61:=(Kd.R_seg HO_142000.out (t162:Int) (ozD (uq)) (by have h_:(t162:Int)<((x142000_2.length:Int):Int):=ozD (uq);first | exact h_ |(have e_:=(Kd.jC HO_142000.out).1;omega) | simpa using h_) (seg:=[.bool (!((ja x142000_2 t162).f4))]) (j:=4) hcl61 hcc61 (show 5≤5 from by decide) (x':=(⟨(ja x142000_2 t162).f0,(ja x142000_2 t162).f1,(ja x142000_2 t162).f2,(ja x142000_2 t162).f3,!((ja x142000_2 t162).f4)⟩:S66)) (jac _ _ _ (⟨(ja x142000_2 t162).f0,(ja x142000_2 t162).f1,(ja x142000_2 t162).f2,(ja x142000_2 t162).f3,!((ja x142000_2 t162).f4)⟩:S66) ) (fun _ hk=>hk)).1
            rw [← Ny167.out] at HP61
            have HQ61:=am HP61
            clear hcl61 hcc61 hfr61 hM61 HP61
            refine jVb (n:=13) (S:=fun w'=>w'.cell? ⟨gb141,0,none⟩=some (.slice (some ⟨go51,0,none⟩) x142000_2.length co56)∧w'.cell? ⟨go51,((t162).toNat * 5),none⟩=some (.int .i64 ((ja x142000_2 t162).f0))∧w'.cell? ⟨go51,((t162).toNat * 5)+1,none⟩=some (.int .i64 ((ja x142000_2 t162).f1))∧w'.cell? ⟨go51,((t162).toNat * 5)+2,none⟩=some (.int .i64 ((ja x142000_2 t162).f2))∧w'.cell? ⟨go51,((t162).toNat * 5)+3,none⟩=some (.int .i64 ((ja x142000_2 t162).f3))∧w'.cell? ⟨go51,((t162).toNat * 5)+4,none⟩=some (.bool ((ja x142000_2 t162).f4))) (ds:=[12]) #[false,false,false,false,false,false,false,false,false,false,false,false,false] (by kernel_rfl) rfl rfl ⟨(jH BK141.out 0).trans rfl,hx166_0,hx166_1,hx166_2,hx166_3,hx166_4⟩ (fun hHeld=>?_);refine jxb jr.tab13 jr.bits13 (fun HT_ HW_=>?_)
            generalize w59.drew=w60 at HO_142000 BK136 BK137 BK141 HI0 HK HB GG51 HQ61 hf51_0 hf51_1 hf51_2 hf51_3 hf51_4 hx166_0 hx166_1 hx166_2 hx166_3 hx166_4 hx51_0 hx51_1 hx51_2 hx51_3 hx51_4 hHeld ⊢
            refine pq (i:=0) (N:=some 60) #[true,false,false,false,false,false,false,false,false,false,false,false,false] ?_
            refine pq (i:=2) (N:=some 62) #[true,false,true,false,false,false,false,false,false,false,false,false,false] ?_
            refine pq (i:=3) (N:=some 63) #[true,false,true,true,false,false,false,false,false,false,false,false,false] ?_
            refine pq (i:=5) (N:=some 65) #[true,false,true,true,false,true,false,false,false,false,false,false,false] ?_
            refine jAb (i:=1) (N:=some 61) (v:=?_) (a':=?_) #[true,true,true,true,false,true,false,false,false,false,false,false,false] rfl rfl (jWa HT_.out HW_.out (by kernel_rfl)) (fun _ _ _ h=>h) (Or.inl ⟨by rfl,?_⟩) hHeld ?_ ?_
            rotate_left
            ·rintro w' ⟨s0,s1,s2,s3,s4,s5⟩
             go_simp
             with_reducible rfl
            rotate_left
            ·exact sa
            refine jAb (i:=4) (N:=some 64) (v:=?_) (a':=?_) #[true,true,true,true,true,true,false,false,false,false,false,false,false] rfl rfl (jWa HT_.out HW_.out (by kernel_rfl)) (fun _ _ _ h=>h) (Or.inl ⟨by rfl,?_⟩) hHeld ?_ ?_
            rotate_left
            ·rintro w' ⟨s0,s1,s2,s3,s4,s5⟩
             go_simp
             with_reducible rfl
            rotate_left
            ·exact sa
            refine pq (i:=6) (N:=some 66) #[true,true,true,true,true,true,true,false,false,false,false,false,false] ?_
            refine pq (i:=7) (N:=some 67) #[true,true,true,true,true,true,true,true,false,false,false,false,false] ?_
            refine jAb (i:=8) (N:=some 68) (v:=?_) (a':=?_) #[true,true,true,true,true,true,true,true,true,false,false,false,false] rfl rfl (jWa HT_.out HW_.out (by kernel_rfl)) (fun _ _ _ h=>h) (Or.inl ⟨by rfl,?_⟩) hHeld ?_ ?_
            rotate_left
            ·rintro w' ⟨s0,s1,s2,s3,s4,s5⟩
             go_simp
             with_reducible rfl
            rotate_left
            ·exact sa
            refine pq (i:=9) (N:=some 69) #[true,true,true,true,true,true,true,true,true,true,false,false,false] ?_
            refine pq (i:=10) (N:=some 70) #[true,true,true,true,true,true,true,true,true,true,true,false,false] ?_
            refine pq (i:=11) (N:=some 71) #[true,true,true,true,true,true,true,true,true,true,true,true,false] ?_
            refine last_ (i:=12) (N:=none) #[true,true,true,true,true,true,true,true,true,true,true,true,true] rfl rfl (jeb HT_.out (by kernel_rfl)) (by decide) (fun K hK=>?_)
            refine jcc (w1:=?_) (by rfl) rfl ?_ ?_
            rotate_left
            ·go_simp
             rfl
            refine hK.out _ _ ?_
            clear hK K
            refine jqc (jbc HT_.out (by kernel_rfl)) ?_
            try go_wp2
            go_roundg kj37
            case measure=>have:=HK1.out;have:=HK2.out;have:=HJ37.out;omega
            case rel=>exact ⟨(wrap64 (x7_2 - 1)),(t165),(y167),(.slice (some ⟨go51,0,none⟩) x142000_2.length co56),(sq),H',⟨by have:=HK1.out;have:=HK2.out;have:=HJ37.out;omega⟩,⟨rq HQ61.out⟩,⟨by (with_reducible repeat (first | refine jg ?_ _ | refine jf ?_ | refine jh ?_ _));refine jT ?_ (by have h_:=Kd.R_ne HO_142000.out BK136.out (by decide);intro e_;exact h_ (by rw [e_];rfl)) _;(with_reducible repeat (first | refine jg ?_ _ | refine jf ?_ | refine jh ?_ _));exact BK136.out⟩,⟨by (with_reducible repeat (first | refine jg ?_ _ | refine jf ?_ | refine jh ?_ _));refine jT ?_ (by have h_:=Kd.R_ne HO_142000.out BK137.out (by decide);intro e_;exact h_ (by rw [e_];rfl)) _;(with_reducible repeat (first | refine jg ?_ _ | refine jf ?_ | refine jh ?_ _));exact BK137.out⟩,⟨by (with_reducible repeat (first | refine jg ?_ _ | refine jf ?_ | refine jh ?_ _));refine jT ?_ (by have h_:=Kd.R_ne HO_142000.out BK141.out (by decide);intro e_;exact h_ (by rw [e_];rfl)) _;(with_reducible repeat (first | refine jg ?_ _ | refine jf ?_ | refine jh ?_ _));exact BK141.out⟩,⟨by repeat (first |(with_reducible first | exact HI0.out | apply jk.alloc | apply jk.drewN | apply jk.drew | apply jk.jmb | refine jk.far ?_ HN0_go51.out _ | refine jk.far ?_ NB0_136.out _ | refine jk.far ?_ NB0_137.out _ | refine jk.far ?_ NB0_141.out _) | exact HI0.out)⟩,⟨by repeat (first |(with_reducible first | exact HK.out | apply jd.set_ | apply jja | apply jaa | apply jka | refine jO ?_ GB51.out _ | refine jO ?_ GW136.out _ | refine jO ?_ GW137.out _ | refine jO ?_ GW141.out _) | exact HK.out)⟩,⟨by repeat (first |(with_reducible first | exact HB.out | apply jv | apply jo | apply jq | refine jl ?_ (Nat.le_trans HL.out GB51.out) | refine jl ?_ (jk.ge HI0.out) | refine jl ?_ GE136.out | refine jl ?_ GE137.out | refine jl ?_ GE141.out) | exact HB.out)⟩⟩
           ·rw [if_neg c50] at H
            exact absurd H (by simp)
          ·rw [if_neg c49] at H
           exact absurd H (by simp)
         ·rw [if_neg c48] at H
          have c48b0:(t162 == t164)=false:=beq_eq_false_iff_ne.mpr c48
          have c48b1:(t162 != t164)=true:=bne_iff_ne.mpr c48
          replace H:=bzS H
          obtain ⟨⟨t168,t169⟩,A620,H⟩:=H
          replace H:(if t168=0 then (if 0≤t162 then (if t162<(x142000_2.length:Int) then ((some (x142000_2.set (t162:Int).toNat (⟨(ja x142000_2 t162).f0,(ja x142000_2 t162).f1,t164,(ja x142000_2 t162).f3,(ja x142000_2 t162).f4⟩:S66):List (S66))).bind fun y170=>(jr.l1 kj37 (wrap64 (x7_2 - 1)) s0_0 t169 (y170.set (t162:Int).toNat (⟨(ja y170 t162).f0,(ja y170 t162).f1,(ja y170 t162).f2,(ja y170 t162).f3,true⟩:S66)))) else (none)) else (none)) else ((jha.f kj37 x142000_2 t162 t164).bind fun t172=>(jr.l1 kj37 (wrap64 (x7_2 - 1)) s0_0 t169 t172)))=some (r1,r2):=H
          have A62:=am A620
          clear A620
          by_cases c63:t168=0
          ·rw [if_pos c63] at H
           have c63b0:(t168 == 0)=true:=beq_iff_eq.mpr c63
           have c63b1:(t168 != 0)=false:=bne_eq_false_iff_eq.mpr c63
           clear c63
           by_cases c64:0≤t162
           ·rw [if_pos c64] at H
            have c64b0:decide (0≤t162)=true:=dzT c64
            clear c64
            by_cases c65:t162<(x142000_2.length:Int)
            ·rw [if_pos c65] at H
             have c65b0:decide (t162<(x142000_2.length:Int))=true:=dzT c65
             clear c65
             obtain ⟨y170,hy170⟩:∃ y_:List (S66),y_=(x142000_2.set (t162:Int).toNat (⟨(ja x142000_2 t162).f0,(ja x142000_2 t162).f1,t164,(ja x142000_2 t162).f3,(ja x142000_2 t162).f4⟩:S66)):=⟨_,rfl⟩
             replace H:(jr.l1 kj37 (wrap64 (x7_2 - 1)) s0_0 t169 (y170.set (t162:Int).toNat (⟨(ja y170 t162).f0,(ja y170 t162).f1,(ja y170 t162).f2,(ja y170 t162).f3,true⟩:S66)))=some (r1,r2):=by first |(rw [hy170];with_reducible exact H) |(have H2_:=(Option.bind_some _ _).symm.trans H;rw [hy170];with_reducible exact H2_) |(have H2_:=(Option.bind_some _ _).symm.trans H;with_reducible exact H2_) | with_reducible exact H |(rw [hy170];exact H) | exact H
             have Ny170:=am hy170
             clear hy170
             obtain ⟨y171,hy171⟩:∃ y_:List (S66),y_=(y170.set (t162:Int).toNat (⟨(ja y170 t162).f0,(ja y170 t162).f1,(ja y170 t162).f2,(ja y170 t162).f3,true⟩:S66)):=⟨_,rfl⟩
             replace H:(jr.l1 kj37 (wrap64 (x7_2 - 1)) s0_0 t169 y171)=some (r1,r2):=by first |(rw [hy171];with_reducible exact H) |(have H2_:=(Option.bind_some _ _).symm.trans H;rw [hy171];with_reducible exact H2_) |(have H2_:=(Option.bind_some _ _).symm.trans H;with_reducible exact H2_) | with_reducible exact H |(rw [hy171];exact H) | exact H
             have Ny171:=am hy171
             clear hy171
             have H':=am H
             clear H
             have hnb68:=NB141_136.out
             have hnc68:=NB136_141.out
             have hnb69:=NB141_137.out
             have hnc69:=NB137_141.out
             have hnb70:=NB141_0.out
             have hnc70:=NB0_141.out
             have hcz71_0:=bc0 BK141.out
             have hfz71_0:=jb BK141.out 0
             obtain ⟨Ao72,co72,eo72⟩:=Kd.jZ HO_142000.out
             subst eo72
             go_wp2_with (first |((with_reducible refine jw (f:=68) rfl ?_);refine gL (some 46) Tryd.func68 #[.pointer (some ⟨g,0,none⟩), .int .i64 (x142000_2.length:Int)] ?_;(with_reducible refine (jm.calls kj37 g s0_0 x1001_2 (x142000_2.length:Int) t162 t163 w0 _ ?side1 ?side2 A46.out).mono ?_);(case side1=>exact Y3);(case side2=>exact Y8);rintro e w73 ⟨rfl,hi,hb,hk⟩;refine ⟨_,rfl,?_⟩;replace HO_142000:=am (Kd.jI (Kd.jqa (jk.apart (show jk w0 _ g s0_0 x1001_2 from Y3) (rq HO_142000.out) (by decide)) hk (fun _ h=>h.2)) (fun _ h=>h.1));replace BK136:=am (jd.blk hk (g':=gb136) (o:=.cells #[.slice A1_0 l1_0.length c1_0] 25 (0,0)) (kq BK136.out) NB136_0.out (by simp));replace BK137:=am (jd.blk hk (g':=gb137) (o:=.cells #[.slice none 0 0] 28 (0,0)) (kq BK137.out) NB137_0.out (by simp));replace BK141:=am (jd.blk hk (g':=gb141) (o:=.cells #[.slice Ao72 x142000_2.length co72] 28 (0,0)) (kq BK141.out) NB141_0.out (by simp));replace HK:=am (jd.trans (Y5) hk (.inl rfl));replace HB:=am (hb);replace HI0:=am (hi);(try clear hb);(try clear hb2);(try clear hk);(try clear hi);have hcz74_0:=bc0 BK141.out;have hfz74_0:=jb BK141.out 0) |((with_reducible refine jw (f:=68) rfl ?_);refine gL (some 51) Tryd.func68 #[.pointer (some ⟨g,0,none⟩), .int .i64 (x142000_2.length:Int)] ?_;(with_reducible refine (jm.calls kj37 g s0_0 t163 (x142000_2.length:Int) t164 t165 w0 _ ?side1 ?side2 A47.out).mono ?_);(case side1=>exact Y3);(case side2=>exact Y8);rintro e w75 ⟨rfl,hi,hb,hk⟩;refine ⟨_,rfl,?_⟩;replace HO_142000:=am (Kd.jI (Kd.jqa (jk.apart (show jk w0 _ g s0_0 t163 from Y3) (rq HO_142000.out) (by decide)) hk (fun _ h=>h.2)) (fun _ h=>h.1));replace BK136:=am (jd.blk hk (g':=gb136) (o:=.cells #[.slice A1_0 l1_0.length c1_0] 25 (0,0)) (kq BK136.out) NB136_0.out (by simp));replace BK137:=am (jd.blk hk (g':=gb137) (o:=.cells #[.slice none 0 0] 28 (0,0)) (kq BK137.out) NB137_0.out (by simp));replace BK141:=am (jd.blk hk (g':=gb141) (o:=.cells #[.slice Ao72 x142000_2.length co72] 28 (0,0)) (kq BK141.out) NB141_0.out (by simp));replace HK:=am (jd.trans (Y5) hk (.inl rfl));replace HB:=am (hb);replace HI0:=am (hi);(try clear hb);(try clear hb2);(try clear hk);(try clear hi)) |((with_reducible refine jw (f:=68) rfl ?_);refine gL (some 74) Tryd.func68 #[.pointer (some ⟨g,0,none⟩), .int .i64 3] ?_;(with_reducible refine (jm.calls kj37 g s0_0 t165 3 t168 t169 w0 _ ?side1 ?side2 A62.out).mono ?_);(case side1=>exact Y3);(case side2=>exact Y8);rintro e w76 ⟨rfl,hi,hb,hk⟩;refine ⟨_,rfl,?_⟩;replace HO_142000:=am (Kd.jI (Kd.jqa (jk.apart (show jk w0 _ g s0_0 t165 from Y3) (rq HO_142000.out) (by decide)) hk (fun _ h=>h.2)) (fun _ h=>h.1));replace BK136:=am (jd.blk hk (g':=gb136) (o:=.cells #[.slice A1_0 l1_0.length c1_0] 25 (0,0)) (kq BK136.out) NB136_0.out (by simp));replace BK137:=am (jd.blk hk (g':=gb137) (o:=.cells #[.slice none 0 0] 28 (0,0)) (kq BK137.out) NB137_0.out (by simp));replace BK141:=am (jd.blk hk (g':=gb141) (o:=.cells #[.slice Ao72 x142000_2.length co72] 28 (0,0)) (kq BK141.out) NB141_0.out (by simp));replace HK:=am (jd.trans (Y5) hk (.inl rfl));replace HB:=am (hb);replace HI0:=am (hi);(try clear hb);(try clear hb2);(try clear hk);(try clear hi);have hcz77_0:=bc0 BK141.out;have hfz77_0:=jb BK141.out 0;have p66:0≤(t162:Int):=ozD (uq);have q66:(t162:Int)<((x142000_2.length:Int):Int):=ozD (uq);obtain ⟨go66,co66,eo66,gb66,gl66,cl66,HG66⟩:=Kd.R_form HO_142000.out (by omega);(first | cases eo66 |(injection eo66 with ea_ en_ ec_;(first | subst ea_ |(injection ea_ with ea_;subst ea_));subst ec_;clear en_));have GB66:=am gb66;have GG66:=am HG66;clear gb66 gl66 HG66;obtain ⟨ce66,hcl66,hM66,hcc66,hfr66⟩:=Kd.jyb HO_142000.out z66 (t162:Int) p66 q66;obtain rfl:=jRa hM66;have hx66_0:w76.cell? ⟨go66,(t162:Int).toNat * 5,none⟩=some (.int .i64 ((ja x142000_2 t162).f0)):=hcc66 0 _ rfl;have hx66_1:w76.cell? ⟨go66,(t162:Int).toNat * 5+1,none⟩=some (.int .i64 ((ja x142000_2 t162).f1)):=hcc66 1 _ rfl;have hx66_2:w76.cell? ⟨go66,(t162:Int).toNat * 5+2,none⟩=some (.int .i64 ((ja x142000_2 t162).f2)):=hcc66 2 _ rfl;have hx66_3:w76.cell? ⟨go66,(t162:Int).toNat * 5+3,none⟩=some (.int .i64 ((ja x142000_2 t162).f3)):=hcc66 3 _ rfl;have hx66_4:w76.cell? ⟨go66,(t162:Int).toNat * 5+4,none⟩=some (.bool ((ja x142000_2 t162).f4)):=hcc66 4 _ rfl;have hf66_0:w76.frozen? ⟨go66,(t162:Int).toNat * 5,none⟩=false:=hfr66 0;have hf66_1:w76.frozen? ⟨go66,(t162:Int).toNat * 5+1,none⟩=false:=hfr66 1;have hf66_2:w76.frozen? ⟨go66,(t162:Int).toNat * 5+2,none⟩=false:=hfr66 2;have hf66_3:w76.frozen? ⟨go66,(t162:Int).toNat * 5+3,none⟩=false:=hfr66 3;have hf66_4:w76.frozen? ⟨go66,(t162:Int).toNat * 5+4,none⟩=false:=hfr66 4;clear hcl66 hcc66 hfr66 hM66;replace p66:=ezT p66;replace q66:=ezT q66;have HX78:=am (show Kd.R k66 66 w76 w.heap.size (fun _=>True) (.slice (some ⟨go66,0,none⟩) x142000_2.length co72) x142000_2 from (rq HO_142000.out));obtain ⟨ce78,hcl78,hM78,hcc78,hfr78⟩:=Kd.jyb HX78.out z66 (t162:Int) (ozD (uq)) (by have h_:(t162:Int)<((x142000_2.length:Int):Int):=ozD (uq);first | exact h_ |(have e_:=(Kd.jC HO_142000.out).1;omega) | simpa using h_);obtain rfl:=jRa hM78;have HP78:=Kd.R_seg HX78.out (t162:Int) (ozD (uq)) (by have h_:(t162:Int)<((x142000_2.length:Int):Int):=ozD (uq);first | exact h_ |(have e_:=(Kd.jC HO_142000.out).1;omega) | simpa using h_) (seg:=[.int .i64 t164]) (j:=2) hcl78 hcc78 (show 3≤5 from by decide) (x':=(⟨(ja x142000_2 t162).f0,(ja x142000_2 t162).f1,t164,(ja x142000_2 t162).f3,(ja x142000_2 t162).f4⟩:S66)) (jac _ _ _ (⟨(ja x142000_2 t162).f0,(ja x142000_2 t162).f1,t164,(ja x142000_2 t162).f3,(ja x142000_2 t162).f4⟩:S66) ) (fun _ hk=>hk);have hx78_2:=hcc78 2 _ rfl;(try simp only [show (k66).sz=5 from rfl,Nat.mul_one,Nat.add_zero] at hx78_2);have hf78_2:=hfr78 2;(try simp only [show (k66).sz=5 from rfl,Nat.mul_one,Nat.add_zero] at hf78_2);clear hcl78 hcc78 hfr78 hM78) |((with_reducible refine jlc (t:=3) (p:=81) rfl ?_);refine jfc (t:=3) (p:=81) (v:=?vo_w79) (w1:=(w76.setCell ⟨go66,(t162:Int).toNat * 5+2,none⟩ (.int .i64 t164))) ?hg ?ho ?hn ?hr ?_;(case ho=>rfl);(case hg=>rfl);(case hn=>rfl);(case hr=>exact Y4);intro w79 hw;have hg:w76.grownBy w79 (some go66):=(by rw [hw];exact HP78.2);have hp_:Kd.R k66 66 w79 w.heap.size (fun _=>True) (.slice (some ⟨go66,0,none⟩) x142000_2.length co72) y170:=(by rw [hw,Ny170.out];exact HP78.1);clear HP78;replace BK136:=am (jKa (g:=gb136) (o:=.cells #[.slice A1_0 l1_0.length c1_0] 25 (0,0)) (kq BK136.out) hg (Kd.R_ne HO_142000.out BK136.out (by decide)));replace BK137:=am (jKa (g:=gb137) (o:=.cells #[.slice none 0 0] 28 (0,0)) (kq BK137.out) hg (Kd.R_ne HO_142000.out BK137.out (by decide)));replace BK141:=am (jKa (g:=gb141) (o:=.cells #[.slice (some ⟨go66,0,none⟩) x142000_2.length co72] 28 (0,0)) (kq BK141.out) hg (Kd.R_ne HO_142000.out BK141.out (by decide)));replace HI0:=am (jk.grown (Y3) hg (jk.own_ne HI0.out HO_142000.out (by decide)));replace HB:=am ((by rw [hw];exact jl (HB.out) (Nat.le_trans HL.out GB66.out):Below w0.heap.size w0 w79));replace HK:=am (jd.trans (Y5) (jd.of_grown hg g) (Kd.R_base2 HO_142000.out));replace HO_142000:=am (hp_);clear hg hw hp_;have hcz80_0:=bc0 BK141.out;have hfz80_0:=jb BK141.out 0;have p67:0≤(t162:Int):=ozD (uq);have q67:(t162:Int)<((x142000_2.length:Int):Int):=ozD (uq);obtain ⟨ce67,hcl67,hM67,hcc67,hfr67⟩:=Kd.jyb HO_142000.out z66 (t162:Int) p67 q67;obtain rfl:=jRa hM67;have hx67_0:w79.cell? ⟨go66,(t162:Int).toNat * 5,none⟩=some (.int .i64 ((ja y170 t162).f0)):=hcc67 0 _ rfl;have hx67_1:w79.cell? ⟨go66,(t162:Int).toNat * 5+1,none⟩=some (.int .i64 ((ja y170 t162).f1)):=hcc67 1 _ rfl;have hx67_2:w79.cell? ⟨go66,(t162:Int).toNat * 5+2,none⟩=some (.int .i64 ((ja y170 t162).f2)):=hcc67 2 _ rfl;have hx67_3:w79.cell? ⟨go66,(t162:Int).toNat * 5+3,none⟩=some (.int .i64 ((ja y170 t162).f3)):=hcc67 3 _ rfl;have hx67_4:w79.cell? ⟨go66,(t162:Int).toNat * 5+4,none⟩=some (.bool ((ja y170 t162).f4)):=hcc67 4 _ rfl;have hf67_0:w79.frozen? ⟨go66,(t162:Int).toNat * 5,none⟩=false:=hfr67 0;have hf67_1:w79.frozen? ⟨go66,(t162:Int).toNat * 5+1,none⟩=false:=hfr67 1;have hf67_2:w79.frozen? ⟨go66,(t162:Int).toNat * 5+2,none⟩=false:=hfr67 2;have hf67_3:w79.frozen? ⟨go66,(t162:Int).toNat * 5+3,none⟩=false:=hfr67 3;have hf67_4:w79.frozen? ⟨go66,(t162:Int).toNat * 5+4,none⟩=false:=hfr67 4;clear hcl67 hcc67 hfr67 hM67;replace p67:=ezT p67;replace q67:=ezT q67;have HX81:=am (show Kd.R k66 66 w79 w.heap.size (fun _=>True) (.slice (some ⟨go66,0,none⟩) x142000_2.length co72) y170 from (rq HO_142000.out));obtain ⟨ce81,hcl81,hM81,hcc81,hfr81⟩:=Kd.jyb HX81.out z66 (t162:Int) (ozD (uq)) (by have h_:(t162:Int)<((x142000_2.length:Int):Int):=ozD (uq);first | exact h_ |(have e_:=(Kd.jC HO_142000.out).1;omega) | simpa using h_);obtain rfl:=jRa hM81;have HP81:=Kd.R_seg HX81.out (t162:Int) (ozD (uq)) (by have h_:(t162:Int)<((x142000_2.length:Int):Int):=ozD (uq);first | exact h_ |(have e_:=(Kd.jC HO_142000.out).1;omega) | simpa using h_) (seg:=[.bool true]) (j:=4) hcl81 hcc81 (show 5≤5 from by decide) (x':=(⟨(ja y170 t162).f0,(ja y170 t162).f1,(ja y170 t162).f2,(ja y170 t162).f3,true⟩:S66)) (jac _ _ _ (⟨(ja y170 t162).f0,(ja y170 t162).f1,(ja y170 t162).f2,(ja y170 t162).f3,true⟩:S66) ) (fun _ hk=>hk);have hx81_4:=hcc81 4 _ rfl;(try simp only [show (k66).sz=5 from rfl,Nat.mul_one,Nat.add_zero] at hx81_4);have hf81_4:=hfr81 4;(try simp only [show (k66).sz=5 from rfl,Nat.mul_one,Nat.add_zero] at hf81_4);clear hcl81 hcc81 hfr81 hM81) |((with_reducible refine jlc (t:=4) (p:=86) rfl ?_);refine jfc (t:=4) (p:=86) (v:=?vo_w82) (w1:=(w79.setCell ⟨go66,(t162:Int).toNat * 5+4,none⟩ (.bool true))) ?hg ?ho ?hn ?hr ?_;(case ho=>rfl);(case hg=>rfl);(case hn=>rfl);(case hr=>exact Y4);intro w82 hw;have hg:w79.grownBy w82 (some go66):=(by rw [hw];exact HP81.2);have hp_:Kd.R k66 66 w82 w.heap.size (fun _=>True) (.slice (some ⟨go66,0,none⟩) x142000_2.length co72) y171:=(by rw [hw,Ny171.out];exact HP81.1);clear HP81;replace BK136:=am (jKa (g:=gb136) (o:=.cells #[.slice A1_0 l1_0.length c1_0] 25 (0,0)) (kq BK136.out) hg (Kd.R_ne HO_142000.out BK136.out (by decide)));replace BK137:=am (jKa (g:=gb137) (o:=.cells #[.slice none 0 0] 28 (0,0)) (kq BK137.out) hg (Kd.R_ne HO_142000.out BK137.out (by decide)));replace BK141:=am (jKa (g:=gb141) (o:=.cells #[.slice (some ⟨go66,0,none⟩) x142000_2.length co72] 28 (0,0)) (kq BK141.out) hg (Kd.R_ne HO_142000.out BK141.out (by decide)));replace HI0:=am (jk.grown (Y3) hg (jk.own_ne HI0.out HO_142000.out (by decide)));replace HB:=am ((by rw [hw];exact jl (HB.out) (Nat.le_trans HL.out GB66.out):Below w0.heap.size w0 w82));replace HK:=am (jd.trans (Y5) (jd.of_grown hg g) (Kd.R_base2 HO_142000.out));replace HO_142000:=am (hp_);clear hg hw hp_))
             go_roundg kj37
             case measure=>have:=HK1.out;have:=HK2.out;have:=HJ37.out;omega
             case rel=>exact ⟨(wrap64 (x7_2 - 1)),(t169),(y171),(.slice (some ⟨go66,0,none⟩) x142000_2.length co72),(sq),H',⟨by have:=HK1.out;have:=HK2.out;have:=HJ37.out;omega⟩,⟨rq HO_142000.out⟩,⟨kq BK136.out⟩,⟨kq BK137.out⟩,⟨kq BK141.out⟩,⟨Y3⟩,⟨Y5⟩,⟨Y8⟩⟩
            ·rw [if_neg c65] at H
             exact absurd H (by simp)
           ·rw [if_neg c64] at H
            exact absurd H (by simp)
          ·rw [if_neg c63] at H
           have c63b0:(t168 == 0)=false:=beq_eq_false_iff_ne.mpr c63
           have c63b1:(t168 != 0)=true:=bne_iff_ne.mpr c63
           replace H:=bzS H
           obtain ⟨t172,A830,H⟩:=H
           replace H:(jr.l1 kj37 (wrap64 (x7_2 - 1)) s0_0 t169 t172)=some (r1,r2):=H
           have A83:=am A830
           clear A830
           have H':=am H
           clear H
           have hnb84:=NB141_136.out
           have hnc84:=NB136_141.out
           have hnb85:=NB141_137.out
           have hnc85:=NB137_141.out
           have hnb86:=NB141_0.out
           have hnc86:=NB0_141.out
           have hcz87_0:=bc0 BK141.out
           have hfz87_0:=jb BK141.out 0
           obtain ⟨Ao88,co88,eo88⟩:=Kd.jZ HO_142000.out
           subst eo88
           go_wp2_with (first |((with_reducible refine jw (f:=68) rfl ?_);refine gL (some 46) Tryd.func68 #[.pointer (some ⟨g,0,none⟩), .int .i64 (x142000_2.length:Int)] ?_;(with_reducible refine (jm.calls kj37 g s0_0 x1001_2 (x142000_2.length:Int) t162 t163 w0 _ ?side1 ?side2 A46.out).mono ?_);(case side1=>exact Y3);(case side2=>exact Y8);rintro e w89 ⟨rfl,hi,hb,hk⟩;refine ⟨_,rfl,?_⟩;replace HO_142000:=am (Kd.jI (Kd.jqa (jk.apart (show jk w0 _ g s0_0 x1001_2 from Y3) (rq HO_142000.out) (by decide)) hk (fun _ h=>h.2)) (fun _ h=>h.1));replace BK136:=am (jd.blk hk (g':=gb136) (o:=.cells #[.slice A1_0 l1_0.length c1_0] 25 (0,0)) (kq BK136.out) NB136_0.out (by simp));replace BK137:=am (jd.blk hk (g':=gb137) (o:=.cells #[.slice none 0 0] 28 (0,0)) (kq BK137.out) NB137_0.out (by simp));replace BK141:=am (jd.blk hk (g':=gb141) (o:=.cells #[.slice Ao88 x142000_2.length co88] 28 (0,0)) (kq BK141.out) NB141_0.out (by simp));replace HK:=am (jd.trans (Y5) hk (.inl rfl));replace HB:=am (hb);replace HI0:=am (hi);(try clear hb);(try clear hb2);(try clear hk);(try clear hi);have hcz90_0:=bc0 BK141.out;have hfz90_0:=jb BK141.out 0) |((with_reducible refine jw (f:=68) rfl ?_);refine gL (some 51) Tryd.func68 #[.pointer (some ⟨g,0,none⟩), .int .i64 (x142000_2.length:Int)] ?_;(with_reducible refine (jm.calls kj37 g s0_0 t163 (x142000_2.length:Int) t164 t165 w0 _ ?side1 ?side2 A47.out).mono ?_);(case side1=>exact Y3);(case side2=>exact Y8);rintro e w91 ⟨rfl,hi,hb,hk⟩;refine ⟨_,rfl,?_⟩;replace HO_142000:=am (Kd.jI (Kd.jqa (jk.apart (show jk w0 _ g s0_0 t163 from Y3) (rq HO_142000.out) (by decide)) hk (fun _ h=>h.2)) (fun _ h=>h.1));replace BK136:=am (jd.blk hk (g':=gb136) (o:=.cells #[.slice A1_0 l1_0.length c1_0] 25 (0,0)) (kq BK136.out) NB136_0.out (by simp));replace BK137:=am (jd.blk hk (g':=gb137) (o:=.cells #[.slice none 0 0] 28 (0,0)) (kq BK137.out) NB137_0.out (by simp));replace BK141:=am (jd.blk hk (g':=gb141) (o:=.cells #[.slice Ao88 x142000_2.length co88] 28 (0,0)) (kq BK141.out) NB141_0.out (by simp));replace HK:=am (jd.trans (Y5) hk (.inl rfl));replace HB:=am (hb);replace HI0:=am (hi);(try clear hb);(try clear hb2);(try clear hk);(try clear hi)) |((with_reducible refine jw (f:=68) rfl ?_);refine gL (some 74) Tryd.func68 #[.pointer (some ⟨g,0,none⟩), .int .i64 3] ?_;(with_reducible refine (jm.calls kj37 g s0_0 t165 3 t168 t169 w0 _ ?side1 ?side2 A62.out).mono ?_);(case side1=>exact Y3);(case side2=>exact Y8);rintro e w92 ⟨rfl,hi,hb,hk⟩;refine ⟨_,rfl,?_⟩;replace HO_142000:=am (Kd.jI (Kd.jqa (jk.apart (show jk w0 _ g s0_0 t165 from Y3) (rq HO_142000.out) (by decide)) hk (fun _ h=>h.2)) (fun _ h=>h.1));replace BK136:=am (jd.blk hk (g':=gb136) (o:=.cells #[.slice A1_0 l1_0.length c1_0] 25 (0,0)) (kq BK136.out) NB136_0.out (by simp));replace BK137:=am (jd.blk hk (g':=gb137) (o:=.cells #[.slice none 0 0] 28 (0,0)) (kq BK137.out) NB137_0.out (by simp));replace BK141:=am (jd.blk hk (g':=gb141) (o:=.cells #[.slice Ao88 x142000_2.length co88] 28 (0,0)) (kq BK141.out) NB141_0.out (by simp));replace HK:=am (jd.trans (Y5) hk (.inl rfl));replace HB:=am (hb);replace HI0:=am (hi);(try clear hb);(try clear hb2);(try clear hk);(try clear hi);have hcz93_0:=bc0 BK141.out;have hfz93_0:=jb BK141.out 0) |((with_reducible refine jw (f:=72) rfl ?_);refine gL (some 55) Tryd.func72 #[.agg #[.slice Ao88 x142000_2.length co88], .int .i64 t162, .int .i64 t164] ?_;(with_reducible refine (jha.calls kj37 _ _ x142000_2 t162 t164 t172 _ ?side1 ?side2 A83.out).mono ?_);(case side1=>exact cq (Kd.jC HO_142000.out).2.2);(case side2=>exact (Kd.jC HO_142000.out).2.1);rintro e w94 ⟨v173,rfl,ho0,hb⟩;refine ⟨_,rfl,?_⟩;have HO174:=am (Kd.jia (Kd.R_new' ho0 (Kd.R_lt (rq HO_142000.out))) (jea (w:=w) (g:=g) (row:=none) (Y5)));replace HO_142000:=am (Kd.R_elder' (rq HO_142000.out) (Kd.R_base ho0) hb);replace BK136:=am (jc (g:=gb136) (o:=.cells #[.slice A1_0 l1_0.length c1_0] 25 (0,0)) (kq BK136.out) hb);replace BK137:=am (jc (g:=gb137) (o:=.cells #[.slice none 0 0] 28 (0,0)) (kq BK137.out) hb);replace BK141:=am (jc (g:=gb141) (o:=.cells #[.slice Ao88 x142000_2.length co88] 28 (0,0)) (kq BK141.out) hb);replace HK:=am (jd.trans (Y5) (jd.of_below hb g none) (.inl rfl));replace HB:=am (je (Y8) hb);replace HI0:=am (jk.below (Y3) hb);(try clear hb);(try clear hb2);(try clear hk);(try clear hi);(try clear ho0);obtain ⟨Ao95,co95,eo95⟩:=Kd.jZ HO174.out;subst eo95;have hcz96_0:=bc0 BK141.out;have hfz96_0:=jb BK141.out 0))
           go_roundg kj37
           case measure=>have:=HK1.out;have:=HK2.out;have:=HJ37.out;omega
           case rel=>exact ⟨(wrap64 (x7_2 - 1)),(t169),(t172),(.slice Ao95 t172.length co95),(sq),H',⟨by have:=HK1.out;have:=HK2.out;have:=HJ37.out;omega⟩,⟨by (with_reducible repeat (first | apply Kd.jX | apply Kd.jba | apply Kd.jV));exact Kd.jI (Kd.jwa (p:=⟨gb141,0,none⟩) (Kd.jP HO174.out BK141.out (by decide)) (fun _ hk=>hk.2) (.slice Ao95 t172.length co95)) (fun _ hk=>trivial)⟩,⟨by (with_reducible repeat (first | refine jg ?_ _ | refine jf ?_ | refine jh ?_ _));refine jT ?_ NB136_141.out _;(with_reducible repeat (first | refine jg ?_ _ | refine jf ?_ | refine jh ?_ _));exact BK136.out⟩,⟨by (with_reducible repeat (first | refine jg ?_ _ | refine jf ?_ | refine jh ?_ _));refine jT ?_ NB137_141.out _;(with_reducible repeat (first | refine jg ?_ _ | refine jf ?_ | refine jh ?_ _));exact BK137.out⟩,⟨by (with_reducible repeat (first | refine jg ?_ _ | refine jf ?_ | refine jh ?_ _));refine jya (cs:=#[.slice Ao88 x142000_2.length co88]) ?_ 0 _ rfl;(with_reducible repeat (first | refine jg ?_ _ | refine jf ?_ | refine jh ?_ _));exact BK141.out⟩,⟨Y3⟩,⟨Y5⟩,⟨Y8⟩⟩
        ·replace c45:=Bool.eq_false_iff.mpr c45
         subst c45
         have H1:(some (x142000_2,x1001_2))=some (r1,r2):=by rw [if_neg (show ¬ (false=true) by decide)] at H;exact H
         clear H
         have H:=H1
         clear H1
         simp only [Option.some.injEq,Prod.mk.injEq] at H
         obtain ⟨rfl,rfl⟩:=H
         have hnb97:=NB141_136.out
         have hnc97:=NB136_141.out
         have hnb98:=NB141_137.out
         have hnc98:=NB137_141.out
         have hnb99:=NB141_0.out
         have hnc99:=NB0_141.out
         have hcz100_0:=bc0 BK141.out
         have hfz100_0:=jb BK141.out 0
         obtain ⟨Ao101,co101,eo101⟩:=Kd.jZ HO_142000.out
         subst eo101
         have hnb102:=NB137_136.out
         have hnc102:=NB136_137.out
         have hnb103:=NB137_0.out
         have hnc103:=NB0_137.out
         have hcz104_0:=bc0 BK137.out
         have hfz104_0:=jb BK137.out 0
         go_wp2
         refine bodyPost_ret (results_cell_row rfl _ _ gb137 28 #[.slice Ao101 x142000_2.length co101] (0,0) _ rfl (by (with_reducible repeat (first | refine jg ?_ _ | refine jf ?_ | refine jh ?_ _));refine jya (cs:=#[.slice none 0 0]) ?_ 0 _ rfl;(with_reducible repeat (first | refine jg ?_ _ | refine jf ?_ | refine jh ?_ _));exact BK137.out) Tryd.underlying28 rfl (by kernel_rfl)) rfl ?_
         exact ⟨_,Y1,by (with_reducible repeat (first | apply Kd.jX | apply Kd.jba | apply Kd.jV));exact Kd.jI (Kd.jwa (p:=⟨gb137,0,none⟩) (Kd.jP HO_142000.out BK137.out (by decide)) (fun _ hk=>hk.2) (.slice Ao101 x142000_2.length co101)) (fun _ hk=>trivial),Y3,Y8,Y5⟩
def jQ.l0 : Nat → List ByteArray → Int → Int → List Int → Int → List (S99) → Option ((List (S99)) × Int)
 | 0,_,_,_,_,_,_=>none
 | k+1,x3,x5,x6,x1000,x1001,x183000=>if x6<x5 then (if 0≤x6 then (if x6<(x3.length:Int) then ((jm.f k x1000 x1001 x6).bind fun bt189=>((jy.f k x1000 bt189.2 (([0,bt189.1,wrap64 (x6 - 1)]:List Int))).bind fun bt194=>(if x183000.length<5864062014805 then (jQ.l0 k x3 x5 (wrap64 (x6+1)) x1000 bt194.2 (x183000 ++ [(⟨rdOf ByteArray.empty x3 x6,bt194.1⟩:S99)])) else (none)))) else (none)) else (none)) else (some (x183000,x1001))
def jQ.f (k : Nat) (s0_0 : List Int) (s0_1 : Int) : Option ((List (S99)) × Int) := (jy.f k s0_0 s0_1 (([4, 5, 3, 6, 2, 1, 8] : List Int))).bind fun bt186 => (jQ.l0 k (([(⟨#[97, 110, 121]⟩ : ByteArray), (⟨#[105, 111]⟩ : ByteArray), (⟨#[107, 101, 121]⟩ : ByteArray), (⟨#[116, 105, 109, 101]⟩ : ByteArray), (⟨#[110, 101, 116]⟩ : ByteArray), (⟨#[100, 105, 115, 107]⟩ : ByteArray), (⟨#[116, 121, 112, 101]⟩ : ByteArray), (⟨#[111, 100, 100]⟩ : ByteArray)] : List ByteArray)) bt186.1 1 s0_0 bt186.2 (([(⟨(⟨#[97, 110, 121]⟩ : ByteArray), (-1)⟩ : S99)] : List (S99))))
def jQ.T7 : Bool × List (List Nat × List Nat) := (true, [([], []), ([0], [0]), ([], []), ([], []), ([2, 3], [2, 3]), ([4], [4]), ([], []), ([], []), ([], []), ([7, 8], [7, 8]), ([], []), ([10], [10]), ([9, 11], [9, 11]), ([6, 12, 9], [6, 12]), ([5, 13], [5, 13]), ([14], [14]), ([1, 15, 13], [1, 15]), ([0, 1, 2, 3, 4, 5, 6, 7, 8, 9, 10, 11, 12, 13, 14, 15, 16], []), ([17, 16, 16, 0, 1, 2, 3, 4, 5, 6, 7, 8, 9, 10, 11, 12, 13, 14, 15, 16], [16, 17])])
def jQ.B7 : List Nat := [0, 1, 0, 0, 12, 28, 0, 0, 0, 384, 0, 1024, 3968, 8128, 16380, 32764, 65535, 131071, 262143]
theorem jQ.tab7 : rtab .any (opsOf Tryd.f88 7) = jQ.T7 := by kernel_rfl
theorem jQ.bits7 : jLb jQ.T7.2 jQ.B7 = true := by kernel_rfl
set_option maxHeartbeats 8000000 in
set_option maxRecDepth 100000 in
theorem jQ.calls (k : Nat) (g : Nat) (s0_0 : List Int) (s0_1 : Int) (r1 : List (S99)) (r2 : Int) (w0 w : World) (hI : jk w0 w g s0_0 s0_1) (hB : Below w0.heap.size w0 w) (h : jQ.f k s0_0 s0_1 = some (r1, r2)) :
  Calls Tryd.prog 88 #[.pointer (some ⟨g,0,none⟩)] w fun e w'=>∃ v0_:Value,e=.returned (.agg #[v0_])∧Kd.R k99 99 w' w.heap.size (fun _=>True) v0_ r1∧jk w0 w' g s0_0 r2∧Below w0.heap.size w0 w'∧jd w w' g none:=by
 have hu25:=Tryd.underlying25
 have hu99:=Tryd.underlying99
 have HI0:=am hI
 have HK:=am (jd.refl w g none)
 have HL:=am hB.size
 clear hI
 have HW0:=am hB.size
 have HB:=am hB
 clear hB
 have H:((jy.f k s0_0 s0_1 (([4,5,3,6,2,1,8]:List Int))).bind fun bt186=>(jQ.l0 k (([(⟨#[97,110,121]⟩:ByteArray),(⟨#[105,111]⟩:ByteArray),(⟨#[107,101,121]⟩:ByteArray),(⟨#[116,105,109,101]⟩:ByteArray),(⟨#[110,101,116]⟩:ByteArray),(⟨#[100,105,115,107]⟩:ByteArray),(⟨#[116,121,112,101]⟩:ByteArray),(⟨#[111,100,100]⟩:ByteArray)]:List ByteArray)) bt186.1 1 s0_0 bt186.2 (([(⟨(⟨#[97,110,121]⟩:ByteArray),(-1)⟩:S99)]:List (S99)))))=some (r1,r2):=h
 clear h
 obtain ⟨y176,hy176⟩:∃ y_:List ByteArray,y_=(([(⟨#[97,110,121]⟩:ByteArray),(⟨#[105,111]⟩:ByteArray),(⟨#[107,101,121]⟩:ByteArray),(⟨#[116,105,109,101]⟩:ByteArray),(⟨#[110,101,116]⟩:ByteArray),(⟨#[100,105,115,107]⟩:ByteArray),(⟨#[116,121,112,101]⟩:ByteArray),(⟨#[111,100,100]⟩:ByteArray)]:List ByteArray)):=⟨_,rfl⟩
 replace H:((jy.f k s0_0 s0_1 (([4,5,3,6,2,1,8]:List Int))).bind fun bt186=>(jQ.l0 k y176 bt186.1 1 s0_0 bt186.2 (([(⟨(⟨#[97,110,121]⟩:ByteArray),(-1)⟩:S99)]:List (S99)))))=some (r1,r2):=by first |(rw [hy176];with_reducible exact H) |(have H2_:=(Option.bind_some _ _).symm.trans H;rw [hy176];with_reducible exact H2_) |(have H2_:=(Option.bind_some _ _).symm.trans H;with_reducible exact H2_) | with_reducible exact H |(rw [hy176];exact H) | exact H
 have Ny176:=am hy176
 clear hy176
 obtain ⟨y179,hy179⟩:∃ y_:List (S99),y_=(([(⟨(⟨#[97,110,121]⟩:ByteArray),(-1)⟩:S99)]:List (S99))):=⟨_,rfl⟩
 replace H:((jy.f k s0_0 s0_1 (([4,5,3,6,2,1,8]:List Int))).bind fun bt186=>(jQ.l0 k y176 bt186.1 1 s0_0 bt186.2 y179))=some (r1,r2):=by first |(rw [hy179];with_reducible exact H) |(have H2_:=(Option.bind_some _ _).symm.trans H;rw [hy179];with_reducible exact H2_) |(have H2_:=(Option.bind_some _ _).symm.trans H;with_reducible exact H2_) | with_reducible exact H |(rw [hy179];exact H) | exact H
 have Ny179:=am hy179
 clear hy179
 obtain ⟨y183,hy183⟩:∃ y_:List Int,y_=(([4,5,3,6,2,1,8]:List Int)):=⟨_,rfl⟩
 replace H:((jy.f k s0_0 s0_1 y183).bind fun bt186=>(jQ.l0 k y176 bt186.1 1 s0_0 bt186.2 y179))=some (r1,r2):=by first |(rw [hy183];with_reducible exact H) |(have H2_:=(Option.bind_some _ _).symm.trans H;rw [hy183];with_reducible exact H2_) |(have H2_:=(Option.bind_some _ _).symm.trans H;with_reducible exact H2_) | with_reducible exact H |(rw [hy183];exact H) | exact H
 have Ny183:=am hy183
 clear hy183
 replace H:=bzS H
 obtain ⟨⟨t186,t187⟩,A20,H⟩:=H
 replace H:(jQ.l0 k y176 t186 1 s0_0 t187 y179)=some (r1,r2):=H
 have A2:=am A20
 clear A20
 have H':=am H
 clear H
 go_enter Tryd.func88,Tryd.ntmps88
 go_wp2_with (first |((with_reducible refine jD (N:=2) rfl ?_);refine bE (N:=2) (cs:=#[.slice none 0 0]) (t:=25) ?_;intro gb175 hg w3 hbox hb;have BK175:=am (hbox);have GW175:=am ((Y6:w.heap.size≤gb175));have GE175:=am ((Nat.le_trans HW0.out (Y6:w.heap.size≤gb175):w0.heap.size≤gb175));have NB0_175:=am ((Y24:g≠gb175));have NB175_0:=am ((Y25:gb175≠g));replace HK:=am (jd.trans (Y13) (jd.of_below hb g none) (.inl rfl));replace HB:=am (je (Y14) hb);replace HI0:=am (jk.below (Y12) hb);clear hb hbox hg) |((with_reducible refine jD (N:=7) rfl ?_);refine Kd.R_lit Kd.string _ 9 ?hg (N:=7) ?hd (xs:=([(⟨#[97,110,121]⟩:ByteArray),(⟨#[105,111]⟩:ByteArray),(⟨#[107,101,121]⟩:ByteArray),(⟨#[116,105,109,101]⟩:ByteArray),(⟨#[110,101,116]⟩:ByteArray),(⟨#[100,105,115,107]⟩:ByteArray),(⟨#[116,121,112,101]⟩:ByteArray),(⟨#[111,100,100]⟩:ByteArray)]:List ByteArray)) (inner:=[.string (⟨#[97,110,121]⟩:ByteArray), .string (⟨#[105,111]⟩:ByteArray), .string (⟨#[107,101,121]⟩:ByteArray), .string (⟨#[116,105,109,101]⟩:ByteArray), .string (⟨#[110,101,116]⟩:ByteArray), .string (⟨#[100,105,115,107]⟩:ByteArray), .string (⟨#[116,121,112,101]⟩:ByteArray), .string (⟨#[111,100,100]⟩:ByteArray)]) (ok:=fun _=>True) (okp:=fun _=>True) ?hr ?hp (fun _ hk=>hk) trivial (Below.refl _ _) (Nat.le_refl _) (by simp) ?_;(case hd=>rfl);(case hg=>rfl);(case hr=>exact Y4);(case hp=>exact (Reps.one (show Kd.M Kd.string _ _ _ (⟨#[97,110,121]⟩:ByteArray) [.string (⟨#[97,110,121]⟩:ByteArray)] from rfl) (Reps.one (show Kd.M Kd.string _ _ _ (⟨#[105,111]⟩:ByteArray) [.string (⟨#[105,111]⟩:ByteArray)] from rfl) (Reps.one (show Kd.M Kd.string _ _ _ (⟨#[107,101,121]⟩:ByteArray) [.string (⟨#[107,101,121]⟩:ByteArray)] from rfl) (Reps.one (show Kd.M Kd.string _ _ _ (⟨#[116,105,109,101]⟩:ByteArray) [.string (⟨#[116,105,109,101]⟩:ByteArray)] from rfl) (Reps.one (show Kd.M Kd.string _ _ _ (⟨#[110,101,116]⟩:ByteArray) [.string (⟨#[110,101,116]⟩:ByteArray)] from rfl) (Reps.one (show Kd.M Kd.string _ _ _ (⟨#[100,105,115,107]⟩:ByteArray) [.string (⟨#[100,105,115,107]⟩:ByteArray)] from rfl) (Reps.one (show Kd.M Kd.string _ _ _ (⟨#[116,121,112,101]⟩:ByteArray) [.string (⟨#[116,121,112,101]⟩:ByteArray)] from rfl) (Reps.one (show Kd.M Kd.string _ _ _ (⟨#[111,100,100]⟩:ByteArray) [.string (⟨#[111,100,100]⟩:ByteArray)] from rfl) (Reps.none _ _))))))))));intro v177 w4 ho5 hb hg_ hnew_;clear hg_ hnew_;(first | rw [← Ny176.out] at ho5 |(simp only [Int.reduceToNat] at ho5;rw [← Ny176.out] at ho5));have HO178:=am (Kd.jia ho5 (jea (w:=w) (g:=g) (row:=none) (Y88)));replace BK175:=am (jc (g:=gb175) (o:=.cells #[.slice none 0 0] 25 (0,0)) (kq BK175.out) hb);replace HK:=am (jd.trans (Y88) (jd.of_below hb g none) (.inl rfl));replace HB:=am (je (Y126) hb);replace HI0:=am (jk.below (Y127) hb);clear hb ho5) |((with_reducible refine jD (N:=9) rfl ?_);refine Kd.R_lit k99 _ 99 ?hg (N:=9) ?hd (xs:=([(⟨(⟨#[97,110,121]⟩:ByteArray),(-1)⟩:S99)]:List (S99))) (inner:=[.string (⟨#[97,110,121]⟩:ByteArray), .int .i64 (-1)]) (ok:=fun _=>True) (okp:=fun _=>True) ?hr ?hp (fun _ hk=>hk) trivial (Below.refl _ _) (Nat.le_refl _) (by simp) ?_;(case hd=>rfl);(case hg=>rfl);(case hr=>exact Y4);(case hp=>exact (Reps.c2 (show Kd.M k99 _ _ _ (⟨(⟨#[97,110,121]⟩:ByteArray),(-1)⟩:S99) [.string (⟨#[97,110,121]⟩:ByteArray), .int .i64 (-1)] from (k99_mkM _ _ _ (⟨(⟨#[97,110,121]⟩:ByteArray),(-1)⟩:S99) )) (Reps.none _ _)));intro v180 w6 ho7 hb hg_ hnew_;clear hg_ hnew_;(first | rw [← Ny179.out] at ho7 |(simp only [Int.reduceToNat] at ho7;rw [← Ny179.out] at ho7));have HO181:=am (Kd.jia ho7 (jea (w:=w) (g:=g) (row:=none) (Y88)));replace HO178:=am (Kd.jW (rq HO178.out) hb);replace BK175:=am (jc (g:=gb175) (o:=.cells #[.slice none 0 0] 25 (0,0)) (kq BK175.out) hb);replace HK:=am (jd.trans (Y88) (jd.of_below hb g none) (.inl rfl));replace HB:=am (je (Y126) hb);replace HI0:=am (jk.below (Y127) hb);clear hb ho7;obtain ⟨Ao8,co8,eo8⟩:=Kd.jZ HO181.out;subst eo8) |((with_reducible refine jD (N:=4) rfl ?_);refine bE (N:=4) (cs:=#[.slice none 0 0]) (t:=25) ?_;intro gb182 hg w9 hbox hb;have BK182:=am (hbox);have GW182:=am ((Y160:w.heap.size≤gb182));have GE182:=am ((Nat.le_trans HW0.out (Y160:w.heap.size≤gb182):w0.heap.size≤gb182));have NB175_182:=am ((by rw [hg];exact Nat.ne_of_lt (jda (g:=gb175) (o:=.cells #[.slice none 0 0] 25 (0,0)) (kq BK175.out)):gb175≠gb182));have NB182_175:=am ((by rw [hg];exact Nat.ne_of_gt (jda (g:=gb175) (o:=.cells #[.slice none 0 0] 25 (0,0)) (kq BK175.out)):gb182≠gb175));have NB0_182:=am ((by rw [hg];exact Nat.ne_of_lt (jk.lt (show jk w0 _ g s0_0 s0_1 from by repeat (first |(with_reducible first | exact HI0.out | apply jk.alloc | apply jk.drewN | apply jk.drew | apply jk.jmb | refine jk.far ?_ NB0_175.out _) | exact HI0.out))):g≠gb182));have NB182_0:=am ((by rw [hg];exact Nat.ne_of_gt (jk.lt (show jk w0 _ g s0_0 s0_1 from by repeat (first |(with_reducible first | exact HI0.out | apply jk.alloc | apply jk.drewN | apply jk.drew | apply jk.jmb | refine jk.far ?_ NB0_175.out _) | exact HI0.out))):gb182≠g));replace HO178:=am (Kd.jW (rq HO178.out) hb);replace HO181:=am (Kd.jW (rq HO181.out) hb);replace BK175:=am (jc (g:=gb175) (o:=.cells #[.slice none 0 0] 25 (0,0)) (kq BK175.out) hb);replace HK:=am (jd.trans (Y88) (jd.of_below hb g none) (.inl rfl));replace HB:=am (je (Y126) hb);replace HI0:=am (jk.below (Y127) hb);clear hb hbox hg;have hnb10:=NB182_175.out;have hnc10:=NB175_182.out;have hnb11:=NB182_0.out;have hnc11:=NB0_182.out;have hcz12_0:=bc0 BK182.out;have hfz12_0:=jb BK182.out 0) |((with_reducible refine jD (N:=12) rfl ?_);refine Kd.R_lit (Kd.int .i64) _ 3 ?hg (N:=12) ?hd (xs:=([4,5,3,6,2,1,8]:List Int)) (inner:=[.int .i64 4, .int .i64 5, .int .i64 3, .int .i64 6, .int .i64 2, .int .i64 1, .int .i64 8]) (ok:=fun _=>True) (okp:=fun _=>True) ?hr ?hp (fun _ hk=>hk) trivial (Below.refl _ _) (Nat.le_refl _) (by simp) ?_;(case hd=>rfl);(case hg=>rfl);(case hr=>exact Y4);(case hp=>exact (Reps.one (show Kd.M (Kd.int .i64) _ _ _ 4 [.int .i64 4] from rfl) (Reps.one (show Kd.M (Kd.int .i64) _ _ _ 5 [.int .i64 5] from rfl) (Reps.one (show Kd.M (Kd.int .i64) _ _ _ 3 [.int .i64 3] from rfl) (Reps.one (show Kd.M (Kd.int .i64) _ _ _ 6 [.int .i64 6] from rfl) (Reps.one (show Kd.M (Kd.int .i64) _ _ _ 2 [.int .i64 2] from rfl) (Reps.one (show Kd.M (Kd.int .i64) _ _ _ 1 [.int .i64 1] from rfl) (Reps.one (show Kd.M (Kd.int .i64) _ _ _ 8 [.int .i64 8] from rfl) (Reps.none _ _)))))))));intro v184 w13 ho14 hb hg_ hnew_;clear hg_ hnew_;(first | rw [← Ny183.out] at ho14 |(simp only [Int.reduceToNat] at ho14;rw [← Ny183.out] at ho14));have HO185:=am (Kd.jia ho14 (jea (w:=w) (g:=g) (row:=none) (Y29)));replace HO178:=am (Kd.jW (by (with_reducible repeat (first | apply Kd.jX | apply Kd.jba | apply Kd.jV));exact (Kd.jI (Kd.jwa (p:=⟨gb182,0,none⟩) (Kd.jP HO178.out BK182.out (by decide)) (fun _ hk=>hk.2) (.slice Ao8 y179.length co8)) (fun _ h_=>h_.1))) hb);replace HO181:=am (Kd.jW (by (with_reducible repeat (first | apply Kd.jX | apply Kd.jba | apply Kd.jV));exact (Kd.jI (Kd.jwa (p:=⟨gb182,0,none⟩) (Kd.jP HO181.out BK182.out (by decide)) (fun _ hk=>hk.2) (.slice Ao8 y179.length co8)) (fun _ h_=>h_.1))) hb);replace BK175:=am (jc (g:=gb175) (o:=.cells #[.slice none 0 0] 25 (0,0)) (by (with_reducible repeat (first | refine jg ?_ _ | refine jf ?_ | refine jh ?_ _));refine jT ?_ NB175_182.out _;(with_reducible repeat (first | refine jg ?_ _ | refine jf ?_ | refine jh ?_ _));exact BK175.out) hb);replace BK182:=am (jc (g:=gb182) (o:=.cells #[.slice Ao8 y179.length co8] 25 (0,0)) (by (with_reducible repeat (first | refine jg ?_ _ | refine jf ?_ | refine jh ?_ _));refine jya (cs:=#[.slice none 0 0]) ?_ 0 _ rfl;(with_reducible repeat (first | refine jg ?_ _ | refine jf ?_ | refine jh ?_ _));exact BK182.out) hb);replace HK:=am (jd.trans (Y29) (jd.of_below hb g none) (.inl rfl));replace HB:=am (je (Y44) hb);replace HI0:=am (jk.below (show jk w0 (w9.setCell ⟨gb182,0,none⟩ (.slice Ao8 y179.length co8)) g s0_0 s0_1 from Y26) hb);clear hb ho14;obtain ⟨Ao15,co15,eo15⟩:=Kd.jZ HO185.out;subst eo15) |((with_reducible refine jw (f:=69) rfl ?_);refine gL (some 13) Tryd.func69 #[.pointer (some ⟨g,0,none⟩), .slice Ao15 y183.length co15] ?_;(with_reducible refine (jy.calls k g s0_0 s0_1 _ _ y183 t186 t187 w0 _ ?side1 ?side2 ?side3 ?side4 ?side5 A2.out).mono ?_);(case side1=>exact Y26);(case side2=>exact Y44);(case side3=>exact cq (Kd.jC HO185.out).2.2);(case side4=>exact (Kd.jC HO185.out).2.1);(case side5=>exact jCb (jk.own_ne HI0.out HO185.out (by decide)));rintro e w16 ⟨rfl,hi,hb,hk⟩;refine ⟨_,rfl,?_⟩;replace BK175:=am (jd.blk hk (g':=gb175) (o:=.cells #[.slice none 0 0] 25 (0,0)) (kq BK175.out) NB175_0.out (by simp));replace HO178:=am (Kd.jI (Kd.jqa (jk.apart (show jk w0 _ g s0_0 s0_1 from Y26) (rq HO178.out) (by decide)) hk (fun _ h=>h.2)) (fun _ h=>h.1));replace HO181:=am (Kd.jI (Kd.jqa (jk.apart (show jk w0 _ g s0_0 s0_1 from Y26) (rq HO181.out) (by decide)) hk (fun _ h=>h.2)) (fun _ h=>h.1));replace BK182:=am (jd.blk hk (g':=gb182) (o:=.cells #[.slice Ao8 y179.length co8] 25 (0,0)) (kq BK182.out) NB182_0.out (by simp));replace HO185:=am (Kd.jI (Kd.jqa (jk.apart (show jk w0 _ g s0_0 s0_1 from Y26) (rq HO185.out) (by decide)) hk (fun _ h=>h.2)) (fun _ h=>h.1));replace HK:=am (jd.trans (Y29) hk (.inl rfl));replace HB:=am (hb);replace HI0:=am (hi);(try clear hb);(try clear hb2);(try clear hk);(try clear hi)))
 go_loopg [6] k (fun kq v6 w'=>∃ (x6_1:Int) (x1001_1:Int) (x183000_1:List (S99)) (u183000:Value),v6=.int .i64 x6_1∧jB (jQ.l0 kq y176 t186 x6_1 s0_0 x1001_1 x183000_1=some (r1,r2))∧jB (kq≤k)∧jB (Kd.R Kd.string 9 w' w.heap.size (fun _=>True) v177 y176)∧jB (Kd.R k99 99 w' w.heap.size (fun _=>True) u183000 x183000_1)∧jB (w'.heap[gb175]?=some (.cells #[(.slice none 0 0)] 25 (0,0)))∧jB (w'.heap[gb182]?=some (.cells #[u183000] 25 (0,0)))∧jB (jk w0 w' g s0_0 x1001_1)∧jB (jd w w' g none)∧jB (Below w0.heap.size w0 w'))
 case atStart=>exact ⟨(1),(t187),(y179),(.slice Ao8 y179.length co8),(sq),H',⟨Nat.le_refl _⟩,⟨rq HO178.out⟩,⟨rq HO181.out⟩,⟨kq BK175.out⟩,⟨kq BK182.out⟩,⟨Y26⟩,⟨Y29⟩,⟨Y44⟩⟩
 case round =>
  clear H'
  try clear c1
  try clear c2
  try clear p2
  try clear c6
  try clear c8
  try clear c10
  try clear c11
  try clear hcz12_0
  try clear hfz12_0
  obtain ⟨x6_1,x1001_1,x183000_1,u183000,rfl,HA,HK1,HO_3,HO_183000,BK175,BK182,HI0,HK,HB⟩:=hrel
  cases gk with
  | zero=>exact absurd HA.out (by simp [jQ.l0])
  | succ k1 =>
   have H:=HA.out
   clear HA
   simp only [jQ.l0] at H
   by_cases c17:x6_1<t186
   ·rw [if_pos c17] at H
    have c17b0:decide (x6_1<t186)=true:=dzT c17
    clear c17
    by_cases c18:0≤x6_1
    ·rw [if_pos c18] at H
     have c18b0:decide (0≤x6_1)=true:=dzT c18
     clear c18
     by_cases c19:x6_1<(y176.length:Int)
     ·rw [if_pos c19] at H
      have c19b0:decide (x6_1<(y176.length:Int))=true:=dzT c19
      clear c19
      replace H:=bzS H
      obtain ⟨⟨t189,t190⟩,A200,H⟩:=H
      replace H:((jy.f k1 s0_0 t190 (([0,t189,wrap64 (x6_1 - 1)]:List Int))).bind fun bt194=>(if x183000_1.length<5864062014805 then (jQ.l0 k1 y176 t186 (wrap64 (x6_1+1)) s0_0 bt194.2 (x183000_1 ++ [(⟨rdOf ByteArray.empty y176 x6_1,bt194.1⟩:S99)])) else (none)))=some (r1,r2):=H
      have A20:=am A200
      clear A200
      obtain ⟨y191,hy191⟩:∃ y_:List Int,y_=(([0,t189,wrap64 (x6_1 - 1)]:List Int)):=⟨_,rfl⟩
      replace H:((jy.f k1 s0_0 t190 y191).bind fun bt194=>(if x183000_1.length<5864062014805 then (jQ.l0 k1 y176 t186 (wrap64 (x6_1+1)) s0_0 bt194.2 (x183000_1 ++ [(⟨rdOf ByteArray.empty y176 x6_1,bt194.1⟩:S99)])) else (none)))=some (r1,r2):=by first |(rw [hy191];with_reducible exact H) |(have H2_:=(Option.bind_some _ _).symm.trans H;rw [hy191];with_reducible exact H2_) |(have H2_:=(Option.bind_some _ _).symm.trans H;with_reducible exact H2_) | with_reducible exact H |(rw [hy191];exact H) | exact H
      have Ny191:=am hy191
      clear hy191
      replace H:=bzS H
      obtain ⟨⟨t194,t195⟩,A210,H⟩:=H
      replace H:(if x183000_1.length<5864062014805 then (jQ.l0 k1 y176 t186 (wrap64 (x6_1+1)) s0_0 t195 (x183000_1 ++ [(⟨rdOf ByteArray.empty y176 x6_1,t194⟩:S99)])) else (none))=some (r1,r2):=H
      have A21:=am A210
      clear A210
      by_cases c22:x183000_1.length<5864062014805
      ·rw [if_pos c22] at H
       have LMc22:=am c22
       clear c22
       obtain ⟨y196,hy196⟩:∃ y_:List (S99),y_=(x183000_1 ++ [(⟨rdOf ByteArray.empty y176 x6_1,t194⟩:S99)]):=⟨_,rfl⟩
       replace H:(jQ.l0 k1 y176 t186 (wrap64 (x6_1+1)) s0_0 t195 y196)=some (r1,r2):=by first |(rw [hy196];with_reducible exact H) |(have H2_:=(Option.bind_some _ _).symm.trans H;rw [hy196];with_reducible exact H2_) |(have H2_:=(Option.bind_some _ _).symm.trans H;with_reducible exact H2_) | with_reducible exact H |(rw [hy196];exact H) | exact H
       have Ny196:=am hy196
       clear hy196
       have H':=am H
       clear H
       try go_wp2
       replace HO_3:=am (Kd.jV HO_3.out)
       replace HO_183000:=am (Kd.jV HO_183000.out)
       replace BK175:=am (jf BK175.out)
       replace BK182:=am (jf BK182.out)
       replace HI0:=am (jk.drew HI0.out)
       replace HK:=am (jaa HK.out)
       replace HB:=am (jq HB.out)
       obtain ⟨Ao24,co24,eo24⟩:=Kd.jZ HO_3.out
       (first | subst eo24 |(injection eo24 with f1_ f2_ f3_;have f4_:=f1_.symm;have f5_:=f3_.symm;clear f1_ f2_ f3_;subst f4_;subst f5_))
       have p188:0≤(x6_1:Int):=ozD (uq)
       have q188:x6_1<(y176.length:Int):=ozD (uq)
       obtain ⟨ad188,e188,hx188_0⟩:=Kd.at_string (Kd.jC HO_3.out).2.2 x6_1 p188 q188
       cases e188
       replace p188:=ezT p188
       replace q188:=ezT q188
       refine jVb (n:=19) (S:=fun w'=>w'.cell? ⟨gb182,0,none⟩=some (u183000)∧w'.cell? (ad188.add (x6_1).toNat)=some (.string (rdOf ByteArray.empty y176 x6_1))) (ds:=[16,18]) #[false,false,false,false,false,false,false,false,false,false,false,false,false,false,false,false,false,false,false] (by kernel_rfl) rfl rfl ⟨(jH BK182.out 0).trans rfl,hx188_0⟩ (fun hHeld=>?_);refine jxb jQ.tab7 jQ.bits7 (fun HT_ HW_=>?_)
       generalize wr.drew=w23 at HO_3 HO_183000 BK175 BK182 HI0 HK HB hx188_0 hHeld ⊢
       refine pq (i:=0) (N:=some 19) #[true,false,false,false,false,false,false,false,false,false,false,false,false,false,false,false,false,false,false] ?_
       refine pq (i:=2) (N:=some 21) #[true,false,true,false,false,false,false,false,false,false,false,false,false,false,false,false,false,false,false] ?_
       refine pq (i:=3) (N:=some 22) #[true,false,true,true,false,false,false,false,false,false,false,false,false,false,false,false,false,false,false] ?_
       refine pq (i:=4) (N:=some 23) #[true,false,true,true,true,false,false,false,false,false,false,false,false,false,false,false,false,false,false] ?_
       refine pq (i:=6) (N:=some 25) #[true,false,true,true,true,false,true,false,false,false,false,false,false,false,false,false,false,false,false] ?_
       refine pq (i:=7) (N:=some 26) #[true,false,true,true,true,false,true,true,false,false,false,false,false,false,false,false,false,false,false] ?_
       refine pq (i:=8) (N:=some 27) #[true,false,true,true,true,false,true,true,true,false,false,false,false,false,false,false,false,false,false] ?_
       refine pq (i:=10) (N:=some 29) #[true,false,true,true,true,false,true,true,true,false,true,false,false,false,false,false,false,false,false] ?_
       refine pq (i:=11) (N:=some 30) #[true,false,true,true,true,false,true,true,true,false,true,true,false,false,false,false,false,false,false] ?_
       refine jAb (i:=1) (N:=some 20) (v:=?_) (a':=?_) #[true,true,true,true,true,false,true,true,true,false,true,true,false,false,false,false,false,false,false] rfl rfl (jWa HT_.out HW_.out (by kernel_rfl)) (fun _ _ _ h=>h) (Or.inl ⟨by rfl,?_⟩) hHeld ?_ ?_
       rotate_left
       ·rintro w' ⟨s0,s1⟩
        go_simp
        with_reducible rfl
       rotate_left
       ·exact sa
       refine jAb (i:=5) (N:=some 24) (v:=?_) (a':=?_) #[true,true,true,true,true,true,true,true,true,false,true,true,false,false,false,false,false,false,false] rfl rfl (jWa HT_.out HW_.out (by kernel_rfl)) (fun _ _ _ h=>h) (Or.inl ⟨by rfl,?_⟩) hHeld ?_ ?_
       rotate_left
       ·rintro w' ⟨s0,s1⟩
        go_simp
        with_reducible rfl
       rotate_left
       ·exact sa
       refine one_ (i:=9) (N:=some 28) #[true,true,true,true,true,true,true,true,true,true,true,true,false,false,false,false,false,false,false] rfl rfl (jeb HT_.out (by kernel_rfl)) (by decide) (fun K hK=>?_)
       refine goes_ Tryd.func68 (by kernel_rfl) rfl #[.pointer (some ⟨g,0,none⟩), .int .i64 x6_1] (by rfl) rfl rfl (aq) ?_
       with_reducible refine (jm.calls k1 g s0_0 x1001_1 x6_1 t189 t190 w0 _ ?side1 ?side2 A20.out).mono ?_
       (case side1=>exact Y26)
       (case side2=>exact Y44)
       rintro e w25 ⟨rfl,hi,hb,hk⟩
       have HS1_:=keep_cell hk (hHeld.2) (Y161)
       refine ⟨_,rfl,?_⟩
       replace HO_3:=am (Kd.jI (Kd.jqa (jk.apart (show jk w0 _ g s0_0 x1001_1 from Y26) (rq HO_3.out) (by decide)) hk (fun _ h=>h.2)) (fun _ h=>h.1))
       replace HO_183000:=am (Kd.jI (Kd.jqa (jk.apart (show jk w0 _ g s0_0 x1001_1 from Y26) (rq HO_183000.out) (by decide)) hk (fun _ h=>h.2)) (fun _ h=>h.1))
       replace BK175:=am (jd.blk hk (g':=gb175) (o:=.cells #[.slice none 0 0] 25 (0,0)) (kq BK175.out) NB175_0.out (by simp))
       replace BK182:=am (jd.blk hk (g':=gb182) (o:=.cells #[u183000] 25 (0,0)) (kq BK182.out) NB182_0.out (by simp))
       replace HK:=am (jd.trans (Y29) hk (.inl rfl))
       replace HB:=am (hb)
       replace HI0:=am (hi)
       (try clear hb)
       (try clear hb2)
       (try clear hk)
       (try clear hi)
       refine hK.out _ _ ⟨(jH BK182.out 0).trans rfl,HS1_⟩ (fun hHeld=>?_)
       clear hK K
       refine jZb (a':=?_) ?_ ?_
       rotate_left
       ·show Act.put _ (some 28) _=_
        simp only [Act.put,List.setIfInBounds_toArray,List.set_cons_zero,List.set_cons_succ,jwb,jBb]
        rfl
       refine one_ (i:=12) (N:=some 31) #[true,true,true,true,true,true,true,true,true,true,true,true,true,false,false,false,false,false,false] rfl rfl (jeb HT_.out (by kernel_rfl)) (by decide) (fun K hK=>?_)
       refine Kd.jTb (Kd.int .i64) _ 3 ?hg (N:=31) ?hd (xs:=([0,t189,wrap64 (x6_1 - 1)]:List Int)) (inner:=[.int .i64 0, .int .i64 t189, .int .i64 (wrap64 (x6_1 - 1))]) (ok:=fun _=>True) (okp:=fun _=>True) ?hr ?hp (fun _ hk=>hk) trivial (Below.refl _ _) (Nat.le_refl _) (by simp) ?_;(case hd=>rfl);(case hg=>rfl);(case hr=>exact Y4);(case hp=>exact (Reps.one (show Kd.M (Kd.int .i64) _ _ _ 0 [.int .i64 0] from rfl) (Reps.one (show Kd.M (Kd.int .i64) _ _ _ t189 [.int .i64 t189] from rfl) (Reps.one (show Kd.M (Kd.int .i64) _ _ _ (wrap64 (x6_1 - 1)) [.int .i64 (wrap64 (x6_1 - 1))] from rfl) (Reps.none _ _)))))
       intro v192 w26 ho27 hb hg_ hnew_
       have HS1_:=(hb.cell (World.block_lt_of_cell? _ _ (hHeld.2))).trans (hHeld.2)
       clear hg_ hnew_
       (first | rw [← Ny191.out] at ho27 |(simp only [Int.reduceToNat] at ho27;rw [← Ny191.out] at ho27))
       have HO193:=am (Kd.jia ho27 (jea (w:=w) (g:=g) (row:=none) (Y29)))
       replace HO_3:=am (Kd.jW (rq HO_3.out) hb)
       replace HO_183000:=am (Kd.jW (rq HO_183000.out) hb)
       replace BK175:=am (jc (g:=gb175) (o:=.cells #[.slice none 0 0] 25 (0,0)) (kq BK175.out) hb)
       replace BK182:=am (jc (g:=gb182) (o:=.cells #[u183000] 25 (0,0)) (kq BK182.out) hb)
       replace HK:=am (jd.trans (Y29) (jd.of_below hb g none) (.inl rfl))
       replace HB:=am (je (Y44) hb)
       replace HI0:=am (jk.below (Y26) hb)
       clear hb ho27
       obtain ⟨Ao28,co28,eo28⟩:=Kd.jZ HO193.out
       (first | subst eo28 |(injection eo28 with f1_ f2_ f3_;have f4_:=f1_.symm;have f5_:=f3_.symm;clear f1_ f2_ f3_;subst f4_;subst f5_))
       refine hK.out _ _ ⟨(jH BK182.out 0).trans rfl,HS1_⟩ (fun hHeld=>?_)
       clear hK K
       refine jZb (a':=?_) ?_ ?_
       rotate_left
       ·show Act.put _ (some 31) _=_
        simp only [Act.put,List.setIfInBounds_toArray,List.set_cons_zero,List.set_cons_succ,jwb,jBb]
        rfl
       refine one_ (i:=13) (N:=some 32) #[true,true,true,true,true,true,true,true,true,true,true,true,true,true,false,false,false,false,false] rfl rfl (jeb HT_.out (by kernel_rfl)) (by decide) (fun K hK=>?_)
       refine goes_ Tryd.func69 (by kernel_rfl) rfl #[.pointer (some ⟨g,0,none⟩), .slice Ao28 y191.length co28] (by rfl) rfl rfl (aq) ?_
       with_reducible refine (jy.calls k1 g s0_0 t190 _ _ y191 t194 t195 w0 _ ?side1 ?side2 ?side3 ?side4 ?side5 A21.out).mono ?_
       (case side1=>exact Y26)
       (case side2=>exact Y44)
       (case side3=>exact cq (Kd.jC HO193.out).2.2)
       (case side4=>exact (Kd.jC HO193.out).2.1)
       (case side5=>exact jCb (jk.own_ne HI0.out HO193.out (by decide)))
       rintro e w29 ⟨rfl,hi,hb,hk⟩
       have HS1_:=keep_cell hk (hHeld.2) (Y161)
       refine ⟨_,rfl,?_⟩
       replace HO_3:=am (Kd.jI (Kd.jqa (jk.apart (show jk w0 _ g s0_0 t190 from Y26) (rq HO_3.out) (by decide)) hk (fun _ h=>h.2)) (fun _ h=>h.1))
       replace HO_183000:=am (Kd.jI (Kd.jqa (jk.apart (show jk w0 _ g s0_0 t190 from Y26) (rq HO_183000.out) (by decide)) hk (fun _ h=>h.2)) (fun _ h=>h.1))
       replace BK175:=am (jd.blk hk (g':=gb175) (o:=.cells #[.slice none 0 0] 25 (0,0)) (kq BK175.out) NB175_0.out (by simp))
       replace BK182:=am (jd.blk hk (g':=gb182) (o:=.cells #[u183000] 25 (0,0)) (kq BK182.out) NB182_0.out (by simp))
       replace HO193:=am (Kd.jI (Kd.jqa (jk.apart (show jk w0 _ g s0_0 t190 from Y26) (rq HO193.out) (by decide)) hk (fun _ h=>h.2)) (fun _ h=>h.1))
       replace HK:=am (jd.trans (Y29) hk (.inl rfl))
       replace HB:=am (hb)
       replace HI0:=am (hi)
       (try clear hb)
       (try clear hb2)
       (try clear hk)
       (try clear hi)
       refine hK.out _ _ ⟨(jH BK182.out 0).trans rfl,HS1_⟩ (fun hHeld=>?_)
       clear hK K
       refine jZb (a':=?_) ?_ ?_
       rotate_left
       ·show Act.put _ (some 32) _=_
        simp only [Act.put,List.setIfInBounds_toArray,List.set_cons_zero,List.set_cons_succ,jwb,jBb]
        rfl
       refine pq (i:=14) (N:=some 33) #[true,true,true,true,true,true,true,true,true,true,true,true,true,true,true,false,false,false,false] ?_
       refine one_ (i:=15) (N:=some 34) #[true,true,true,true,true,true,true,true,true,true,true,true,true,true,true,true,false,false,false] rfl rfl (jeb HT_.out (by kernel_rfl)) (by decide) (fun K hK=>?_)
       refine value_ (w1:=?_) (v:=?_) (by rfl) rfl ?_ ?_
       rotate_left 2
       ·go_simp
        constructor
        ·rfl
        ·rfl
       refine hK.out _ _ ⟨(jH (jh BK182.out _) 0).trans rfl,(World.cell?_alloc_lt _ _ _ (World.block_lt_of_cell? _ _ (hHeld.2))).trans (hHeld.2)⟩ (fun hHeld=>?_)
       clear hK K
       refine jZb (a':=?_) ?_ ?_
       rotate_left
       ·show Act.put _ (some 34) _=_
        simp only [Act.put,List.setIfInBounds_toArray,List.set_cons_zero,List.set_cons_succ,jwb,jBb]
        rfl
       refine last_ (i:=16) (N:=some 35) #[true,true,true,true,true,true,true,true,true,true,true,true,true,true,true,true,true,false,false] rfl rfl (jeb HT_.out (by kernel_rfl)) (by decide) (fun K hK=>?_)
       refine Kd.R_append_step k99 w.heap.size (by rfl) (.tmp 20) (.tmp 34) 23 99 (.agg #[(.string ⟨#[]⟩),(.int .i64 0)]) 24 rfl Tryd.underlying23 info99 rfl (by decide) (by omega) u183000 x183000_1 (⟨rdOf ByteArray.empty y176 x6_1,t194⟩:S99) [.string (rdOf ByteArray.empty y176 x6_1), .int .i64 t194] (fun _=>True) (fun _=>False) rfl rfl ?aP (fun _ hk=>hk.elim) ?aF ?aO (Below.refl _ _) ?aS ?aL ?_
       (case aP=>exact k99_mkM _ _ _ (⟨rdOf ByteArray.empty y176 x6_1,t194⟩:S99))
       (case aF=>exact (fun _ _=>trivial))
       (case aO=>exact (rq HO_183000.out))
       (case aS=>exact (jea (w:=w) (g:=g) (row:=none) (Y29)))
       (case aL=>have:=LMc22.out;omega)
       intro v197 w30 ho hb hg hat
       rw [← Ny196.out] at ho
       have n0_:=am (Kd.R_over' (rq HO_3.out) (Kd.R_typed (rq HO_183000.out)) (by decide) hg)
       have n1_:=am (jKa (g:=gb175) (o:=.cells #[.slice none 0 0] 25 (0,0)) (kq BK175.out) hg (Kd.R_ne HO_183000.out BK175.out (by decide)))
       have n2_:=am (jKa (g:=gb182) (o:=.cells #[u183000] 25 (0,0)) (kq BK182.out) hg (Kd.R_ne HO_183000.out BK182.out (by decide)))
       have n3_:=am (jk.grown (Y26) hg (jk.own_ne HI0.out HO_183000.out (by decide)))
       have n4_:=am (Kd.R_over' (rq HO193.out) (Kd.R_typed (rq HO_183000.out)) (by decide) hg)
       have n5_:=am (below_weaken (Y44) HL.out hb)
       have n6_:=am (jd.trans (Y29) (jd.of_grown hg g) (Kd.R_base2 HO_183000.out))
       have n7_:=am (ho)
       clear HO_3
       clear BK175
       clear BK182
       clear HI0
       clear HO193
       clear HB
       clear HK
       clear HO_183000
       have HO_3:=n0_
       have BK175:=n1_
       have BK182:=n2_
       have HI0:=n3_
       have HO193:=n4_
       have HB:=n5_
       have HK:=n6_
       have HO198:=n7_
       clear n0_ n1_ n2_ n3_ n4_ n5_ n6_ n7_
       clear ho hb hg hat
       obtain ⟨Ao31,co31,eo31⟩:=Kd.jZ HO198.out
       (first | subst eo31 |(injection eo31 with f1_ f2_ f3_;have f4_:=f1_.symm;have f5_:=f3_.symm;clear f1_ f2_ f3_;subst f4_;subst f5_))
       refine hK.out _ _ ?_
       clear hK K
       refine jZb (a':=?_) ?_ ?_
       rotate_left
       ·show Act.put _ (some 35) _=_
        simp only [Act.put,List.setIfInBounds_toArray,List.set_cons_zero,List.set_cons_succ,jwb,jBb]
        rfl
       refine pq (i:=17) (N:=some 36) #[true,true,true,true,true,true,true,true,true,true,true,true,true,true,true,true,true,true,false] ?_
       refine last_ (i:=18) (N:=none) #[true,true,true,true,true,true,true,true,true,true,true,true,true,true,true,true,true,true,true] rfl rfl (jeb HT_.out (by kernel_rfl)) (by decide) (fun K hK=>?_)
       have hs32:w30.cell? ⟨gb182,0,none⟩=some (u183000):=(jH BK182.out 0).trans rfl
       have hfs32:=jb BK182.out 0
       have hns32_0:=NB175_182.out
       have hms32_0:=NB182_175.out
       refine jcc (w1:=?_) (by rfl) rfl ?_ ?_
       rotate_left
       ·go_simp
        rfl
       refine hK.out _ _ ?_
       clear hK K
       refine jqc (jbc HT_.out (by kernel_rfl)) ?_
       try go_wp2
       go_roundg k1
       case measure=>have:=HK1.out;omega
       case rel=>exact ⟨(wrap64 (x6_1+1)),(t195),(y196),(.slice Ao31 y196.length co31),(sq),H',⟨by have:=HK1.out;omega⟩,⟨by (with_reducible repeat (first | apply Kd.jX | apply Kd.jba | apply Kd.jV));exact Kd.jI (Kd.jwa (p:=⟨gb182,0,none⟩) (Kd.jP HO_3.out BK182.out (by decide)) (fun _ hk=>hk.2) (.slice Ao31 y196.length co31)) (fun _ hk=>trivial)⟩,⟨by (with_reducible repeat (first | apply Kd.jX | apply Kd.jba | apply Kd.jV));exact Kd.jI (Kd.jwa (p:=⟨gb182,0,none⟩) (Kd.jP HO198.out BK182.out (by decide)) (fun _ hk=>hk.2) (.slice Ao31 y196.length co31)) (fun _ hk=>trivial)⟩,⟨by (with_reducible repeat (first | refine jg ?_ _ | refine jf ?_ | refine jh ?_ _));refine jT ?_ NB175_182.out _;(with_reducible repeat (first | refine jg ?_ _ | refine jf ?_ | refine jh ?_ _));exact BK175.out⟩,⟨by (with_reducible repeat (first | refine jg ?_ _ | refine jf ?_ | refine jh ?_ _));refine jya (cs:=#[u183000]) ?_ 0 _ rfl;(with_reducible repeat (first | refine jg ?_ _ | refine jf ?_ | refine jh ?_ _));exact BK182.out⟩,⟨Y26⟩,⟨Y29⟩,⟨Y44⟩⟩
      ·rw [if_neg c22] at H
       exact absurd H (by simp)
     ·rw [if_neg c19] at H
      exact absurd H (by simp)
    ·rw [if_neg c18] at H
     exact absurd H (by simp)
   ·rw [if_neg c17] at H
    have c17b0:decide (x6_1<t186)=false:=dzF c17
    clear c17
    simp only [Option.some.injEq,Prod.mk.injEq] at H
    obtain ⟨rfl,rfl⟩:=H
    have hnb33:=NB182_175.out
    have hnc33:=NB175_182.out
    have hnb34:=NB182_0.out
    have hnc34:=NB0_182.out
    have hcz35_0:=bc0 BK182.out
    have hfz35_0:=jb BK182.out 0
    obtain ⟨Ao36,co36,eo36⟩:=Kd.jZ HO_183000.out
    subst eo36
    have hnb37:=NB175_0.out
    have hnc37:=NB0_175.out
    have hcz38_0:=bc0 BK175.out
    have hfz38_0:=jb BK175.out 0
    go_wp2
    refine bodyPost_ret (results_cell_row rfl _ _ gb175 25 #[.slice Ao36 x183000_1.length co36] (0,0) _ rfl (by (with_reducible repeat (first | refine jg ?_ _ | refine jf ?_ | refine jh ?_ _));refine jya (cs:=#[.slice none 0 0]) ?_ 0 _ rfl;(with_reducible repeat (first | refine jg ?_ _ | refine jf ?_ | refine jh ?_ _));exact BK175.out) Tryd.underlying25 rfl (by kernel_rfl)) rfl ?_
    exact ⟨_,Y1,by (with_reducible repeat (first | apply Kd.jX | apply Kd.jba | apply Kd.jV));exact Kd.jI (Kd.jwa (p:=⟨gb175,0,none⟩) (Kd.jP HO_183000.out BK175.out (by decide)) (fun _ hk=>hk.2) (.slice Ao36 x183000_1.length co36)) (fun _ hk=>trivial),Y26,Y44,Y29⟩
def jUa.f (k : Nat) (s0_0 : List Int) (s0_1 : Int) (l1 : List ByteArray) : Option (ByteArray × Int) := (jm.f k s0_0 s0_1 (l1.length : Int)).bind fun bt199 => (if 0 ≤ bt199.1 then (if bt199.1 < (l1.length : Int) then (some (rdOf ByteArray.empty l1 bt199.1, bt199.2)) else (none)) else (none))
set_option maxHeartbeats 8000000 in
set_option maxRecDepth 100000 in
theorem jUa.calls (k : Nat) (g : Nat) (s0_0 : List Int) (s0_1 : Int) (A1 : Option Addr) (c1 : Nat) (l1 : List ByteArray) (r1 : ByteArray) (r2 : Int) (w0 w : World) (hI : jk w0 w g s0_0 s0_1) (hB : Below w0.heap.size w0 w) (hr1 : Kd.C Kd.string w A1 l1.length l1) (hc1 : l1.length ≤ c1) (hf1 : ∀ ad, A1 = some ad → 0 < l1.length → ad.block ≠ g) (h : jUa.f k s0_0 s0_1 l1 = some (r1, r2)) :
  Calls Tryd.prog 89 #[.pointer (some ⟨g,0,none⟩), .slice A1 l1.length c1] w fun e w'=>e=.returned (.string r1)∧jk w0 w' g s0_0 r2∧Below w0.heap.size w0 w'∧jd w w' g none:=by
 have HR1:=am hr1
 have HC1:=am hc1
 clear hr1 hc1
 have HI0:=am hI
 have HK:=am (jd.refl w g none)
 have HL:=am hB.size
 clear hI
 have HW0:=am hB.size
 have HB:=am hB
 clear hB
 have H:((jm.f k s0_0 s0_1 (l1.length:Int)).bind fun bt199=>(if 0≤bt199.1 then (if bt199.1<(l1.length:Int) then (some (rdOf ByteArray.empty l1 bt199.1,bt199.2)) else (none)) else (none)))=some (r1,r2):=h
 clear h
 replace H:=bzS H
 obtain ⟨⟨t199,t200⟩,A30,H⟩:=H
 replace H:(if 0≤t199 then (if t199<(l1.length:Int) then (some (rdOf ByteArray.empty l1 t199,t200)) else (none)) else (none))=some (r1,r2):=H
 have A3:=am A30
 clear A30
 by_cases c4:0≤t199
 ·rw [if_pos c4] at H
  have c4b0:decide (0≤t199)=true:=dzT c4
  clear c4
  by_cases c5:t199<(l1.length:Int)
  ·rw [if_pos c5] at H
   have c5b0:decide (t199<(l1.length:Int))=true:=dzT c5
   clear c5
   simp only [Option.some.injEq,Prod.mk.injEq] at H
   obtain ⟨rfl,rfl⟩:=H
   go_enter Tryd.func89,Tryd.ntmps89
   go_wp2_with (first |((with_reducible refine jw (f:=68) rfl ?_);refine gL (some 9) Tryd.func68 #[.pointer (some ⟨g,0,none⟩), .int .i64 (l1.length:Int)] ?_;(with_reducible refine (jm.calls k g s0_0 s0_1 (l1.length:Int) t199 t200 w0 _ ?side1 ?side2 A3.out).mono ?_);(case side1=>exact Y12);(case side2=>exact Y14);rintro e w6 ⟨rfl,hi,hb,hk⟩;refine ⟨_,rfl,?_⟩;replace HK:=am (jd.trans (Y13) hk (.inl rfl));replace HB:=am (hb);replace HI0:=am (hi);(try clear hb);(try clear hb2);(try clear hk);(try clear hi);have p201:0≤(t199:Int):=ozD (uq);have q201:t199<(l1.length:Int):=ozD (uq);obtain ⟨ad201,e201,hx201_0⟩:=Kd.at_string HR1.out t199 p201 q201;cases e201;replace hx201_0:=keep_cell HK.out hx201_0 (by first |(rw [add_block];exact hf1 _ rfl (by omega)) | exact hf1 _ rfl (by omega) | exact hf1 ad201 rfl (by omega));replace p201:=ezT p201;replace q201:=ezT q201))
   go_ret
   exact ⟨Y1,Y12,Y14,Y13⟩
  ·rw [if_neg c5] at H
   exact absurd H (by simp)
 ·rw [if_neg c4] at H
  exact absurd H (by simp)
end Go.Proofs.YteibechlncphnaaDoor.P
end
