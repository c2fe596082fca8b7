/- One part of the proofs on this program: functions of the program as plain functions, that the code comes to them, and facts on them. -/
import Derived.Shelf.Strconv.Itoa3
import Derived.Test.YteibechlncphnaaDoorYAll1
import Derived.Test.YteibechlncphnaaDoorYAll4
import Derived.Test.YteibechlncphnaaDoorYWAuto
section
namespace Go.Proofs.YteibechlncphnaaDoor.P
open Go.RowKit Go.Proofs.YteibechlncphnaaDoorW.PrintWords Go.Proofs.YteibechlncphnaaDoorW.PrintLast Go.Proofs.YteibechlncphnaaDoorW.PrintMore
attribute [local go_sem] jva jta jAa jza jga jfa jua jsa jA
set_option linter.unusedVariables false
set_option linter.unusedSimpArgs false
def jGb.f (k : Nat) (s0_0 : List Int) (s0_1 : Int) (l1_0 : List (S66)) : Option (Int × Int) := (jm.f k s0_0 s0_1 16).bind fun bt272 => (if bt272.1 = 0 then ((jy.f k s0_0 bt272.2 (([(-1), (l1_0.length : Int), 9] : List Int))).bind fun bt277 => (some (bt277.1, bt277.2))) else ((jm.f k s0_0 bt272.2 (l1_0.length : Int)).bind fun bt279 => (some (bt279.1, bt279.2))))
set_option maxHeartbeats 8000000 in
set_option maxRecDepth 100000 in
theorem jGb.calls (k : Nat) (g : Nat) (s0_0 : List Int) (s0_1 : Int) (A1_0 : Option Addr) (c1_0 : Nat) (l1_0 : List (S66)) (r1 : Int) (r2 : Int) (w0 w : World) (hI : jk w0 w g s0_0 s0_1) (hB : Below w0.heap.size w0 w) (hr1_0 : ∀ W_, jd w W_ g none → Kd.C k66 W_ A1_0 l1_0.length l1_0) (hc1_0 : l1_0.length ≤ c1_0) (h : jGb.f k s0_0 s0_1 l1_0 = some (r1, r2)) :
  Calls Tryd.prog 50 #[.pointer (some ⟨g,0,none⟩), .agg #[.slice A1_0 l1_0.length c1_0]] w fun e w'=>e=.returned (.int .i64 r1)∧jk w0 w' g s0_0 r2∧Below w0.heap.size w0 w'∧jd w w' g none:=by
 have hu28:=Tryd.underlying28
 have HR1_0:=am hr1_0
 have HC1_0:=am hc1_0
 clear hr1_0 hc1_0
 have HI0:=am hI
 have HK:=am (jd.refl w g none)
 have HL:=am hB.size
 clear hI
 have HW0:=am hB.size
 have HB:=am hB
 clear hB
 have H:((jm.f k s0_0 s0_1 16).bind fun bt272=>(if bt272.1=0 then ((jy.f k s0_0 bt272.2 (([(-1),(l1_0.length:Int),9]:List Int))).bind fun bt277=>(some (bt277.1,bt277.2))) else ((jm.f k s0_0 bt272.2 (l1_0.length:Int)).bind fun bt279=>(some (bt279.1,bt279.2)))))=some (r1,r2):=h
 clear h
 replace H:=bzS H
 obtain ⟨⟨t272,t273⟩,A30,H⟩:=H
 replace H:(if t272=0 then ((jy.f k s0_0 t273 (([(-1),(l1_0.length:Int),9]:List Int))).bind fun bt277=>(some (bt277.1,bt277.2))) else ((jm.f k s0_0 t273 (l1_0.length:Int)).bind fun bt279=>(some (bt279.1,bt279.2))))=some (r1,r2):=H
 have A3:=am A30
 clear A30
 by_cases c4:t272=0
 ·rw [if_pos c4] at H
  have c4b0:(t272 == 0)=true:=beq_iff_eq.mpr c4
  have c4b1:(t272 != 0)=false:=bne_eq_false_iff_eq.mpr c4
  clear c4
  obtain ⟨y274,hy274⟩:∃ y_:List Int,y_=(([(-1),(l1_0.length:Int),9]:List Int)):=⟨_,rfl⟩
  replace H:((jy.f k s0_0 t273 y274).bind fun bt277=>(some (bt277.1,bt277.2)))=some (r1,r2):=by first |(rw [hy274];with_reducible exact H) |(have H2_:=(Option.bind_some _ _).symm.trans H;rw [hy274];with_reducible exact H2_) |(have H2_:=(Option.bind_some _ _).symm.trans H;with_reducible exact H2_) | with_reducible exact H |(rw [hy274];exact H) | exact H
  have Ny274:=am hy274
  clear hy274
  replace H:=bzS H
  obtain ⟨⟨t277,t278⟩,A50,H⟩:=H
  replace H:(some (t277,t278))=some (r1,r2):=H
  have A5:=am A50
  clear A50
  simp only [Option.some.injEq,Prod.mk.injEq] at H
  obtain ⟨rfl,rfl⟩:=H
  go_enter Tryd.func50,Tryd.ntmps50
  go_wp2_with (first |((with_reducible refine jD (N:=3) rfl ?_);refine bE (N:=3) (cs:=#[.slice A1_0 l1_0.length c1_0]) (t:=28) ?_;intro gb271 hg w6 hbox hb;have BK271:=am (hbox);have GW271:=am ((Y6:w.heap.size≤gb271));have GE271:=am ((Nat.le_trans HW0.out (Y6:w.heap.size≤gb271):w0.heap.size≤gb271));have NB0_271:=am ((Y24:g≠gb271));have NB271_0:=am ((Y25:gb271≠g));replace HK:=am (jd.trans (Y13) (jd.of_below hb g none) (.inl rfl));replace HB:=am (je (Y14) hb);replace HI0:=am (jk.below (Y12) hb);clear hb hbox hg) |((with_reducible refine jw (f:=68) rfl ?_);refine gL (some 6) Tryd.func68 #[.pointer (some ⟨g,0,none⟩), .int .i64 16] ?_;(with_reducible refine (jm.calls k g s0_0 s0_1 16 t272 t273 w0 _ ?side1 ?side2 A3.out).mono ?_);(case side1=>exact Y55);(case side2=>exact Y61);rintro e w7 ⟨rfl,hi,hb,hk⟩;refine ⟨_,rfl,?_⟩;replace BK271:=am (jd.blk hk (g':=gb271) (o:=.cells #[.slice A1_0 l1_0.length c1_0] 28 (0,0)) (kq BK271.out) NB271_0.out (by simp));replace HK:=am (jd.trans (Y56) hk (.inl rfl));replace HB:=am (hb);replace HI0:=am (hi);(try clear hb);(try clear hb2);(try clear hk);(try clear hi);have hnb8:=NB271_0.out;have hnc8:=NB0_271.out;have hcz9_0:=bc0 BK271.out;have hfz9_0:=jb BK271.out 0) |((with_reducible refine jD (N:=12) rfl ?_);refine Kd.R_lit (Kd.int .i64) _ 3 ?hg (N:=12) ?hd (xs:=([(-1),(l1_0.length:Int),9]:List Int)) (inner:=[.int .i64 (-1), .int .i64 (l1_0.length:Int), .int .i64 9]) (ok:=fun _=>True) (okp:=fun _=>True) ?hr ?hp (fun _ hk=>hk) trivial (Below.refl _ _) (Nat.le_refl _) (by simp) ?_;(case hd=>rfl);(case hg=>rfl);(case hr=>exact Y4);(case hp=>exact (Reps.one (show Kd.M (Kd.int .i64) _ _ _ (-1) [.int .i64 (-1)] from rfl) (Reps.one (show Kd.M (Kd.int .i64) _ _ _ (l1_0.length:Int) [.int .i64 (l1_0.length:Int)] from rfl) (Reps.one (show Kd.M (Kd.int .i64) _ _ _ 9 [.int .i64 9] from rfl) (Reps.none _ _)))));intro v275 w10 ho11 hb hg_ hnew_;clear hg_ hnew_;(first | rw [← Ny274.out] at ho11 |(simp only [Int.reduceToNat] at ho11;rw [← Ny274.out] at ho11));have HO276:=am (Kd.jia ho11 (jea (w:=w) (g:=g) (row:=none) (Y56)));replace BK271:=am (jc (g:=gb271) (o:=.cells #[.slice A1_0 l1_0.length c1_0] 28 (0,0)) (kq BK271.out) hb);replace HK:=am (jd.trans (Y56) (jd.of_below hb g none) (.inl rfl));replace HB:=am (je (Y61) hb);replace HI0:=am (jk.below (Y55) hb);clear hb ho11;obtain ⟨Ao12,co12,eo12⟩:=Kd.jZ HO276.out;subst eo12) |((with_reducible refine jw (f:=69) rfl ?_);refine gL (some 13) Tryd.func69 #[.pointer (some ⟨g,0,none⟩), .slice Ao12 y274.length co12] ?_;(with_reducible refine (jy.calls k g s0_0 t273 _ _ y274 t277 t278 w0 _ ?side1 ?side2 ?side3 ?side4 ?side5 A5.out).mono ?_);(case side1=>exact Y55);(case side2=>exact Y61);(case side3=>exact cq (Kd.jC HO276.out).2.2);(case side4=>exact (Kd.jC HO276.out).2.1);(case side5=>exact jCb (jk.own_ne HI0.out HO276.out (by decide)));rintro e w13 ⟨rfl,hi,hb,hk⟩;refine ⟨_,rfl,?_⟩;replace BK271:=am (jd.blk hk (g':=gb271) (o:=.cells #[.slice A1_0 l1_0.length c1_0] 28 (0,0)) (kq BK271.out) NB271_0.out (by simp));replace HO276:=am (Kd.jI (Kd.jqa (jk.apart (show jk w0 _ g s0_0 t273 from Y55) (rq HO276.out) (by decide)) hk (fun _ h=>h.2)) (fun _ h=>h.1));replace HK:=am (jd.trans (Y56) hk (.inl rfl));replace HB:=am (hb);replace HI0:=am (hi);(try clear hb);(try clear hb2);(try clear hk);(try clear hi)))
  go_ret
  exact ⟨Y1,Y55,Y61,Y56⟩
 ·rw [if_neg c4] at H
  have c4b0:(t272 == 0)=false:=beq_eq_false_iff_ne.mpr c4
  have c4b1:(t272 != 0)=true:=bne_iff_ne.mpr c4
  replace H:=bzS H
  obtain ⟨⟨t279,t280⟩,A140,H⟩:=H
  replace H:(some (t279,t280))=some (r1,r2):=H
  have A14:=am A140
  clear A140
  simp only [Option.some.injEq,Prod.mk.injEq] at H
  obtain ⟨rfl,rfl⟩:=H
  go_enter Tryd.func50,Tryd.ntmps50
  go_wp2_with (first |((with_reducible refine jD (N:=3) rfl ?_);refine bE (N:=3) (cs:=#[.slice A1_0 l1_0.length c1_0]) (t:=28) ?_;intro gb271 hg w15 hbox hb;have BK271:=am (hbox);have GW271:=am ((Y6:w.heap.size≤gb271));have GE271:=am ((Nat.le_trans HW0.out (Y6:w.heap.size≤gb271):w0.heap.size≤gb271));have NB0_271:=am ((Y24:g≠gb271));have NB271_0:=am ((Y25:gb271≠g));replace HK:=am (jd.trans (Y13) (jd.of_below hb g none) (.inl rfl));replace HB:=am (je (Y14) hb);replace HI0:=am (jk.below (Y12) hb);clear hb hbox hg) |((with_reducible refine jw (f:=68) rfl ?_);refine gL (some 6) Tryd.func68 #[.pointer (some ⟨g,0,none⟩), .int .i64 16] ?_;(with_reducible refine (jm.calls k g s0_0 s0_1 16 t272 t273 w0 _ ?side1 ?side2 A3.out).mono ?_);(case side1=>exact Y55);(case side2=>exact Y61);rintro e w16 ⟨rfl,hi,hb,hk⟩;refine ⟨_,rfl,?_⟩;replace BK271:=am (jd.blk hk (g':=gb271) (o:=.cells #[.slice A1_0 l1_0.length c1_0] 28 (0,0)) (kq BK271.out) NB271_0.out (by simp));replace HK:=am (jd.trans (Y56) hk (.inl rfl));replace HB:=am (hb);replace HI0:=am (hi);(try clear hb);(try clear hb2);(try clear hk);(try clear hi);have hnb17:=NB271_0.out;have hnc17:=NB0_271.out;have hcz18_0:=bc0 BK271.out;have hfz18_0:=jb BK271.out 0) |((with_reducible refine jw (f:=68) rfl ?_);refine gL (some 18) Tryd.func68 #[.pointer (some ⟨g,0,none⟩), .int .i64 (l1_0.length:Int)] ?_;(with_reducible refine (jm.calls k g s0_0 t273 (l1_0.length:Int) t279 t280 w0 _ ?side1 ?side2 A14.out).mono ?_);(case side1=>exact Y55);(case side2=>exact Y61);rintro e w19 ⟨rfl,hi,hb,hk⟩;refine ⟨_,rfl,?_⟩;replace BK271:=am (jd.blk hk (g':=gb271) (o:=.cells #[.slice A1_0 l1_0.length c1_0] 28 (0,0)) (kq BK271.out) NB271_0.out (by simp));replace HK:=am (jd.trans (Y56) hk (.inl rfl));replace HB:=am (hb);replace HI0:=am (hi);(try clear hb);(try clear hb2);(try clear hk);(try clear hi)))
  go_ret
  exact ⟨Y1,Y55,Y61,Y56⟩
def jEa.f (k : Nat) (s0_0 : List Int) (s0_1 : Int) : Option ((List (S99)) × (List (S66)) × Int × Int) := (jN.f k s0_0 s0_1).bind fun bt283 => ((jGb.f k s0_0 bt283.2.2 bt283.2.1).bind fun bt292 => (some (bt283.1, bt283.2.1, bt292.1, bt292.2)))
def jEa.T2 : Bool × List (List Nat × List Nat) := (true, [([], []), ([], []), ([], []), ([], []), ([2, 3], [2, 3]), ([0, 4, 0], [0]), ([1, 5, 0, 1, 5], [1]), ([4, 6, 0, 1, 2, 3, 4, 5, 6], [4])])
def jEa.B2 : List Nat := [0, 0, 0, 0, 12, 29, 63, 127]
theorem jEa.tab2 : rtab .any (opsOf Tryd.f26 2) = jEa.T2 := by kernel_rfl
theorem jEa.bits2 : jLb jEa.T2.2 jEa.B2 = true := by kernel_rfl
set_option maxHeartbeats 8000000 in
set_option maxRecDepth 100000 in
theorem jEa.calls (k : Nat) (g : Nat) (s0_0 : List Int) (s0_1 : Int) (r1 : List (S99)) (r2 : List (S66)) (r3 : Int) (r4 : Int) (w0 w : World) (hI : jk w0 w g s0_0 s0_1) (hB : Below w0.heap.size w0 w) (h : jEa.f k s0_0 s0_1 = some (r1, r2, r3, r4)) :
  Calls Tryd.prog 26 #[.pointer (some ⟨g,0,none⟩)] w fun e w'=>∃ v0_ v1_:Value,e=.returned (.tuple #[.agg #[v0_], .agg #[v1_], .int .i64 r3])∧Kd.R k99 99 w' w.heap.size (fun _=>True) v0_ r1∧Kd.R k66 66 w' w.heap.size (fun _=>True) v1_ r2∧jk w0 w' g s0_0 r4∧Below w0.heap.size w0 w'∧jd w w' g none:=by
 have hu25:=Tryd.underlying25
 have hu28:=Tryd.underlying28
 have HI0:=am hI
 have HK:=am (jd.refl w g none)
 have HL:=am hB.size
 clear hI
 have HW0:=am hB.size
 have HB:=am hB
 clear hB
 have H:((jN.f k s0_0 s0_1).bind fun bt283=>((jGb.f k s0_0 bt283.2.2 bt283.2.1).bind fun bt292=>(some (bt283.1,bt283.2.1,bt292.1,bt292.2))))=some (r1,r2,r3,r4):=h
 clear h
 replace H:=bzS H
 obtain ⟨⟨t283,t286,t289⟩,A20,H⟩:=H
 replace H:((jGb.f k s0_0 t289 t286).bind fun bt292=>(some (t283,t286,bt292.1,bt292.2)))=some (r1,r2,r3,r4):=H
 have A2:=am A20
 clear A20
 replace H:=bzS H
 obtain ⟨⟨t292,t293⟩,A30,H⟩:=H
 replace H:(some (t283,t286,t292,t293))=some (r1,r2,r3,r4):=H
 have A3:=am A30
 clear A30
 simp only [Option.some.injEq,Prod.mk.injEq] at H
 obtain ⟨rfl,rfl,rfl,rfl⟩:=H
 go_enter Tryd.func26,Tryd.ntmps26
 try go_wp2_with (first |((with_reducible refine jD (N:=2) rfl ?_);refine bE (N:=2) (cs:=#[.slice none 0 0]) (t:=25) ?_;intro gb281 hg w4 hbox hb;have BK281:=am (hbox);have GW281:=am ((Y6:w.heap.size≤gb281));have GE281:=am ((Nat.le_trans HW0.out (Y6:w.heap.size≤gb281):w0.heap.size≤gb281));have NB0_281:=am ((Y24:g≠gb281));have NB281_0:=am ((Y25:gb281≠g));replace HK:=am (jd.trans (Y13) (jd.of_below hb g none) (.inl rfl));replace HB:=am (je (Y14) hb);replace HI0:=am (jk.below (Y12) hb);clear hb hbox hg) |((with_reducible refine jD (N:=3) rfl ?_);refine bE (N:=3) (cs:=#[.slice none 0 0]) (t:=28) ?_;intro gb282 hg w5 hbox hb;have BK282:=am (hbox);have GW282:=am ((Y168:w.heap.size≤gb282));have GE282:=am ((Nat.le_trans HW0.out (Y168:w.heap.size≤gb282):w0.heap.size≤gb282));have NB281_282:=am ((Y128:gb281≠gb282));have NB282_281:=am ((Y129:gb282≠gb281));have NB0_282:=am ((by rw [hg];exact Nat.ne_of_lt (jk.lt (show jk w0 _ g s0_0 s0_1 from by repeat (first |(with_reducible first | exact HI0.out | apply jk.alloc | apply jk.drewN | apply jk.drew | apply jk.jmb | refine jk.far ?_ NB0_281.out _) | exact HI0.out))):g≠gb282));have NB282_0:=am ((by rw [hg];exact Nat.ne_of_gt (jk.lt (show jk w0 _ g s0_0 s0_1 from by repeat (first |(with_reducible first | exact HI0.out | apply jk.alloc | apply jk.drewN | apply jk.drew | apply jk.jmb | refine jk.far ?_ NB0_281.out _) | exact HI0.out))):gb282≠g));replace BK281:=am (jc (g:=gb281) (o:=.cells #[.slice none 0 0] 25 (0,0)) (kq BK281.out) hb);replace HK:=am (jd.trans (by repeat (first |(with_reducible first | exact HK.out | apply jd.set_ | apply jja | apply jaa | apply jka | refine jO ?_ GW281.out _) | exact HK.out)) (jd.of_below hb g none) (.inl rfl));replace HB:=am (je (by repeat (first |(with_reducible first | exact HB.out | apply jv | apply jo | apply jq | refine jl ?_ (jk.ge HI0.out) | refine jl ?_ GE281.out) | exact HB.out)) hb);replace HI0:=am (jk.below (by repeat (first |(with_reducible first | exact HI0.out | apply jk.alloc | apply jk.drewN | apply jk.drew | apply jk.jmb | refine jk.far ?_ NB0_281.out _) | exact HI0.out)) hb);clear hb hbox hg) |((with_reducible refine jw (f:=43) rfl ?_);refine gL (some 9) Tryd.func43 #[.pointer (some ⟨g,0,none⟩)] ?_;(with_reducible refine (jN.calls k g s0_0 s0_1 t283 t286 t289 w0 _ ?side1 ?side2 A2.out).mono ?_);(case side1=>exact Y169);(case side2=>exact Y170);rintro e w6 ⟨v284,v287,rfl,ho0,ho1,hi,hb,hk⟩;refine ⟨_,rfl,?_⟩;have HO285:=am (Kd.jia ho0 (jea (w:=w) (g:=g) (row:=none) (Y109)));have HO288:=am (Kd.jia ho1 (jea (w:=w) (g:=g) (row:=none) (Y109)));replace BK281:=am (jd.blk hk (g':=gb281) (o:=.cells #[.slice none 0 0] 25 (0,0)) (kq BK281.out) NB281_0.out (by simp));replace BK282:=am (jd.blk hk (g':=gb282) (o:=.cells #[.slice none 0 0] 28 (0,0)) (kq BK282.out) NB282_0.out (by simp));replace HK:=am (jd.trans (Y109) hk (.inl rfl));replace HB:=am (hb);replace HI0:=am (hi);(try clear hb);(try clear hb2);(try clear hk);(try clear hi);(try clear ho0);(try clear ho1)) |((with_reducible refine jD (N:=5) rfl ?_);refine bE (N:=5) (cs:=#[.slice none 0 0]) (t:=25) ?_;intro gb290 hg w7 hbox hb;have BK290:=am (hbox);have GW290:=am ((Y171:w.heap.size≤gb290));have GE290:=am ((Nat.le_trans HW0.out (Y171:w.heap.size≤gb290):w0.heap.size≤gb290));have NB281_290:=am ((Y128:gb281≠gb290));have NB290_281:=am ((Y129:gb290≠gb281));have NB282_290:=am ((by rw [hg];exact Nat.ne_of_lt (jda (g:=gb282) (o:=.cells #[.slice none 0 0] 28 (0,0)) (kq BK282.out)):gb282≠gb290));have NB290_282:=am ((by rw [hg];exact Nat.ne_of_gt (jda (g:=gb282) (o:=.cells #[.slice none 0 0] 28 (0,0)) (kq BK282.out)):gb290≠gb282));have NB0_290:=am ((by rw [hg];exact Nat.ne_of_lt (jk.lt (show jk w0 _ g s0_0 t289 from by repeat (first |(with_reducible first | exact HI0.out | apply jk.alloc | apply jk.drewN | apply jk.drew | apply jk.jmb | refine jk.far ?_ NB0_281.out _ | refine jk.far ?_ NB0_282.out _) | exact HI0.out))):g≠gb290));have NB290_0:=am ((by rw [hg];exact Nat.ne_of_gt (jk.lt (show jk w0 _ g s0_0 t289 from by repeat (first |(with_reducible first | exact HI0.out | apply jk.alloc | apply jk.drewN | apply jk.drew | apply jk.jmb | refine jk.far ?_ NB0_281.out _ | refine jk.far ?_ NB0_282.out _) | exact HI0.out))):gb290≠g));replace HO285:=am (Kd.jW (rq HO285.out) hb);replace HO288:=am (Kd.jW (rq HO288.out) hb);replace BK281:=am (jc (g:=gb281) (o:=.cells #[.slice none 0 0] 25 (0,0)) (kq BK281.out) hb);replace BK282:=am (jc (g:=gb282) (o:=.cells #[.slice none 0 0] 28 (0,0)) (kq BK282.out) hb);replace HK:=am (jd.trans (Y109) (jd.of_below hb g none) (.inl rfl));replace HB:=am (je (Y170) hb);replace HI0:=am (jk.below (Y169) hb);clear hb hbox hg) |((with_reducible refine jD (N:=6) rfl ?_);refine bE (N:=6) (cs:=#[.slice none 0 0]) (t:=28) ?_;intro gb291 hg w8 hbox hb;have BK291:=am (hbox);have GW291:=am ((Y172:w.heap.size≤gb291));have GE291:=am ((Nat.le_trans HW0.out (Y172:w.heap.size≤gb291):w0.heap.size≤gb291));have NB281_291:=am ((Y128:gb281≠gb291));have NB291_281:=am ((Y129:gb291≠gb281));have NB282_291:=am ((by rw [hg];exact Nat.ne_of_lt (jda (g:=gb282) (o:=.cells #[.slice none 0 0] 28 (0,0)) (kq BK282.out)):gb282≠gb291));have NB291_282:=am ((by rw [hg];exact Nat.ne_of_gt (jda (g:=gb282) (o:=.cells #[.slice none 0 0] 28 (0,0)) (kq BK282.out)):gb291≠gb282));have NB290_291:=am ((by rw [hg];exact Nat.ne_of_lt (jda (g:=gb290) (o:=.cells #[.slice none 0 0] 25 (0,0)) (kq BK290.out)):gb290≠gb291));have NB291_290:=am ((by rw [hg];exact Nat.ne_of_gt (jda (g:=gb290) (o:=.cells #[.slice none 0 0] 25 (0,0)) (kq BK290.out)):gb291≠gb290));have NB0_291:=am ((by rw [hg];exact Nat.ne_of_lt (jk.lt (show jk w0 _ g s0_0 t289 from by repeat (first |(with_reducible first | exact HI0.out | apply jk.alloc | apply jk.drewN | apply jk.drew | apply jk.jmb | refine jk.far ?_ NB0_281.out _ | refine jk.far ?_ NB0_282.out _ | refine jk.far ?_ NB0_290.out _) | exact HI0.out))):g≠gb291));have NB291_0:=am ((by rw [hg];exact Nat.ne_of_gt (jk.lt (show jk w0 _ g s0_0 t289 from by repeat (first |(with_reducible first | exact HI0.out | apply jk.alloc | apply jk.drewN | apply jk.drew | apply jk.jmb | refine jk.far ?_ NB0_281.out _ | refine jk.far ?_ NB0_282.out _ | refine jk.far ?_ NB0_290.out _) | exact HI0.out))):gb291≠g));replace HO285:=am (Kd.jW (rq HO285.out) hb);replace HO288:=am (Kd.jW (rq HO288.out) hb);replace BK281:=am (jc (g:=gb281) (o:=.cells #[.slice none 0 0] 25 (0,0)) (kq BK281.out) hb);replace BK282:=am (jc (g:=gb282) (o:=.cells #[.slice none 0 0] 28 (0,0)) (kq BK282.out) hb);replace BK290:=am (jc (g:=gb290) (o:=.cells #[.slice none 0 0] 25 (0,0)) (kq BK290.out) hb);replace HK:=am (jd.trans (by repeat (first |(with_reducible first | exact HK.out | apply jd.set_ | apply jja | apply jaa | apply jka | refine jO ?_ GW281.out _ | refine jO ?_ GW282.out _ | refine jO ?_ GW290.out _) | exact HK.out)) (jd.of_below hb g none) (.inl rfl));replace HB:=am (je (by repeat (first |(with_reducible first | exact HB.out | apply jv | apply jo | apply jq | refine jl ?_ (jk.ge HI0.out) | refine jl ?_ GE281.out | refine jl ?_ GE282.out | refine jl ?_ GE290.out) | exact HB.out)) hb);replace HI0:=am (jk.below (by repeat (first |(with_reducible first | exact HI0.out | apply jk.alloc | apply jk.drewN | apply jk.drew | apply jk.jmb | refine jk.far ?_ NB0_281.out _ | refine jk.far ?_ NB0_282.out _ | refine jk.far ?_ NB0_290.out _) | exact HI0.out)) hb);clear hb hbox hg;obtain ⟨Ao9,co9,eo9⟩:=Kd.jZ HO285.out;subst eo9;have hnb10:=NB290_281.out;have hnc10:=NB281_290.out;have hnb11:=NB290_282.out;have hnc11:=NB282_290.out;have hnb12:=NB290_291.out;have hnc12:=NB291_290.out;have hnb13:=NB290_0.out;have hnc13:=NB0_290.out;have hcz14_0:=bc0 BK290.out;have hfz14_0:=jb BK290.out 0;obtain ⟨Ao15,co15,eo15⟩:=Kd.jZ HO288.out;subst eo15;have hnb16:=NB291_281.out;have hnc16:=NB281_291.out;have hnb17:=NB291_282.out;have hnc17:=NB282_291.out;have hnb18:=NB291_0.out;have hnc18:=NB0_291.out;have hcz19_0:=bc0 BK291.out;have hfz19_0:=jb BK291.out 0))
 have n0_:jB (Kd.R k99 99 ((w8.setCell ⟨gb290,0,none⟩ (.slice Ao9 t283.length co9)).setCell ⟨gb291,0,none⟩ (.slice Ao15 t286.length co15)) w.heap.size (fun _=>True) (.slice Ao9 t283.length co9) t283):=⟨by (with_reducible repeat (first | apply Kd.jX | apply Kd.jba | apply Kd.jV));exact Kd.jI (Kd.jwa (p:=⟨gb291,0,none⟩) (Kd.jwa (p:=⟨gb290,0,none⟩) (Kd.jP (Kd.jP HO285.out BK290.out (by decide)) BK291.out (by decide)) (fun _ hk=>hk.1.2) (.slice Ao9 t283.length co9)) (fun _ hk=>hk.2) (.slice Ao15 t286.length co15)) (fun _ hk=>trivial)⟩
 have n1_:jB (Kd.R k66 66 ((w8.setCell ⟨gb290,0,none⟩ (.slice Ao9 t283.length co9)).setCell ⟨gb291,0,none⟩ (.slice Ao15 t286.length co15)) w.heap.size (fun _=>True) (.slice Ao15 t286.length co15) t286):=⟨by (with_reducible repeat (first | apply Kd.jX | apply Kd.jba | apply Kd.jV));exact Kd.jI (Kd.jwa (p:=⟨gb291,0,none⟩) (Kd.jwa (p:=⟨gb290,0,none⟩) (Kd.jP (Kd.jP HO288.out BK290.out (by decide)) BK291.out (by decide)) (fun _ hk=>hk.1.2) (.slice Ao9 t283.length co9)) (fun _ hk=>hk.2) (.slice Ao15 t286.length co15)) (fun _ hk=>trivial)⟩
 have n2_:jB (((w8.setCell ⟨gb290,0,none⟩ (.slice Ao9 t283.length co9)).setCell ⟨gb291,0,none⟩ (.slice Ao15 t286.length co15)).heap[gb281]?=some (.cells #[.slice none 0 0] 25 (0,0))):=⟨by (with_reducible repeat (first | refine jg ?_ _ | refine jf ?_ | refine jh ?_ _));refine jT ?_ NB281_291.out _;(with_reducible repeat (first | refine jg ?_ _ | refine jf ?_ | refine jh ?_ _));refine jT ?_ NB281_290.out _;(with_reducible repeat (first | refine jg ?_ _ | refine jf ?_ | refine jh ?_ _));exact BK281.out⟩
 have n3_:jB (((w8.setCell ⟨gb290,0,none⟩ (.slice Ao9 t283.length co9)).setCell ⟨gb291,0,none⟩ (.slice Ao15 t286.length co15)).heap[gb282]?=some (.cells #[.slice none 0 0] 28 (0,0))):=⟨by (with_reducible repeat (first | refine jg ?_ _ | refine jf ?_ | refine jh ?_ _));refine jT ?_ NB282_291.out _;(with_reducible repeat (first | refine jg ?_ _ | refine jf ?_ | refine jh ?_ _));refine jT ?_ NB282_290.out _;(with_reducible repeat (first | refine jg ?_ _ | refine jf ?_ | refine jh ?_ _));exact BK282.out⟩
 have n4_:jB (((w8.setCell ⟨gb290,0,none⟩ (.slice Ao9 t283.length co9)).setCell ⟨gb291,0,none⟩ (.slice Ao15 t286.length co15)).heap[gb290]?=some (.cells #[.slice Ao9 t283.length co9] 25 (0,0))):=⟨by (with_reducible repeat (first | refine jg ?_ _ | refine jf ?_ | refine jh ?_ _));refine jT ?_ NB290_291.out _;(with_reducible repeat (first | refine jg ?_ _ | refine jf ?_ | refine jh ?_ _));refine jya (cs:=#[.slice none 0 0]) ?_ 0 _ rfl;(with_reducible repeat (first | refine jg ?_ _ | refine jf ?_ | refine jh ?_ _));exact BK290.out⟩
 have n5_:jB (((w8.setCell ⟨gb290,0,none⟩ (.slice Ao9 t283.length co9)).setCell ⟨gb291,0,none⟩ (.slice Ao15 t286.length co15)).heap[gb291]?=some (.cells #[.slice Ao15 t286.length co15] 28 (0,0))):=⟨by (with_reducible repeat (first | refine jg ?_ _ | refine jf ?_ | refine jh ?_ _));refine jya (cs:=#[.slice none 0 0]) ?_ 0 _ rfl;(with_reducible repeat (first | refine jg ?_ _ | refine jf ?_ | refine jh ?_ _));refine jT ?_ NB291_290.out _;(with_reducible repeat (first | refine jg ?_ _ | refine jf ?_ | refine jh ?_ _));exact BK291.out⟩
 have n6_:jB (jk w0 ((w8.setCell ⟨gb290,0,none⟩ (.slice Ao9 t283.length co9)).setCell ⟨gb291,0,none⟩ (.slice Ao15 t286.length co15)) g s0_0 t289):=⟨Y78⟩
 have n7_:jB (jd w ((w8.setCell ⟨gb290,0,none⟩ (.slice Ao9 t283.length co9)).setCell ⟨gb291,0,none⟩ (.slice Ao15 t286.length co15)) g none):=⟨Y130⟩
 have n8_:jB (Below w0.heap.size w0 ((w8.setCell ⟨gb290,0,none⟩ (.slice Ao9 t283.length co9)).setCell ⟨gb291,0,none⟩ (.slice Ao15 t286.length co15))):=⟨Y131⟩
 (try clear HO285)
 (try clear HO288)
 (try clear BK281)
 (try clear BK282)
 (try clear BK290)
 (try clear BK291)
 (try clear HI0)
 (try clear HK)
 (try clear HB)
 generalize ((w8.setCell ⟨gb290,0,none⟩ (.slice Ao9 t283.length co9)).setCell ⟨gb291,0,none⟩ (.slice Ao15 t286.length co15))=w20 at n0_ n1_ n2_ n3_ n4_ n5_ n6_ n7_ n8_ ⊢
 have HO285:=n0_
 have HO288:=n1_
 have BK281:=n2_
 have BK282:=n3_
 have BK290:=n4_
 have BK291:=n5_
 have HI0:=n6_
 have HK:=n7_
 have HB:=n8_
 clear n0_ n1_ n2_ n3_ n4_ n5_ n6_ n7_ n8_
 replace HO285:=am (Kd.jV HO285.out)
 replace HO288:=am (Kd.jV HO288.out)
 replace BK281:=am (jf BK281.out)
 replace BK282:=am (jf BK282.out)
 replace BK290:=am (jf BK290.out)
 replace BK291:=am (jf BK291.out)
 replace HI0:=am (jk.drew HI0.out)
 replace HK:=am (jaa HK.out)
 replace HB:=am (jq HB.out)
 refine jVb (n:=8) (S:=fun w'=>w'.cell? ⟨gb290,0,none⟩=some (.slice Ao9 t283.length co9)∧w'.cell? ⟨gb291,0,none⟩=some (.slice Ao15 t286.length co15)) (ds:=[]) #[false,false,false,false,false,false,false,false] (by kernel_rfl) rfl rfl ⟨(jH BK290.out 0).trans rfl,(jH BK291.out 0).trans rfl⟩ (fun hHeld=>?_);refine jxb jEa.tab2 jEa.bits2 (fun HT_ HW_=>?_)
 generalize w20.drew=w21 at HO285 HO288 BK281 BK282 BK290 BK291 HI0 HK HB hHeld ⊢
 refine pq (i:=2) (N:=some 14) #[false,false,true,false,false,false,false,false] ?_
 refine jAb (i:=0) (N:=some 12) (v:=?_) (a':=?_) #[true,false,true,false,false,false,false,false] rfl rfl (jWa HT_.out HW_.out (by kernel_rfl)) (fun _ _ _ h=>h) (Or.inl ⟨by rfl,?_⟩) hHeld ?_ ?_
 rotate_left
 ·rintro w' ⟨s0,s1⟩
  go_simp
  with_reducible rfl
 rotate_left
 ·exact sa
 refine jAb (i:=1) (N:=some 13) (v:=?_) (a':=?_) #[true,true,true,false,false,false,false,false] rfl rfl (jWa HT_.out HW_.out (by kernel_rfl)) (fun _ _ _ h=>h) (Or.inl ⟨by rfl,?_⟩) hHeld ?_ ?_
 rotate_left
 ·rintro w' ⟨s0,s1⟩
  go_simp
  with_reducible rfl
 rotate_left
 ·exact sa
 refine jAb (i:=3) (N:=some 15) (v:=?_) (a':=?_) #[true,true,true,true,false,false,false,false] rfl rfl (jWa HT_.out HW_.out (by kernel_rfl)) (fun _ _ _ h=>h) (Or.inl ⟨by rfl,?_⟩) hHeld ?_ ?_
 rotate_left
 ·rintro w' ⟨s0,s1⟩
  go_simp
  with_reducible rfl
 rotate_left
 ·exact sa
 refine one_ (i:=4) (N:=some 16) #[true,true,true,true,true,false,false,false] rfl rfl (jeb HT_.out (by kernel_rfl)) (by decide) (fun K hK=>?_)
 refine goes_ Tryd.func50 (by kernel_rfl) rfl #[.pointer (some ⟨g,0,none⟩), .agg #[.slice Ao15 t286.length co15]] (by rfl) rfl rfl (aq) ?_
 with_reducible refine (jGb.calls k g s0_0 t289 _ _ t286 t292 t293 w0 _ ?side1 ?side2 ?side3 ?side4 A3.out).mono ?_
 (case side1=>exact Y78)
 (case side2=>exact Y131)
 (case side3=>exact Kd.jUb (jk.apart (show jk w0 _ g s0_0 t289 from Y78) (rq HO288.out) (by decide)) (fun _ h_=>h_.2))
 (case side4=>exact (Kd.jC HO288.out).2.1)
 rintro e w22 ⟨rfl,hi,hb,hk⟩
 refine ⟨_,rfl,?_⟩
 replace BK281:=am (jd.blk hk (g':=gb281) (o:=.cells #[.slice none 0 0] 25 (0,0)) (kq BK281.out) NB281_0.out (by simp))
 replace BK282:=am (jd.blk hk (g':=gb282) (o:=.cells #[.slice none 0 0] 28 (0,0)) (kq BK282.out) NB282_0.out (by simp))
 replace HO285:=am (Kd.jI (Kd.jqa (jk.apart (show jk w0 _ g s0_0 t289 from Y78) (rq HO285.out) (by decide)) hk (fun _ h=>h.2)) (fun _ h=>h.1))
 replace HO288:=am (Kd.jI (Kd.jqa (jk.apart (show jk w0 _ g s0_0 t289 from Y78) (rq HO288.out) (by decide)) hk (fun _ h=>h.2)) (fun _ h=>h.1))
 replace BK290:=am (jd.blk hk (g':=gb290) (o:=.cells #[.slice Ao9 t283.length co9] 25 (0,0)) (kq BK290.out) NB290_0.out (by simp))
 replace BK291:=am (jd.blk hk (g':=gb291) (o:=.cells #[.slice Ao15 t286.length co15] 28 (0,0)) (kq BK291.out) NB291_0.out (by simp))
 replace HK:=am (jd.trans (Y130) hk (.inl rfl))
 replace HB:=am (hb)
 replace HI0:=am (hi)
 (try clear hb)
 (try clear hb2)
 (try clear hk)
 (try clear hi)
 refine hK.out _ _ ⟨(jH BK290.out 0).trans rfl,(jH BK291.out 0).trans rfl⟩ (fun hHeld=>?_)
 clear hK K
 refine jZb (a':=?_) ?_ ?_
 rotate_left
 ·show Act.put _ (some 16) _=_
  simp only [Act.put,List.setIfInBounds_toArray,List.set_cons_zero,List.set_cons_succ,jwb,jBb]
  rfl
 refine one_ (i:=5) (N:=none) #[true,true,true,true,true,true,false,false] rfl rfl (jeb HT_.out (by kernel_rfl)) (by decide) (fun K hK=>?_)
 have hs23:w22.cell? ⟨gb281,0,none⟩=some (.slice none 0 0):=(jH BK281.out 0).trans rfl
 have hfs23:=jb BK281.out 0
 have hns23_1:=NB282_281.out
 have hns23_2:=NB290_281.out
 have hns23_3:=NB291_281.out
 have hms23_1:=NB281_282.out
 have hms23_2:=NB281_290.out
 have hms23_3:=NB281_291.out
 refine jcc (w1:=?_) (by rfl) rfl ?_ ?_
 rotate_left
 ·go_simp
  rfl
 refine hK.out _ _ ⟨((cell_far (p:=⟨gb281,_,none⟩) NB290_281.out _).trans (hHeld.1)),((cell_far (p:=⟨gb281,_,none⟩) NB291_281.out _).trans (hHeld.2))⟩ (fun hHeld=>?_)
 clear hK K
 refine one_ (i:=6) (N:=none) #[true,true,true,true,true,true,true,false] rfl rfl (jeb HT_.out (by kernel_rfl)) (by decide) (fun K hK=>?_)
 have hs24:w22.cell? ⟨gb282,0,none⟩=some (.slice none 0 0):=(jH BK282.out 0).trans rfl
 have hfs24:=jb BK282.out 0
 have hns24_0:=NB281_282.out
 have hns24_2:=NB290_282.out
 have hns24_3:=NB291_282.out
 have hms24_0:=NB282_281.out
 have hms24_2:=NB282_290.out
 have hms24_3:=NB282_291.out
 refine jcc (w1:=?_) (by rfl) rfl ?_ ?_
 rotate_left
 ·go_simp
  rfl
 refine hK.out _ _ ⟨((cell_far (p:=⟨gb282,_,none⟩) NB290_282.out _).trans (hHeld.1)),((cell_far (p:=⟨gb282,_,none⟩) NB291_282.out _).trans (hHeld.2))⟩ (fun hHeld=>?_)
 clear hK K
 refine pq (i:=7) (N:=some 4) #[true,true,true,true,true,true,true,true] ?_
 refine jqc (jbc HT_.out (by kernel_rfl)) ?_
 try go_wp2
 refine bodyPost_ret (results_list (rs:=[.cell 2 25, .cell 3 28, .tmp 4]) rfl (by simp) (.cell gb281 25 #[.slice Ao9 t283.length co9] (0,0) _ rfl (by (with_reducible repeat (first | refine jg ?_ _ | refine jf ?_ | refine jh ?_ _));refine jT ?_ NB281_282.out _;(with_reducible repeat (first | refine jg ?_ _ | refine jf ?_ | refine jh ?_ _));refine jya (cs:=#[.slice none 0 0]) ?_ 0 _ rfl;(with_reducible repeat (first | refine jg ?_ _ | refine jf ?_ | refine jh ?_ _));exact BK281.out) Tryd.underlying25 rfl (by kernel_rfl) (.cell gb282 28 #[.slice Ao15 t286.length co15] (0,0) _ rfl (by (with_reducible repeat (first | refine jg ?_ _ | refine jf ?_ | refine jh ?_ _));refine jya (cs:=#[.slice none 0 0]) ?_ 0 _ rfl;(with_reducible repeat (first | refine jg ?_ _ | refine jf ?_ | refine jh ?_ _));refine jT ?_ NB282_281.out _;(with_reducible repeat (first | refine jg ?_ _ | refine jf ?_ | refine jh ?_ _));exact BK282.out) Tryd.underlying28 rfl (by kernel_rfl) (.tmp .nil)))) rfl ?_
 exact ⟨_,_,Y1,by (with_reducible repeat (first | apply Kd.jX | apply Kd.jba | apply Kd.jV));exact Kd.jI (Kd.jwa (p:=⟨gb282,0,none⟩) (Kd.jwa (p:=⟨gb281,0,none⟩) (Kd.jP (Kd.jP HO285.out BK281.out (by decide)) BK282.out (by decide)) (fun _ hk=>hk.1.2) (.slice Ao9 t283.length co9)) (fun _ hk=>hk.2) (.slice Ao15 t286.length co15)) (fun _ hk=>trivial),by (with_reducible repeat (first | apply Kd.jX | apply Kd.jba | apply Kd.jV));exact Kd.jI (Kd.jwa (p:=⟨gb282,0,none⟩) (Kd.jwa (p:=⟨gb281,0,none⟩) (Kd.jP (Kd.jP HO288.out BK281.out (by decide)) BK282.out (by decide)) (fun _ hk=>hk.1.2) (.slice Ao9 t283.length co9)) (fun _ hk=>hk.2) (.slice Ao15 t286.length co15)) (fun _ hk=>trivial),Y78,Y131,Y130⟩
def jsb.f (l0 : List Int) : Option (List Int × Int) := if (l0.length : Int) > 2000 then (if 2000 ≤ (l0.length : Int) then (some (l0.take 2000, 0)) else (none)) else (some (l0, 0))
set_option maxHeartbeats 8000000 in
set_option maxRecDepth 100000 in
theorem jsb.calls (A0 : Option Addr) (c0 : Nat) (l0 : List Int) (r1 : List Int) (r2 : Int) (w0 w : World) (hB : Below w0.heap.size w0 w) (hr0 : Kd.C (Kd.int .u8) w0 A0 l0.length l0) (hc0 : l0.length ≤ c0) (h : jsb.f l0 = some (r1, r2)) :
  Calls Tryd.prog 27 #[.slice A0 l0.length c0] w fun e w'=>∃ g_:Nat,e=.returned (.pointer (some ⟨g_,0,none⟩))∧jk w0 w' g_ r1 r2∧Below w0.heap.size w0 w'∧Below w.heap.size w w':=by
 have hu84:=Tryd.underlying84
 have HR0:=am hr0
 have HC0:=am hc0
 clear hr0 hc0
 have HBW:=am (Below.refl w.heap.size w)
 have HW0:=am hB.size
 have HB:=am hB
 clear hB
 have H:(if (l0.length:Int) > 2000 then (if 2000≤(l0.length:Int) then (some (l0.take 2000,0)) else (none)) else (some (l0,0)))=some (r1,r2):=h
 clear h
 by_cases c2:(l0.length:Int) > 2000
 ·rw [if_pos c2] at H
  have c2b0:decide (2000<(l0.length:Int))=true:=dzT c2
  have c2b1:decide (2000<l0.length)=true:=dzT (by omega)
  clear c2
  by_cases c3:2000≤(l0.length:Int)
  ·rw [if_pos c3] at H
   have c3b0:=ezT c3
   have c3b1:decide (2000≤(l0.length:Int))=true:=dzT c3
   clear c3
   simp only [Option.some.injEq,Prod.mk.injEq] at H
   obtain ⟨rfl,rfl⟩:=H
   obtain ⟨i04,hi04,_,hsz4,_⟩:=info_parts info5
   obtain ⟨hcut4,hA4,hC4⟩:=print_take_of (P:=Tryd.prog) (Value.int .u8) 0 22 5 .i64 Tryd.underlying22 hi04 hsz4 A0 c0 l0 2000 (by omega) (ozD (uq)) HC0.out
   have HR294:=am (Kd.C_of_reads (h1:=fun _=>rfl) (hA4 _ (Kd.reads_of_C HR0.out)))
   have HC294:=am hC4
   clear hA4 hC4 hi04 hsz4
   go_enter Tryd.func27,Tryd.ntmps27
   go_wp2_with (first |((with_reducible refine jD (N:=10) rfl ?_);refine bE (N:=10) (cs:=#[.slice A0 (l0.take 2000).length c0, .int .i64 0]) (t:=84) ?_;intro gb295 hg w5 hbox hb;have BK295:=am (hbox);have GW295:=am ((Y110:w.heap.size≤gb295));have GE295:=am ((Nat.le_trans HW0.out (Y110:w.heap.size≤gb295):w0.heap.size≤gb295));replace HBW:=am (je HBW.out hb);replace HB:=am (je (bq) hb);clear hb hbox hg))
   go_ret
   exact ⟨_,rfl,(show jk w0 _ gb295 (l0.take 2000) 0 from ⟨_,_,kq BK295.out,GE295.out,HR294.out⟩),by repeat (first |(with_reducible first | exact HB.out | apply jv | apply jo | apply jq | refine jl ?_ GE295.out) | exact HB.out),by repeat (first |(with_reducible first | exact HBW.out | apply jv | apply jo | apply jq | refine jl ?_ GW295.out) | exact HBW.out)⟩
  ·rw [if_neg c3] at H
   exact absurd H (by simp)
 ·rw [if_neg c2] at H
  have c2b0:decide (2000<(l0.length:Int))=false:=dzF c2
  have c2b1:decide (2000<l0.length)=false:=dzF (by omega)
  clear c2
  simp only [Option.some.injEq,Prod.mk.injEq] at H
  obtain ⟨rfl,rfl⟩:=H
  go_enter Tryd.func27,Tryd.ntmps27
  go_wp2_with (first |((with_reducible refine jD (N:=10) rfl ?_);refine bE (N:=10) (cs:=#[.slice A0 l0.length c0, .int .i64 0]) (t:=84) ?_;intro gb296 hg w6 hbox hb;have BK296:=am (hbox);have GW296:=am ((Y110:w.heap.size≤gb296));have GE296:=am ((Nat.le_trans HW0.out (Y110:w.heap.size≤gb296):w0.heap.size≤gb296));replace HBW:=am (je HBW.out hb);replace HB:=am (je (bq) hb);clear hb hbox hg))
  go_ret
  exact ⟨_,rfl,(show jk w0 _ gb296 l0 0 from ⟨_,_,kq BK296.out,GE296.out,HR0.out⟩),by repeat (first |(with_reducible first | exact HB.out | apply jv | apply jo | apply jq | refine jl ?_ GE296.out) | exact HB.out),by repeat (first |(with_reducible first | exact HBW.out | apply jv | apply jo | apply jq | refine jl ?_ GW296.out) | exact HBW.out)⟩
def jla.f (a0 : Int) (a1 : Int) (a2 : Int) : Option (Bool) := if a0 ≥ a1 then (some (decide (a0 ≤ a2))) else (some false)
set_option maxHeartbeats 8000000 in
set_option maxRecDepth 100000 in
theorem jla.calls (a0 : Int) (a1 : Int) (a2 : Int) (r : Bool) (w : World) (h : jla.f a0 a1 a2 = some r) :
  Calls Tryd.prog 60 #[.int .i64 a0, .int .i64 a1, .int .i64 a2] w fun e w'=>e=.returned (.bool r)∧jvb w w':=by
 have H:(if a0≥a1 then (some (decide (a0≤a2))) else (some false))=some r:=h
 clear h
 by_cases c4:a0≥a1
 ·rw [if_pos c4] at H
  have c4b0:decide (a1≤a0)=true:=dzT c4
  clear c4
  obtain rfl:=Option.some.inj H
  go_enter Tryd.func60,Tryd.ntmps60
  go_wp2
  go_ret
  exact ⟨sq,Y7⟩
 ·rw [if_neg c4] at H
  have c4b0:decide (a1≤a0)=false:=dzF c4
  clear c4
  obtain rfl:=Option.some.inj H
  go_enter Tryd.func60,Tryd.ntmps60
  go_wp2
  go_ret
  exact ⟨sq,Y7⟩
def jjb.f (l0_0 : List (S66)) (a1 : Int) : Option (Bool) := (jla.f a1 0 (wrap64 ((l0_0.length : Int) - 1))).bind fun t311 => (some t311)
set_option maxHeartbeats 8000000 in
set_option maxRecDepth 100000 in
theorem jjb.calls (A0_0 : Option Addr) (c0_0 : Nat) (l0_0 : List (S66)) (a1 : Int) (r : Bool) (w : World) (hr0_0 : Kd.C k66 w A0_0 l0_0.length l0_0) (hc0_0 : l0_0.length ≤ c0_0) (h : jjb.f l0_0 a1 = some r) :
  Calls Tryd.prog 35 #[.agg #[.slice A0_0 l0_0.length c0_0], .int .i64 a1] w fun e w'=>e=.returned (.bool r)∧Below w.heap.size w w':=by
 have hu28:=Tryd.underlying28
 have HR0_0:=am hr0_0
 have HC0_0:=am hc0_0
 clear hr0_0 hc0_0
 have HB:=am (Below.refl w.heap.size w)
 have H:((jla.f a1 0 (wrap64 ((l0_0.length:Int) - 1))).bind fun t311=>(some t311))=some r:=h
 clear h
 replace H:=bzS H
 obtain ⟨t311,A30,H⟩:=H
 replace H:(some t311)=some r:=H
 have A3:=am A30
 clear A30
 obtain rfl:=Option.some.inj H
 go_enter Tryd.func35,Tryd.ntmps35
 go_wp2_with (first |((with_reducible refine jD (N:=2) rfl ?_);refine bE (N:=2) (cs:=#[.slice A0_0 l0_0.length c0_0]) (t:=28) ?_;intro gb310 hg w4 hbox hb;have BK310:=am (hbox);have GW310:=am ((Y0:w.heap.size≤gb310));have GE310:=am ((Y0:w.heap.size≤gb310));replace HB:=am (je (bq) hb);clear hb hbox hg;have hcz5_0:=bc0 BK310.out;have hfz5_0:=jb BK310.out 0) |((with_reducible refine jw (f:=60) rfl ?_);refine gL (some 10) Tryd.func60 #[.int .i64 a1, .int .i64 0, .int .i64 (wrap64 ((l0_0.length:Int) - 1))] ?_;(with_reducible refine (jla.calls a1 0 (wrap64 ((l0_0.length:Int) - 1)) t311 _ A3.out).mono ?_);rintro e w' ⟨rfl,⟨nd,rfl⟩⟩;refine ⟨_,rfl,?_⟩))
 go_ret
 exact ⟨Y1,by repeat (first |(with_reducible first | exact HB.out | apply jv | apply jo | apply jq | refine jl ?_ GE310.out) | exact HB.out)⟩
def jZa.f (l0_0 : List (S99)) (a1 : Int) : Option (Bool) := (jla.f a1 0 (wrap64 ((l0_0.length : Int) - 1))).bind fun t313 => (some t313)
set_option maxHeartbeats 8000000 in
set_option maxRecDepth 100000 in
theorem jZa.calls (A0_0 : Option Addr) (c0_0 : Nat) (l0_0 : List (S99)) (a1 : Int) (r : Bool) (w : World) (hr0_0 : Kd.C k99 w A0_0 l0_0.length l0_0) (hc0_0 : l0_0.length ≤ c0_0) (h : jZa.f l0_0 a1 = some r) :
  Calls Tryd.prog 74 #[.agg #[.slice A0_0 l0_0.length c0_0], .int .i64 a1] w fun e w'=>e=.returned (.bool r)∧Below w.heap.size w w':=by
 have hu25:=Tryd.underlying25
 have HR0_0:=am hr0_0
 have HC0_0:=am hc0_0
 clear hr0_0 hc0_0
 have HB:=am (Below.refl w.heap.size w)
 have H:((jla.f a1 0 (wrap64 ((l0_0.length:Int) - 1))).bind fun t313=>(some t313))=some r:=h
 clear h
 replace H:=bzS H
 obtain ⟨t313,A30,H⟩:=H
 replace H:(some t313)=some r:=H
 have A3:=am A30
 clear A30
 obtain rfl:=Option.some.inj H
 go_enter Tryd.func74,Tryd.ntmps74
 go_wp2_with (first |((with_reducible refine jD (N:=2) rfl ?_);refine bE (N:=2) (cs:=#[.slice A0_0 l0_0.length c0_0]) (t:=25) ?_;intro gb312 hg w4 hbox hb;have BK312:=am (hbox);have GW312:=am ((Y0:w.heap.size≤gb312));have GE312:=am ((Y0:w.heap.size≤gb312));replace HB:=am (je (bq) hb);clear hb hbox hg;have hcz5_0:=bc0 BK312.out;have hfz5_0:=jb BK312.out 0) |((with_reducible refine jw (f:=60) rfl ?_);refine gL (some 10) Tryd.func60 #[.int .i64 a1, .int .i64 0, .int .i64 (wrap64 ((l0_0.length:Int) - 1))] ?_;(with_reducible refine (jla.calls a1 0 (wrap64 ((l0_0.length:Int) - 1)) t313 _ A3.out).mono ?_);rintro e w' ⟨rfl,⟨nd,rfl⟩⟩;refine ⟨_,rfl,?_⟩))
 go_ret
 exact ⟨Y1,by repeat (first |(with_reducible first | exact HB.out | apply jv | apply jo | apply jq | refine jl ?_ GE312.out) | exact HB.out)⟩
def jub.f (a0 : Int) : Option (Bool) := (jla.f a0 0 99).bind fun t314 => (some t314)
set_option maxHeartbeats 8000000 in
set_option maxRecDepth 100000 in
theorem jub.calls (a0 : Int) (r : Bool) (w : World) (h : jub.f a0 = some r) :
  Calls Tryd.prog 75 #[.int .i64 a0] w fun e w'=>e=.returned (.bool r)∧jvb w w':=by
 have H:((jla.f a0 0 99).bind fun t314=>(some t314))=some r:=h
 clear h
 replace H:=bzS H
 obtain ⟨t314,A20,H⟩:=H
 replace H:(some t314)=some r:=H
 have A2:=am A20
 clear A20
 obtain rfl:=Option.some.inj H
 go_enter Tryd.func75,Tryd.ntmps75
 go_wp2_with (first |((with_reducible refine jw (f:=60) rfl ?_);refine gL (some 4) Tryd.func60 #[.int .i64 a0, .int .i64 0, .int .i64 99] ?_;(with_reducible refine (jla.calls a0 0 99 t314 _ A2.out).mono ?_);rintro e w' ⟨rfl,⟨nd,rfl⟩⟩;refine ⟨_,rfl,?_⟩))
 go_ret
 exact ⟨sq,Y7⟩
def jCa.l0 : Nat → ByteArray → Int → Int → Option (Bool)
 | 0,_,_,_=>none
 | k+1,x0,x5,x6=>if x6<x5 then (if 0≤x6 then (if x6<(x0.size:Int) then (if (bt x0 x6)<97 then (some false) else (if (bt x0 x6) > 122 then (some false) else (jCa.l0 k x0 x5 (wrap64 (x6+1))))) else (none)) else (none)) else ((jla.f (x0.size:Int) 1 6).bind fun t320=>(some t320))
def jCa.f (k : Nat) (a0 : ByteArray) : Option (Bool) := jCa.l0 k a0 (a0.size : Int) 0
set_option maxHeartbeats 8000000 in
set_option maxRecDepth 100000 in
theorem jCa.calls (k : Nat) (a0 : ByteArray) (r : Bool) (w : World) (h : jCa.f k a0 = some r) :
  Calls Tryd.prog 91 #[.string a0] w fun e w'=>e=.returned (.bool r)∧jvb w w':=by
 have H:(jCa.l0 k a0 (a0.size:Int) 0)=some r:=h
 clear h
 have H':=am H
 clear H
 go_enter Tryd.func91,Tryd.ntmps91
 go_wp2
 go_loopg [6] k (fun kq v6 w'=>∃ (x6_1:Int),v6=.int .i64 x6_1∧jB (jCa.l0 kq a0 (a0.size:Int) x6_1=some r)∧jB (kq≤k)∧jvb w w')
 case atStart=>exact ⟨(0),(sq),H',⟨Nat.le_refl _⟩,Y7⟩
 case round =>
  clear H'
  obtain ⟨x6_1,rfl,HA,HK1,⟨m1,rfl⟩⟩:=hrel
  cases gk with
  | zero=>exact absurd HA.out (by simp [jCa.l0])
  | succ k1 =>
   have H:=HA.out
   clear HA
   simp only [jCa.l0] at H
   by_cases c2:x6_1<(a0.size:Int)
   ·rw [if_pos c2] at H
    have c2b0:decide (x6_1<(a0.size:Int))=true:=dzT c2
    clear c2
    by_cases c3:0≤x6_1
    ·rw [if_pos c3] at H
     have c3b0:decide (0≤x6_1)=true:=dzT c3
     clear c3
     by_cases c4:x6_1<(a0.size:Int)
     ·rw [if_pos c4] at H
      have c4b0:decide (x6_1<(a0.size:Int))=true:=dzT c4
      clear c4
      by_cases c6:(bt a0 x6_1)<97
      ·rw [if_pos c6] at H
       have c6b0:decide ((bt a0 x6_1)<97)=true:=dzT c6
       clear c6
       obtain rfl:=Option.some.inj H
       have p5:0≤(x6_1:Int):=ozD (uq)
       have q5:x6_1<(a0.size:Int):=ozD (uq)
       have hx5:=bt_at a0 x6_1
       replace p5:=ezT p5
       replace q5:=ezT q5
       go_wp2
       go_ret
       exact ⟨sq,Y7⟩
      ·rw [if_neg c6] at H
       have c6b0:decide ((bt a0 x6_1)<97)=false:=dzF c6
       clear c6
       by_cases c8:(bt a0 x6_1) > 122
       ·rw [if_pos c8] at H
        have c8b0:decide (122<(bt a0 x6_1))=true:=dzT c8
        clear c8
        obtain rfl:=Option.some.inj H
        have p5:0≤(x6_1:Int):=ozD (uq)
        have q5:x6_1<(a0.size:Int):=ozD (uq)
        have hx5:=bt_at a0 x6_1
        replace p5:=ezT p5
        replace q5:=ezT q5
        have p7:0≤(x6_1:Int):=ozD (uq)
        have q7:x6_1<(a0.size:Int):=ozD (uq)
        have hx7:=bt_at a0 x6_1
        replace p7:=ezT p7
        replace q7:=ezT q7
        go_wp2
        go_ret
        exact ⟨sq,Y7⟩
       ·rw [if_neg c8] at H
        have c8b0:decide (122<(bt a0 x6_1))=false:=dzF c8
        clear c8
        have H':=am H
        clear H
        have p5:0≤(x6_1:Int):=ozD (uq)
        have q5:x6_1<(a0.size:Int):=ozD (uq)
        have hx5:=bt_at a0 x6_1
        replace p5:=ezT p5
        replace q5:=ezT q5
        have p7:0≤(x6_1:Int):=ozD (uq)
        have q7:x6_1<(a0.size:Int):=ozD (uq)
        have hx7:=bt_at a0 x6_1
        replace p7:=ezT p7
        replace q7:=ezT q7
        go_wp2
        go_roundg k1
        case measure=>have:=HK1.out;omega
        case rel=>exact ⟨(wrap64 (x6_1+1)),(sq),H',⟨by have:=HK1.out;omega⟩,Y7⟩
     ·rw [if_neg c4] at H
      exact absurd H (by simp)
    ·rw [if_neg c3] at H
     exact absurd H (by simp)
   ·rw [if_neg c2] at H
    have c2b0:decide (x6_1<(a0.size:Int))=false:=dzF c2
    clear c2
    replace H:=bzS H
    obtain ⟨t320,A90,H⟩:=H
    replace H:(some t320)=some r:=H
    have A9:=am A90
    clear A90
    obtain rfl:=Option.some.inj H
    go_wp2_with (first |((with_reducible refine jw (f:=60) rfl ?_);refine gL (some 22) Tryd.func60 #[.int .i64 (a0.size:Int), .int .i64 1, .int .i64 6] ?_;(with_reducible refine (jla.calls (a0.size:Int) 1 6 t320 _ A9.out).mono ?_);rintro e w' ⟨rfl,⟨nd,rfl⟩⟩;refine ⟨_,rfl,?_⟩))
    go_ret
    exact ⟨sq,Y7⟩

theorem impl_named1_calls (a b : ByteArray) (p : Int) (B : Nat) (w : World) (hB : B < w.heap.size) (hc : w.cell? ⟨B, 0, none⟩ = some (.string b)) :
  Calls Tryd.prog 97 #[.agg #[.string a, .int .i64 p], .pointer (some ⟨B,0,none⟩)] w fun e w'=>e=.returned (.bool (a.toList == b.toList))∧Below w.heap.size w w':=by
 have hne:B≠w.heap.size:=by omega
 go_enter Tryd.func97,Tryd.ntmps97
 go_wp2
 go_ret
 exact ⟨rfl,(Below.refl _ _).alloc (Nat.le_refl _) _⟩
set_option maxHeartbeats 8000000 in
set_option maxRecDepth 100000 in
theorem impl_named_idx (A_ : Option Addr) (c_ : Nat) (l : List (S99)) (B0_ : Nat) (p : S99 → Option Bool) (r : Int) (w : World) (hr : Kd.C k99 w A_ l.length l) (h : idxFrom p l 0 = some r)
  (hp:∀ W,Below w.heap.size w W→∀ (x:S99) (b:Bool),p x=some b→Calls Tryd.prog 97 #[.agg #[.string x.f0, .int .i64 x.f1], .pointer (some ⟨B0_,0,none⟩)] W fun e w'=>e=.returned (.bool b)∧Below W.heap.size W w') :
  Calls Tryd.prog 96 #[.slice A_ l.length c_, .func (.func 97) #[] #[.pointer (some ⟨B0_,0,none⟩)]] w fun e w'=>e=.returned (.int .i64 r)∧Below w.heap.size w w':=by
 have hm:l.length≤9223372036854775807:=Kd.C_max hr
 have HR:=am hr
 have HP:=am hp
 have H0:=am h
 clear hr hp h
 go_enter Tryd.func96,Tryd.ntmps96
 go_wp2
 go_loopw [5,8] (fun i5 i8 wr=>∃ k:Nat,k≤l.length∧i8=.int .i64 k∧jB (idxFrom p (l.drop k) k=some r)∧Below w.heap.size w wr) (fun _ i8 _=>l.length - (intOf i8).toNat)
 case atStart=>exact ⟨0,Nat.zero_le _,rfl,H0,Below.refl _ _⟩
 case round =>
  clear H0
  obtain ⟨k,hk,rfl,HA,hb⟩:=hrel
  by_cases hlt:k<l.length
  ·have HB:=am (idxFrom_step hlt HA.out)
   clear HA
   obtain ⟨ad,rfl,hx0,hx1⟩:=at_T99 HR.out (k:Int) (by omega) (by omega)
   have hrd:jL l (k:Int)=l[k]:=by simp [jL,List.getD_eq_getElem?_getD,hlt]
   replace hx0:=jS hb hx0
   replace hx1:=jS hb hx1
   rw [hrd] at hx0 hx1
   simp only [Int.toNat_natCast] at hx0 hx1
   clear hrd
   obtain ⟨b,hb1,hb0⟩:=HB.out
   have HQ:=am hb1
   clear hb1 HB
   cases b with
   | true =>
    have HZ:=am (by simpa using hb0:(k:Int)=r)
    clear hb0
    go_wp2_with (go_at_call 97;refine (HP.out _ hb _ _ HQ.out).mono ?_;rintro e w' ⟨rfl,hb2⟩)
    go_ret
    exact ⟨by rw [← HZ.out];rfl,jEb hb hb.size hb2⟩
   | false =>
    have HZ:=am (by simpa using hb0:idxFrom p (l.drop (k+1)) (k+1)=some r)
    clear hb0
    go_wp2_with (go_at_call 97;refine (HP.out _ hb _ _ HQ.out).mono ?_;rintro e w' ⟨rfl,hb2⟩)
    go_roundw
    case rel=>exact ⟨k+1,hlt,by go_num,HZ,jEb hb hb.size hb2⟩
    case measure=>simp [intOf];omega
  ·have HZ:=am (idxFrom_end (by omega) HA.out)
   clear HA
   go_wp2
   go_ret
   exact ⟨by rw [HZ.out];rfl,hb⟩
def jIa.f (l0_0 : List S99) (a1 : ByteArray) : Option Int := idxFrom (fun x : S99 => some (x.f0.toList == a1.toList)) l0_0 0
set_option maxHeartbeats 8000000 in
set_option maxRecDepth 100000 in
theorem jIa.calls (A0_0 : Option Addr) (c0_0 : Nat) (l0_0 : List (S99)) (a1 : ByteArray) (r : Int) (w : World) (hr0_0 : Kd.C k99 w A0_0 l0_0.length l0_0) (hc0_0 : l0_0.length ≤ c0_0) (h : jIa.f l0_0 a1 = some r) :
  Calls Tryd.prog 92 #[.agg #[.slice A0_0 l0_0.length c0_0], .string a1] w fun e w'=>e=.returned (.int .i64 r)∧Below w.heap.size w w':=by
 have hu25:=Tryd.underlying25
 have HF:=am (fun W (hb:Below w.heap.size w W) (B:Nat) (hB:B<W.heap.size) (hc:W.cell? ⟨B,0,none⟩=some (.string a1))=>impl_named_idx A0_0 c0_0 l0_0 B (fun x:S99=>some (x.f0.toList == a1.toList)) r W (Kd.jU hr0_0 hb) h (fun W' hb' x b hx=>by
  obtain rfl:=Option.some.inj hx
  exact impl_named1_calls x.f0 a1 x.f1 B W' (Nat.lt_of_lt_of_le hB hb'.size) (jS hb' hc)))
 clear h hr0_0
 go_enter Tryd.func92,Tryd.ntmps92
 go_wp2_with (go_at_call 96;refine (HF.out _ (((Below.refl _ _).alloc (Nat.le_refl _) _).alloc (by simp) _) _ (by simp) (by simp)).mono ?_;rintro e w' ⟨rfl,hb2⟩)
 go_ret
 exact ⟨rfl,(((Below.refl _ _).alloc (Nat.le_refl _) _).alloc (by simp) _).trans (hb2.mono (by simp;omega))⟩
mutual
def jG.l0 : Nat → List (S99) → Int → Int → List (S99) → Option (Bool)
 | 0,_,_,_,_=>none
 | k+1,x6,x7,x8,x322000=>if x8<x7 then (if 0≤x8 then (if x8<(x6.length:Int) then ((jCa.f k ((jL x6 x8).f0)).bind fun t325=>(if t325=true then ((jIa.f x322000 ((jL x6 x8).f0)).bind fun t326=>(if t326=x8 then (if x8=0 then (if ((jL x6 x8).f1)=(-1) then (if x8 > 0 then ((jla.f ((jL x6 x8).f1) 0 (wrap64 (x8 - 1))).bind fun t327=>(jG.j1 k x6 x7 x8 (!t327) x322000)) else (jG.j1 k x6 x7 x8 false x322000)) else (jG.j1 k x6 x7 x8 true x322000)) else (if x8 > 0 then ((jla.f ((jL x6 x8).f1) 0 (wrap64 (x8 - 1))).bind fun t328=>(jG.j1 k x6 x7 x8 (!t328) x322000)) else (jG.j1 k x6 x7 x8 false x322000))) else (jG.j1 k x6 x7 x8 true x322000))) else (jG.j1 k x6 x7 x8 true x322000))) else (none)) else (none)) else ((jla.f (x322000.length:Int) 1 8).bind fun t322=>(some t322))
def jG.j1 : Nat → List (S99) → Int → Int → Bool → List (S99) → Option (Bool)
 | 0,_,_,_,_,_=>none
 | k+1,x6,x7,x8,x45,x322000=>if x45=true then (some false) else (jG.l0 k x6 x7 (wrap64 (x8+1)) x322000)
end
def jG.f (k : Nat) (l0_0 : List (S99)) : Option (Bool) := jG.l0 k l0_0 (l0_0.length : Int) 0 l0_0
set_option maxHeartbeats 8000000 in
set_option maxRecDepth 100000 in
theorem jG.calls (k : Nat) (A0_0 : Option Addr) (c0_0 : Nat) (l0_0 : List (S99)) (r : Bool) (w : World) (hr0_0 : Kd.C k99 w A0_0 l0_0.length l0_0) (hc0_0 : l0_0.length ≤ c0_0) (h : jG.f k l0_0 = some r) :
  Calls Tryd.prog 77 #[.agg #[.slice A0_0 l0_0.length c0_0]] w fun e w'=>e=.returned (.bool r)∧Below w.heap.size w w':=by
 have hu25:=Tryd.underlying25
 have hu99:=Tryd.underlying99
 have HR0_0:=am hr0_0
 have HC0_0:=am hc0_0
 clear hr0_0 hc0_0
 have HB:=am (Below.refl w.heap.size w)
 have H:(jG.l0 k l0_0 (l0_0.length:Int) 0 l0_0)=some r:=h
 clear h
 have H':=am H
 clear H
 go_enter Tryd.func77,Tryd.ntmps77
 go_wp2_with (first |((with_reducible refine jD (N:=1) rfl ?_);refine bE (N:=1) (cs:=#[.slice A0_0 l0_0.length c0_0]) (t:=25) ?_;intro gb321 hg w2 hbox hb;have BK321:=am (hbox);have GW321:=am ((Y0:w.heap.size≤gb321));have GE321:=am ((Y0:w.heap.size≤gb321));replace HB:=am (je (bq) hb);clear hb hbox hg;have hcz3_0:=bc0 BK321.out;have hfz3_0:=jb BK321.out 0))
 go_loopg [8] k (fun kq v8 w'=>∃ (x8_1:Int),v8=.int .i64 x8_1∧jB (jG.l0 kq l0_0 (l0_0.length:Int) x8_1 l0_0=some r)∧jB (kq≤k)∧jB (w'.heap[gb321]?=some (.cells #[(.slice A0_0 l0_0.length c0_0)] 25 (0,0)))∧jB (Below w.heap.size w w'))
 case atStart=>exact ⟨(0),(sq),H',⟨Nat.le_refl _⟩,⟨kq BK321.out⟩,⟨Y132⟩⟩
 case round =>
  clear H'
  try clear p2
  try clear hcz3_0
  try clear hfz3_0
  obtain ⟨x8_1,rfl,HA,HK1,BK321,HB⟩:=hrel
  cases gk with
  | zero=>exact absurd HA.out (by simp [jG.l0])
  | succ k1 =>
   have H:=HA.out
   clear HA
   simp only [jG.l0] at H
   by_cases c4:x8_1<(l0_0.length:Int)
   ·rw [if_pos c4] at H
    have c4b0:decide (x8_1<(l0_0.length:Int))=true:=dzT c4
    clear c4
    by_cases c5:0≤x8_1
    ·rw [if_pos c5] at H
     have c5b0:decide (0≤x8_1)=true:=dzT c5
     clear c5
     by_cases c6:x8_1<(l0_0.length:Int)
     ·rw [if_pos c6] at H
      have c6b0:decide (x8_1<(l0_0.length:Int))=true:=dzT c6
      clear c6
      have HC7:=am H
      clear H
      have p323:0≤(x8_1:Int):=ozD (uq)
      have q323:x8_1<(l0_0.length:Int):=ozD (uq)
      obtain ⟨ad323,e323,hx323_0,hx323_1⟩:=at_T99 HR0_0.out x8_1 p323 q323
      cases e323
      replace hx323_0:=cb HB.out hx323_0
      replace hx323_1:=cb HB.out hx323_1
      replace p323:=ezT p323
      replace q323:=ezT q323
      go_upto_region 4 with (first |((with_reducible refine jD (N:=4) rfl ?_);refine bE (N:=4) (cs:=#[.string (⟨#[]⟩:ByteArray), .int .i64 0]) (t:=99) ?_;intro gb324 hg w8 hbox hb;have BK324:=am (hbox);have GW324:=am ((Y173:w.heap.size≤gb324));have GE324:=am ((Y173:w.heap.size≤gb324));have NB321_324:=am ((by rw [hg];exact Nat.ne_of_lt (jda (g:=gb321) (o:=.cells #[.slice (some ad323) l0_0.length c0_0] 25 (0,0)) (kq BK321.out)):gb321≠gb324));have NB324_321:=am ((by rw [hg];exact Nat.ne_of_gt (jda (g:=gb321) (o:=.cells #[.slice (some ad323) l0_0.length c0_0] 25 (0,0)) (kq BK321.out)):gb324≠gb321));replace BK321:=am (jc (g:=gb321) (o:=.cells #[.slice (some ad323) l0_0.length c0_0] 25 (0,0)) (kq BK321.out) hb);replace HB:=am (je (Y132) hb);clear hb hbox hg;have hnb9:=NB324_321.out;have hnc9:=NB321_324.out;have hcz10_0:=bc0 BK324.out;have hcz10_1:=bc1 BK324.out;have hfz10_0:=jb BK324.out 0;have hfz10_1:=jb BK324.out 1))
      (try simp only [Act.put,List.setIfInBounds_toArray,List.set_cons_zero,List.set_cons_succ])
      go_cut [45] (fun v45 wc=>∃ (kq:Nat) (x45_6:Bool),v45=.bool x45_6∧jB (jG.j1 kq l0_0 (l0_0.length:Int) x8_1 x45_6 l0_0=some r)∧jB (kq≤k1)∧jB (wc.heap[gb321]?=some (.cells #[(.slice (some ad323) l0_0.length c0_0)] 25 (0,0)))∧jB (wc.heap[gb324]?=some (.cells #[.string ((jL l0_0 x8_1).f0), .int .i64 ((jL l0_0 x8_1).f1)] 99 (0,0)))∧jB (Below w.heap.size w wc))
      case first =>
       have H:=HC7.out
       clear HC7
       replace H:=bzS H
       obtain ⟨t325,A110,H⟩:=H
       replace H:(if t325=true then ((jIa.f l0_0 ((jL l0_0 x8_1).f0)).bind fun t326=>(if t326=x8_1 then (if x8_1=0 then (if ((jL l0_0 x8_1).f1)=(-1) then (if x8_1 > 0 then ((jla.f ((jL l0_0 x8_1).f1) 0 (wrap64 (x8_1 - 1))).bind fun t327=>(jG.j1 k1 l0_0 (l0_0.length:Int) x8_1 (!t327) l0_0)) else (jG.j1 k1 l0_0 (l0_0.length:Int) x8_1 false l0_0)) else (jG.j1 k1 l0_0 (l0_0.length:Int) x8_1 true l0_0)) else (if x8_1 > 0 then ((jla.f ((jL l0_0 x8_1).f1) 0 (wrap64 (x8_1 - 1))).bind fun t328=>(jG.j1 k1 l0_0 (l0_0.length:Int) x8_1 (!t328) l0_0)) else (jG.j1 k1 l0_0 (l0_0.length:Int) x8_1 false l0_0))) else (jG.j1 k1 l0_0 (l0_0.length:Int) x8_1 true l0_0))) else (jG.j1 k1 l0_0 (l0_0.length:Int) x8_1 true l0_0))=some r:=H
       have A11:=am A110
       clear A110
       by_cases c12:t325=true
       ·subst c12
        have H1:((jIa.f l0_0 ((jL l0_0 x8_1).f0)).bind fun t326=>(if t326=x8_1 then (if x8_1=0 then (if ((jL l0_0 x8_1).f1)=(-1) then (if x8_1 > 0 then ((jla.f ((jL l0_0 x8_1).f1) 0 (wrap64 (x8_1 - 1))).bind fun t327=>(jG.j1 k1 l0_0 (l0_0.length:Int) x8_1 (!t327) l0_0)) else (jG.j1 k1 l0_0 (l0_0.length:Int) x8_1 false l0_0)) else (jG.j1 k1 l0_0 (l0_0.length:Int) x8_1 true l0_0)) else (if x8_1 > 0 then ((jla.f ((jL l0_0 x8_1).f1) 0 (wrap64 (x8_1 - 1))).bind fun t328=>(jG.j1 k1 l0_0 (l0_0.length:Int) x8_1 (!t328) l0_0)) else (jG.j1 k1 l0_0 (l0_0.length:Int) x8_1 false l0_0))) else (jG.j1 k1 l0_0 (l0_0.length:Int) x8_1 true l0_0)))=some r:=by rw [if_pos rfl] at H;exact H
        clear H
        have H:=H1
        clear H1
        replace H:=bzS H
        obtain ⟨t326,A130,H⟩:=H
        replace H:(if t326=x8_1 then (if x8_1=0 then (if ((jL l0_0 x8_1).f1)=(-1) then (if x8_1 > 0 then ((jla.f ((jL l0_0 x8_1).f1) 0 (wrap64 (x8_1 - 1))).bind fun t327=>(jG.j1 k1 l0_0 (l0_0.length:Int) x8_1 (!t327) l0_0)) else (jG.j1 k1 l0_0 (l0_0.length:Int) x8_1 false l0_0)) else (jG.j1 k1 l0_0 (l0_0.length:Int) x8_1 true l0_0)) else (if x8_1 > 0 then ((jla.f ((jL l0_0 x8_1).f1) 0 (wrap64 (x8_1 - 1))).bind fun t328=>(jG.j1 k1 l0_0 (l0_0.length:Int) x8_1 (!t328) l0_0)) else (jG.j1 k1 l0_0 (l0_0.length:Int) x8_1 false l0_0))) else (jG.j1 k1 l0_0 (l0_0.length:Int) x8_1 true l0_0))=some r:=H
        have A13:=am A130
        clear A130
        by_cases c14:t326=x8_1
        ·rw [if_pos c14] at H
         have c14b0:(t326 == x8_1)=true:=beq_iff_eq.mpr c14
         have c14b1:(t326 != x8_1)=false:=bne_eq_false_iff_eq.mpr c14
         clear c14
         (first | rw [c14b0] |(simp only [jwb,jBb];rw [c14b0]) | skip)
         by_cases c15:x8_1=0
         ·rw [if_pos c15] at H
          have c15b0:(x8_1 == 0)=true:=beq_iff_eq.mpr c15
          have c15b1:(x8_1 != 0)=false:=bne_eq_false_iff_eq.mpr c15
          clear c15
          by_cases c16:((jL l0_0 x8_1).f1)=(-1)
          ·rw [if_pos c16] at H
           have c16b0:(((jL l0_0 x8_1).f1) == (-1))=true:=beq_iff_eq.mpr c16
           have c16b1:(((jL l0_0 x8_1).f1) != (-1))=false:=bne_eq_false_iff_eq.mpr c16
           clear c16
           by_cases c17:x8_1 > 0
           ·rw [if_pos c17] at H
            have c17b0:decide (0<x8_1)=true:=dzT c17
            clear c17
            replace H:=bzS H
            obtain ⟨t327,A180,H⟩:=H
            replace H:(jG.j1 k1 l0_0 (l0_0.length:Int) x8_1 (!t327) l0_0)=some r:=H
            have A18:=am A180
            clear A180
            have H':=am H
            clear H
            have hnb19:=NB324_321.out
            have hnc19:=NB321_324.out
            have hcz20_0:=bc0 BK324.out
            have hcz20_1:=bc1 BK324.out
            have hfz20_0:=jb BK324.out 0
            have hfz20_1:=jb BK324.out 1
            go_wp2_with (first |((with_reducible refine jw (f:=91) rfl ?_);refine gL (some 15) Tryd.func91 #[.string ((jL l0_0 x8_1).f0)] ?_;(with_reducible refine (jCa.calls k1 ((jL l0_0 x8_1).f0) true _ A11.out).mono ?_);rintro e w' ⟨rfl,⟨nd,rfl⟩⟩;refine ⟨_,rfl,?_⟩;have hcz21_0:=bc0 BK321.out;have hfz21_0:=jb BK321.out 0) |(go_at_call 92;(with_reducible refine (jIa.calls _ _ l0_0 ((jL l0_0 x8_1).f0) t326 _ ?side1 ?side2 A13.out).mono ?_);(case side1=>exact Kd.jU HR0_0.out (Y18));(case side2=>exact HC0_0.out);rintro e w22 ⟨rfl,hb⟩;replace BK321:=am (jc (g:=gb321) (o:=.cells #[.slice (some ad323) l0_0.length c0_0] 25 (0,0)) (Y79) hb);replace BK324:=am (jc (g:=gb324) (o:=.cells #[.string ((jL l0_0 x8_1).f0), .int .i64 ((jL l0_0 x8_1).f1)] 99 (0,0)) (Y80) hb);replace HB:=am (je (Y18) hb);(try clear hb);(try clear hb2);(try clear hk);(try clear hi);have hcz23_0:=bc0 BK324.out;have hcz23_1:=bc1 BK324.out;have hfz23_0:=jb BK324.out 0;have hfz23_1:=jb BK324.out 1) |(go_at_call 60;(with_reducible refine (jla.calls ((jL l0_0 x8_1).f1) 0 (wrap64 (x8_1 - 1)) t327 _ A18.out).mono ?_);rintro e w' ⟨rfl,⟨nd,rfl⟩⟩))
            go_meet
            case rel=>exact ⟨_,(!t327),(sq),H',⟨by have:=HK1.out;first | omega | exact Nat.le_refl _⟩,⟨kq BK321.out⟩,⟨kq BK324.out⟩,⟨Y18⟩⟩
           ·rw [if_neg c17] at H
            have c17b0:decide (0<x8_1)=false:=dzF c17
            clear c17
            have H':=am H
            clear H
            have hnb24:=NB324_321.out
            have hnc24:=NB321_324.out
            have hcz25_0:=bc0 BK324.out
            have hcz25_1:=bc1 BK324.out
            have hfz25_0:=jb BK324.out 0
            have hfz25_1:=jb BK324.out 1
            go_wp2_with (first |((with_reducible refine jw (f:=91) rfl ?_);refine gL (some 15) Tryd.func91 #[.string ((jL l0_0 x8_1).f0)] ?_;(with_reducible refine (jCa.calls k1 ((jL l0_0 x8_1).f0) true _ A11.out).mono ?_);rintro e w' ⟨rfl,⟨nd,rfl⟩⟩;refine ⟨_,rfl,?_⟩;have hcz26_0:=bc0 BK321.out;have hfz26_0:=jb BK321.out 0) |(go_at_call 92;(with_reducible refine (jIa.calls _ _ l0_0 ((jL l0_0 x8_1).f0) t326 _ ?side1 ?side2 A13.out).mono ?_);(case side1=>exact Kd.jU HR0_0.out (Y18));(case side2=>exact HC0_0.out);rintro e w27 ⟨rfl,hb⟩;replace BK321:=am (jc (g:=gb321) (o:=.cells #[.slice (some ad323) l0_0.length c0_0] 25 (0,0)) (Y79) hb);replace BK324:=am (jc (g:=gb324) (o:=.cells #[.string ((jL l0_0 x8_1).f0), .int .i64 ((jL l0_0 x8_1).f1)] 99 (0,0)) (Y80) hb);replace HB:=am (je (Y18) hb);(try clear hb);(try clear hb2);(try clear hk);(try clear hi);have hcz28_0:=bc0 BK324.out;have hcz28_1:=bc1 BK324.out;have hfz28_0:=jb BK324.out 0;have hfz28_1:=jb BK324.out 1))
            go_meet
            case rel=>exact ⟨_,(false),(sq),H',⟨by have:=HK1.out;first | omega | exact Nat.le_refl _⟩,⟨kq BK321.out⟩,⟨kq BK324.out⟩,⟨Y18⟩⟩
          ·rw [if_neg c16] at H
           have c16b0:(((jL l0_0 x8_1).f1) == (-1))=false:=beq_eq_false_iff_ne.mpr c16
           have c16b1:(((jL l0_0 x8_1).f1) != (-1))=true:=bne_iff_ne.mpr c16
           have H':=am H
           clear H
           have hnb29:=NB324_321.out
           have hnc29:=NB321_324.out
           have hcz30_0:=bc0 BK324.out
           have hcz30_1:=bc1 BK324.out
           have hfz30_0:=jb BK324.out 0
           have hfz30_1:=jb BK324.out 1
           go_wp2_with (first |((with_reducible refine jw (f:=91) rfl ?_);refine gL (some 15) Tryd.func91 #[.string ((jL l0_0 x8_1).f0)] ?_;(with_reducible refine (jCa.calls k1 ((jL l0_0 x8_1).f0) true _ A11.out).mono ?_);rintro e w' ⟨rfl,⟨nd,rfl⟩⟩;refine ⟨_,rfl,?_⟩;have hcz31_0:=bc0 BK321.out;have hfz31_0:=jb BK321.out 0) |(go_at_call 92;(with_reducible refine (jIa.calls _ _ l0_0 ((jL l0_0 x8_1).f0) t326 _ ?side1 ?side2 A13.out).mono ?_);(case side1=>exact Kd.jU HR0_0.out (Y18));(case side2=>exact HC0_0.out);rintro e w32 ⟨rfl,hb⟩;replace BK321:=am (jc (g:=gb321) (o:=.cells #[.slice (some ad323) l0_0.length c0_0] 25 (0,0)) (Y79) hb);replace BK324:=am (jc (g:=gb324) (o:=.cells #[.string ((jL l0_0 x8_1).f0), .int .i64 ((jL l0_0 x8_1).f1)] 99 (0,0)) (Y80) hb);replace HB:=am (je (Y18) hb);(try clear hb);(try clear hb2);(try clear hk);(try clear hi);have hcz33_0:=bc0 BK324.out;have hcz33_1:=bc1 BK324.out;have hfz33_0:=jb BK324.out 0;have hfz33_1:=jb BK324.out 1))
           go_meet
           case rel=>exact ⟨_,(true),(sq),H',⟨by have:=HK1.out;first | omega | exact Nat.le_refl _⟩,⟨kq BK321.out⟩,⟨kq BK324.out⟩,⟨Y18⟩⟩
         ·rw [if_neg c15] at H
          have c15b0:(x8_1 == 0)=false:=beq_eq_false_iff_ne.mpr c15
          have c15b1:(x8_1 != 0)=true:=bne_iff_ne.mpr c15
          by_cases c34:x8_1 > 0
          ·rw [if_pos c34] at H
           have c34b0:decide (0<x8_1)=true:=dzT c34
           clear c34
           replace H:=bzS H
           obtain ⟨t328,A350,H⟩:=H
           replace H:(jG.j1 k1 l0_0 (l0_0.length:Int) x8_1 (!t328) l0_0)=some r:=H
           have A35:=am A350
           clear A350
           have H':=am H
           clear H
           have hnb36:=NB324_321.out
           have hnc36:=NB321_324.out
           have hcz37_0:=bc0 BK324.out
           have hcz37_1:=bc1 BK324.out
           have hfz37_0:=jb BK324.out 0
           have hfz37_1:=jb BK324.out 1
           go_wp2_with (first |((with_reducible refine jw (f:=91) rfl ?_);refine gL (some 15) Tryd.func91 #[.string ((jL l0_0 x8_1).f0)] ?_;(with_reducible refine (jCa.calls k1 ((jL l0_0 x8_1).f0) true _ A11.out).mono ?_);rintro e w' ⟨rfl,⟨nd,rfl⟩⟩;refine ⟨_,rfl,?_⟩;have hcz38_0:=bc0 BK321.out;have hfz38_0:=jb BK321.out 0) |(go_at_call 92;(with_reducible refine (jIa.calls _ _ l0_0 ((jL l0_0 x8_1).f0) t326 _ ?side1 ?side2 A13.out).mono ?_);(case side1=>exact Kd.jU HR0_0.out (Y18));(case side2=>exact HC0_0.out);rintro e w39 ⟨rfl,hb⟩;replace BK321:=am (jc (g:=gb321) (o:=.cells #[.slice (some ad323) l0_0.length c0_0] 25 (0,0)) (Y79) hb);replace BK324:=am (jc (g:=gb324) (o:=.cells #[.string ((jL l0_0 x8_1).f0), .int .i64 ((jL l0_0 x8_1).f1)] 99 (0,0)) (Y80) hb);replace HB:=am (je (Y18) hb);(try clear hb);(try clear hb2);(try clear hk);(try clear hi);have hcz40_0:=bc0 BK324.out;have hcz40_1:=bc1 BK324.out;have hfz40_0:=jb BK324.out 0;have hfz40_1:=jb BK324.out 1) |(go_at_call 60;(with_reducible refine (jla.calls ((jL l0_0 x8_1).f1) 0 (wrap64 (x8_1 - 1)) t328 _ A35.out).mono ?_);rintro e w' ⟨rfl,⟨nd,rfl⟩⟩))
           go_meet
           case rel=>exact ⟨_,(!t328),(sq),H',⟨by have:=HK1.out;first | omega | exact Nat.le_refl _⟩,⟨kq BK321.out⟩,⟨kq BK324.out⟩,⟨Y18⟩⟩
          ·rw [if_neg c34] at H
           have c34b0:decide (0<x8_1)=false:=dzF c34
           clear c34
           have H':=am H
           clear H
           have hnb41:=NB324_321.out
           have hnc41:=NB321_324.out
           have hcz42_0:=bc0 BK324.out
           have hcz42_1:=bc1 BK324.out
           have hfz42_0:=jb BK324.out 0
           have hfz42_1:=jb BK324.out 1
           go_wp2_with (first |((with_reducible refine jw (f:=91) rfl ?_);refine gL (some 15) Tryd.func91 #[.string ((jL l0_0 x8_1).f0)] ?_;(with_reducible refine (jCa.calls k1 ((jL l0_0 x8_1).f0) true _ A11.out).mono ?_);rintro e w' ⟨rfl,⟨nd,rfl⟩⟩;refine ⟨_,rfl,?_⟩;have hcz43_0:=bc0 BK321.out;have hfz43_0:=jb BK321.out 0) |(go_at_call 92;(with_reducible refine (jIa.calls _ _ l0_0 ((jL l0_0 x8_1).f0) t326 _ ?side1 ?side2 A13.out).mono ?_);(case side1=>exact Kd.jU HR0_0.out (Y18));(case side2=>exact HC0_0.out);rintro e w44 ⟨rfl,hb⟩;replace BK321:=am (jc (g:=gb321) (o:=.cells #[.slice (some ad323) l0_0.length c0_0] 25 (0,0)) (Y79) hb);replace BK324:=am (jc (g:=gb324) (o:=.cells #[.string ((jL l0_0 x8_1).f0), .int .i64 ((jL l0_0 x8_1).f1)] 99 (0,0)) (Y80) hb);replace HB:=am (je (Y18) hb);(try clear hb);(try clear hb2);(try clear hk);(try clear hi)))
           go_meet
           case rel=>exact ⟨_,(false),(sq),H',⟨by have:=HK1.out;first | omega | exact Nat.le_refl _⟩,⟨kq BK321.out⟩,⟨kq BK324.out⟩,⟨Y18⟩⟩
        ·rw [if_neg c14] at H
         have c14b0:(t326 == x8_1)=false:=beq_eq_false_iff_ne.mpr c14
         have c14b1:(t326 != x8_1)=true:=bne_iff_ne.mpr c14
         (first | rw [c14b0] |(simp only [jwb,jBb];rw [c14b0]) | skip)
         have H':=am H
         clear H
         have hnb45:=NB324_321.out
         have hnc45:=NB321_324.out
         have hcz46_0:=bc0 BK324.out
         have hcz46_1:=bc1 BK324.out
         have hfz46_0:=jb BK324.out 0
         have hfz46_1:=jb BK324.out 1
         go_wp2_with (first |((with_reducible refine jw (f:=91) rfl ?_);refine gL (some 15) Tryd.func91 #[.string ((jL l0_0 x8_1).f0)] ?_;(with_reducible refine (jCa.calls k1 ((jL l0_0 x8_1).f0) true _ A11.out).mono ?_);rintro e w' ⟨rfl,⟨nd,rfl⟩⟩;refine ⟨_,rfl,?_⟩;have hcz47_0:=bc0 BK321.out;have hfz47_0:=jb BK321.out 0) |(go_at_call 92;(with_reducible refine (jIa.calls _ _ l0_0 ((jL l0_0 x8_1).f0) t326 _ ?side1 ?side2 A13.out).mono ?_);(case side1=>exact Kd.jU HR0_0.out (Y18));(case side2=>exact HC0_0.out);rintro e w48 ⟨rfl,hb⟩;replace BK321:=am (jc (g:=gb321) (o:=.cells #[.slice (some ad323) l0_0.length c0_0] 25 (0,0)) (Y79) hb);replace BK324:=am (jc (g:=gb324) (o:=.cells #[.string ((jL l0_0 x8_1).f0), .int .i64 ((jL l0_0 x8_1).f1)] 99 (0,0)) (Y80) hb);replace HB:=am (je (Y18) hb);(try clear hb);(try clear hb2);(try clear hk);(try clear hi)))
         go_meet
         case rel=>exact ⟨_,(true),(sq),H',⟨by have:=HK1.out;first | omega | exact Nat.le_refl _⟩,⟨kq BK321.out⟩,⟨kq BK324.out⟩,⟨Y18⟩⟩
       ·replace c12:=Bool.eq_false_iff.mpr c12
        subst c12
        have H1:(jG.j1 k1 l0_0 (l0_0.length:Int) x8_1 true l0_0)=some r:=by rw [if_neg (show ¬ (false=true) by decide)] at H;exact H
        clear H
        have H:=H1
        clear H1
        have H':=am H
        clear H
        have hnb49:=NB324_321.out
        have hnc49:=NB321_324.out
        have hcz50_0:=bc0 BK324.out
        have hcz50_1:=bc1 BK324.out
        have hfz50_0:=jb BK324.out 0
        have hfz50_1:=jb BK324.out 1
        go_wp2_with (first |((with_reducible refine jw (f:=91) rfl ?_);refine gL (some 15) Tryd.func91 #[.string ((jL l0_0 x8_1).f0)] ?_;(with_reducible refine (jCa.calls k1 ((jL l0_0 x8_1).f0) false _ A11.out).mono ?_);rintro e w' ⟨rfl,⟨nd,rfl⟩⟩;refine ⟨_,rfl,?_⟩))
        go_meet
        case rel=>exact ⟨_,(true),(sq),H',⟨by have:=HK1.out;first | omega | exact Nat.le_refl _⟩,⟨by (with_reducible repeat (first | refine jg ?_ _ | refine jf ?_ | refine jh ?_ _));refine jT ?_ NB321_324.out _;(with_reducible repeat (first | refine jg ?_ _ | refine jf ?_ | refine jh ?_ _));refine jT ?_ NB321_324.out _;(with_reducible repeat (first | refine jg ?_ _ | refine jf ?_ | refine jh ?_ _));exact BK321.out⟩,⟨by (with_reducible repeat (first | refine jg ?_ _ | refine jf ?_ | refine jh ?_ _));refine jya (cs:=#[.string ((jL l0_0 x8_1).f0), .int .i64 0]) ?_ 1 _ rfl;(with_reducible repeat (first | refine jg ?_ _ | refine jf ?_ | refine jh ?_ _));refine jya (cs:=#[.string (⟨#[]⟩:ByteArray), .int .i64 0]) ?_ 0 _ rfl;(with_reducible repeat (first | refine jg ?_ _ | refine jf ?_ | refine jh ?_ _));exact BK324.out⟩,⟨Y18⟩⟩
      case rest =>
       clear HC7
       try clear c1
       try clear c2
       try clear p2
       try clear c3
       try clear p3
       try clear q3
       try clear hx3
       try clear c4
       try clear c4b0
       try clear c5
       try clear c5b0
       try clear c6
       try clear c6b0
       try clear p6
       try clear c7
       try clear c9
       try clear c12
       try clear c14
       try clear c14b0
       try clear c14b1
       try clear c15
       try clear c15b0
       try clear c15b1
       try clear c16
       try clear c16b0
       try clear c16b1
       try clear c17
       try clear c17b0
       try clear c19
       try clear c24
       try clear c29
       try clear p32
       try clear q32
       try clear hx32
       try clear c34
       try clear c34b0
       try clear c36
       try clear c41
       try clear c45
       try clear c49
       try clear hcz10_0
       try clear hcz10_1
       try clear hcz20_0
       try clear hcz20_1
       try clear hcz21_0
       try clear hcz23_0
       try clear hcz23_1
       try clear hcz25_0
       try clear hcz25_1
       try clear hcz26_0
       try clear hcz28_0
       try clear hcz28_1
       try clear hcz30_0
       try clear hcz30_1
       try clear hcz31_0
       try clear hcz33_0
       try clear hcz33_1
       try clear hcz37_0
       try clear hcz37_1
       try clear hcz38_0
       try clear hcz3_0
       try clear hcz40_0
       try clear hcz40_1
       try clear hcz42_0
       try clear hcz42_1
       try clear hcz43_0
       try clear hcz46_0
       try clear hcz46_1
       try clear hcz47_0
       try clear hcz50_0
       try clear hcz50_1
       try clear hfz10_0
       try clear hfz10_1
       try clear hfz20_0
       try clear hfz20_1
       try clear hfz21_0
       try clear hfz23_0
       try clear hfz23_1
       try clear hfz25_0
       try clear hfz25_1
       try clear hfz26_0
       try clear hfz28_0
       try clear hfz28_1
       try clear hfz30_0
       try clear hfz30_1
       try clear hfz31_0
       try clear hfz33_0
       try clear hfz33_1
       try clear hfz37_0
       try clear hfz37_1
       try clear hfz38_0
       try clear hfz3_0
       try clear hfz40_0
       try clear hfz40_1
       try clear hfz42_0
       try clear hfz42_1
       try clear hfz43_0
       try clear hfz46_0
       try clear hfz46_1
       try clear hfz47_0
       try clear hfz50_0
       try clear hfz50_1
       try clear hx323_0
       try clear hx323_1
       try clear p2
       try clear p323
       try clear q323
       obtain ⟨kq,x45_6,rfl,HA,HJ6,BK321,BK324,HB⟩:=hcut
       cases kq with
       | zero=>exact absurd HA.out (by simp [jG.j1])
       | succ kj6 =>
        have H:=HA.out
        clear HA
        simp only [jG.j1] at H
        by_cases c51:x45_6=true
        ·subst c51
         have H1:(some false)=some r:=by rw [if_pos rfl] at H;exact H
         clear H
         have H:=H1
         clear H1
         obtain rfl:=Option.some.inj H
         go_wp2
         go_ret
         exact ⟨Y1,Y18⟩
        ·replace c51:=Bool.eq_false_iff.mpr c51
         subst c51
         have H1:(jG.l0 kj6 l0_0 (l0_0.length:Int) (wrap64 (x8_1+1)) l0_0)=some r:=by rw [if_neg (show ¬ (false=true) by decide)] at H;exact H
         clear H
         have H:=H1
         clear H1
         have H':=am H
         clear H
         go_wp2
         go_roundg kj6
         case measure=>have:=HK1.out;have:=HJ6.out;omega
         case rel=>exact ⟨(wrap64 (x8_1+1)),(sq),H',⟨by have:=HK1.out;have:=HJ6.out;omega⟩,⟨kq BK321.out⟩,⟨Y18⟩⟩
     ·rw [if_neg c6] at H
      exact absurd H (by simp)
    ·rw [if_neg c5] at H
     exact absurd H (by simp)
   ·rw [if_neg c4] at H
    have c4b0:decide (x8_1<(l0_0.length:Int))=false:=dzF c4
    clear c4
    replace H:=bzS H
    obtain ⟨t322,A520,H⟩:=H
    replace H:(some t322)=some r:=H
    have A52:=am A520
    clear A520
    obtain rfl:=Option.some.inj H
    have hcz53_0:=bc0 BK321.out
    have hfz53_0:=jb BK321.out 0
    go_wp2_with (first |((with_reducible refine jw (f:=60) rfl ?_);refine gL (some 50) Tryd.func60 #[.int .i64 (l0_0.length:Int), .int .i64 1, .int .i64 8] ?_;(with_reducible refine (jla.calls (l0_0.length:Int) 1 8 t322 _ A52.out).mono ?_);rintro e w' ⟨rfl,⟨nd,rfl⟩⟩;refine ⟨_,rfl,?_⟩))
    go_ret
    exact ⟨Y1,Y132⟩
theorem jOa {w : World} {b : Nat} {v : Value} {l : List Value} {t : TypeId} (h : w.heap[b]? = some (.cells ⟨v :: l⟩ t (0, 0))) : w.cell? ⟨b, 0, none⟩ = some v := (jH h 0).trans rfl
theorem cellA1 {w : World} {b : Nat} {v v1 : Value} {l : List Value} {t : TypeId} (h : w.heap[b]? = some (.cells ⟨v :: v1 :: l⟩ t (0, 0))) : w.cell? ⟨b, 1, none⟩ = some v1 := (jH h 1).trans rfl
theorem cellA2 {w : World} {b : Nat} {v v1 v2 : Value} {l : List Value} {t : TypeId} (h : w.heap[b]? = some (.cells ⟨v :: v1 :: v2 :: l⟩ t (0, 0))) : w.cell? ⟨b, 2, none⟩ = some v2 := (jH h 2).trans rfl
theorem cellA3 {w : World} {b : Nat} {v v1 v2 v3 : Value} {l : List Value} {t : TypeId} (h : w.heap[b]? = some (.cells ⟨v :: v1 :: v2 :: v3 :: l⟩ t (0, 0))) : w.cell? ⟨b, 3, none⟩ = some v3 := (jH h 3).trans rfl
def hpIn (a lo hi : Int) : Bool := decide (lo ≤ a) && decide (a ≤ hi)
theorem hp_within (a lo hi : Int) : jla.f a lo hi = some (hpIn a lo hi) := by
 unfold jla.f hpIn
 by_cases h:a≥lo
 ·rw [if_pos h];simp [show lo≤a from h]
 ·rw [if_neg h];simp [show ¬ lo≤a from h]
theorem hp_has (l : List S99) (a : Int) : jZa.f l a = some (hpIn a 0 (wrap64 ((l.length : Int) - 1))) := by unfold jZa.f; rw [hp_within]; rfl
theorem hp_code (a : Int) : jub.f a = some (hpIn a 0 99) := by unfold jub.f; rw [hp_within]; rfl
def hpLk (m : Nat) (i z : Int) : Bool := decide (z = -1) || (hpIn z 0 ((m : Int) - 1) && decide (z ≠ i))
def hpBad (t : List S99) (m : Nat) (i : Int) (x : S66) : Bool := !hpIn x.f0 0 (wrap64 ((t.length : Int) - 1)) || (!hpIn x.f1 0 99 || (!hpLk m i x.f2 || !hpLk m i x.f3))
def hpAny (t : List S99) (h : List S66) : Nat → Nat → Bool
 | 0,_=>false
 | n+1,i=>if hpBad t h.length (i:Int) (ja h (i:Int))=true then true else hpAny t h n (i+1)
def hpEnds (k : Nat) (h : List S66) : Nat → Nat → Option Bool
 | 0,_=>some true
 | n+1,i=>(jbb.f k h (i:Int)).bind fun l=>if 1≤l.length then (ctxF h (rd l ((l.length:Int) - 1))).bind fun c=>if c = -1 then hpEnds k h n (i+1) else some false else none
def jVa.f (k : Nat) (l0_0 : List S99) (l1_0 : List S66) : Option Bool :=
 if hpAny l0_0 l1_0 l1_0.length 0=true then some false else (hpEnds k l1_0 l1_0.length 0).bind fun b=>if b=true then ((jG.f k l0_0).bind fun v=>some (if v=true then decide ((l1_0.length:Int)≤24) else false)) else some false
set_option maxHeartbeats 8000000 in
set_option maxRecDepth 100000 in
theorem jic (A_ : Option Addr) (c_ : Nat) (m : Nat) (i z : Int) (B0 : Nat) (w : World) (hm : m ≤ 9223372036854775807) (hc : w.cell? ⟨B0, 0, none⟩ = some (.slice A_ m c_)) :
  Calls Tryd.prog 73 #[.int .i64 i, .int .i64 z, .pointer (some ⟨B0,0,none⟩)] w fun e w'=>e=.returned (.bool (hpLk m i z))∧Below w.heap.size w w':=by
 have HB:=am (Below.refl w.heap.size w)
 have hu28:=Tryd.underlying28
 have hw2:IntKind.i64.wrap ((m:Int) - 1)=(m:Int) - 1:=IntWalk.i64_in _ (by omega)
 by_cases h0:z = -1
 ·subst h0
  have HZ:=am (by simp [hpLk]:hpLk m i (-1)=true)
  go_enter Tryd.func73,Tryd.ntmps73
  go_wp2
  go_ret
  exact ⟨by rw [HZ.out];rfl,(bq)⟩
 ·have hb0:(z == -1)=false:=by simpa using h0
  by_cases h1:z≥0
  ·have hb1:=dzT h1
   by_cases h2:z≤(m:Int) - 1
   ·have hb2:=dzT h2
    by_cases h3:z=i
    ·have hb3:(z != i)=false:=by simpa using h3
     have HZ:=am (by subst h3;simp [hpLk,h0]:hpLk m i z=false)
     clear h0 h1 h2 h3
     go_enter Tryd.func73,Tryd.ntmps73
     go_wp2
     go_ret
     exact ⟨by rw [HZ.out];rfl,(bq)⟩
    ·have hb3:(z != i)=true:=by simpa using h3
     have HZ:=am (by simp [hpLk,h0,h3,hpIn];omega:hpLk m i z=true)
     clear h0 h1 h2 h3
     go_enter Tryd.func73,Tryd.ntmps73
     go_wp2
     go_ret
     exact ⟨by rw [HZ.out];rfl,(bq)⟩
   ·have hb2:=dzF h2
    have HZ:=am (by simp [hpLk,h0,hpIn];omega:hpLk m i z=false)
    clear h0 h1 h2
    go_enter Tryd.func73,Tryd.ntmps73
    go_wp2
    go_ret
    exact ⟨by rw [HZ.out];rfl,(bq)⟩
  ·have hb1:=dzF h1
   have HZ:=am (by simp [hpLk,h0,hpIn];omega:hpLk m i z=false)
   clear h0 h1
   go_enter Tryd.func73,Tryd.ntmps73
   go_wp2
   go_ret
   exact ⟨by rw [HZ.out];rfl,(bq)⟩
set_option maxHeartbeats 8000000 in
set_option maxRecDepth 100000 in
theorem jVa.calls (k : Nat) (A0_0 : Option Addr) (c0_0 : Nat) (l0_0 : List (S99)) (A0 : Option Addr) (c0 : Nat) (l0 : List (S66)) (r : Bool) (w : World) (hr0_0 : Kd.C k99 w A0_0 l0_0.length l0_0) (hc0_0 : l0_0.length ≤ c0_0) (hr0 : Kd.C k66 w A0 l0.length l0) (hc0 : l0.length ≤ c0) (h : jVa.f k l0_0 l0 = some r) :
  Calls Tryd.prog 45 #[.agg #[.slice A0_0 l0_0.length c0_0], .agg #[.slice A0 l0.length c0]] w fun e w'=>e=.returned (.bool r)∧Below w.heap.size w w':=by
 have hu28:=Tryd.underlying28
 have hu25:=Tryd.underlying25
 have hu66:=Tryd.underlying66
 have hm:l0.length≤9223372036854775807:=Kd.C_max hr0
 have HRT:=am hr0_0
 have HRH:=am hr0
 have hcT:=hc0_0
 have hcH:=hc0
 have H':=am h
 have HB:=am (((Below.refl w.heap.size w).alloc (Nat.le_refl _) (.cells #[.slice A0_0 l0_0.length c0_0] 25)).alloc (by simp) (.cells #[.slice A0 l0.length c0] 28))
 have BT:=am (jh (heap_alloc_new w (.cells #[.slice A0_0 l0_0.length c0_0] 25)) (.cells #[.slice A0 l0.length c0] 28))
 have BH:=am (show ((w.alloc (.cells #[.slice A0_0 l0_0.length c0_0] 25)).alloc (.cells #[.slice A0 l0.length c0] 28)).heap[w.heap.size+1]?=some (.cells #[.slice A0 l0.length c0] 28 (0,0)) by have h:=heap_alloc_new (w.alloc (.cells #[.slice A0_0 l0_0.length c0_0] 25)) (.cells #[.slice A0 l0.length c0] 28);simpa only [World.size_alloc] using h)
 have hmH:=hm
 clear hr0_0 hr0 h hc0_0 hc0
 go_enter Tryd.func45,Tryd.ntmps45
 go_wp2
 go_loopw [14] (fun v14 wr=>∃ i:Nat,i≤l0.length∧v14=.int .i64 i∧jB (hpAny l0_0 l0 (l0.length - i) i=hpAny l0_0 l0 l0.length 0)∧jB (wr.heap[w.heap.size]?=some (.cells #[.slice A0_0 l0_0.length c0_0] 25 (0,0)))∧jB (wr.heap[w.heap.size+1]?=some (.cells #[.slice A0 l0.length c0] 28 (0,0)))∧jB (Below w.heap.size w wr)) (fun v14 _=>l0.length - (intOf v14).toNat)
 case atStart=>exact ⟨0,Nat.zero_le _,rfl,⟨rfl⟩,BT,BH,HB⟩
 case round =>
  clear HB BT BH
  obtain ⟨i,hi,rfl,HA,BT,BH,HB⟩:=hrel
  have cT:=jOa BT.out
  have cH:=jOa BH.out
  by_cases hlt:i<l0.length
  ·obtain ⟨ad,rfl,x0,x1,x2,x3,x4⟩:=jlb (Kd.jU HRH.out HB.out) (i:Int) (by omega) (by omega)
   rw [Int.toNat_natCast] at x0 x1 x2 x3 x4
   have hneT:w.heap.size<wr.heap.size:=jda BT.out
   have hneH:w.heap.size+1<wr.heap.size:=jda BH.out
   have BX:=am (heap_alloc_new wr (.cells #[.int .i64 (ja l0 (i:Int)).f0, .int .i64 (ja l0 (i:Int)).f1, .int .i64 (ja l0 (i:Int)).f2, .int .i64 (ja l0 (i:Int)).f3, .bool (ja l0 (i:Int)).f4] 66))
   have HS:=am (show hpAny l0_0 l0 (l0.length - i) i=if hpBad l0_0 l0.length (i:Int) (ja l0 (i:Int))=true then true else hpAny l0_0 l0 (l0.length - (i+1)) (i+1) by rw [show l0.length - i=(l0.length - (i+1))+1 by omega];rfl)

   cases e0:hpIn (ja l0 (i:Int)).f0 0 (wrap64 ((l0_0.length:Int) - 1)) with
   | false =>
    have E0:=am (show jZa.f l0_0 (ja l0 (i:Int)).f0=some false by rw [hp_has,e0])
    have HZ:=am (show r=false by have h:=H'.out;unfold jVa.f at h;rw [← HA.out,HS.out,if_pos (show hpBad l0_0 l0.length (i:Int) (ja l0 (i:Int))=true by simp [hpBad,e0]),if_pos rfl] at h;exact (Option.some.inj h).symm)
    clear e0 HA HS H'
    go_wp2_with (first |(go_at_call 74;refine (jZa.calls _ _ _ _ false _ (Kd.jU HRT.out (bq)) hcT E0.out).mono ?_;rintro e w2 ⟨rfl,hb2⟩;have n0_:=am (jc (g:=wr.heap.size) (o:=.cells #[.int .i64 (ja l0 (i:Int)).f0, .int .i64 (ja l0 (i:Int)).f1, .int .i64 (ja l0 (i:Int)).f2, .int .i64 (ja l0 (i:Int)).f3, .bool (ja l0 (i:Int)).f4] 66 (0,0)) (Y39) hb2);have n1_:=am (jc (g:=w.heap.size) (o:=.cells #[.slice A0_0 l0_0.length c0_0] 25 (0,0)) (kq BT.out) hb2);have n2_:=am (jc (g:=w.heap.size+1) (o:=.cells #[.slice (some ad) l0.length c0] 28 (0,0)) (kq BH.out) hb2);have n3_:=am (je (bq) hb2);clear BX BT BH HB;(try clear cx0 cx1 cx2 cx3);have BX:=n0_;have BT:=n1_;have BH:=n2_;have HB:=n3_;clear n0_ n1_ n2_ n3_ hb2;have cT:=jOa BT.out;have cH:=jOa BH.out;have cx0:=jOa BX.out;have cx1:=cellA1 BX.out;have cx2:=cellA2 BX.out;have cx3:=cellA3 BX.out))
    go_ret
    exact ⟨by rw [HZ.out];rfl,(bq)⟩
   | true =>
    have E0:=am (show jZa.f l0_0 (ja l0 (i:Int)).f0=some true by rw [hp_has,e0])
    cases e1:hpIn (ja l0 (i:Int)).f1 0 99 with
    | false =>
     have E1:=am (show jub.f (ja l0 (i:Int)).f1=some false by rw [hp_code,e1])
     have HZ:=am (show r=false by have h:=H'.out;unfold jVa.f at h;rw [← HA.out,HS.out,if_pos (show hpBad l0_0 l0.length (i:Int) (ja l0 (i:Int))=true by simp [hpBad,e0,e1]),if_pos rfl] at h;exact (Option.some.inj h).symm)
     clear e0 e1 HA HS H'
     go_wp2_with (first |(go_at_call 74;refine (jZa.calls _ _ _ _ true _ (Kd.jU HRT.out (bq)) hcT E0.out).mono ?_;rintro e w2 ⟨rfl,hb2⟩;have n0_:=am (jc (g:=wr.heap.size) (o:=.cells #[.int .i64 (ja l0 (i:Int)).f0, .int .i64 (ja l0 (i:Int)).f1, .int .i64 (ja l0 (i:Int)).f2, .int .i64 (ja l0 (i:Int)).f3, .bool (ja l0 (i:Int)).f4] 66 (0,0)) (Y39) hb2);have n1_:=am (jc (g:=w.heap.size) (o:=.cells #[.slice A0_0 l0_0.length c0_0] 25 (0,0)) (kq BT.out) hb2);have n2_:=am (jc (g:=w.heap.size+1) (o:=.cells #[.slice (some ad) l0.length c0] 28 (0,0)) (kq BH.out) hb2);have n3_:=am (je (bq) hb2);clear BX BT BH HB;(try clear cx0 cx1 cx2 cx3);have BX:=n0_;have BT:=n1_;have BH:=n2_;have HB:=n3_;clear n0_ n1_ n2_ n3_ hb2;have cT:=jOa BT.out;have cH:=jOa BH.out;have cx0:=jOa BX.out;have cx1:=cellA1 BX.out;have cx2:=cellA2 BX.out;have cx3:=cellA3 BX.out) |(go_at_call 75;refine (jub.calls _ false _ E1.out).mono ?_;rintro e w3 ⟨rfl,hd3⟩;have hb3:=hd3.below;clear hd3;have n0_:=am (jc (g:=wr.heap.size) (o:=.cells #[.int .i64 (ja l0 (i:Int)).f0, .int .i64 (ja l0 (i:Int)).f1, .int .i64 (ja l0 (i:Int)).f2, .int .i64 (ja l0 (i:Int)).f3, .bool (ja l0 (i:Int)).f4] 66 (0,0)) (Y39) hb3);have n1_:=am (jc (g:=w.heap.size) (o:=.cells #[.slice A0_0 l0_0.length c0_0] 25 (0,0)) (kq BT.out) hb3);have n2_:=am (jc (g:=w.heap.size+1) (o:=.cells #[.slice (some ad) l0.length c0] 28 (0,0)) (kq BH.out) hb3);have n3_:=am (je (bq) hb3);clear BX BT BH HB;(try clear cx0 cx1 cx2 cx3);have BX:=n0_;have BT:=n1_;have BH:=n2_;have HB:=n3_;clear n0_ n1_ n2_ n3_ hb3;have cT:=jOa BT.out;have cH:=jOa BH.out;have cx0:=jOa BX.out;have cx1:=cellA1 BX.out;have cx2:=cellA2 BX.out;have cx3:=cellA3 BX.out))
     go_ret
     exact ⟨by rw [HZ.out];rfl,(bq)⟩
    | true =>
     have E1:=am (show jub.f (ja l0 (i:Int)).f1=some true by rw [hp_code,e1])
     cases e2:hpLk l0.length (i:Int) (ja l0 (i:Int)).f2 with
     | false =>
      have E2:=am (e2)
      have HZ:=am (show r=false by have h:=H'.out;unfold jVa.f at h;rw [← HA.out,HS.out,if_pos (show hpBad l0_0 l0.length (i:Int) (ja l0 (i:Int))=true by simp [hpBad,e0,e1,e2]),if_pos rfl] at h;exact (Option.some.inj h).symm)
      clear e0 e1 e2 HA HS H'
      go_wp2_with (first |(go_at_call 74;refine (jZa.calls _ _ _ _ true _ (Kd.jU HRT.out (bq)) hcT E0.out).mono ?_;rintro e w2 ⟨rfl,hb2⟩;have n0_:=am (jc (g:=wr.heap.size) (o:=.cells #[.int .i64 (ja l0 (i:Int)).f0, .int .i64 (ja l0 (i:Int)).f1, .int .i64 (ja l0 (i:Int)).f2, .int .i64 (ja l0 (i:Int)).f3, .bool (ja l0 (i:Int)).f4] 66 (0,0)) (Y39) hb2);have n1_:=am (jc (g:=w.heap.size) (o:=.cells #[.slice A0_0 l0_0.length c0_0] 25 (0,0)) (kq BT.out) hb2);have n2_:=am (jc (g:=w.heap.size+1) (o:=.cells #[.slice (some ad) l0.length c0] 28 (0,0)) (kq BH.out) hb2);have n3_:=am (je (bq) hb2);clear BX BT BH HB;(try clear cx0 cx1 cx2 cx3);have BX:=n0_;have BT:=n1_;have BH:=n2_;have HB:=n3_;clear n0_ n1_ n2_ n3_ hb2;have cT:=jOa BT.out;have cH:=jOa BH.out;have cx0:=jOa BX.out;have cx1:=cellA1 BX.out;have cx2:=cellA2 BX.out;have cx3:=cellA3 BX.out) |(go_at_call 75;refine (jub.calls _ true _ E1.out).mono ?_;rintro e w3 ⟨rfl,hd3⟩;have hb3:=hd3.below;clear hd3;have n0_:=am (jc (g:=wr.heap.size) (o:=.cells #[.int .i64 (ja l0 (i:Int)).f0, .int .i64 (ja l0 (i:Int)).f1, .int .i64 (ja l0 (i:Int)).f2, .int .i64 (ja l0 (i:Int)).f3, .bool (ja l0 (i:Int)).f4] 66 (0,0)) (Y39) hb3);have n1_:=am (jc (g:=w.heap.size) (o:=.cells #[.slice A0_0 l0_0.length c0_0] 25 (0,0)) (kq BT.out) hb3);have n2_:=am (jc (g:=w.heap.size+1) (o:=.cells #[.slice (some ad) l0.length c0] 28 (0,0)) (kq BH.out) hb3);have n3_:=am (je (bq) hb3);clear BX BT BH HB;(try clear cx0 cx1 cx2 cx3);have BX:=n0_;have BT:=n1_;have BH:=n2_;have HB:=n3_;clear n0_ n1_ n2_ n3_ hb3;have cT:=jOa BT.out;have cH:=jOa BH.out;have cx0:=jOa BX.out;have cx1:=cellA1 BX.out;have cx2:=cellA2 BX.out;have cx3:=cellA3 BX.out) |(go_at_call 73;refine (jic _ _ _ _ _ _ _ hmH cH).mono ?_;rw [E2.out];rintro e w4 ⟨rfl,hb4⟩;have n0_:=am (jc (g:=wr.heap.size) (o:=.cells #[.int .i64 (ja l0 (i:Int)).f0, .int .i64 (ja l0 (i:Int)).f1, .int .i64 (ja l0 (i:Int)).f2, .int .i64 (ja l0 (i:Int)).f3, .bool (ja l0 (i:Int)).f4] 66 (0,0)) (Y39) hb4);have n1_:=am (jc (g:=w.heap.size) (o:=.cells #[.slice A0_0 l0_0.length c0_0] 25 (0,0)) (kq BT.out) hb4);have n2_:=am (jc (g:=w.heap.size+1) (o:=.cells #[.slice (some ad) l0.length c0] 28 (0,0)) (kq BH.out) hb4);have n3_:=am (je (bq) hb4);clear BX BT BH HB;(try clear cx0 cx1 cx2 cx3);have BX:=n0_;have BT:=n1_;have BH:=n2_;have HB:=n3_;clear n0_ n1_ n2_ n3_ hb4;have cT:=jOa BT.out;have cH:=jOa BH.out;have cx0:=jOa BX.out;have cx1:=cellA1 BX.out;have cx2:=cellA2 BX.out;have cx3:=cellA3 BX.out))
      go_ret
      exact ⟨by rw [HZ.out];rfl,(bq)⟩
     | true =>
      have E2:=am (e2)
      cases e3:hpLk l0.length (i:Int) (ja l0 (i:Int)).f3 with
      | false =>
       have E3:=am (e3)
       have HZ:=am (show r=false by have h:=H'.out;unfold jVa.f at h;rw [← HA.out,HS.out,if_pos (show hpBad l0_0 l0.length (i:Int) (ja l0 (i:Int))=true by simp [hpBad,e0,e1,e2,e3]),if_pos rfl] at h;exact (Option.some.inj h).symm)
       clear e0 e1 e2 e3 HA HS H'
       go_wp2_with (first |(go_at_call 74;refine (jZa.calls _ _ _ _ true _ (Kd.jU HRT.out (bq)) hcT E0.out).mono ?_;rintro e w2 ⟨rfl,hb2⟩;have n0_:=am (jc (g:=wr.heap.size) (o:=.cells #[.int .i64 (ja l0 (i:Int)).f0, .int .i64 (ja l0 (i:Int)).f1, .int .i64 (ja l0 (i:Int)).f2, .int .i64 (ja l0 (i:Int)).f3, .bool (ja l0 (i:Int)).f4] 66 (0,0)) (Y39) hb2);have n1_:=am (jc (g:=w.heap.size) (o:=.cells #[.slice A0_0 l0_0.length c0_0] 25 (0,0)) (kq BT.out) hb2);have n2_:=am (jc (g:=w.heap.size+1) (o:=.cells #[.slice (some ad) l0.length c0] 28 (0,0)) (kq BH.out) hb2);have n3_:=am (je (bq) hb2);clear BX BT BH HB;(try clear cx0 cx1 cx2 cx3);have BX:=n0_;have BT:=n1_;have BH:=n2_;have HB:=n3_;clear n0_ n1_ n2_ n3_ hb2;have cT:=jOa BT.out;have cH:=jOa BH.out;have cx0:=jOa BX.out;have cx1:=cellA1 BX.out;have cx2:=cellA2 BX.out;have cx3:=cellA3 BX.out) |(go_at_call 75;refine (jub.calls _ true _ E1.out).mono ?_;rintro e w3 ⟨rfl,hd3⟩;have hb3:=hd3.below;clear hd3;have n0_:=am (jc (g:=wr.heap.size) (o:=.cells #[.int .i64 (ja l0 (i:Int)).f0, .int .i64 (ja l0 (i:Int)).f1, .int .i64 (ja l0 (i:Int)).f2, .int .i64 (ja l0 (i:Int)).f3, .bool (ja l0 (i:Int)).f4] 66 (0,0)) (Y39) hb3);have n1_:=am (jc (g:=w.heap.size) (o:=.cells #[.slice A0_0 l0_0.length c0_0] 25 (0,0)) (kq BT.out) hb3);have n2_:=am (jc (g:=w.heap.size+1) (o:=.cells #[.slice (some ad) l0.length c0] 28 (0,0)) (kq BH.out) hb3);have n3_:=am (je (bq) hb3);clear BX BT BH HB;(try clear cx0 cx1 cx2 cx3);have BX:=n0_;have BT:=n1_;have BH:=n2_;have HB:=n3_;clear n0_ n1_ n2_ n3_ hb3;have cT:=jOa BT.out;have cH:=jOa BH.out;have cx0:=jOa BX.out;have cx1:=cellA1 BX.out;have cx2:=cellA2 BX.out;have cx3:=cellA3 BX.out) |(go_at_call 73;refine (jic _ _ _ _ _ _ _ hmH cH).mono ?_;(first | rw [E2.out] | rw [E3.out]);rintro e w4 ⟨rfl,hb4⟩;have n0_:=am (jc (g:=wr.heap.size) (o:=.cells #[.int .i64 (ja l0 (i:Int)).f0, .int .i64 (ja l0 (i:Int)).f1, .int .i64 (ja l0 (i:Int)).f2, .int .i64 (ja l0 (i:Int)).f3, .bool (ja l0 (i:Int)).f4] 66 (0,0)) (Y39) hb4);have n1_:=am (jc (g:=w.heap.size) (o:=.cells #[.slice A0_0 l0_0.length c0_0] 25 (0,0)) (kq BT.out) hb4);have n2_:=am (jc (g:=w.heap.size+1) (o:=.cells #[.slice (some ad) l0.length c0] 28 (0,0)) (kq BH.out) hb4);have n3_:=am (je (bq) hb4);clear BX BT BH HB;(try clear cx0 cx1 cx2 cx3);have BX:=n0_;have BT:=n1_;have BH:=n2_;have HB:=n3_;clear n0_ n1_ n2_ n3_ hb4;have cT:=jOa BT.out;have cH:=jOa BH.out;have cx0:=jOa BX.out;have cx1:=cellA1 BX.out;have cx2:=cellA2 BX.out;have cx3:=cellA3 BX.out))
       go_ret
       exact ⟨by rw [HZ.out];rfl,(bq)⟩
      | true =>
       have E3:=am (e3)
       have HN:=am (show hpAny l0_0 l0 (l0.length - (i+1)) (i+1)=hpAny l0_0 l0 l0.length 0 by rw [← HA.out,HS.out,if_neg (show ¬ hpBad l0_0 l0.length (i:Int) (ja l0 (i:Int))=true by simp [hpBad,e0,e1,e2,e3])])
       clear e0 e1 e2 e3 HA HS H'
       go_wp2_with (first |(go_at_call 74;refine (jZa.calls _ _ _ _ true _ (Kd.jU HRT.out (bq)) hcT E0.out).mono ?_;rintro e w2 ⟨rfl,hb2⟩;have n0_:=am (jc (g:=wr.heap.size) (o:=.cells #[.int .i64 (ja l0 (i:Int)).f0, .int .i64 (ja l0 (i:Int)).f1, .int .i64 (ja l0 (i:Int)).f2, .int .i64 (ja l0 (i:Int)).f3, .bool (ja l0 (i:Int)).f4] 66 (0,0)) (Y39) hb2);have n1_:=am (jc (g:=w.heap.size) (o:=.cells #[.slice A0_0 l0_0.length c0_0] 25 (0,0)) (kq BT.out) hb2);have n2_:=am (jc (g:=w.heap.size+1) (o:=.cells #[.slice (some ad) l0.length c0] 28 (0,0)) (kq BH.out) hb2);have n3_:=am (je (bq) hb2);clear BX BT BH HB;(try clear cx0 cx1 cx2 cx3);have BX:=n0_;have BT:=n1_;have BH:=n2_;have HB:=n3_;clear n0_ n1_ n2_ n3_ hb2;have cT:=jOa BT.out;have cH:=jOa BH.out;have cx0:=jOa BX.out;have cx1:=cellA1 BX.out;have cx2:=cellA2 BX.out;have cx3:=cellA3 BX.out) |(go_at_call 75;refine (jub.calls _ true _ E1.out).mono ?_;rintro e w3 ⟨rfl,hd3⟩;have hb3:=hd3.below;clear hd3;have n0_:=am (jc (g:=wr.heap.size) (o:=.cells #[.int .i64 (ja l0 (i:Int)).f0, .int .i64 (ja l0 (i:Int)).f1, .int .i64 (ja l0 (i:Int)).f2, .int .i64 (ja l0 (i:Int)).f3, .bool (ja l0 (i:Int)).f4] 66 (0,0)) (Y39) hb3);have n1_:=am (jc (g:=w.heap.size) (o:=.cells #[.slice A0_0 l0_0.length c0_0] 25 (0,0)) (kq BT.out) hb3);have n2_:=am (jc (g:=w.heap.size+1) (o:=.cells #[.slice (some ad) l0.length c0] 28 (0,0)) (kq BH.out) hb3);have n3_:=am (je (bq) hb3);clear BX BT BH HB;(try clear cx0 cx1 cx2 cx3);have BX:=n0_;have BT:=n1_;have BH:=n2_;have HB:=n3_;clear n0_ n1_ n2_ n3_ hb3;have cT:=jOa BT.out;have cH:=jOa BH.out;have cx0:=jOa BX.out;have cx1:=cellA1 BX.out;have cx2:=cellA2 BX.out;have cx3:=cellA3 BX.out) |(go_at_call 73;refine (jic _ _ _ _ _ _ _ hmH cH).mono ?_;(first | rw [E2.out] | rw [E3.out]);rintro e w4 ⟨rfl,hb4⟩;have n0_:=am (jc (g:=wr.heap.size) (o:=.cells #[.int .i64 (ja l0 (i:Int)).f0, .int .i64 (ja l0 (i:Int)).f1, .int .i64 (ja l0 (i:Int)).f2, .int .i64 (ja l0 (i:Int)).f3, .bool (ja l0 (i:Int)).f4] 66 (0,0)) (Y39) hb4);have n1_:=am (jc (g:=w.heap.size) (o:=.cells #[.slice A0_0 l0_0.length c0_0] 25 (0,0)) (kq BT.out) hb4);have n2_:=am (jc (g:=w.heap.size+1) (o:=.cells #[.slice (some ad) l0.length c0] 28 (0,0)) (kq BH.out) hb4);have n3_:=am (je (bq) hb4);clear BX BT BH HB;(try clear cx0 cx1 cx2 cx3);have BX:=n0_;have BT:=n1_;have BH:=n2_;have HB:=n3_;clear n0_ n1_ n2_ n3_ hb4;have cT:=jOa BT.out;have cH:=jOa BH.out;have cx0:=jOa BX.out;have cx1:=cellA1 BX.out;have cx2:=cellA2 BX.out;have cx3:=cellA3 BX.out))
       go_roundw
       case rel=>exact ⟨i+1,hlt,by go_num,HN,⟨kq BT.out⟩,⟨kq BH.out⟩,⟨(bq)⟩⟩
       case measure=>simp [intOf];omega
  ·obtain rfl:i=l0.length:=by omega
   have HG:=am (show (hpEnds k l0 l0.length 0).bind (fun b=>if b=true then ((jG.f k l0_0).bind fun v=>some (if v=true then decide ((l0.length:Int)≤24) else false)) else some false)=some r by
    have h:=H'.out
    unfold jVa.f at h
    have hA:=HA.out
    rw [Nat.sub_self] at hA
    rw [if_neg (show ¬ hpAny l0_0 l0 l0.length 0=true by rw [← hA];simp [hpAny])] at h
    exact h)
   clear HA H'
   obtain ⟨b,hE,hG⟩:=bzS HG.out
   have HE:=am hE
   have HG2:=am hG
   clear HG hE hG
   go_wp2
   go_loopw [50] (fun v50 wr=>∃ j:Nat,j≤l0.length∧v50=.int .i64 j∧jB (hpEnds k l0 (l0.length - j) j=some b)∧jB (wr.heap[w.heap.size]?=some (.cells #[.slice A0_0 l0_0.length c0_0] 25 (0,0)))∧jB (wr.heap[w.heap.size+1]?=some (.cells #[.slice A0 l0.length c0] 28 (0,0)))∧jB (Below w.heap.size w wr)) (fun v50 _=>l0.length - (intOf v50).toNat)
   case atStart=>exact ⟨0,Nat.zero_le _,rfl,HE,BT,BH,HB⟩
   case round =>
    clear HB BT BH cT cH HE hlt
    obtain ⟨j,hj,rfl,HA,BT,BH,HB⟩:=hrel
    have cT:=jOa BT.out
    have cH:=jOa BH.out
    by_cases hlt:j<l0.length
    ·have hA:=HA.out
     rw [show l0.length - j=(l0.length - (j+1))+1 by omega,hpEnds] at hA
     obtain ⟨l,hl,hA⟩:=bzS hA
     have HC:=am (fun W (hb:Below w.heap.size w W)=>jbb.calls k A0 c0 l0 (j:Int) l W (Kd.jU HRH.out hb) hcH hl)
     clear HA hl
     by_cases hlen:1≤l.length
     ·rw [if_pos hlen] at hA
      obtain ⟨c,hc,hA⟩:=bzS hA
      unfold ctxF at hc
      obtain ⟨ji,hji⟩:∃ ji,ji=(l.length:Int) - 1:=⟨_,rfl⟩
      rw [← hji] at hc
      have HJ:=am hji
      by_cases hc1:0≤rd l ji
      ·rw [if_pos hc1] at hc
       by_cases hc2:rd l ji<(l0.length:Int)
       ·rw [if_pos hc2] at hc
        have hc3:=Option.some.inj hc
        clear hc
        have hl0:0≤ji:=by omega
        have hl1:ji<(l.length:Int):=by omega
        clear hji
        have p0:=ezT hc1
        have p1:=ezT hc2
        have p2:=ezT hl0
        have p3:=ezT hl1
        by_cases e1:c = -1
        ·rw [if_pos e1] at hA
         have HN:=am hA
         have hcb:((ja l0 (rd l ji)).f3 != -1)=false:=by rw [hc3];simpa using e1
         clear hA e1 hc3 hlen
         go_wp2_with (go_at_call 76;refine (HC.out _ (bq)).mono ?_;rintro e w2 ⟨v2,rfl,hr2,hb2⟩;have n1_:=am (jc (g:=w.heap.size) (o:=.cells #[.slice A0_0 l0_0.length c0_0] 25 (0,0)) (kq BT.out) hb2);have n2_:=am (jc (g:=w.heap.size+1) (o:=.cells #[.slice A0 l0.length c0] 28 (0,0)) (kq BH.out) hb2);have n3_:=am (je (bq) hb2);clear BT BH HB;have BT:=n1_;have BH:=n2_;have HB:=n3_;clear n1_ n2_ n3_ hb2;have cT:=jOa BT.out;have cH:=jOa BH.out;obtain ⟨Ao,co,eo⟩:=Kd.jZ hr2;subst eo;have hw2:IntKind.i64.wrap ((l.length:Int) - 1)=ji:=(by rw [HJ.out];exact IntWalk.i64_in _ (by have:=Kd.C_max (Kd.jC hr2).2.2;omega));obtain ⟨ad2,rfl,hz⟩:=Kd.jNb (Kd.jC hr2).2.2 ji hl0 hl1;obtain ⟨ad,e3,y0,y1,y2,y3,y4⟩:=jlb (Kd.jU HRH.out HB.out) (rd l ji) hc1 hc2;cases e3;clear hr2)
         repeat (go_quiet (fail);try go_wp2)
         go_roundw
         case rel=>exact ⟨j+1,hlt,by go_num,HN,⟨kq BT.out⟩,⟨kq BH.out⟩,⟨(bq)⟩⟩
         case measure=>simp [intOf];omega
        ·rw [if_neg e1] at hA
         have hcb:((ja l0 (rd l ji)).f3 != -1)=true:=by rw [hc3];simpa using e1
         have HZ:=am (show r=false by
          have h:=HG2.out
          rw [← Option.some.inj hA,if_neg (by simp)] at h
          exact (Option.some.inj h).symm)
         clear hA e1 hc3 hlen HG2
         go_wp2_with (go_at_call 76;refine (HC.out _ (bq)).mono ?_;rintro e w2 ⟨v2,rfl,hr2,hb2⟩;have n1_:=am (jc (g:=w.heap.size) (o:=.cells #[.slice A0_0 l0_0.length c0_0] 25 (0,0)) (kq BT.out) hb2);have n2_:=am (jc (g:=w.heap.size+1) (o:=.cells #[.slice A0 l0.length c0] 28 (0,0)) (kq BH.out) hb2);have n3_:=am (je (bq) hb2);clear BT BH HB;have BT:=n1_;have BH:=n2_;have HB:=n3_;clear n1_ n2_ n3_ hb2;have cT:=jOa BT.out;have cH:=jOa BH.out;obtain ⟨Ao,co,eo⟩:=Kd.jZ hr2;subst eo;have hw2:IntKind.i64.wrap ((l.length:Int) - 1)=ji:=(by rw [HJ.out];exact IntWalk.i64_in _ (by have:=Kd.C_max (Kd.jC hr2).2.2;omega));obtain ⟨ad2,rfl,hz⟩:=Kd.jNb (Kd.jC hr2).2.2 ji hl0 hl1;obtain ⟨ad,e3,y0,y1,y2,y3,y4⟩:=jlb (Kd.jU HRH.out HB.out) (rd l ji) hc1 hc2;cases e3;clear hr2)
         repeat (go_quiet (fail);try go_wp2)
         go_ret
         exact ⟨by rw [HZ.out];rfl,(bq)⟩
       ·rw [if_neg hc2] at hc;cases hc
      ·rw [if_neg hc1] at hc;cases hc
     ·rw [if_neg hlen] at hA;cases hA
    ·obtain rfl:j=l0.length:=by omega
     have hA:=HA.out
     rw [Nat.sub_self] at hA
     have hG:=HG2.out
     rw [← Option.some.inj (show some true=some b from hA),if_pos rfl] at hG
     obtain ⟨v,hv,hG⟩:=bzS hG
     have HV:=am (fun W (hb:Below w.heap.size w W)=>jG.calls k A0_0 c0_0 l0_0 v W (Kd.jU HRT.out hb) hcT hv)
     have hZ:=Option.some.inj hG
     clear HA HG2 hA hG hv
     cases v with
     | false =>
      have HZ:=am (show r=false by rw [← hZ];rfl)
      clear hZ
      go_wp2_with (go_at_call 77;refine (HV.out _ (bq)).mono ?_;rintro e w2 ⟨rfl,hb2⟩;have n1_:=am (jc (g:=w.heap.size) (o:=.cells #[.slice A0_0 l0_0.length c0_0] 25 (0,0)) (kq BT.out) hb2);have n2_:=am (jc (g:=w.heap.size+1) (o:=.cells #[.slice A0 l0.length c0] 28 (0,0)) (kq BH.out) hb2);have n3_:=am (je (bq) hb2);clear BT BH HB;have BT:=n1_;have BH:=n2_;have HB:=n3_;clear n1_ n2_ n3_ hb2;have cT:=jOa BT.out;have cH:=jOa BH.out)
      go_ret
      exact ⟨by rw [HZ.out];rfl,(bq)⟩
     | true =>
      rw [if_pos rfl] at hZ
      have HZ:=am hZ
      clear hZ
      go_wp2_with (go_at_call 77;refine (HV.out _ (bq)).mono ?_;rintro e w2 ⟨rfl,hb2⟩;have n1_:=am (jc (g:=w.heap.size) (o:=.cells #[.slice A0_0 l0_0.length c0_0] 25 (0,0)) (kq BT.out) hb2);have n2_:=am (jc (g:=w.heap.size+1) (o:=.cells #[.slice A0 l0.length c0] 28 (0,0)) (kq BH.out) hb2);have n3_:=am (je (bq) hb2);clear BT BH HB;have BT:=n1_;have BH:=n2_;have HB:=n3_;clear n1_ n2_ n3_ hb2;have cT:=jOa BT.out;have cH:=jOa BH.out)
      go_ret
      exact ⟨by rw [← HZ.out];rfl,(bq)⟩
set_option maxHeartbeats 8000000 in
set_option maxRecDepth 100000 in
theorem impl_faultsIn1_calls (A_ : Option Addr) (c_ : Nat) (m : Nat) (x : Int) (B0 : Nat) (w : World) (hm : m ≤ 9223372036854775807) (hc : w.cell? ⟨B0, 0, none⟩ = some (.slice A_ m c_)) :
  Calls Tryd.prog 52 #[.int .i64 x, .pointer (some ⟨B0,0,none⟩)] w fun e w'=>e=.returned (.bool (!hpIn x 0 ((m:Int) - 1)))∧Below w.heap.size w w':=by
 have HB:=am (Below.refl w.heap.size w)
 have hu28:=Tryd.underlying28
 have hw2:IntKind.i64.wrap ((m:Int) - 1)=(m:Int) - 1:=IntWalk.i64_in _ (by omega)
 by_cases h1:x≥0
 ·have hb1:=dzT h1
  by_cases h2:x≤(m:Int) - 1
  ·have hb2:=dzT h2
   have HZ:=am (by simp [hpIn];omega:hpIn x 0 ((m:Int) - 1)=true)
   clear h1 h2
   go_enter Tryd.func52,Tryd.ntmps52
   go_wp2
   go_ret
   exact ⟨by rw [HZ.out];rfl,(bq)⟩
  ·have hb2:=dzF h2
   have HZ:=am (by simp [hpIn];omega:hpIn x 0 ((m:Int) - 1)=false)
   clear h1 h2
   go_enter Tryd.func52,Tryd.ntmps52
   go_wp2
   go_ret
   exact ⟨by rw [HZ.out];rfl,(bq)⟩
 ·have hb1:=dzF h1
  have HZ:=am (by simp [hpIn];omega:hpIn x 0 ((m:Int) - 1)=false)
  clear h1
  go_enter Tryd.func52,Tryd.ntmps52
  go_wp2
  go_ret
  exact ⟨by rw [HZ.out];rfl,(bq)⟩
set_option maxHeartbeats 8000000 in
set_option maxRecDepth 100000 in
theorem impl_faultsIn_idx (A_ : Option Addr) (c_ : Nat) (l : List (Int)) (B0_ : Nat) (p : Int → Option Bool) (r : Int) (w : World) (hr : Kd.C (Kd.int .i64) w A_ l.length l) (h : idxFrom p l 0 = some r)
  (hp:∀ W,Below w.heap.size w W→∀ (x:Int) (b:Bool),p x=some b→Calls Tryd.prog 52 #[.int .i64 x, .pointer (some ⟨B0_,0,none⟩)] W fun e w'=>e=.returned (.bool b)∧Below W.heap.size W w') :
  Calls Tryd.prog 83 #[.slice A_ l.length c_, .func (.func 52) #[] #[.pointer (some ⟨B0_,0,none⟩)]] w fun e w'=>e=.returned (.int .i64 r)∧Below w.heap.size w w':=by
 have hm:l.length≤9223372036854775807:=Kd.C_max hr
 have HR:=am hr
 have HP:=am hp
 have H0:=am h
 clear hr hp h
 go_enter Tryd.func83,Tryd.ntmps83
 go_wp2
 go_loopw [5,8] (fun i5 i8 wr=>∃ k:Nat,k≤l.length∧i8=.int .i64 k∧jB (idxFrom p (l.drop k) k=some r)∧Below w.heap.size w wr) (fun _ i8 _=>l.length - (intOf i8).toNat)
 case atStart=>exact ⟨0,Nat.zero_le _,rfl,H0,Below.refl _ _⟩
 case round =>
  clear H0
  obtain ⟨k,hk,rfl,HA,hb⟩:=hrel
  by_cases hlt:k<l.length
  ·have HB:=am (idxFrom_step hlt HA.out)
   clear HA
   obtain ⟨ad,rfl,hx0⟩:=Kd.jNb HR.out (k:Int) (by omega) (by omega)
   have hrd:rd l (k:Int)=l[k]:=by simp [rd,List.getD_eq_getElem?_getD,hlt]
   replace hx0:=jS hb hx0
   rw [hrd] at hx0
   simp only [Int.toNat_natCast] at hx0
   clear hrd
   obtain ⟨b,hb1,hb0⟩:=HB.out
   have HQ:=am hb1
   clear hb1 HB
   cases b with
   | true =>
    have HZ:=am (by simpa using hb0:(k:Int)=r)
    clear hb0
    go_wp2_with (go_at_call 52;refine (HP.out _ hb _ _ HQ.out).mono ?_;rintro e w' ⟨rfl,hb2⟩)
    go_ret
    exact ⟨by rw [← HZ.out];rfl,jEb hb hb.size hb2⟩
   | false =>
    have HZ:=am (by simpa using hb0:idxFrom p (l.drop (k+1)) (k+1)=some r)
    clear hb0
    go_wp2_with (go_at_call 52;refine (HP.out _ hb _ _ HQ.out).mono ?_;rintro e w' ⟨rfl,hb2⟩)
    go_roundw
    case rel=>exact ⟨k+1,hlt,by go_num,HZ,jEb hb hb.size hb2⟩
    case measure=>simp [intOf];omega
  ·have HZ:=am (idxFrom_end (by omega) HA.out)
   clear HA
   go_wp2
   go_ret
   exact ⟨by rw [HZ.out];rfl,hb⟩
set_option maxHeartbeats 8000000 in
set_option maxRecDepth 100000 in
theorem impl_faultsIn_any (A_ : Option Addr) (c_ : Nat) (l : List Int) (B0_ : Nat) (p : Int → Option Bool) (r : Int) (w : World) (hr : Kd.C (Kd.int .i64) w A_ l.length l) (h : idxFrom p l 0 = some r)
  (hp:∀ W,Below w.heap.size w W→∀ (x:Int) (b:Bool),p x=some b→Calls Tryd.prog 52 #[.int .i64 x, .pointer (some ⟨B0_,0,none⟩)] W fun e w'=>e=.returned (.bool b)∧Below W.heap.size W w') :
  Calls Tryd.prog 51 #[.slice A_ l.length c_, .func (.func 52) #[] #[.pointer (some ⟨B0_,0,none⟩)]] w fun e w'=>e=.returned (.bool (decide (0≤r)))∧Below w.heap.size w w':=by
 have HF:=am (impl_faultsIn_idx A_ c_ l B0_ p r w hr h hp)
 clear hr h hp
 go_enter Tryd.func51,Tryd.ntmps51
 go_wp2_with (go_at_call 83;refine HF.out.mono ?_;rintro e w' ⟨rfl,hb2⟩)
 go_ret
 exact ⟨rfl,hb2⟩
def jQa.f (k : Nat) (l0_0 : List S99) (l1_0 : List S66) (l2 : List Int) : Option Bool := (jVa.f k l0_0 l1_0).bind fun v => if v then (idxFrom (fun x => some (!hpIn x 0 ((l1_0.length : Int) - 1))) l2 0).bind fun r => some (!decide (0 ≤ r)) else some false
set_option maxHeartbeats 8000000 in
set_option maxRecDepth 100000 in
theorem jQa.calls (k : Nat) (A0_0 : Option Addr) (c0_0 : Nat) (l0_0 : List (S99)) (A1_0 : Option Addr) (c1_0 : Nat) (l1_0 : List (S66)) (A2 : Option Addr) (c2 : Nat) (l2 : List Int) (r : Bool) (w : World) (hr0_0 : Kd.C k99 w A0_0 l0_0.length l0_0) (hc0_0 : l0_0.length ≤ c0_0) (hr1_0 : Kd.C k66 w A1_0 l1_0.length l1_0) (hc1_0 : l1_0.length ≤ c1_0) (hr2 : Kd.C (Kd.int .i64) w A2 l2.length l2) (hc2 : l2.length ≤ c2) (h : jQa.f k l0_0 l1_0 l2 = some r) :
  Calls Tryd.prog 28 #[.agg #[.slice A0_0 l0_0.length c0_0], .agg #[.slice A1_0 l1_0.length c1_0], .slice A2 l2.length c2] w fun e w'=>e=.returned (.bool r)∧Below w.heap.size w w':=by
 obtain ⟨v,hv,h⟩:=bzS h
 have hu25:=Tryd.underlying25
 have hu28:=Tryd.underlying28
 have hm:l1_0.length≤9223372036854775807:=Kd.C_max hr1_0
 have B0:=am (((Below.refl w.heap.size w).alloc (Nat.le_refl _) (.cells #[.slice A0_0 l0_0.length c0_0] 25)).alloc (by simp) (.cells #[.slice A1_0 l1_0.length c1_0] 28))
 have KC:=am (show ((w.alloc (.cells #[.slice A0_0 l0_0.length c0_0] 25)).alloc (.cells #[.slice A1_0 l1_0.length c1_0] 28)).cell? ⟨w.heap.size+1,0,none⟩=some (.slice A1_0 l1_0.length c1_0) by have h:=hp_cell_new (w.alloc (.cells #[.slice A0_0 l0_0.length c0_0] 25)) (.slice A1_0 l1_0.length c1_0) 28;simpa only [World.size_alloc] using h)
 have HV:=am (fun W (hb:Below w.heap.size w W)=>jVa.calls k A0_0 c0_0 l0_0 A1_0 c1_0 l1_0 v W (Kd.jU hr0_0 hb) hc0_0 (Kd.jU hr1_0 hb) hc1_0 hv)
 cases v with
 | false =>
  obtain rfl:false=r:=by simpa using h
  clear hv h hr0_0 hr1_0 hr2
  go_enter Tryd.func28,Tryd.ntmps28
  go_wp2_with (go_at_call 45;refine (HV.out _ B0.out).mono ?_;rintro e w' ⟨rfl,hb2⟩)
  go_ret
  exact ⟨rfl,jEb B0.out B0.out.size hb2⟩
 | true =>
  simp only [if_true] at h
  obtain ⟨q,hq,h⟩:=bzS h
  have HZ:=am (Option.some.inj h)
  have HF:=am (fun W (hb:Below w.heap.size w W) (B:Nat) (hc:W.cell? ⟨B,0,none⟩=some (.slice A1_0 l1_0.length c1_0))=>impl_faultsIn_any A2 c2 l2 B (fun x=>some (!hpIn x 0 ((l1_0.length:Int) - 1))) q W (Kd.jU hr2 hb) hq (fun W' hb' x b hx=>by
   obtain rfl:=Option.some.inj hx
   exact impl_faultsIn1_calls A1_0 c1_0 l1_0.length x B W' hm (jS hb' hc)))
  clear hv h hq hr0_0 hr1_0 hr2
  go_enter Tryd.func28,Tryd.ntmps28
  go_wp2_with (first |(go_at_call 45;refine (HV.out _ B0.out).mono ?_;rintro e w1 ⟨rfl,hb2⟩;have hb1:=jEb B0.out B0.out.size hb2;have hcell:=jS hb2 KC.out) |(go_at_call 51;refine (HF.out _ hb1 _ hcell).mono ?_;rintro e w2 ⟨rfl,hb3⟩))
  go_ret
  exact ⟨by rw [← HZ.out];rfl,jEb hb1 hb1.size hb3⟩
def jJa.f (l0_0 : List (S66)) (a1 : Int) : Option (Int) := if 0 ≤ a1 then (if a1 < (l0_0.length : Int) then (if ((ja l0_0 a1).f2) ≥ 0 then (some ((ja l0_0 a1).f2)) else (if (ja l0_0 a1).f4 = true then (some (-1)) else (some ((ja l0_0 a1).f3)))) else (none)) else (none)
set_option maxHeartbeats 8000000 in
set_option maxRecDepth 100000 in
theorem jJa.calls (A0_0 : Option Addr) (c0_0 : Nat) (l0_0 : List (S66)) (a1 : Int) (r : Int) (w : World) (hr0_0 : Kd.C k66 w A0_0 l0_0.length l0_0) (hc0_0 : l0_0.length ≤ c0_0) (h : jJa.f l0_0 a1 = some r) :
  Calls Tryd.prog 30 #[.agg #[.slice A0_0 l0_0.length c0_0], .int .i64 a1] w fun e w'=>e=.returned (.int .i64 r)∧Below w.heap.size w w':=by
 have hu28:=Tryd.underlying28
 have hu66:=Tryd.underlying66
 have HR0_0:=am hr0_0
 have HC0_0:=am hc0_0
 clear hr0_0 hc0_0
 have HB:=am (Below.refl w.heap.size w)
 have H:(if 0≤a1 then (if a1<(l0_0.length:Int) then (if ((ja l0_0 a1).f2)≥0 then (some ((ja l0_0 a1).f2)) else (if (ja l0_0 a1).f4=true then (some (-1)) else (some ((ja l0_0 a1).f3)))) else (none)) else (none))=some r:=h
 clear h
 by_cases c3:0≤a1
 ·rw [if_pos c3] at H
  have c3b0:decide (0≤a1)=true:=dzT c3
  clear c3
  by_cases c4:a1<(l0_0.length:Int)
  ·rw [if_pos c4] at H
   have c4b0:decide (a1<(l0_0.length:Int))=true:=dzT c4
   clear c4
   by_cases c5:((ja l0_0 a1).f2)≥0
   ·rw [if_pos c5] at H
    have c5b0:decide (0≤((ja l0_0 a1).f2))=true:=dzT c5
    clear c5
    obtain rfl:=Option.some.inj H
    go_enter Tryd.func30,Tryd.ntmps30
    go_wp2_with (first |((with_reducible refine jD (N:=2) rfl ?_);refine bE (N:=2) (cs:=#[.slice A0_0 l0_0.length c0_0]) (t:=28) ?_;intro gb329 hg w6 hbox hb;have BK329:=am (hbox);have GW329:=am ((Y0:w.heap.size≤gb329));have GE329:=am ((Y0:w.heap.size≤gb329));replace HB:=am (je (bq) hb);clear hb hbox hg;have hcz7_0:=bc0 BK329.out;have hfz7_0:=jb BK329.out 0;have p330:0≤(a1:Int):=ozD (uq);have q330:a1<(l0_0.length:Int):=ozD (uq);obtain ⟨ad330,e330,hx330_0,hx330_1,hx330_2,hx330_3,hx330_4⟩:=jlb HR0_0.out a1 p330 q330;cases e330;replace hx330_0:=cb HB.out hx330_0;replace hx330_1:=cb HB.out hx330_1;replace hx330_2:=cb HB.out hx330_2;replace hx330_3:=cb HB.out hx330_3;replace hx330_4:=cb HB.out hx330_4;replace p330:=ezT p330;replace q330:=ezT q330) |((with_reducible refine jD (N:=5) rfl ?_);refine bE (N:=5) (cs:=#[.int .i64 0, .int .i64 0, .int .i64 0, .int .i64 0, .bool false]) (t:=66) ?_;intro gb331 hg w8 hbox hb;have BK331:=am (hbox);have GW331:=am ((Y81:w.heap.size≤gb331));have GE331:=am ((Y81:w.heap.size≤gb331));have NB329_331:=am ((Y133:gb329≠gb331));have NB331_329:=am ((Y134:gb331≠gb329));replace BK329:=am (jc (g:=gb329) (o:=.cells #[.slice (some ad330) l0_0.length c0_0] 28 (0,0)) (kq BK329.out) hb);replace HB:=am (je (Y135) hb);clear hb hbox hg;have hnb9:=NB331_329.out;have hnc9:=NB329_331.out;have hcz10_0:=bc0 BK331.out;have hcz10_1:=bc1 BK331.out;have hcz10_2:=bc2 BK331.out;have hcz10_3:=bc3 BK331.out;have hcz10_4:w8.cell? ⟨gb331,4,none⟩=some (.bool false):=(jH BK331.out 4).trans rfl;have hfz10_0:=jb BK331.out 0;have hfz10_1:=jb BK331.out 1;have hfz10_2:=jb BK331.out 2;have hfz10_3:=jb BK331.out 3;have hfz10_4:=jb BK331.out 4))
    go_ret
    exact ⟨Y1,Y136⟩
   ·rw [if_neg c5] at H
    have c5b0:decide (0≤((ja l0_0 a1).f2))=false:=dzF c5
    clear c5
    obtain ⟨bq11,hbq11⟩:∃ b_:Bool,b_=((ja l0_0 a1).f4):=⟨_,rfl⟩
    replace H:(if bq11=true then (some (-1)) else (some ((ja l0_0 a1).f3)))=some r:=by rw [← hbq11] at H;exact H
    have Nbq11:=am hbq11
    clear hbq11
    by_cases c12:bq11=true
    ·subst c12
     have H1:(some (-1))=some r:=by rw [if_pos rfl] at H;exact H
     clear H
     have H:=H1
     clear H1
     obtain rfl:=Option.some.inj H
     go_enter Tryd.func30,Tryd.ntmps30
     go_wp2_with (first |((with_reducible refine jD (N:=2) rfl ?_);refine bE (N:=2) (cs:=#[.slice A0_0 l0_0.length c0_0]) (t:=28) ?_;intro gb329 hg w13 hbox hb;have BK329:=am (hbox);have GW329:=am ((Y0:w.heap.size≤gb329));have GE329:=am ((Y0:w.heap.size≤gb329));replace HB:=am (je (bq) hb);clear hb hbox hg;have hcz14_0:=bc0 BK329.out;have hfz14_0:=jb BK329.out 0;have p330:0≤(a1:Int):=ozD (uq);have q330:a1<(l0_0.length:Int):=ozD (uq);obtain ⟨ad330,e330,hx330_0,hx330_1,hx330_2,hx330_3,hx330_4⟩:=jlb HR0_0.out a1 p330 q330;(try rw [← Nbq11.out] at hx330_4);cases e330;replace hx330_0:=cb HB.out hx330_0;replace hx330_1:=cb HB.out hx330_1;replace hx330_2:=cb HB.out hx330_2;replace hx330_3:=cb HB.out hx330_3;replace hx330_4:=cb HB.out hx330_4;replace p330:=ezT p330;replace q330:=ezT q330) |((with_reducible refine jD (N:=5) rfl ?_);refine bE (N:=5) (cs:=#[.int .i64 0, .int .i64 0, .int .i64 0, .int .i64 0, .bool false]) (t:=66) ?_;intro gb331 hg w15 hbox hb;have BK331:=am (hbox);have GW331:=am ((Y81:w.heap.size≤gb331));have GE331:=am ((Y81:w.heap.size≤gb331));have NB329_331:=am ((Y133:gb329≠gb331));have NB331_329:=am ((Y134:gb331≠gb329));replace BK329:=am (jc (g:=gb329) (o:=.cells #[.slice (some ad330) l0_0.length c0_0] 28 (0,0)) (kq BK329.out) hb);replace HB:=am (je (Y135) hb);clear hb hbox hg;have hnb16:=NB331_329.out;have hnc16:=NB329_331.out;have hcz17_0:=bc0 BK331.out;have hcz17_1:=bc1 BK331.out;have hcz17_2:=bc2 BK331.out;have hcz17_3:=bc3 BK331.out;have hcz17_4:w15.cell? ⟨gb331,4,none⟩=some (.bool false):=(jH BK331.out 4).trans rfl;have hfz17_0:=jb BK331.out 0;have hfz17_1:=jb BK331.out 1;have hfz17_2:=jb BK331.out 2;have hfz17_3:=jb BK331.out 3;have hfz17_4:=jb BK331.out 4))
     go_ret
     exact ⟨Y1,Y136⟩
    ·replace c12:=Bool.eq_false_iff.mpr c12
     subst c12
     have H1:(some ((ja l0_0 a1).f3))=some r:=by rw [if_neg (show ¬ (false=true) by decide)] at H;exact H
     clear H
     have H:=H1
     clear H1
     obtain rfl:=Option.some.inj H
     go_enter Tryd.func30,Tryd.ntmps30
     go_wp2_with (first |((with_reducible refine jD (N:=2) rfl ?_);refine bE (N:=2) (cs:=#[.slice A0_0 l0_0.length c0_0]) (t:=28) ?_;intro gb329 hg w18 hbox hb;have BK329:=am (hbox);have GW329:=am ((Y0:w.heap.size≤gb329));have GE329:=am ((Y0:w.heap.size≤gb329));replace HB:=am (je (bq) hb);clear hb hbox hg;have hcz19_0:=bc0 BK329.out;have hfz19_0:=jb BK329.out 0;have p330:0≤(a1:Int):=ozD (uq);have q330:a1<(l0_0.length:Int):=ozD (uq);obtain ⟨ad330,e330,hx330_0,hx330_1,hx330_2,hx330_3,hx330_4⟩:=jlb HR0_0.out a1 p330 q330;(try rw [← Nbq11.out] at hx330_4);cases e330;replace hx330_0:=cb HB.out hx330_0;replace hx330_1:=cb HB.out hx330_1;replace hx330_2:=cb HB.out hx330_2;replace hx330_3:=cb HB.out hx330_3;replace hx330_4:=cb HB.out hx330_4;replace p330:=ezT p330;replace q330:=ezT q330) |((with_reducible refine jD (N:=5) rfl ?_);refine bE (N:=5) (cs:=#[.int .i64 0, .int .i64 0, .int .i64 0, .int .i64 0, .bool false]) (t:=66) ?_;intro gb331 hg w20 hbox hb;have BK331:=am (hbox);have GW331:=am ((Y81:w.heap.size≤gb331));have GE331:=am ((Y81:w.heap.size≤gb331));have NB329_331:=am ((Y133:gb329≠gb331));have NB331_329:=am ((Y134:gb331≠gb329));replace BK329:=am (jc (g:=gb329) (o:=.cells #[.slice (some ad330) l0_0.length c0_0] 28 (0,0)) (kq BK329.out) hb);replace HB:=am (je (Y135) hb);clear hb hbox hg;have hnb21:=NB331_329.out;have hnc21:=NB329_331.out;have hcz22_0:=bc0 BK331.out;have hcz22_1:=bc1 BK331.out;have hcz22_2:=bc2 BK331.out;have hcz22_3:=bc3 BK331.out;have hcz22_4:w20.cell? ⟨gb331,4,none⟩=some (.bool false):=(jH BK331.out 4).trans rfl;have hfz22_0:=jb BK331.out 0;have hfz22_1:=jb BK331.out 1;have hfz22_2:=jb BK331.out 2;have hfz22_3:=jb BK331.out 3;have hfz22_4:=jb BK331.out 4))
     go_ret
     exact ⟨Y1,Y136⟩
  ·rw [if_neg c4] at H
   exact absurd H (by simp)
 ·rw [if_neg c3] at H
  exact absurd H (by simp)
set_option maxHeartbeats 8000000 in
set_option maxRecDepth 100000 in
theorem impl_ShownChain_walk (k : Nat) (A_ : Option Addr) (n_ c_ : Nat) (nx : Int → Option Int) (a0 : Int) (r : List Int) (w : World) (h : jib nx k a0 [] = some r)
  (hp:∀ W,Below w.heap.size w W→∀ (x y:Int),nx x=some y→Calls Tryd.prog 30 #[.agg #[.slice A_ n_ c_], .int .i64 x] W fun e w'=>e=.returned (.int .i64 y)∧Below W.heap.size W w') :
  Calls Tryd.prog 29 #[.int .i64 a0, .func (.func 30) #[.agg #[.slice A_ n_ c_]] #[]] w fun e w'=>∃ v0_:Value,e=.returned v0_∧Kd.R (Kd.int .i64) 3 w' w.heap.size (fun _=>True) v0_ r∧Below w.heap.size w w':=by
 have HP:=am hp
 have H0:=am h
 have HB:=am (Below.refl w.heap.size w)
 clear hp h
 go_enter Tryd.func29,Tryd.ntmps29
 go_wp2_with ((with_reducible refine jD (N:=6) rfl ?_);refine Kd.R_lit (Kd.int .i64) _ 3 ?hg (N:=6) ?hd (xs:=([]:List Int)) (inner:=[]) (ok:=fun _=>True) (okp:=fun _=>True) ?hr ?hp (fun _ hk=>hk) trivial (Below.refl _ _) (Nat.le_refl _) (by simp) ?_;(case hd=>rfl);(case hg=>rfl);(case hr=>exact Y4);(case hp=>exact (Reps.none _ _));intro v111 w4 ho5 hb hg_ hnew_;clear hg_ hnew_;have n0_:=am (Kd.jia ho5 (jM (bq)));have n2_:=am (je (bq) hb);clear HB;have HO:=n0_;have HB:=n2_;clear n0_ n2_ hb ho5)
 go_loopg [0,5] k (fun kq v0 v5 w'=>∃ (x:Int) (acc:List Int),v0=.int .i64 x∧jB (jib nx kq x acc=some r)∧jB (kq≤k)∧jB (Kd.R (Kd.int .i64) 3 w' w.heap.size (fun _=>True) v5 acc)∧jB (Below w.heap.size w w'))
 case atStart=>exact ⟨a0,[],(sq),H0,⟨Nat.le_refl _⟩,⟨rq HO.out⟩,⟨bq⟩⟩
 case round =>
  clear H0 HO HB
  obtain ⟨x,acc,rfl,HA,HK1,HO,HB⟩:=hrel
  cases gk with
  | zero=>exact absurd HA.out (by simp [jib])
  | succ k1 =>
   have H:=HA.out
   clear HA
   simp only [jib] at H
   obtain ⟨Ao,co,eo⟩:=Kd.jZ HO.out
   subst eo
   by_cases c6:x≥0
   ·rw [if_pos c6] at H
    have c6b0:decide (0≤x)=true:=dzT c6
    clear c6
    obtain ⟨b,A70,H⟩:=bzS H
    have A7:=am A70
    clear A70
    cases b with
    | true =>
     rw [if_pos rfl] at H
     obtain rfl:=Option.some.inj H
     clear H
     go_wp2_with (first |(go_at_call 53;(with_reducible refine (joa.calls k1 _ _ acc x true _ ?side1 ?side2 A7.out).mono ?_);(case side1=>exact cq (Kd.jC HO.out).2.2);(case side2=>exact (Kd.jC HO.out).2.1);rintro e w' ⟨rfl,⟨nd,rfl⟩⟩) |(go_at_call 54;refine (jpa.calls (fun _=>True) _ acc acc w _ (bq) (rq HO.out) (show jpa.f acc=some acc from rfl)).mono ?_;rintro e w9 ⟨v9,rfl,hR9,hB9,hK9⟩))
     go_ret
     exact ⟨_,rfl,Kd.jI hR9 (fun _ _=>trivial),hB9⟩
    | false =>
     rw [if_neg (by simp)] at H
     by_cases c10:acc.length<17592186044416
     ·rw [if_pos c10] at H
      have LM:=am c10
      clear c10
      obtain ⟨y,hy,H⟩:=bzS H
      have HQ:=am hy
      have H':=am H
      clear H hy
      go_wp2_with (first |(go_at_call 53;(with_reducible refine (joa.calls k1 _ _ acc x false _ ?side1 ?side2 A7.out).mono ?_);(case side1=>exact cq (Kd.jC HO.out).2.2);(case side2=>exact (Kd.jC HO.out).2.1);rintro e w' ⟨rfl,⟨nd,rfl⟩⟩) |(go_at_call 30;refine (HP.out _ (bq) _ _ HQ.out).mono ?_;rintro e w2 ⟨rfl,hb2⟩;have n1_:=am (Kd.jW (rq HO.out) hb2);have n2_:=am (je (bq) hb2);clear HO HB;have HO:=n1_;have HB:=n2_;clear n1_ n2_ hb2) |((with_reducible refine jHb (b:=.append) (xs:=#[.tmp 18, .tmp 20]) rfl ?_);at_builtin;refine Kd.R_append (Kd.int .i64) (w0:=w) w.heap.size rfl (.tmp 18) (.tmp 20) 32 3 (.int .i64 0) 8 rfl Tryd.underlying32 info3 rfl (by decide) (by omega) (.slice Ao acc.length co) acc x [.int .i64 x] (fun _=>True) (fun _=>False) rfl rfl ?aP (fun _ hk=>hk.elim) ?aF ?aO ?aB ?aS ?aL ?_;(case aP=>exact rfl);(case aB=>exact (bq));(case aF=>exact (fun _ _=>trivial));(case aO=>exact (rq HO.out));(case aS=>exact (jM (bq)));(case aL=>have:=LM.out;omega);intro v115 w14 ho hb hg hat;have n1_:=am (hb);have n2_:=am (ho);clear HB HO;have HB:=n1_;have HO:=n2_;clear n1_ n2_ ho hb hg hat))
      go_roundg k1
      case measure=>have:=HK1.out;omega
      case rel=>exact ⟨y,acc ++ [x],(sq),H',⟨by have:=HK1.out;omega⟩,⟨rq HO.out⟩,⟨bq⟩⟩
     ·rw [if_neg c10] at H
      cases H
   ·rw [if_neg c6] at H
    have c6b0:decide (0≤x)=false:=dzF c6
    clear c6
    obtain rfl:=Option.some.inj H
    clear H
    go_wp2_with (go_at_call 54;refine (jpa.calls (fun _=>True) _ acc acc w _ (bq) (rq HO.out) (show jpa.f acc=some acc from rfl)).mono ?_;rintro e w9 ⟨v9,rfl,hR9,hB9,hK9⟩)
    go_ret
    exact ⟨_,rfl,Kd.jI hR9 (fun _ _=>trivial),hB9⟩
theorem jRb (w : World) (v : Value) (t : TypeId) : (w.alloc (.cells #[v] t)).cell? ⟨w.heap.size, 0, none⟩ = some v := by simp
theorem jkc {w : World} {B : Nat} {v : Value} (o : Obj) (h : w.cell? ⟨B, 0, none⟩ = some v) : (w.alloc o).cell? ⟨B, 0, none⟩ = some v := jS ((Below.refl _ _).alloc (Nat.le_refl _) _) h
theorem impl_ShownChain_C_one {W : World} {b : Nat} {x : Int} (h : W.cell? ⟨b, 0, none⟩ = some (.int .i64 x)) : Kd.C (Kd.int .i64) W (some ⟨b, 0, none⟩) [x].length [x] :=
 Kd.C_of_reads (d:=0) (h1:=fun _=>rfl) ⟨rfl,by simp,fun _=>⟨_,rfl,fun j hj=>by
  obtain rfl:j=0:=by simpa using hj
  exact h⟩⟩
def jab.f (k : Nat) (l0_0 : List S99) (l1_0 : List S66) (a2 : Int) : Option (List Int) := (jQa.f k l0_0 l1_0 [a2]).bind fun v => if v = true then jib (fun g => jJa.f l1_0 g) k a2 [] else some []
set_option maxHeartbeats 8000000 in
set_option maxRecDepth 100000 in
theorem jab.calls (k : Nat) (A0_0 : Option Addr) (c0_0 : Nat) (l0_0 : List (S99)) (A1_0 : Option Addr) (c1_0 : Nat) (l1_0 : List (S66)) (a2 : Int) (r : List Int) (w : World) (hr0_0 : Kd.C k99 w A0_0 l0_0.length l0_0) (hc0_0 : l0_0.length ≤ c0_0) (hr1_0 : Kd.C k66 w A1_0 l1_0.length l1_0) (hc1_0 : l1_0.length ≤ c1_0) (h : jab.f k l0_0 l1_0 a2 = some r) :
  Calls Tryd.prog 10 #[.agg #[.slice A0_0 l0_0.length c0_0], .agg #[.slice A1_0 l1_0.length c1_0], .int .i64 a2] w fun e w'=>∃ v0_:Value,e=.returned v0_∧Kd.R (Kd.int .i64) 3 w' w.heap.size (fun _=>True) v0_ r∧Below w.heap.size w w':=by
 obtain ⟨v,hv,h⟩:=bzS h
 have hu25:=Tryd.underlying25
 have hu28:=Tryd.underlying28
 have B3:=am ((((Below.refl w.heap.size w).alloc (Nat.le_refl _) (.cells #[.slice A0_0 l0_0.length c0_0] 25)).alloc (by simp) (.cells #[.slice A1_0 l1_0.length c1_0] 28)).alloc (by simp;omega) (.cells #[.int .i64 a2] 3))
 have KC1:=am (show (((w.alloc (.cells #[.slice A0_0 l0_0.length c0_0] 25)).alloc (.cells #[.slice A1_0 l1_0.length c1_0] 28)).alloc (.cells #[.int .i64 a2] 3)).cell? ⟨w.heap.size+1,0,none⟩=some (.slice A1_0 l1_0.length c1_0) from jkc _ (by have h:=jRb (w.alloc (.cells #[.slice A0_0 l0_0.length c0_0] 25)) (.slice A1_0 l1_0.length c1_0) 28;simpa only [World.size_alloc] using h))
 have KC2:=am (show (((w.alloc (.cells #[.slice A0_0 l0_0.length c0_0] 25)).alloc (.cells #[.slice A1_0 l1_0.length c1_0] 28)).alloc (.cells #[.int .i64 a2] 3)).cell? ⟨w.heap.size+1+1,0,none⟩=some (.int .i64 a2) from (by have h:=jRb ((w.alloc (.cells #[.slice A0_0 l0_0.length c0_0] 25)).alloc (.cells #[.slice A1_0 l1_0.length c1_0] 28)) (.int .i64 a2) 3;simpa only [World.size_alloc] using h))
 have HV:=am (fun W (hb:Below w.heap.size w W) (B:Nat) (hB:W.cell? ⟨B,0,none⟩=some (.int .i64 a2))=>jQa.calls k A0_0 c0_0 l0_0 A1_0 c1_0 l1_0 (some ⟨B,0,none⟩) 1 [a2] v W (Kd.jU hr0_0 hb) hc0_0 (Kd.jU hr1_0 hb) hc1_0 (impl_ShownChain_C_one hB) (by simp) hv)
 cases v with
 | false =>
  obtain rfl:[]=r:=by simpa using h
  clear hv h hr0_0 hr1_0
  go_enter Tryd.func10,Tryd.ntmps10
  go_wp2_with (go_at_call 28;refine (HV.out _ B3.out (w.heap.size+1+1) KC2.out).mono ?_;rintro e w' ⟨rfl,hb2⟩)
  go_ret
  exact ⟨_,rfl,Kd.R_nil _ _ _ _ _,B3.out.trans (hb2.mono (by simp;omega))⟩
 | true =>
  simp only [if_true] at h
  obtain ⟨l,rfl⟩:∃ l,l=r:=⟨_,rfl⟩
  have hl:=h
  clear h
  have HF:=am (fun W (hb:Below w.heap.size w W)=>impl_ShownChain_walk k A1_0 l1_0.length c1_0 (fun g=>jJa.f l1_0 g) a2 l W hl (fun W' hb' x y hx=>jJa.calls A1_0 c1_0 l1_0 x y W' (Kd.jU (Kd.jU hr1_0 hb) hb') hc1_0 hx))
  clear hv hr0_0 hr1_0 hl
  go_enter Tryd.func10,Tryd.ntmps10
  go_wp2_with (first |(go_at_call 28;refine (HV.out _ B3.out (w.heap.size+1+1) KC2.out).mono ?_;rintro e w1 ⟨rfl,hb2⟩;have hb1:=am (B3.out.trans (hb2.mono (by simp;omega)));have hcell:=jS hb2 KC1.out;clear HV hb2) |(go_at_call 29;refine (HF.out _ hb1.out).mono ?_;rintro e w2 ⟨v2,rfl,hr2,hb3⟩))
  go_ret
  exact ⟨_,rfl,Kd.jia hr2 hb1.out.size,jEb hb1.out hb1.out.size hb3⟩

def sh171_ren : Go.Shelf.Ren := ⟨fun | 171 => 86 | 243 => 95 | 246 => 98 | 283 => 99 | 284 => 100 | 285 => 101 | 286 => 102 | 129 => 104 | 317 => 103 | 318 => 105 | 319 => 106 | 320 => 107 | 337 => 108 | 338 => 109 | n => n, fun | 3 => 3 | 9 => 9 | 2 => 2 | 4 => 4 | 171 => 124 | 0 => 0 | 53 => 125 | 37 => 22 | 5 => 5 | 173 => 128 | 212 => 131 | 51 => 132 | 20 => 20 | 213 => 133 | 46 => 134 | 232 => 137 | 233 => 138 | n => n, fun | 17 => 0 | 18 => 1 | 19 => 2 | n => n⟩
theorem sh171 : Go.Proofs.Lays.n171 Tryd.prog sh171_ren := {
 mixed:=by kernel_rfl
 f129:=Tryd.func104.trans (congrArg some (by kernel_rfl))
 f171:=Tryd.func86.trans (congrArg some (by kernel_rfl))
 f243:=Tryd.func95.trans (congrArg some (by kernel_rfl))
 f246:=Tryd.func98.trans (congrArg some (by kernel_rfl))
 f283:=Tryd.func99.trans (congrArg some (by kernel_rfl))
 f284:=Tryd.func100.trans (congrArg some (by kernel_rfl))
 f285:=Tryd.func101.trans (congrArg some (by kernel_rfl))
 f286:=Tryd.func102.trans (congrArg some (by kernel_rfl))
 f317:=Tryd.func103.trans (congrArg some (by kernel_rfl))
 f318:=Tryd.func105.trans (congrArg some (by kernel_rfl))
 f319:=Tryd.func106.trans (congrArg some (by kernel_rfl))
 f320:=Tryd.func107.trans (congrArg some (by kernel_rfl))
 f337:=Tryd.func108.trans (congrArg some (by kernel_rfl))
 f338:=Tryd.func109.trans (congrArg some (by kernel_rfl))
 t0:=Tryd.underlying0
 a0:=Tryd.isAgg0
 z0:=Tryd.sizeOf0
 v0:=Tryd.zeroValue0
 t2:=Tryd.underlying2
 a2:=Tryd.isAgg2
 z2:=Tryd.sizeOf2
 v2:=Tryd.zeroValue2
 t3:=Tryd.underlying3
 a3:=Tryd.isAgg3
 z3:=Tryd.sizeOf3
 v3:=Tryd.zeroValue3
 t4:=Tryd.underlying4
 a4:=Tryd.isAgg4
 z4:=Tryd.sizeOf4
 v4:=Tryd.zeroValue4
 t5:=Tryd.underlying5
 a5:=Tryd.isAgg5
 z5:=Tryd.sizeOf5
 v5:=Tryd.zeroValue5
 t9:=Tryd.underlying9
 a9:=Tryd.isAgg9
 z9:=Tryd.sizeOf9
 v9:=Tryd.zeroValue9
 t20:=Tryd.underlying20
 a20:=Tryd.isAgg20
 z20:=Tryd.sizeOf20
 v20:=Tryd.zeroValue20
 t37:=Tryd.underlying22
 a37:=Tryd.isAgg22
 z37:=Tryd.sizeOf22
 v37:=Tryd.zeroValue22
 t46:=Tryd.underlying134
 a46:=Tryd.isAgg134
 z46:=Tryd.sizeOf134
 v46:=Tryd.zeroValue134
 t51:=Tryd.underlying132
 a51:=Tryd.isAgg132
 z51:=Tryd.sizeOf132
 v51:=Tryd.zeroValue132
 t53:=Tryd.underlying125
 a53:=Tryd.isAgg125
 z53:=Tryd.sizeOf125
 v53:=Tryd.zeroValue125
 t171:=Tryd.underlying124
 a171:=Tryd.isAgg124
 z171:=Tryd.sizeOf124
 v171:=Tryd.zeroValue124
 t173:=Tryd.underlying128
 a173:=Tryd.isAgg128
 z173:=Tryd.sizeOf128
 v173:=Tryd.zeroValue128
 t212:=Tryd.underlying131
 a212:=Tryd.isAgg131
 z212:=Tryd.sizeOf131
 v212:=Tryd.zeroValue131
 t213:=Tryd.underlying133
 a213:=Tryd.isAgg133
 z213:=Tryd.sizeOf133
 t232:=Tryd.underlying137
 a232:=Tryd.isAgg137
 z232:=Tryd.sizeOf137
 v232:=Tryd.zeroValue137
 t233:=Tryd.underlying138
 a233:=Tryd.isAgg138
 z233:=Tryd.sizeOf138
 v233:=Tryd.zeroValue138
 g17:=by kernel_rfl
 g18:=by kernel_rfl
 g19:=by kernel_rfl }
def strconv_Itoa.f (a0 : Int) : Option ByteArray := if 0 ≤ a0 then (if a0 < 100 then some ⟨(Lib.decDigits a0.toNat).toArray⟩ else none) else none
set_option maxHeartbeats 8000000 in
set_option maxRecDepth 100000 in
theorem strconv_Itoa.calls (a0 : Int) (r : ByteArray) (w : World) (h : strconv_Itoa.f a0 = some r) :
  Calls Tryd.prog 86 #[.int .i64 a0] w fun e w'=>e=.returned (.string r)∧jvb w w':=by
 unfold strconv_Itoa.f at h
 by_cases h0:0≤a0
 ·rw [if_pos h0] at h
  by_cases h1:a0<100
  ·rw [if_pos h1] at h
   obtain rfl:=Option.some.inj h
   have hs:=Go.Proofs.Any.strconv_Itoa_small sh171 a0.toNat (by omega) w
   rw [Int.toNat_of_nonneg h0] at hs
   refine Calls.mono (show Calls Tryd.prog 86 _ w _ from hs) ?_
   rintro e w' ⟨rfl,rfl⟩
   exact ⟨rfl,jvb.refl _⟩
  ·rw [if_neg h1] at h;cases h
 ·rw [if_neg h0] at h;cases h
end Go.Proofs.YteibechlncphnaaDoor.P
end
