/- One part of the proofs on this program: functions of the program as plain functions, that the code comes to them, and facts on them. -/
import Derived.Test.YtecdfgejmbpclaaYAll1
import Derived.Test.YtecdfgejmbpclaaYAll3
import Derived.Test.YtecdfgejmbpclaaYAll6
import Derived.Test.YtecdfgejmbpclaaYWAuto
section
namespace Go.Proofs.Ytecdfgejmbpclaa.P
open Go.RowKit Go.Proofs.YtecdfgejmbpclaaW.PrintWords Go.Proofs.YtecdfgejmbpclaaW.PrintLast Go.Proofs.YtecdfgejmbpclaaW.PrintMore
attribute [local go_sem] jxa jva jEa jDa jka jja jwa jua jD
set_option linter.unusedVariables false
set_option linter.unusedSimpArgs false
def jAb.f (k : Nat) (s0_0 : List Int) (s0_1 : Int) (l1_0 : List (S54)) : Option (Int × Int) := (jl.f k s0_0 s0_1 16).bind fun bt467 => (if bt467.1 = 0 then ((jy.f k s0_0 bt467.2 (([(-1), (l1_0.length : Int), 9] : List Int))).bind fun bt472 => (some (bt472.1, bt472.2))) else ((jl.f k s0_0 bt467.2 (l1_0.length : Int)).bind fun bt474 => (some (bt474.1, bt474.2))))
set_option maxHeartbeats 8000000 in
set_option maxRecDepth 100000 in
theorem jAb.calls (k : Nat) (g : Nat) (s0_0 : List Int) (s0_1 : Int) (A1_0 : Option Addr) (c1_0 : Nat) (l1_0 : List (S54)) (r1 : Int) (r2 : Int) (w0 w : World) (hI : jb w0 w g s0_0 s0_1) (hB : Below w0.heap.size w0 w) (hr1_0 : ∀ W_, jd w W_ g none → Kd.C k54 W_ A1_0 l1_0.length l1_0) (hc1_0 : l1_0.length ≤ c1_0) (h : jAb.f k s0_0 s0_1 l1_0 = some (r1, r2)) :
  Calls Try.prog 84 #[.pointer (some ⟨g,0,none⟩), .agg #[.slice A1_0 l1_0.length c1_0]] w fun e w'=>e=.returned (.int .i64 r1)∧jb w0 w' g s0_0 r2∧Below w0.heap.size w0 w'∧jd w w' g none:=by
 have hu32:=Try.underlying32
 have HR1_0:=am hr1_0
 have HC1_0:=am hc1_0
 clear hr1_0 hc1_0
 have HI0:=am hI
 have HK:=am (jd.refl w g none)
 have HL:=am hB.size
 clear hI
 have HW0:=am hB.size
 have HB:=am hB
 clear hB
 have H:((jl.f k s0_0 s0_1 16).bind fun bt467=>(if bt467.1=0 then ((jy.f k s0_0 bt467.2 (([(-1),(l1_0.length:Int),9]:List Int))).bind fun bt472=>(some (bt472.1,bt472.2))) else ((jl.f k s0_0 bt467.2 (l1_0.length:Int)).bind fun bt474=>(some (bt474.1,bt474.2)))))=some (r1,r2):=h
 clear h
 replace H:=bzS H
 obtain ⟨⟨t467,t468⟩,A30,H⟩:=H
 replace H:(if t467=0 then ((jy.f k s0_0 t468 (([(-1),(l1_0.length:Int),9]:List Int))).bind fun bt472=>(some (bt472.1,bt472.2))) else ((jl.f k s0_0 t468 (l1_0.length:Int)).bind fun bt474=>(some (bt474.1,bt474.2))))=some (r1,r2):=H
 have A3:=am A30
 clear A30
 by_cases c4:t467=0
 ·rw [if_pos c4] at H
  have c4b0:(t467 == 0)=true:=beq_iff_eq.mpr c4
  have c4b1:(t467 != 0)=false:=bne_eq_false_iff_eq.mpr c4
  clear c4
  obtain ⟨y469,hy469⟩:∃ y_:List Int,y_=(([(-1),(l1_0.length:Int),9]:List Int)):=⟨_,rfl⟩
  replace H:((jy.f k s0_0 t468 y469).bind fun bt472=>(some (bt472.1,bt472.2)))=some (r1,r2):=by first |(rw [hy469];with_reducible exact H) |(have H2_:=(Option.bind_some _ _).symm.trans H;rw [hy469];with_reducible exact H2_) |(have H2_:=(Option.bind_some _ _).symm.trans H;with_reducible exact H2_) | with_reducible exact H |(rw [hy469];exact H) | exact H
  have Ny469:=am hy469
  clear hy469
  replace H:=bzS H
  obtain ⟨⟨t472,t473⟩,A50,H⟩:=H
  replace H:(some (t472,t473))=some (r1,r2):=H
  have A5:=am A50
  clear A50
  simp only [Option.some.injEq,Prod.mk.injEq] at H
  obtain ⟨rfl,rfl⟩:=H
  go_enter Try.func84,Try.ntmps84
  go_wp2_with (first |((with_reducible refine jI (N:=3) rfl ?_);refine bE (N:=3) (cs:=#[.slice A1_0 l1_0.length c1_0]) (t:=32) ?_;intro gb466 hg w6 hbox hb;have BK466:=am (hbox);have GW466:=am ((Y7:w.heap.size≤gb466));have GE466:=am ((Nat.le_trans HW0.out (Y7:w.heap.size≤gb466):w0.heap.size≤gb466));have NB0_466:=am ((Y25:g≠gb466));have NB466_0:=am ((Y26:gb466≠g));replace HK:=am (jd.trans (Y14) (jd.of_below hb g none) (.inl rfl));replace HB:=am (jk (Y15) hb);replace HI0:=am (jb.below (Y13) hb);clear hb hbox hg) |((with_reducible refine jB (f:=88) rfl ?_);refine gL (some 6) Try.func88 #[.pointer (some ⟨g,0,none⟩), .int .i64 16] ?_;(with_reducible refine (jl.calls k g s0_0 s0_1 16 t467 t468 w0 _ ?side1 ?side2 A3.out).mono ?_);(case side1=>exact Y58);(case side2=>exact Y62);rintro e w7 ⟨rfl,hi,hb,hk⟩;refine ⟨_,rfl,?_⟩;replace BK466:=am (jd.blk hk (g':=gb466) (o:=.cells #[.slice A1_0 l1_0.length c1_0] 32 (0,0)) (kq BK466.out) NB466_0.out (by simp));replace HK:=am (jd.trans (Y59) hk (.inl rfl));replace HB:=am (hb);replace HI0:=am (hi);(try clear hb);(try clear hb2);(try clear hk);(try clear hi);have hnb8:=NB466_0.out;have hnc8:=NB0_466.out;have hcz9_0:=bc0 BK466.out;have hfz9_0:=jc BK466.out 0) |((with_reducible refine jI (N:=12) rfl ?_);refine Kd.R_lit (Kd.int .i64) _ 3 ?hg (N:=12) ?hd (xs:=([(-1),(l1_0.length:Int),9]:List Int)) (inner:=[.int .i64 (-1), .int .i64 (l1_0.length:Int), .int .i64 9]) (ok:=fun _=>True) (okp:=fun _=>True) ?hr ?hp (fun _ hk=>hk) trivial (Below.refl _ _) (Nat.le_refl _) (by simp) ?_;(case hd=>rfl);(case hg=>rfl);(case hr=>exact Y4);(case hp=>exact (Reps.one (show Kd.M (Kd.int .i64) _ _ _ (-1) [.int .i64 (-1)] from rfl) (Reps.one (show Kd.M (Kd.int .i64) _ _ _ (l1_0.length:Int) [.int .i64 (l1_0.length:Int)] from rfl) (Reps.one (show Kd.M (Kd.int .i64) _ _ _ 9 [.int .i64 9] from rfl) (Reps.none _ _)))));intro v470 w10 ho11 hb hg_ hnew_;clear hg_ hnew_;(first | rw [← Ny469.out] at ho11 |(simp only [Int.reduceToNat] at ho11;rw [← Ny469.out] at ho11));have HO471:=am (Kd.jea ho11 (jda (w:=w) (g:=g) (row:=none) (Y59)));replace BK466:=am (jh (g:=gb466) (o:=.cells #[.slice A1_0 l1_0.length c1_0] 32 (0,0)) (kq BK466.out) hb);replace HK:=am (jd.trans (Y59) (jd.of_below hb g none) (.inl rfl));replace HB:=am (jk (Y62) hb);replace HI0:=am (jb.below (Y58) hb);clear hb ho11;obtain ⟨Ao12,co12,eo12⟩:=Kd.jW HO471.out;subst eo12) |((with_reducible refine jB (f:=89) rfl ?_);refine gL (some 13) Try.func89 #[.pointer (some ⟨g,0,none⟩), .slice Ao12 y469.length co12] ?_;(with_reducible refine (jy.calls k g s0_0 t468 _ _ y469 t472 t473 w0 _ ?side1 ?side2 ?side3 ?side4 ?side5 A5.out).mono ?_);(case side1=>exact Y58);(case side2=>exact Y62);(case side3=>exact cq (Kd.jw HO471.out).2.2);(case side4=>exact (Kd.jw HO471.out).2.1);(case side5=>exact jwb (jb.own_ne HI0.out HO471.out (by decide)));rintro e w13 ⟨rfl,hi,hb,hk⟩;refine ⟨_,rfl,?_⟩;replace BK466:=am (jd.blk hk (g':=gb466) (o:=.cells #[.slice A1_0 l1_0.length c1_0] 32 (0,0)) (kq BK466.out) NB466_0.out (by simp));replace HO471:=am (Kd.jE (Kd.jqa (jb.apart (show jb w0 _ g s0_0 t468 from Y58) (rq HO471.out) (by decide)) hk (fun _ h=>h.2)) (fun _ h=>h.1));replace HK:=am (jd.trans (Y59) hk (.inl rfl));replace HB:=am (hb);replace HI0:=am (hi);(try clear hb);(try clear hb2);(try clear hk);(try clear hi)))
  go_ret
  exact ⟨Y1,Y58,Y62,Y59⟩
 ·rw [if_neg c4] at H
  have c4b0:(t467 == 0)=false:=beq_eq_false_iff_ne.mpr c4
  have c4b1:(t467 != 0)=true:=bne_iff_ne.mpr c4
  replace H:=bzS H
  obtain ⟨⟨t474,t475⟩,A140,H⟩:=H
  replace H:(some (t474,t475))=some (r1,r2):=H
  have A14:=am A140
  clear A140
  simp only [Option.some.injEq,Prod.mk.injEq] at H
  obtain ⟨rfl,rfl⟩:=H
  go_enter Try.func84,Try.ntmps84
  go_wp2_with (first |((with_reducible refine jI (N:=3) rfl ?_);refine bE (N:=3) (cs:=#[.slice A1_0 l1_0.length c1_0]) (t:=32) ?_;intro gb466 hg w15 hbox hb;have BK466:=am (hbox);have GW466:=am ((Y7:w.heap.size≤gb466));have GE466:=am ((Nat.le_trans HW0.out (Y7:w.heap.size≤gb466):w0.heap.size≤gb466));have NB0_466:=am ((Y25:g≠gb466));have NB466_0:=am ((Y26:gb466≠g));replace HK:=am (jd.trans (Y14) (jd.of_below hb g none) (.inl rfl));replace HB:=am (jk (Y15) hb);replace HI0:=am (jb.below (Y13) hb);clear hb hbox hg) |((with_reducible refine jB (f:=88) rfl ?_);refine gL (some 6) Try.func88 #[.pointer (some ⟨g,0,none⟩), .int .i64 16] ?_;(with_reducible refine (jl.calls k g s0_0 s0_1 16 t467 t468 w0 _ ?side1 ?side2 A3.out).mono ?_);(case side1=>exact Y58);(case side2=>exact Y62);rintro e w16 ⟨rfl,hi,hb,hk⟩;refine ⟨_,rfl,?_⟩;replace BK466:=am (jd.blk hk (g':=gb466) (o:=.cells #[.slice A1_0 l1_0.length c1_0] 32 (0,0)) (kq BK466.out) NB466_0.out (by simp));replace HK:=am (jd.trans (Y59) hk (.inl rfl));replace HB:=am (hb);replace HI0:=am (hi);(try clear hb);(try clear hb2);(try clear hk);(try clear hi);have hnb17:=NB466_0.out;have hnc17:=NB0_466.out;have hcz18_0:=bc0 BK466.out;have hfz18_0:=jc BK466.out 0) |((with_reducible refine jB (f:=88) rfl ?_);refine gL (some 18) Try.func88 #[.pointer (some ⟨g,0,none⟩), .int .i64 (l1_0.length:Int)] ?_;(with_reducible refine (jl.calls k g s0_0 t468 (l1_0.length:Int) t474 t475 w0 _ ?side1 ?side2 A14.out).mono ?_);(case side1=>exact Y58);(case side2=>exact Y62);rintro e w19 ⟨rfl,hi,hb,hk⟩;refine ⟨_,rfl,?_⟩;replace BK466:=am (jd.blk hk (g':=gb466) (o:=.cells #[.slice A1_0 l1_0.length c1_0] 32 (0,0)) (kq BK466.out) NB466_0.out (by simp));replace HK:=am (jd.trans (Y59) hk (.inl rfl));replace HB:=am (hb);replace HI0:=am (hi);(try clear hb);(try clear hb2);(try clear hk);(try clear hi)))
  go_ret
  exact ⟨Y1,Y58,Y62,Y59⟩
def jGa.f (k : Nat) (s0_0 : List Int) (s0_1 : Int) : Option ((List (S94)) × (List (S54)) × Int × Int) := (jL.f k s0_0 s0_1).bind fun bt478 => ((jAb.f k s0_0 bt478.2.2 bt478.2.1).bind fun bt487 => (some (bt478.1, bt478.2.1, bt487.1, bt487.2)))
def jGa.T2 : Bool × List (List Nat × List Nat) := (true, [([], []), ([], []), ([], []), ([], []), ([2, 3], [2, 3]), ([0, 4, 0], [0]), ([1, 5, 0, 1, 5], [1]), ([4, 6, 0, 1, 2, 3, 4, 5, 6], [4])])
def jGa.B2 : List Nat := [0, 0, 0, 0, 12, 29, 63, 127]
theorem jGa.tab2 : rtab .any (opsOf Try.f55 2) = jGa.T2 := by kernel_rfl
theorem jGa.bits2 : jxb jGa.T2.2 jGa.B2 = true := by kernel_rfl
set_option maxHeartbeats 8000000 in
set_option maxRecDepth 100000 in
theorem jGa.calls (k : Nat) (g : Nat) (s0_0 : List Int) (s0_1 : Int) (r1 : List (S94)) (r2 : List (S54)) (r3 : Int) (r4 : Int) (w0 w : World) (hI : jb w0 w g s0_0 s0_1) (hB : Below w0.heap.size w0 w) (h : jGa.f k s0_0 s0_1 = some (r1, r2, r3, r4)) :
  Calls Try.prog 55 #[.pointer (some ⟨g,0,none⟩)] w fun e w'=>∃ v0_ v1_:Value,e=.returned (.tuple #[.agg #[v0_], .agg #[v1_], .int .i64 r3])∧Kd.R k94 94 w' w.heap.size (fun _=>True) v0_ r1∧Kd.R k54 54 w' w.heap.size (fun _=>True) v1_ r2∧jb w0 w' g s0_0 r4∧Below w0.heap.size w0 w'∧jd w w' g none:=by
 have hu37:=Try.underlying37
 have hu32:=Try.underlying32
 have HI0:=am hI
 have HK:=am (jd.refl w g none)
 have HL:=am hB.size
 clear hI
 have HW0:=am hB.size
 have HB:=am hB
 clear hB
 have H:((jL.f k s0_0 s0_1).bind fun bt478=>((jAb.f k s0_0 bt478.2.2 bt478.2.1).bind fun bt487=>(some (bt478.1,bt478.2.1,bt487.1,bt487.2))))=some (r1,r2,r3,r4):=h
 clear h
 replace H:=bzS H
 obtain ⟨⟨t478,t481,t484⟩,A20,H⟩:=H
 replace H:((jAb.f k s0_0 t484 t481).bind fun bt487=>(some (t478,t481,bt487.1,bt487.2)))=some (r1,r2,r3,r4):=H
 have A2:=am A20
 clear A20
 replace H:=bzS H
 obtain ⟨⟨t487,t488⟩,A30,H⟩:=H
 replace H:(some (t478,t481,t487,t488))=some (r1,r2,r3,r4):=H
 have A3:=am A30
 clear A30
 simp only [Option.some.injEq,Prod.mk.injEq] at H
 obtain ⟨rfl,rfl,rfl,rfl⟩:=H
 go_enter Try.func55,Try.ntmps55
 try go_wp2_with (first |((with_reducible refine jI (N:=2) rfl ?_);refine bE (N:=2) (cs:=#[.slice none 0 0]) (t:=37) ?_;intro gb476 hg w4 hbox hb;have BK476:=am (hbox);have GW476:=am ((Y7:w.heap.size≤gb476));have GE476:=am ((Nat.le_trans HW0.out (Y7:w.heap.size≤gb476):w0.heap.size≤gb476));have NB0_476:=am ((Y25:g≠gb476));have NB476_0:=am ((Y26:gb476≠g));replace HK:=am (jd.trans (Y14) (jd.of_below hb g none) (.inl rfl));replace HB:=am (jk (Y15) hb);replace HI0:=am (jb.below (Y13) hb);clear hb hbox hg) |((with_reducible refine jI (N:=3) rfl ?_);refine bE (N:=3) (cs:=#[.slice none 0 0]) (t:=32) ?_;intro gb477 hg w5 hbox hb;have BK477:=am (hbox);have GW477:=am ((Y154:w.heap.size≤gb477));have GE477:=am ((Nat.le_trans HW0.out (Y154:w.heap.size≤gb477):w0.heap.size≤gb477));have NB476_477:=am ((Y126:gb476≠gb477));have NB477_476:=am ((Y127:gb477≠gb476));have NB0_477:=am ((by rw [hg];exact Nat.ne_of_lt (jb.lt (show jb w0 _ g s0_0 s0_1 from by repeat (first |(with_reducible first | exact HI0.out | apply jb.alloc | apply jb.drewN | apply jb.drew | apply jb.jhb | refine jb.far ?_ NB0_476.out _) | exact HI0.out))):g≠gb477));have NB477_0:=am ((by rw [hg];exact Nat.ne_of_gt (jb.lt (show jb w0 _ g s0_0 s0_1 from by repeat (first |(with_reducible first | exact HI0.out | apply jb.alloc | apply jb.drewN | apply jb.drew | apply jb.jhb | refine jb.far ?_ NB0_476.out _) | exact HI0.out))):gb477≠g));replace BK476:=am (jh (g:=gb476) (o:=.cells #[.slice none 0 0] 37 (0,0)) (kq BK476.out) hb);replace HK:=am (jd.trans (by repeat (first |(with_reducible first | exact HK.out | apply jd.set_ | apply jma | apply jZ | apply jna | refine jP ?_ GW476.out _) | exact HK.out)) (jd.of_below hb g none) (.inl rfl));replace HB:=am (jk (by repeat (first |(with_reducible first | exact HB.out | apply jA | apply jq | apply jv | refine jm ?_ (jb.ge HI0.out) | refine jm ?_ GE476.out) | exact HB.out)) hb);replace HI0:=am (jb.below (by repeat (first |(with_reducible first | exact HI0.out | apply jb.alloc | apply jb.drewN | apply jb.drew | apply jb.jhb | refine jb.far ?_ NB0_476.out _) | exact HI0.out)) hb);clear hb hbox hg) |((with_reducible refine jB (f:=61) rfl ?_);refine gL (some 9) Try.func61 #[.pointer (some ⟨g,0,none⟩)] ?_;(with_reducible refine (jL.calls k g s0_0 s0_1 t478 t481 t484 w0 _ ?side1 ?side2 A2.out).mono ?_);(case side1=>exact Y155);(case side2=>exact Y156);rintro e w6 ⟨v479,v482,rfl,ho0,ho1,hi,hb,hk⟩;refine ⟨_,rfl,?_⟩;have HO480:=am (Kd.jea ho0 (jda (w:=w) (g:=g) (row:=none) (Y107)));have HO483:=am (Kd.jea ho1 (jda (w:=w) (g:=g) (row:=none) (Y107)));replace BK476:=am (jd.blk hk (g':=gb476) (o:=.cells #[.slice none 0 0] 37 (0,0)) (kq BK476.out) NB476_0.out (by simp));replace BK477:=am (jd.blk hk (g':=gb477) (o:=.cells #[.slice none 0 0] 32 (0,0)) (kq BK477.out) NB477_0.out (by simp));replace HK:=am (jd.trans (Y107) hk (.inl rfl));replace HB:=am (hb);replace HI0:=am (hi);(try clear hb);(try clear hb2);(try clear hk);(try clear hi);(try clear ho0);(try clear ho1)) |((with_reducible refine jI (N:=5) rfl ?_);refine bE (N:=5) (cs:=#[.slice none 0 0]) (t:=37) ?_;intro gb485 hg w7 hbox hb;have BK485:=am (hbox);have GW485:=am ((Y157:w.heap.size≤gb485));have GE485:=am ((Nat.le_trans HW0.out (Y157:w.heap.size≤gb485):w0.heap.size≤gb485));have NB476_485:=am ((Y126:gb476≠gb485));have NB485_476:=am ((Y127:gb485≠gb476));have NB477_485:=am ((by rw [hg];exact Nat.ne_of_lt (jca (g:=gb477) (o:=.cells #[.slice none 0 0] 32 (0,0)) (kq BK477.out)):gb477≠gb485));have NB485_477:=am ((by rw [hg];exact Nat.ne_of_gt (jca (g:=gb477) (o:=.cells #[.slice none 0 0] 32 (0,0)) (kq BK477.out)):gb485≠gb477));have NB0_485:=am ((by rw [hg];exact Nat.ne_of_lt (jb.lt (show jb w0 _ g s0_0 t484 from by repeat (first |(with_reducible first | exact HI0.out | apply jb.alloc | apply jb.drewN | apply jb.drew | apply jb.jhb | refine jb.far ?_ NB0_476.out _ | refine jb.far ?_ NB0_477.out _) | exact HI0.out))):g≠gb485));have NB485_0:=am ((by rw [hg];exact Nat.ne_of_gt (jb.lt (show jb w0 _ g s0_0 t484 from by repeat (first |(with_reducible first | exact HI0.out | apply jb.alloc | apply jb.drewN | apply jb.drew | apply jb.jhb | refine jb.far ?_ NB0_476.out _ | refine jb.far ?_ NB0_477.out _) | exact HI0.out))):gb485≠g));replace HO480:=am (Kd.jaa (rq HO480.out) hb);replace HO483:=am (Kd.jaa (rq HO483.out) hb);replace BK476:=am (jh (g:=gb476) (o:=.cells #[.slice none 0 0] 37 (0,0)) (kq BK476.out) hb);replace BK477:=am (jh (g:=gb477) (o:=.cells #[.slice none 0 0] 32 (0,0)) (kq BK477.out) hb);replace HK:=am (jd.trans (Y107) (jd.of_below hb g none) (.inl rfl));replace HB:=am (jk (Y156) hb);replace HI0:=am (jb.below (Y155) hb);clear hb hbox hg) |((with_reducible refine jI (N:=6) rfl ?_);refine bE (N:=6) (cs:=#[.slice none 0 0]) (t:=32) ?_;intro gb486 hg w8 hbox hb;have BK486:=am (hbox);have GW486:=am ((Y158:w.heap.size≤gb486));have GE486:=am ((Nat.le_trans HW0.out (Y158:w.heap.size≤gb486):w0.heap.size≤gb486));have NB476_486:=am ((Y126:gb476≠gb486));have NB486_476:=am ((Y127:gb486≠gb476));have NB477_486:=am ((by rw [hg];exact Nat.ne_of_lt (jca (g:=gb477) (o:=.cells #[.slice none 0 0] 32 (0,0)) (kq BK477.out)):gb477≠gb486));have NB486_477:=am ((by rw [hg];exact Nat.ne_of_gt (jca (g:=gb477) (o:=.cells #[.slice none 0 0] 32 (0,0)) (kq BK477.out)):gb486≠gb477));have NB485_486:=am ((by rw [hg];exact Nat.ne_of_lt (jca (g:=gb485) (o:=.cells #[.slice none 0 0] 37 (0,0)) (kq BK485.out)):gb485≠gb486));have NB486_485:=am ((by rw [hg];exact Nat.ne_of_gt (jca (g:=gb485) (o:=.cells #[.slice none 0 0] 37 (0,0)) (kq BK485.out)):gb486≠gb485));have NB0_486:=am ((by rw [hg];exact Nat.ne_of_lt (jb.lt (show jb w0 _ g s0_0 t484 from by repeat (first |(with_reducible first | exact HI0.out | apply jb.alloc | apply jb.drewN | apply jb.drew | apply jb.jhb | refine jb.far ?_ NB0_476.out _ | refine jb.far ?_ NB0_477.out _ | refine jb.far ?_ NB0_485.out _) | exact HI0.out))):g≠gb486));have NB486_0:=am ((by rw [hg];exact Nat.ne_of_gt (jb.lt (show jb w0 _ g s0_0 t484 from by repeat (first |(with_reducible first | exact HI0.out | apply jb.alloc | apply jb.drewN | apply jb.drew | apply jb.jhb | refine jb.far ?_ NB0_476.out _ | refine jb.far ?_ NB0_477.out _ | refine jb.far ?_ NB0_485.out _) | exact HI0.out))):gb486≠g));replace HO480:=am (Kd.jaa (rq HO480.out) hb);replace HO483:=am (Kd.jaa (rq HO483.out) hb);replace BK476:=am (jh (g:=gb476) (o:=.cells #[.slice none 0 0] 37 (0,0)) (kq BK476.out) hb);replace BK477:=am (jh (g:=gb477) (o:=.cells #[.slice none 0 0] 32 (0,0)) (kq BK477.out) hb);replace BK485:=am (jh (g:=gb485) (o:=.cells #[.slice none 0 0] 37 (0,0)) (kq BK485.out) hb);replace HK:=am (jd.trans (by repeat (first |(with_reducible first | exact HK.out | apply jd.set_ | apply jma | apply jZ | apply jna | refine jP ?_ GW476.out _ | refine jP ?_ GW477.out _ | refine jP ?_ GW485.out _) | exact HK.out)) (jd.of_below hb g none) (.inl rfl));replace HB:=am (jk (by repeat (first |(with_reducible first | exact HB.out | apply jA | apply jq | apply jv | refine jm ?_ (jb.ge HI0.out) | refine jm ?_ GE476.out | refine jm ?_ GE477.out | refine jm ?_ GE485.out) | exact HB.out)) hb);replace HI0:=am (jb.below (by repeat (first |(with_reducible first | exact HI0.out | apply jb.alloc | apply jb.drewN | apply jb.drew | apply jb.jhb | refine jb.far ?_ NB0_476.out _ | refine jb.far ?_ NB0_477.out _ | refine jb.far ?_ NB0_485.out _) | exact HI0.out)) hb);clear hb hbox hg;obtain ⟨Ao9,co9,eo9⟩:=Kd.jW HO480.out;subst eo9;have hnb10:=NB485_476.out;have hnc10:=NB476_485.out;have hnb11:=NB485_477.out;have hnc11:=NB477_485.out;have hnb12:=NB485_486.out;have hnc12:=NB486_485.out;have hnb13:=NB485_0.out;have hnc13:=NB0_485.out;have hcz14_0:=bc0 BK485.out;have hfz14_0:=jc BK485.out 0;obtain ⟨Ao15,co15,eo15⟩:=Kd.jW HO483.out;subst eo15;have hnb16:=NB486_476.out;have hnc16:=NB476_486.out;have hnb17:=NB486_477.out;have hnc17:=NB477_486.out;have hnb18:=NB486_0.out;have hnc18:=NB0_486.out;have hcz19_0:=bc0 BK486.out;have hfz19_0:=jc BK486.out 0))
 have n0_:jC (Kd.R k94 94 ((w8.setCell ⟨gb485,0,none⟩ (.slice Ao9 t478.length co9)).setCell ⟨gb486,0,none⟩ (.slice Ao15 t481.length co15)) w.heap.size (fun _=>True) (.slice Ao9 t478.length co9) t478):=⟨by (with_reducible repeat (first | apply Kd.jO | apply Kd.jQ | apply Kd.jM));exact Kd.jE (Kd.jX (p:=⟨gb486,0,none⟩) (Kd.jX (p:=⟨gb485,0,none⟩) (Kd.jN (Kd.jN HO480.out BK485.out (by decide)) BK486.out (by decide)) (fun _ hk=>hk.1.2) (.slice Ao9 t478.length co9)) (fun _ hk=>hk.2) (.slice Ao15 t481.length co15)) (fun _ hk=>trivial)⟩
 have n1_:jC (Kd.R k54 54 ((w8.setCell ⟨gb485,0,none⟩ (.slice Ao9 t478.length co9)).setCell ⟨gb486,0,none⟩ (.slice Ao15 t481.length co15)) w.heap.size (fun _=>True) (.slice Ao15 t481.length co15) t481):=⟨by (with_reducible repeat (first | apply Kd.jO | apply Kd.jQ | apply Kd.jM));exact Kd.jE (Kd.jX (p:=⟨gb486,0,none⟩) (Kd.jX (p:=⟨gb485,0,none⟩) (Kd.jN (Kd.jN HO483.out BK485.out (by decide)) BK486.out (by decide)) (fun _ hk=>hk.1.2) (.slice Ao9 t478.length co9)) (fun _ hk=>hk.2) (.slice Ao15 t481.length co15)) (fun _ hk=>trivial)⟩
 have n2_:jC (((w8.setCell ⟨gb485,0,none⟩ (.slice Ao9 t478.length co9)).setCell ⟨gb486,0,none⟩ (.slice Ao15 t481.length co15)).heap[gb476]?=some (.cells #[.slice none 0 0] 37 (0,0))):=⟨by (with_reducible repeat (first | refine je ?_ _ | refine jg ?_ | refine jf ?_ _));refine jJ ?_ NB476_486.out _;(with_reducible repeat (first | refine je ?_ _ | refine jg ?_ | refine jf ?_ _));refine jJ ?_ NB476_485.out _;(with_reducible repeat (first | refine je ?_ _ | refine jg ?_ | refine jf ?_ _));exact BK476.out⟩
 have n3_:jC (((w8.setCell ⟨gb485,0,none⟩ (.slice Ao9 t478.length co9)).setCell ⟨gb486,0,none⟩ (.slice Ao15 t481.length co15)).heap[gb477]?=some (.cells #[.slice none 0 0] 32 (0,0))):=⟨by (with_reducible repeat (first | refine je ?_ _ | refine jg ?_ | refine jf ?_ _));refine jJ ?_ NB477_486.out _;(with_reducible repeat (first | refine je ?_ _ | refine jg ?_ | refine jf ?_ _));refine jJ ?_ NB477_485.out _;(with_reducible repeat (first | refine je ?_ _ | refine jg ?_ | refine jf ?_ _));exact BK477.out⟩
 have n4_:jC (((w8.setCell ⟨gb485,0,none⟩ (.slice Ao9 t478.length co9)).setCell ⟨gb486,0,none⟩ (.slice Ao15 t481.length co15)).heap[gb485]?=some (.cells #[.slice Ao9 t478.length co9] 37 (0,0))):=⟨by (with_reducible repeat (first | refine je ?_ _ | refine jg ?_ | refine jf ?_ _));refine jJ ?_ NB485_486.out _;(with_reducible repeat (first | refine je ?_ _ | refine jg ?_ | refine jf ?_ _));refine jla (cs:=#[.slice none 0 0]) ?_ 0 _ rfl;(with_reducible repeat (first | refine je ?_ _ | refine jg ?_ | refine jf ?_ _));exact BK485.out⟩
 have n5_:jC (((w8.setCell ⟨gb485,0,none⟩ (.slice Ao9 t478.length co9)).setCell ⟨gb486,0,none⟩ (.slice Ao15 t481.length co15)).heap[gb486]?=some (.cells #[.slice Ao15 t481.length co15] 32 (0,0))):=⟨by (with_reducible repeat (first | refine je ?_ _ | refine jg ?_ | refine jf ?_ _));refine jla (cs:=#[.slice none 0 0]) ?_ 0 _ rfl;(with_reducible repeat (first | refine je ?_ _ | refine jg ?_ | refine jf ?_ _));refine jJ ?_ NB486_485.out _;(with_reducible repeat (first | refine je ?_ _ | refine jg ?_ | refine jf ?_ _));exact BK486.out⟩
 have n6_:jC (jb w0 ((w8.setCell ⟨gb485,0,none⟩ (.slice Ao9 t478.length co9)).setCell ⟨gb486,0,none⟩ (.slice Ao15 t481.length co15)) g s0_0 t484):=⟨Y83⟩
 have n7_:jC (jd w ((w8.setCell ⟨gb485,0,none⟩ (.slice Ao9 t478.length co9)).setCell ⟨gb486,0,none⟩ (.slice Ao15 t481.length co15)) g none):=⟨Y128⟩
 have n8_:jC (Below w0.heap.size w0 ((w8.setCell ⟨gb485,0,none⟩ (.slice Ao9 t478.length co9)).setCell ⟨gb486,0,none⟩ (.slice Ao15 t481.length co15))):=⟨Y129⟩
 (try clear HO480)
 (try clear HO483)
 (try clear BK476)
 (try clear BK477)
 (try clear BK485)
 (try clear BK486)
 (try clear HI0)
 (try clear HK)
 (try clear HB)
 generalize ((w8.setCell ⟨gb485,0,none⟩ (.slice Ao9 t478.length co9)).setCell ⟨gb486,0,none⟩ (.slice Ao15 t481.length co15))=w20 at n0_ n1_ n2_ n3_ n4_ n5_ n6_ n7_ n8_ ⊢
 have HO480:=n0_
 have HO483:=n1_
 have BK476:=n2_
 have BK477:=n3_
 have BK485:=n4_
 have BK486:=n5_
 have HI0:=n6_
 have HK:=n7_
 have HB:=n8_
 clear n0_ n1_ n2_ n3_ n4_ n5_ n6_ n7_ n8_
 replace HO480:=am (Kd.jM HO480.out)
 replace HO483:=am (Kd.jM HO483.out)
 replace BK476:=am (jg BK476.out)
 replace BK477:=am (jg BK477.out)
 replace BK485:=am (jg BK485.out)
 replace BK486:=am (jg BK486.out)
 replace HI0:=am (jb.drew HI0.out)
 replace HK:=am (jZ HK.out)
 replace HB:=am (jv HB.out)
 refine jHb (n:=8) (S:=fun w'=>w'.cell? ⟨gb485,0,none⟩=some (.slice Ao9 t478.length co9)∧w'.cell? ⟨gb486,0,none⟩=some (.slice Ao15 t481.length co15)) (ds:=[]) #[false,false,false,false,false,false,false,false] (by kernel_rfl) rfl rfl ⟨(jH BK485.out 0).trans rfl,(jH BK486.out 0).trans rfl⟩ (fun hHeld=>?_);refine jnb jGa.tab2 jGa.bits2 (fun HT_ HW_=>?_)
 generalize w20.drew=w21 at HO480 HO483 BK476 BK477 BK485 BK486 HI0 HK HB hHeld ⊢
 refine pq (i:=2) (N:=some 14) #[false,false,true,false,false,false,false,false] ?_
 refine job (i:=0) (N:=some 12) (v:=?_) (a':=?_) #[true,false,true,false,false,false,false,false] rfl rfl (jLa HT_.out HW_.out (by kernel_rfl)) (fun _ _ _ h=>h) (Or.inl ⟨by rfl,?_⟩) hHeld ?_ ?_
 rotate_left
 ·rintro w' ⟨s0,s1⟩
  go_simp
  with_reducible rfl
 rotate_left
 ·exact sa
 refine job (i:=1) (N:=some 13) (v:=?_) (a':=?_) #[true,true,true,false,false,false,false,false] rfl rfl (jLa HT_.out HW_.out (by kernel_rfl)) (fun _ _ _ h=>h) (Or.inl ⟨by rfl,?_⟩) hHeld ?_ ?_
 rotate_left
 ·rintro w' ⟨s0,s1⟩
  go_simp
  with_reducible rfl
 rotate_left
 ·exact sa
 refine job (i:=3) (N:=some 15) (v:=?_) (a':=?_) #[true,true,true,true,false,false,false,false] rfl rfl (jLa HT_.out HW_.out (by kernel_rfl)) (fun _ _ _ h=>h) (Or.inl ⟨by rfl,?_⟩) hHeld ?_ ?_
 rotate_left
 ·rintro w' ⟨s0,s1⟩
  go_simp
  with_reducible rfl
 rotate_left
 ·exact sa
 refine one_ (i:=4) (N:=some 16) #[true,true,true,true,true,false,false,false] rfl rfl (jZa HT_.out (by kernel_rfl)) (by decide) (fun K hK=>?_)
 refine goes_ Try.func84 (by kernel_rfl) rfl #[.pointer (some ⟨g,0,none⟩), .agg #[.slice Ao15 t481.length co15]] (by rfl) rfl rfl (aq) ?_
 with_reducible refine (jAb.calls k g s0_0 t484 _ _ t481 t487 t488 w0 _ ?side1 ?side2 ?side3 ?side4 A3.out).mono ?_
 (case side1=>exact Y83)
 (case side2=>exact Y129)
 (case side3=>exact Kd.jLb (jb.apart (show jb w0 _ g s0_0 t484 from Y83) (rq HO483.out) (by decide)) (fun _ h_=>h_.2))
 (case side4=>exact (Kd.jw HO483.out).2.1)
 rintro e w22 ⟨rfl,hi,hb,hk⟩
 refine ⟨_,rfl,?_⟩
 replace BK476:=am (jd.blk hk (g':=gb476) (o:=.cells #[.slice none 0 0] 37 (0,0)) (kq BK476.out) NB476_0.out (by simp))
 replace BK477:=am (jd.blk hk (g':=gb477) (o:=.cells #[.slice none 0 0] 32 (0,0)) (kq BK477.out) NB477_0.out (by simp))
 replace HO480:=am (Kd.jE (Kd.jqa (jb.apart (show jb w0 _ g s0_0 t484 from Y83) (rq HO480.out) (by decide)) hk (fun _ h=>h.2)) (fun _ h=>h.1))
 replace HO483:=am (Kd.jE (Kd.jqa (jb.apart (show jb w0 _ g s0_0 t484 from Y83) (rq HO483.out) (by decide)) hk (fun _ h=>h.2)) (fun _ h=>h.1))
 replace BK485:=am (jd.blk hk (g':=gb485) (o:=.cells #[.slice Ao9 t478.length co9] 37 (0,0)) (kq BK485.out) NB485_0.out (by simp))
 replace BK486:=am (jd.blk hk (g':=gb486) (o:=.cells #[.slice Ao15 t481.length co15] 32 (0,0)) (kq BK486.out) NB486_0.out (by simp))
 replace HK:=am (jd.trans (Y128) hk (.inl rfl))
 replace HB:=am (hb)
 replace HI0:=am (hi)
 (try clear hb)
 (try clear hb2)
 (try clear hk)
 (try clear hi)
 refine hK.out _ _ ⟨(jH BK485.out 0).trans rfl,(jH BK486.out 0).trans rfl⟩ (fun hHeld=>?_)
 clear hK K
 refine jMb (a':=?_) ?_ ?_
 rotate_left
 ·show Act.put _ (some 16) _=_
  simp only [Act.put,List.setIfInBounds_toArray,List.set_cons_zero,List.set_cons_succ,jqb,jub]
  rfl
 refine one_ (i:=5) (N:=none) #[true,true,true,true,true,true,false,false] rfl rfl (jZa HT_.out (by kernel_rfl)) (by decide) (fun K hK=>?_)
 have hs23:w22.cell? ⟨gb476,0,none⟩=some (.slice none 0 0):=(jH BK476.out 0).trans rfl
 have hfs23:=jc BK476.out 0
 have hns23_1:=NB477_476.out
 have hns23_2:=NB485_476.out
 have hns23_3:=NB486_476.out
 have hms23_1:=NB476_477.out
 have hms23_2:=NB476_485.out
 have hms23_3:=NB476_486.out
 refine jUb (w1:=?_) (by rfl) rfl ?_ ?_
 rotate_left
 ·go_simp
  rfl
 refine hK.out _ _ ⟨((cell_far (p:=⟨gb476,_,none⟩) NB485_476.out _).trans (hHeld.1)),((cell_far (p:=⟨gb476,_,none⟩) NB486_476.out _).trans (hHeld.2))⟩ (fun hHeld=>?_)
 clear hK K
 refine one_ (i:=6) (N:=none) #[true,true,true,true,true,true,true,false] rfl rfl (jZa HT_.out (by kernel_rfl)) (by decide) (fun K hK=>?_)
 have hs24:w22.cell? ⟨gb477,0,none⟩=some (.slice none 0 0):=(jH BK477.out 0).trans rfl
 have hfs24:=jc BK477.out 0
 have hns24_0:=NB476_477.out
 have hns24_2:=NB485_477.out
 have hns24_3:=NB486_477.out
 have hms24_0:=NB477_476.out
 have hms24_2:=NB477_485.out
 have hms24_3:=NB477_486.out
 refine jUb (w1:=?_) (by rfl) rfl ?_ ?_
 rotate_left
 ·go_simp
  rfl
 refine hK.out _ _ ⟨((cell_far (p:=⟨gb477,_,none⟩) NB485_477.out _).trans (hHeld.1)),((cell_far (p:=⟨gb477,_,none⟩) NB486_477.out _).trans (hHeld.2))⟩ (fun hHeld=>?_)
 clear hK K
 refine pq (i:=7) (N:=some 4) #[true,true,true,true,true,true,true,true] ?_
 refine jgc (jNb HT_.out (by kernel_rfl)) ?_
 try go_wp2
 refine bodyPost_ret (results_list (rs:=[.cell 2 37, .cell 3 32, .tmp 4]) rfl (by simp) (.cell gb476 37 #[.slice Ao9 t478.length co9] (0,0) _ rfl (by (with_reducible repeat (first | refine je ?_ _ | refine jg ?_ | refine jf ?_ _));refine jJ ?_ NB476_477.out _;(with_reducible repeat (first | refine je ?_ _ | refine jg ?_ | refine jf ?_ _));refine jla (cs:=#[.slice none 0 0]) ?_ 0 _ rfl;(with_reducible repeat (first | refine je ?_ _ | refine jg ?_ | refine jf ?_ _));exact BK476.out) Try.underlying37 rfl (by kernel_rfl) (.cell gb477 32 #[.slice Ao15 t481.length co15] (0,0) _ rfl (by (with_reducible repeat (first | refine je ?_ _ | refine jg ?_ | refine jf ?_ _));refine jla (cs:=#[.slice none 0 0]) ?_ 0 _ rfl;(with_reducible repeat (first | refine je ?_ _ | refine jg ?_ | refine jf ?_ _));refine jJ ?_ NB477_476.out _;(with_reducible repeat (first | refine je ?_ _ | refine jg ?_ | refine jf ?_ _));exact BK477.out) Try.underlying32 rfl (by kernel_rfl) (.tmp .nil)))) rfl ?_
 exact ⟨_,_,Y1,by (with_reducible repeat (first | apply Kd.jO | apply Kd.jQ | apply Kd.jM));exact Kd.jE (Kd.jX (p:=⟨gb477,0,none⟩) (Kd.jX (p:=⟨gb476,0,none⟩) (Kd.jN (Kd.jN HO480.out BK476.out (by decide)) BK477.out (by decide)) (fun _ hk=>hk.1.2) (.slice Ao9 t478.length co9)) (fun _ hk=>hk.2) (.slice Ao15 t481.length co15)) (fun _ hk=>trivial),by (with_reducible repeat (first | apply Kd.jO | apply Kd.jQ | apply Kd.jM));exact Kd.jE (Kd.jX (p:=⟨gb477,0,none⟩) (Kd.jX (p:=⟨gb476,0,none⟩) (Kd.jN (Kd.jN HO483.out BK476.out (by decide)) BK477.out (by decide)) (fun _ hk=>hk.1.2) (.slice Ao9 t478.length co9)) (fun _ hk=>hk.2) (.slice Ao15 t481.length co15)) (fun _ hk=>trivial),Y83,Y129,Y128⟩
def jrb.f (l0 : List Int) : Option (List Int × Int) := if (l0.length : Int) > 2000 then (if 2000 ≤ (l0.length : Int) then (some (l0.take 2000, 0)) else (none)) else (some (l0, 0))
set_option maxHeartbeats 8000000 in
set_option maxRecDepth 100000 in
theorem jrb.calls (A0 : Option Addr) (c0 : Nat) (l0 : List Int) (r1 : List Int) (r2 : Int) (w0 w : World) (hB : Below w0.heap.size w0 w) (hr0 : Kd.C (Kd.int .u8) w0 A0 l0.length l0) (hc0 : l0.length ≤ c0) (h : jrb.f l0 = some (r1, r2)) :
  Calls Try.prog 56 #[.slice A0 l0.length c0] w fun e w'=>∃ g_:Nat,e=.returned (.pointer (some ⟨g_,0,none⟩))∧jb w0 w' g_ r1 r2∧Below w0.heap.size w0 w'∧Below w.heap.size w w':=by
 have hu106:=Try.underlying106
 have HR0:=am hr0
 have HC0:=am hc0
 clear hr0 hc0
 have HBW:=am (Below.refl w.heap.size w)
 have HW0:=am hB.size
 have HB:=am hB
 clear hB
 have H:(if (l0.length:Int) > 2000 then (if 2000≤(l0.length:Int) then (some (l0.take 2000,0)) else (none)) else (some (l0,0)))=some (r1,r2):=h
 clear h
 by_cases c2:(l0.length:Int) > 2000
 ·rw [if_pos c2] at H
  have c2b0:decide (2000<(l0.length:Int))=true:=dzT c2
  have c2b1:decide (2000<l0.length)=true:=dzT (by omega)
  clear c2
  by_cases c3:2000≤(l0.length:Int)
  ·rw [if_pos c3] at H
   have c3b0:=ezT c3
   have c3b1:decide (2000≤(l0.length:Int))=true:=dzT c3
   clear c3
   simp only [Option.some.injEq,Prod.mk.injEq] at H
   obtain ⟨rfl,rfl⟩:=H
   obtain ⟨i04,hi04,_,hsz4,_⟩:=info_parts info5
   obtain ⟨hcut4,hA4,hC4⟩:=print_take_of (P:=Try.prog) (Value.int .u8) 0 49 5 .i64 Try.underlying49 hi04 hsz4 A0 c0 l0 2000 (by omega) (ozD (uq)) HC0.out
   have HR489:=am (Kd.jQb (h1:=fun _=>rfl) (hA4 _ (Kd.jPb HR0.out)))
   have HC489:=am hC4
   clear hA4 hC4 hi04 hsz4
   go_enter Try.func56,Try.ntmps56
   go_wp2_with (first |((with_reducible refine jI (N:=10) rfl ?_);refine bE (N:=10) (cs:=#[.slice A0 (l0.take 2000).length c0, .int .i64 0]) (t:=106) ?_;intro gb490 hg w5 hbox hb;have BK490:=am (hbox);have GW490:=am ((Y108:w.heap.size≤gb490));have GE490:=am ((Nat.le_trans HW0.out (Y108:w.heap.size≤gb490):w0.heap.size≤gb490));replace HBW:=am (jk HBW.out hb);replace HB:=am (jk (bq) hb);clear hb hbox hg))
   go_ret
   exact ⟨_,rfl,(show jb w0 _ gb490 (l0.take 2000) 0 from ⟨_,_,kq BK490.out,GE490.out,HR489.out⟩),by repeat (first |(with_reducible first | exact HB.out | apply jA | apply jq | apply jv | refine jm ?_ GE490.out) | exact HB.out),by repeat (first |(with_reducible first | exact HBW.out | apply jA | apply jq | apply jv | refine jm ?_ GW490.out) | exact HBW.out)⟩
  ·rw [if_neg c3] at H
   exact absurd H (by simp)
 ·rw [if_neg c2] at H
  have c2b0:decide (2000<(l0.length:Int))=false:=dzF c2
  have c2b1:decide (2000<l0.length)=false:=dzF (by omega)
  clear c2
  simp only [Option.some.injEq,Prod.mk.injEq] at H
  obtain ⟨rfl,rfl⟩:=H
  go_enter Try.func56,Try.ntmps56
  go_wp2_with (first |((with_reducible refine jI (N:=10) rfl ?_);refine bE (N:=10) (cs:=#[.slice A0 l0.length c0, .int .i64 0]) (t:=106) ?_;intro gb491 hg w6 hbox hb;have BK491:=am (hbox);have GW491:=am ((Y108:w.heap.size≤gb491));have GE491:=am ((Nat.le_trans HW0.out (Y108:w.heap.size≤gb491):w0.heap.size≤gb491));replace HBW:=am (jk HBW.out hb);replace HB:=am (jk (bq) hb);clear hb hbox hg))
  go_ret
  exact ⟨_,rfl,(show jb w0 _ gb491 l0 0 from ⟨_,_,kq BK491.out,GE491.out,HR0.out⟩),by repeat (first |(with_reducible first | exact HB.out | apply jA | apply jq | apply jv | refine jm ?_ GE491.out) | exact HB.out),by repeat (first |(with_reducible first | exact HBW.out | apply jA | apply jq | apply jv | refine jm ?_ GW491.out) | exact HBW.out)⟩
def jbb.f (k : Nat) (l0 : List Int) : Option ((List (S94)) × (List (S54)) × Int) := (jrb.f l0).bind fun bt494 => ((jGa.f k bt494.1 bt494.2).bind fun bt497 => (some (bt497.1, bt497.2.1, bt497.2.2.1)))
set_option maxHeartbeats 8000000 in
set_option maxRecDepth 100000 in
theorem jbb.calls (k : Nat) (A0 : Option Addr) (c0 : Nat) (l0 : List Int) (r1 : List (S94)) (r2 : List (S54)) (r3 : Int) (w : World) (hr0 : Kd.C (Kd.int .u8) w A0 l0.length l0) (hc0 : l0.length ≤ c0) (h : jbb.f k l0 = some (r1, r2, r3)) :
  Calls Try.prog 33 #[.slice A0 l0.length c0] w fun e w'=>∃ v0_ v1_:Value,e=.returned (.tuple #[.agg #[v0_], .agg #[v1_], .int .i64 r3])∧Kd.R k94 94 w' w.heap.size (fun _=>True) v0_ r1∧Kd.R k54 54 w' w.heap.size (fun _=>True) v1_ r2∧Below w.heap.size w w':=by
 have hu37:=Try.underlying37
 have hu32:=Try.underlying32
 have HR0:=am hr0
 have HC0:=am hc0
 clear hr0 hc0
 have HB:=am (Below.refl w.heap.size w)
 have H:((jrb.f l0).bind fun bt494=>((jGa.f k bt494.1 bt494.2).bind fun bt497=>(some (bt497.1,bt497.2.1,bt497.2.2.1))))=some (r1,r2,r3):=h
 clear h
 replace H:=bzS H
 obtain ⟨⟨t494,t495⟩,A20,H⟩:=H
 replace H:((jGa.f k t494 t495).bind fun bt497=>(some (bt497.1,bt497.2.1,bt497.2.2.1)))=some (r1,r2,r3):=H
 have A2:=am A20
 clear A20
 replace H:=bzS H
 obtain ⟨⟨t497,t500,t503,t504⟩,A30,H⟩:=H
 replace H:(some (t497,t500,t503))=some (r1,r2,r3):=H
 have A3:=am A30
 clear A30
 simp only [Option.some.injEq,Prod.mk.injEq] at H
 obtain ⟨rfl,rfl,rfl⟩:=H
 go_enter Try.func33,Try.ntmps33
 go_wp2_with (first |((with_reducible refine jI (N:=2) rfl ?_);refine bE (N:=2) (cs:=#[.slice none 0 0]) (t:=37) ?_;intro gb492 hg w4 hbox hb;have BK492:=am (hbox);have GW492:=am ((Y2:w.heap.size≤gb492));have GE492:=am ((Y2:w.heap.size≤gb492));replace HB:=am (jk (bq) hb);clear hb hbox hg) |((with_reducible refine jI (N:=3) rfl ?_);refine bE (N:=3) (cs:=#[.slice none 0 0]) (t:=32) ?_;intro gb493 hg w5 hbox hb;have BK493:=am (hbox);have GW493:=am ((Y159:w.heap.size≤gb493));have GE493:=am ((Y159:w.heap.size≤gb493));have NB492_493:=am ((by rw [hg];exact Nat.ne_of_lt (jca (g:=gb492) (o:=.cells #[.slice none 0 0] 37 (0,0)) (kq BK492.out)):gb492≠gb493));have NB493_492:=am ((by rw [hg];exact Nat.ne_of_gt (jca (g:=gb492) (o:=.cells #[.slice none 0 0] 37 (0,0)) (kq BK492.out)):gb493≠gb492));replace BK492:=am (jh (g:=gb492) (o:=.cells #[.slice none 0 0] 37 (0,0)) (kq BK492.out) hb);replace HB:=am (jk (by repeat (first |(with_reducible first | exact HB.out | apply jA | apply jq | apply jv | refine jm ?_ GE492.out) | exact HB.out)) hb);clear hb hbox hg) |((with_reducible refine jB (f:=56) rfl ?_);refine gL (some 6) Try.func56 #[.slice A0 l0.length c0] ?_;(with_reducible refine (jrb.calls _ _ l0 t494 t495 w _ ?side1 ?side2 ?side3 A2.out).mono ?_);(case side1=>repeat (first |(with_reducible first | exact HB.out | apply jA | apply jq | apply jv | refine jm ?_ GE492.out | refine jm ?_ GE493.out) | exact HB.out));(case side2=>exact HR0.out);(case side3=>exact HC0.out);rintro e w6 ⟨g496,rfl,hi,hb,hb2⟩;refine ⟨_,rfl,?_⟩;have HI496:=am (hi);have NB496_492:=am (jb.ne_blk hi (jh (g:=gb492) (o:=.cells #[.slice none 0 0] 37 (0,0)) (kq BK492.out) hb2) (by decide));have NB492_496:=am (Ne.symm (jb.ne_blk hi (jh (g:=gb492) (o:=.cells #[.slice none 0 0] 37 (0,0)) (kq BK492.out) hb2) (by decide)));have NB496_493:=am (jb.ne_blk hi (jh (g:=gb493) (o:=.cells #[.slice none 0 0] 32 (0,0)) (kq BK493.out) hb2) (by decide));have NB493_496:=am (Ne.symm (jb.ne_blk hi (jh (g:=gb493) (o:=.cells #[.slice none 0 0] 32 (0,0)) (kq BK493.out) hb2) (by decide)));replace BK492:=am (jh (g:=gb492) (o:=.cells #[.slice none 0 0] 37 (0,0)) (kq BK492.out) hb2);replace BK493:=am (jh (g:=gb493) (o:=.cells #[.slice none 0 0] 32 (0,0)) (kq BK493.out) hb2);replace HB:=am (hb);(try clear hb);(try clear hb2);(try clear hk);(try clear hi)) |((with_reducible refine jB (f:=55) rfl ?_);refine gL (some 7) Try.func55 #[.pointer (some ⟨g496,0,none⟩)] ?_;(with_reducible refine (jGa.calls k g496 t494 t495 t497 t500 t503 t504 w _ ?side1 ?side2 A3.out).mono ?_);(case side1=>repeat (first |(with_reducible first | exact HI496.out | apply jb.alloc | apply jb.drewN | apply jb.drew | apply jb.jhb | refine jb.far ?_ NB496_492.out _ | refine jb.far ?_ NB496_493.out _) | exact HI496.out));(case side2=>exact Y109);rintro e w7 ⟨v498,v501,rfl,ho0,ho1,hi,hb,hk⟩;refine ⟨_,rfl,?_⟩;have HO499:=am (Kd.jea ho0 (jU (Y109)));have HO502:=am (Kd.jea ho1 (jU (Y109)));replace BK492:=am (jd.blk hk (g':=gb492) (o:=.cells #[.slice none 0 0] 37 (0,0)) (kq BK492.out) NB492_496.out (by simp));replace BK493:=am (jd.blk hk (g':=gb493) (o:=.cells #[.slice none 0 0] 32 (0,0)) (kq BK493.out) NB493_496.out (by simp));replace HB:=am (hb);replace HI496:=am (hi);(try clear hb);(try clear hb2);(try clear hk);(try clear hi);(try clear ho0);(try clear ho1);obtain ⟨Ao8,co8,eo8⟩:=Kd.jW HO499.out;subst eo8;have hnb9:=NB492_493.out;have hnc9:=NB493_492.out;have hnb10:=NB492_496.out;have hnc10:=NB496_492.out;have hcz11_0:=bc0 BK492.out;have hfz11_0:=jc BK492.out 0;obtain ⟨Ao12,co12,eo12⟩:=Kd.jW HO502.out;subst eo12;have hnb13:=NB493_496.out;have hnc13:=NB496_493.out;have hcz14_0:=bc0 BK493.out;have hfz14_0:=jc BK493.out 0))
 refine bodyPost_ret (results_list (rs:=[.cell 2 37, .cell 3 32, .tmp 4]) rfl (by simp) (.cell gb492 37 #[.slice Ao8 t497.length co8] (0,0) _ rfl (by (with_reducible repeat (first | refine je ?_ _ | refine jg ?_ | refine jf ?_ _));refine jJ ?_ NB492_493.out _;(with_reducible repeat (first | refine je ?_ _ | refine jg ?_ | refine jf ?_ _));refine jla (cs:=#[.slice none 0 0]) ?_ 0 _ rfl;(with_reducible repeat (first | refine je ?_ _ | refine jg ?_ | refine jf ?_ _));exact BK492.out) Try.underlying37 rfl (by kernel_rfl) (.cell gb493 32 #[.slice Ao12 t500.length co12] (0,0) _ rfl (by (with_reducible repeat (first | refine je ?_ _ | refine jg ?_ | refine jf ?_ _));refine jla (cs:=#[.slice none 0 0]) ?_ 0 _ rfl;(with_reducible repeat (first | refine je ?_ _ | refine jg ?_ | refine jf ?_ _));refine jJ ?_ NB493_492.out _;(with_reducible repeat (first | refine je ?_ _ | refine jg ?_ | refine jf ?_ _));exact BK493.out) Try.underlying32 rfl (by kernel_rfl) (.tmp .nil)))) rfl ?_
 exact ⟨_,_,Y1,by (with_reducible repeat (first | apply Kd.jO | apply Kd.jQ | apply Kd.jM));exact Kd.jE (Kd.jX (p:=⟨gb493,0,none⟩) (Kd.jX (p:=⟨gb492,0,none⟩) (Kd.jN (Kd.jN HO499.out BK492.out (by decide)) BK493.out (by decide)) (fun _ hk=>hk.1.2) (.slice Ao8 t497.length co8)) (fun _ hk=>hk.2) (.slice Ao12 t500.length co12)) (fun _ hk=>trivial),by (with_reducible repeat (first | apply Kd.jO | apply Kd.jQ | apply Kd.jM));exact Kd.jE (Kd.jX (p:=⟨gb493,0,none⟩) (Kd.jX (p:=⟨gb492,0,none⟩) (Kd.jN (Kd.jN HO502.out BK492.out (by decide)) BK493.out (by decide)) (fun _ hk=>hk.1.2) (.slice Ao8 t497.length co8)) (fun _ hk=>hk.2) (.slice Ao12 t500.length co12)) (fun _ hk=>trivial),Y109⟩
def jKa.l0 : Nat → List Int → Int → Option (Bool)
 | 0,_,_=>none
 | k+1,x0,x3=>if x3<(x0.length:Int) then (if 0≤x3 then (if 0≤(wrap64 (x3 - 1)) then (if (wrap64 (x3 - 1))<(x0.length:Int) then (if (rd x0 x3)≤(rd x0 (wrap64 (x3 - 1))) then (some false) else (jKa.l0 k x0 (wrap64 (x3+1)))) else (none)) else (none)) else (none)) else (some true)
def jKa.f (k : Nat) (l0 : List Int) : Option (Bool) := jKa.l0 k l0 1
set_option maxHeartbeats 8000000 in
set_option maxRecDepth 100000 in
theorem jKa.calls (k : Nat) (A0 : Option Addr) (c0 : Nat) (l0 : List Int) (r : Bool) (w : World) (hr0 : Kd.C (Kd.int .i64) w A0 l0.length l0) (hc0 : l0.length ≤ c0) (h : jKa.f k l0 = some r) :
  Calls Try.prog 34 #[.slice A0 l0.length c0] w fun e w'=>e=.returned (.bool r)∧jgb w w':=by
 have HR0:=am hr0
 have HC0:=am hc0
 clear hr0 hc0
 have H:(jKa.l0 k l0 1)=some r:=h
 clear h
 have H':=am H
 clear H
 go_enter Try.func34,Try.ntmps34
 go_wp2
 repeat (go_quiet (fail);try go_wp2)
 go_loopg [3] k (fun kq v3 w'=>∃ (x3_1:Int),v3=.int .i64 x3_1∧jC (jKa.l0 kq l0 x3_1=some r)∧jC (kq≤k)∧jgb w w')
 case atStart=>exact ⟨(1),(sq),H',⟨Nat.le_refl _⟩,Y5⟩
 case round =>
  clear H'
  obtain ⟨x3_1,rfl,HA,HK1,⟨m1,rfl⟩⟩:=hrel
  cases gk with
  | zero=>exact absurd HA.out (by simp [jKa.l0])
  | succ k1 =>
   have H:=HA.out
   clear HA
   simp only [jKa.l0] at H
   by_cases c2:x3_1<(l0.length:Int)
   ·rw [if_pos c2] at H
    have c2b0:decide (x3_1<(l0.length:Int))=true:=dzT c2
    clear c2
    by_cases c3:0≤x3_1
    ·rw [if_pos c3] at H
     have c3b0:decide (0≤x3_1)=true:=dzT c3
     clear c3
     obtain ⟨ji4,hji4⟩:∃ j_:Int,(wrap64 (x3_1 - 1))=j_:=⟨_,rfl⟩
     replace H:(if 0≤(ji4) then (if (ji4)<(l0.length:Int) then (if (rd l0 x3_1)≤(rd l0 (ji4)) then (some false) else (jKa.l0 k1 l0 (wrap64 (x3_1+1)))) else (none)) else (none))=some r:=by first |(rw [hji4] at H;exact H) |(simp only [hji4] at H ⊢;exact H)
     have hji4w:(IntKind.i64.wrap (x3_1 - 1))=ji4:=(jqb _).trans hji4
     by_cases c5:0≤(ji4)
     ·rw [if_pos c5] at H
      have c5b0:decide (0≤(ji4))=true:=dzT c5
      clear c5
      by_cases c6:(ji4)<(l0.length:Int)
      ·rw [if_pos c6] at H
       have c6b0:decide ((ji4)<(l0.length:Int))=true:=dzT c6
       clear c6
       by_cases c7:(rd l0 x3_1)≤(rd l0 (ji4))
       ·rw [if_pos c7] at H
        have c7b0:decide ((rd l0 x3_1)≤(rd l0 (ji4)))=true:=dzT c7
        clear c7
        obtain rfl:=Option.some.inj H
        have p505:0≤(x3_1:Int):=ozD (uq)
        have q505:x3_1<(l0.length:Int):=ozD (uq)
        obtain ⟨ad505,e505,hx505_0⟩:=Kd.jcb HR0.out x3_1 p505 q505
        cases e505
        replace p505:=ezT p505
        replace q505:=ezT q505
        have p506:0≤((ji4):Int):=ozD (uq)
        have q506:(ji4)<(l0.length:Int):=ozD (uq)
        obtain ⟨ad506,e506,hx506_0⟩:=Kd.jcb HR0.out (ji4) p506 q506
        obtain rfl:ad505=ad506:=(by injection e506)
        replace p506:=ezT p506
        replace q506:=ezT q506
        go_wp2
        repeat (go_quiet (fail);try go_wp2)
        go_ret
        exact ⟨by first | rfl |(simp;done) |(simp only [← hji4] <;> (first | rfl | simp)) |(simp [*];done),Y5⟩
       ·rw [if_neg c7] at H
        have c7b0:decide ((rd l0 x3_1)≤(rd l0 (ji4)))=false:=dzF c7
        clear c7
        have H':=am H
        clear H
        have p505:0≤(x3_1:Int):=ozD (uq)
        have q505:x3_1<(l0.length:Int):=ozD (uq)
        obtain ⟨ad505,e505,hx505_0⟩:=Kd.jcb HR0.out x3_1 p505 q505
        cases e505
        replace p505:=ezT p505
        replace q505:=ezT q505
        have p506:0≤((ji4):Int):=ozD (uq)
        have q506:(ji4)<(l0.length:Int):=ozD (uq)
        obtain ⟨ad506,e506,hx506_0⟩:=Kd.jcb HR0.out (ji4) p506 q506
        obtain rfl:ad505=ad506:=(by injection e506)
        replace p506:=ezT p506
        replace q506:=ezT q506
        go_wp2
        repeat (go_quiet (fail);try go_wp2)
        go_roundg k1
        case measure=>have:=HK1.out;omega
        case rel=>exact ⟨(wrap64 (x3_1+1)),(sq),H',⟨by have:=HK1.out;omega⟩,Y5⟩
      ·rw [if_neg c6] at H
       exact absurd H (by simp)
     ·rw [if_neg c5] at H
      exact absurd H (by simp)
    ·rw [if_neg c3] at H
     exact absurd H (by simp)
   ·rw [if_neg c2] at H
    have c2b0:decide (x3_1<(l0.length:Int))=false:=dzF c2
    clear c2
    obtain rfl:=Option.some.inj H
    go_wp2
    repeat (go_quiet (fail);try go_wp2)
    go_ret
    exact ⟨sq,Y5⟩
end Go.Proofs.Ytecdfgejmbpclaa.P
end
