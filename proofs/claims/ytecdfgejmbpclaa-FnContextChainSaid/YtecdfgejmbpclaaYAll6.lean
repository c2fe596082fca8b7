/- One part of the proofs on this program: functions of the program as plain functions, that the code comes to them, and facts on them. -/
import Derived.Test.YtecdfgejmbpclaaYAll1
import Derived.Test.YtecdfgejmbpclaaYAll2
import Derived.Test.YtecdfgejmbpclaaYAll5
import Derived.Test.YtecdfgejmbpclaaYWAuto
section
namespace Go.Proofs.Ytecdfgejmbpclaa.P
open Go.RowKit Go.Proofs.YtecdfgejmbpclaaW.PrintWords Go.Proofs.YtecdfgejmbpclaaW.PrintLast Go.Proofs.YtecdfgejmbpclaaW.PrintMore
attribute [local go_sem] jxa jva jGa jFa jna jma jwa jua jD
set_option linter.unusedVariables false
set_option linter.unusedSimpArgs false
def jvb.f (k : Nat) (s0_0 : List Int) (s0_1 : Int) (l1_0 : List (S54)) : Option (Int × Int) := (jl.f k s0_0 s0_1 16).bind fun bt467 => (if bt467.1 = 0 then ((jw.f k s0_0 bt467.2 (([(-1), (l1_0.length : Int), 9] : List Int))).bind fun bt472 => (some (bt472.1, bt472.2))) else ((jl.f k s0_0 bt467.2 (l1_0.length : Int)).bind fun bt474 => (some (bt474.1, bt474.2))))
set_option maxHeartbeats 8000000 in
set_option maxRecDepth 100000 in
theorem jvb.calls (k : Nat) (g : Nat) (s0_0 : List Int) (s0_1 : Int) (A1_0 : Option Addr) (c1_0 : Nat) (l1_0 : List (S54)) (r1 : Int) (r2 : Int) (w0 w : World) (hI : ja w0 w g s0_0 s0_1) (hB : Below w0.heap.size w0 w) (hr1_0 : ∀ W_, jd w W_ g none → Kd.C k54 W_ A1_0 l1_0.length l1_0) (hc1_0 : l1_0.length ≤ c1_0) (h : jvb.f k s0_0 s0_1 l1_0 = some (r1, r2)) :
  Calls Try.prog 84 #[.pointer (some ⟨g,0,none⟩), .agg #[.slice A1_0 l1_0.length c1_0]] w fun e w'=>e=.returned (.int .i64 r1)∧ja w0 w' g s0_0 r2∧Below w0.heap.size w0 w'∧jd w w' g none:=by
 have hu32:=Try.underlying32
 have HR1_0:=am hr1_0
 have HC1_0:=am hc1_0
 clear hr1_0 hc1_0
 have HI0:=am hI
 have HK:=am (jd.refl w g none)
 have HL:=am hB.size
 clear hI
 have HW0:=am hB.size
 have HB:=am hB
 clear hB
 have H:((jl.f k s0_0 s0_1 16).bind fun bt467=>(if bt467.1=0 then ((jw.f k s0_0 bt467.2 (([(-1),(l1_0.length:Int),9]:List Int))).bind fun bt472=>(some (bt472.1,bt472.2))) else ((jl.f k s0_0 bt467.2 (l1_0.length:Int)).bind fun bt474=>(some (bt474.1,bt474.2)))))=some (r1,r2):=h
 clear h
 replace H:=bzS H
 obtain ⟨⟨t467,t468⟩,A30,H⟩:=H
 replace H:(if t467=0 then ((jw.f k s0_0 t468 (([(-1),(l1_0.length:Int),9]:List Int))).bind fun bt472=>(some (bt472.1,bt472.2))) else ((jl.f k s0_0 t468 (l1_0.length:Int)).bind fun bt474=>(some (bt474.1,bt474.2))))=some (r1,r2):=H
 have A3:=am A30
 clear A30
 by_cases c4:t467=0
 ·rw [if_pos c4] at H
  have c4b0:(t467 == 0)=true:=beq_iff_eq.mpr c4
  have c4b1:(t467 != 0)=false:=bne_eq_false_iff_eq.mpr c4
  clear c4
  obtain ⟨y469,hy469⟩:∃ y_:List Int,y_=(([(-1),(l1_0.length:Int),9]:List Int)):=⟨_,rfl⟩
  replace H:((jw.f k s0_0 t468 y469).bind fun bt472=>(some (bt472.1,bt472.2)))=some (r1,r2):=by first |(rw [hy469];with_reducible exact H) |(have H2_:=(Option.bind_some _ _).symm.trans H;rw [hy469];with_reducible exact H2_) |(have H2_:=(Option.bind_some _ _).symm.trans H;with_reducible exact H2_) | with_reducible exact H |(rw [hy469];exact H) | exact H
  have Ny469:=am hy469
  clear hy469
  replace H:=bzS H
  obtain ⟨⟨t472,t473⟩,A50,H⟩:=H
  replace H:(some (t472,t473))=some (r1,r2):=H
  have A5:=am A50
  clear A50
  simp only [Option.some.injEq,Prod.mk.injEq] at H
  obtain ⟨rfl,rfl⟩:=H
  go_enter Try.func84,Try.ntmps84
  go_wp2_with (first |((with_reducible refine jG (N:=3) rfl ?_);refine bE (N:=3) (cs:=#[.slice A1_0 l1_0.length c1_0]) (t:=32) ?_;intro gb466 hg w6 hbox hb;have BK466:=am (hbox);have GW466:=am ((Y8:w.heap.size≤gb466));have GE466:=am ((Nat.le_trans HW0.out (Y8:w.heap.size≤gb466):w0.heap.size≤gb466));have NB0_466:=am ((Y25:g≠gb466));have NB466_0:=am ((Y26:gb466≠g));replace HK:=am (jd.trans (Y14) (jd.of_below hb g none) (.inl rfl));replace HB:=am (jf (Y15) hb);replace HI0:=am (ja.below (Y13) hb);clear hb hbox hg) |((with_reducible refine jA (f:=88) rfl ?_);refine gL (some 6) Try.func88 #[.pointer (some ⟨g,0,none⟩), .int .i64 16] ?_;(with_reducible refine (jl.calls k g s0_0 s0_1 16 t467 t468 w0 _ ?side1 ?side2 A3.out).mono ?_);(case side1=>exact Y52);(case side2=>exact Y58);rintro e w7 ⟨rfl,hi,hb,hk⟩;refine ⟨_,rfl,?_⟩;replace BK466:=am (jd.blk hk (g':=gb466) (o:=.cells #[.slice A1_0 l1_0.length c1_0] 32 (0,0)) (kq BK466.out) NB466_0.out (by simp));replace HK:=am (jd.trans (Y53) hk (.inl rfl));replace HB:=am (hb);replace HI0:=am (hi);(try clear hb);(try clear hb2);(try clear hk);(try clear hi);have hnb8:=NB466_0.out;have hnc8:=NB0_466.out;have hcz9_0:=bc0 BK466.out;have hfz9_0:=je BK466.out 0) |((with_reducible refine jG (N:=12) rfl ?_);refine Kd.R_lit (Kd.int .i64) _ 3 ?hg (N:=12) ?hd (xs:=([(-1),(l1_0.length:Int),9]:List Int)) (inner:=[.int .i64 (-1), .int .i64 (l1_0.length:Int), .int .i64 9]) (ok:=fun _=>True) (okp:=fun _=>True) ?hr ?hp (fun _ hk=>hk) trivial (Below.refl _ _) (Nat.le_refl _) (by simp) ?_;(case hd=>rfl);(case hg=>rfl);(case hr=>exact Y3);(case hp=>exact (Reps.one (show Kd.M (Kd.int .i64) _ _ _ (-1) [.int .i64 (-1)] from rfl) (Reps.one (show Kd.M (Kd.int .i64) _ _ _ (l1_0.length:Int) [.int .i64 (l1_0.length:Int)] from rfl) (Reps.one (show Kd.M (Kd.int .i64) _ _ _ 9 [.int .i64 9] from rfl) (Reps.none _ _)))));intro v470 w10 ho11 hb hg_ hnew_;clear hg_ hnew_;(first | rw [← Ny469.out] at ho11 |(simp only [Int.reduceToNat] at ho11;rw [← Ny469.out] at ho11));have HO471:=am (Kd.jV ho11 (jda (w:=w) (g:=g) (row:=none) (Y53)));replace BK466:=am (jc (g:=gb466) (o:=.cells #[.slice A1_0 l1_0.length c1_0] 32 (0,0)) (kq BK466.out) hb);replace HK:=am (jd.trans (Y53) (jd.of_below hb g none) (.inl rfl));replace HB:=am (jf (Y58) hb);replace HI0:=am (ja.below (Y52) hb);clear hb ho11;obtain ⟨Ao12,co12,eo12⟩:=Kd.jN HO471.out;subst eo12) |((with_reducible refine jA (f:=89) rfl ?_);refine gL (some 13) Try.func89 #[.pointer (some ⟨g,0,none⟩), .slice Ao12 y469.length co12] ?_;(with_reducible refine (jw.calls k g s0_0 t468 _ _ y469 t472 t473 w0 _ ?side1 ?side2 ?side3 ?side4 ?side5 A5.out).mono ?_);(case side1=>exact Y52);(case side2=>exact Y58);(case side3=>exact cq (Kd.jm HO471.out).2.2);(case side4=>exact (Kd.jm HO471.out).2.1);(case side5=>exact jsb (ja.own_ne HI0.out HO471.out (by decide)));rintro e w13 ⟨rfl,hi,hb,hk⟩;refine ⟨_,rfl,?_⟩;replace BK466:=am (jd.blk hk (g':=gb466) (o:=.cells #[.slice A1_0 l1_0.length c1_0] 32 (0,0)) (kq BK466.out) NB466_0.out (by simp));replace HO471:=am (Kd.jH (Kd.joa (ja.apart (show ja w0 _ g s0_0 t468 from Y52) (rq HO471.out) (by decide)) hk (fun _ h=>h.2)) (fun _ h=>h.1));replace HK:=am (jd.trans (Y53) hk (.inl rfl));replace HB:=am (hb);replace HI0:=am (hi);(try clear hb);(try clear hb2);(try clear hk);(try clear hi)))
  go_ret
  exact ⟨Y2,Y52,Y58,Y53⟩
 ·rw [if_neg c4] at H
  have c4b0:(t467 == 0)=false:=beq_eq_false_iff_ne.mpr c4
  have c4b1:(t467 != 0)=true:=bne_iff_ne.mpr c4
  replace H:=bzS H
  obtain ⟨⟨t474,t475⟩,A140,H⟩:=H
  replace H:(some (t474,t475))=some (r1,r2):=H
  have A14:=am A140
  clear A140
  simp only [Option.some.injEq,Prod.mk.injEq] at H
  obtain ⟨rfl,rfl⟩:=H
  go_enter Try.func84,Try.ntmps84
  go_wp2_with (first |((with_reducible refine jG (N:=3) rfl ?_);refine bE (N:=3) (cs:=#[.slice A1_0 l1_0.length c1_0]) (t:=32) ?_;intro gb466 hg w15 hbox hb;have BK466:=am (hbox);have GW466:=am ((Y8:w.heap.size≤gb466));have GE466:=am ((Nat.le_trans HW0.out (Y8:w.heap.size≤gb466):w0.heap.size≤gb466));have NB0_466:=am ((Y25:g≠gb466));have NB466_0:=am ((Y26:gb466≠g));replace HK:=am (jd.trans (Y14) (jd.of_below hb g none) (.inl rfl));replace HB:=am (jf (Y15) hb);replace HI0:=am (ja.below (Y13) hb);clear hb hbox hg) |((with_reducible refine jA (f:=88) rfl ?_);refine gL (some 6) Try.func88 #[.pointer (some ⟨g,0,none⟩), .int .i64 16] ?_;(with_reducible refine (jl.calls k g s0_0 s0_1 16 t467 t468 w0 _ ?side1 ?side2 A3.out).mono ?_);(case side1=>exact Y52);(case side2=>exact Y58);rintro e w16 ⟨rfl,hi,hb,hk⟩;refine ⟨_,rfl,?_⟩;replace BK466:=am (jd.blk hk (g':=gb466) (o:=.cells #[.slice A1_0 l1_0.length c1_0] 32 (0,0)) (kq BK466.out) NB466_0.out (by simp));replace HK:=am (jd.trans (Y53) hk (.inl rfl));replace HB:=am (hb);replace HI0:=am (hi);(try clear hb);(try clear hb2);(try clear hk);(try clear hi);have hnb17:=NB466_0.out;have hnc17:=NB0_466.out;have hcz18_0:=bc0 BK466.out;have hfz18_0:=je BK466.out 0) |((with_reducible refine jA (f:=88) rfl ?_);refine gL (some 18) Try.func88 #[.pointer (some ⟨g,0,none⟩), .int .i64 (l1_0.length:Int)] ?_;(with_reducible refine (jl.calls k g s0_0 t468 (l1_0.length:Int) t474 t475 w0 _ ?side1 ?side2 A14.out).mono ?_);(case side1=>exact Y52);(case side2=>exact Y58);rintro e w19 ⟨rfl,hi,hb,hk⟩;refine ⟨_,rfl,?_⟩;replace BK466:=am (jd.blk hk (g':=gb466) (o:=.cells #[.slice A1_0 l1_0.length c1_0] 32 (0,0)) (kq BK466.out) NB466_0.out (by simp));replace HK:=am (jd.trans (Y53) hk (.inl rfl));replace HB:=am (hb);replace HI0:=am (hi);(try clear hb);(try clear hb2);(try clear hk);(try clear hi)))
  go_ret
  exact ⟨Y2,Y52,Y58,Y53⟩
def jDa.f (k : Nat) (s0_0 : List Int) (s0_1 : Int) : Option ((List (S94)) × (List (S54)) × Int × Int) := (jL.f k s0_0 s0_1).bind fun bt478 => ((jvb.f k s0_0 bt478.2.2 bt478.2.1).bind fun bt487 => (some (bt478.1, bt478.2.1, bt487.1, bt487.2)))
def jDa.T2 : Bool × List (List Nat × List Nat) := (true, [([], []), ([], []), ([], []), ([], []), ([2, 3], [2, 3]), ([0, 4, 0], [0]), ([1, 5, 0, 1, 5], [1]), ([4, 6, 0, 1, 2, 3, 4, 5, 6], [4])])
def jDa.B2 : List Nat := [0, 0, 0, 0, 12, 29, 63, 127]
theorem jDa.tab2 : rtab .any (opsOf Try.f55 2) = jDa.T2 := by kernel_rfl
theorem jDa.bits2 : jGb jDa.T2.2 jDa.B2 = true := by kernel_rfl
set_option maxHeartbeats 8000000 in
set_option maxRecDepth 100000 in
theorem jDa.calls (k : Nat) (g : Nat) (s0_0 : List Int) (s0_1 : Int) (r1 : List (S94)) (r2 : List (S54)) (r3 : Int) (r4 : Int) (w0 w : World) (hI : ja w0 w g s0_0 s0_1) (hB : Below w0.heap.size w0 w) (h : jDa.f k s0_0 s0_1 = some (r1, r2, r3, r4)) :
  Calls Try.prog 55 #[.pointer (some ⟨g,0,none⟩)] w fun e w'=>∃ v0_ v1_:Value,e=.returned (.tuple #[.agg #[v0_], .agg #[v1_], .int .i64 r3])∧Kd.R k94 94 w' w.heap.size (fun _=>True) v0_ r1∧Kd.R k54 54 w' w.heap.size (fun _=>True) v1_ r2∧ja w0 w' g s0_0 r4∧Below w0.heap.size w0 w'∧jd w w' g none:=by
 have hu37:=Try.underlying37
 have hu32:=Try.underlying32
 have HI0:=am hI
 have HK:=am (jd.refl w g none)
 have HL:=am hB.size
 clear hI
 have HW0:=am hB.size
 have HB:=am hB
 clear hB
 have H:((jL.f k s0_0 s0_1).bind fun bt478=>((jvb.f k s0_0 bt478.2.2 bt478.2.1).bind fun bt487=>(some (bt478.1,bt478.2.1,bt487.1,bt487.2))))=some (r1,r2,r3,r4):=h
 clear h
 replace H:=bzS H
 obtain ⟨⟨t478,t481,t484⟩,A20,H⟩:=H
 replace H:((jvb.f k s0_0 t484 t481).bind fun bt487=>(some (t478,t481,bt487.1,bt487.2)))=some (r1,r2,r3,r4):=H
 have A2:=am A20
 clear A20
 replace H:=bzS H
 obtain ⟨⟨t487,t488⟩,A30,H⟩:=H
 replace H:(some (t478,t481,t487,t488))=some (r1,r2,r3,r4):=H
 have A3:=am A30
 clear A30
 simp only [Option.some.injEq,Prod.mk.injEq] at H
 obtain ⟨rfl,rfl,rfl,rfl⟩:=H
 go_enter Try.func55,Try.ntmps55
 try go_wp2_with (first |((with_reducible refine jG (N:=2) rfl ?_);refine bE (N:=2) (cs:=#[.slice none 0 0]) (t:=37) ?_;intro gb476 hg w4 hbox hb;have BK476:=am (hbox);have GW476:=am ((Y8:w.heap.size≤gb476));have GE476:=am ((Nat.le_trans HW0.out (Y8:w.heap.size≤gb476):w0.heap.size≤gb476));have NB0_476:=am ((Y25:g≠gb476));have NB476_0:=am ((Y26:gb476≠g));replace HK:=am (jd.trans (Y14) (jd.of_below hb g none) (.inl rfl));replace HB:=am (jf (Y15) hb);replace HI0:=am (ja.below (Y13) hb);clear hb hbox hg) |((with_reducible refine jG (N:=3) rfl ?_);refine bE (N:=3) (cs:=#[.slice none 0 0]) (t:=32) ?_;intro gb477 hg w5 hbox hb;have BK477:=am (hbox);have GW477:=am ((Y154:w.heap.size≤gb477));have GE477:=am ((Nat.le_trans HW0.out (Y154:w.heap.size≤gb477):w0.heap.size≤gb477));have NB476_477:=am ((Y120:gb476≠gb477));have NB477_476:=am ((Y121:gb477≠gb476));have NB0_477:=am ((by rw [hg];exact Nat.ne_of_lt (ja.lt (show ja w0 _ g s0_0 s0_1 from by repeat (first |(with_reducible first | exact HI0.out | apply ja.alloc | apply ja.drewN | apply ja.drew | apply ja.jdb | refine ja.far ?_ NB0_476.out _) | exact HI0.out))):g≠gb477));have NB477_0:=am ((by rw [hg];exact Nat.ne_of_gt (ja.lt (show ja w0 _ g s0_0 s0_1 from by repeat (first |(with_reducible first | exact HI0.out | apply ja.alloc | apply ja.drewN | apply ja.drew | apply ja.jdb | refine ja.far ?_ NB0_476.out _) | exact HI0.out))):gb477≠g));replace BK476:=am (jc (g:=gb476) (o:=.cells #[.slice none 0 0] 37 (0,0)) (kq BK476.out) hb);replace HK:=am (jd.trans (by repeat (first |(with_reducible first | exact HK.out | apply jd.set_ | apply jia | apply jZ | apply jja | refine jM ?_ GW476.out _) | exact HK.out)) (jd.of_below hb g none) (.inl rfl));replace HB:=am (jf (by repeat (first |(with_reducible first | exact HB.out | apply jC | apply jr | apply jy | refine jq ?_ (ja.ge HI0.out) | refine jq ?_ GE476.out) | exact HB.out)) hb);replace HI0:=am (ja.below (by repeat (first |(with_reducible first | exact HI0.out | apply ja.alloc | apply ja.drewN | apply ja.drew | apply ja.jdb | refine ja.far ?_ NB0_476.out _) | exact HI0.out)) hb);clear hb hbox hg) |((with_reducible refine jA (f:=61) rfl ?_);refine gL (some 9) Try.func61 #[.pointer (some ⟨g,0,none⟩)] ?_;(with_reducible refine (jL.calls k g s0_0 s0_1 t478 t481 t484 w0 _ ?side1 ?side2 A2.out).mono ?_);(case side1=>exact Y155);(case side2=>exact Y156);rintro e w6 ⟨v479,v482,rfl,ho0,ho1,hi,hb,hk⟩;refine ⟨_,rfl,?_⟩;have HO480:=am (Kd.jV ho0 (jda (w:=w) (g:=g) (row:=none) (Y102)));have HO483:=am (Kd.jV ho1 (jda (w:=w) (g:=g) (row:=none) (Y102)));replace BK476:=am (jd.blk hk (g':=gb476) (o:=.cells #[.slice none 0 0] 37 (0,0)) (kq BK476.out) NB476_0.out (by simp));replace BK477:=am (jd.blk hk (g':=gb477) (o:=.cells #[.slice none 0 0] 32 (0,0)) (kq BK477.out) NB477_0.out (by simp));replace HK:=am (jd.trans (Y102) hk (.inl rfl));replace HB:=am (hb);replace HI0:=am (hi);(try clear hb);(try clear hb2);(try clear hk);(try clear hi);(try clear ho0);(try clear ho1)) |((with_reducible refine jG (N:=5) rfl ?_);refine bE (N:=5) (cs:=#[.slice none 0 0]) (t:=37) ?_;intro gb485 hg w7 hbox hb;have BK485:=am (hbox);have GW485:=am ((Y157:w.heap.size≤gb485));have GE485:=am ((Nat.le_trans HW0.out (Y157:w.heap.size≤gb485):w0.heap.size≤gb485));have NB476_485:=am ((Y120:gb476≠gb485));have NB485_476:=am ((Y121:gb485≠gb476));have NB477_485:=am ((by rw [hg];exact Nat.ne_of_lt (jha (g:=gb477) (o:=.cells #[.slice none 0 0] 32 (0,0)) (kq BK477.out)):gb477≠gb485));have NB485_477:=am ((by rw [hg];exact Nat.ne_of_gt (jha (g:=gb477) (o:=.cells #[.slice none 0 0] 32 (0,0)) (kq BK477.out)):gb485≠gb477));have NB0_485:=am ((by rw [hg];exact Nat.ne_of_lt (ja.lt (show ja w0 _ g s0_0 t484 from by repeat (first |(with_reducible first | exact HI0.out | apply ja.alloc | apply ja.drewN | apply ja.drew | apply ja.jdb | refine ja.far ?_ NB0_476.out _ | refine ja.far ?_ NB0_477.out _) | exact HI0.out))):g≠gb485));have NB485_0:=am ((by rw [hg];exact Nat.ne_of_gt (ja.lt (show ja w0 _ g s0_0 t484 from by repeat (first |(with_reducible first | exact HI0.out | apply ja.alloc | apply ja.drewN | apply ja.drew | apply ja.jdb | refine ja.far ?_ NB0_476.out _ | refine ja.far ?_ NB0_477.out _) | exact HI0.out))):gb485≠g));replace HO480:=am (Kd.jO (rq HO480.out) hb);replace HO483:=am (Kd.jO (rq HO483.out) hb);replace BK476:=am (jc (g:=gb476) (o:=.cells #[.slice none 0 0] 37 (0,0)) (kq BK476.out) hb);replace BK477:=am (jc (g:=gb477) (o:=.cells #[.slice none 0 0] 32 (0,0)) (kq BK477.out) hb);replace HK:=am (jd.trans (Y102) (jd.of_below hb g none) (.inl rfl));replace HB:=am (jf (Y156) hb);replace HI0:=am (ja.below (Y155) hb);clear hb hbox hg) |((with_reducible refine jG (N:=6) rfl ?_);refine bE (N:=6) (cs:=#[.slice none 0 0]) (t:=32) ?_;intro gb486 hg w8 hbox hb;have BK486:=am (hbox);have GW486:=am ((Y158:w.heap.size≤gb486));have GE486:=am ((Nat.le_trans HW0.out (Y158:w.heap.size≤gb486):w0.heap.size≤gb486));have NB476_486:=am ((Y120:gb476≠gb486));have NB486_476:=am ((Y121:gb486≠gb476));have NB477_486:=am ((by rw [hg];exact Nat.ne_of_lt (jha (g:=gb477) (o:=.cells #[.slice none 0 0] 32 (0,0)) (kq BK477.out)):gb477≠gb486));have NB486_477:=am ((by rw [hg];exact Nat.ne_of_gt (jha (g:=gb477) (o:=.cells #[.slice none 0 0] 32 (0,0)) (kq BK477.out)):gb486≠gb477));have NB485_486:=am ((by rw [hg];exact Nat.ne_of_lt (jha (g:=gb485) (o:=.cells #[.slice none 0 0] 37 (0,0)) (kq BK485.out)):gb485≠gb486));have NB486_485:=am ((by rw [hg];exact Nat.ne_of_gt (jha (g:=gb485) (o:=.cells #[.slice none 0 0] 37 (0,0)) (kq BK485.out)):gb486≠gb485));have NB0_486:=am ((by rw [hg];exact Nat.ne_of_lt (ja.lt (show ja w0 _ g s0_0 t484 from by repeat (first |(with_reducible first | exact HI0.out | apply ja.alloc | apply ja.drewN | apply ja.drew | apply ja.jdb | refine ja.far ?_ NB0_476.out _ | refine ja.far ?_ NB0_477.out _ | refine ja.far ?_ NB0_485.out _) | exact HI0.out))):g≠gb486));have NB486_0:=am ((by rw [hg];exact Nat.ne_of_gt (ja.lt (show ja w0 _ g s0_0 t484 from by repeat (first |(with_reducible first | exact HI0.out | apply ja.alloc | apply ja.drewN | apply ja.drew | apply ja.jdb | refine ja.far ?_ NB0_476.out _ | refine ja.far ?_ NB0_477.out _ | refine ja.far ?_ NB0_485.out _) | exact HI0.out))):gb486≠g));replace HO480:=am (Kd.jO (rq HO480.out) hb);replace HO483:=am (Kd.jO (rq HO483.out) hb);replace BK476:=am (jc (g:=gb476) (o:=.cells #[.slice none 0 0] 37 (0,0)) (kq BK476.out) hb);replace BK477:=am (jc (g:=gb477) (o:=.cells #[.slice none 0 0] 32 (0,0)) (kq BK477.out) hb);replace BK485:=am (jc (g:=gb485) (o:=.cells #[.slice none 0 0] 37 (0,0)) (kq BK485.out) hb);replace HK:=am (jd.trans (by repeat (first |(with_reducible first | exact HK.out | apply jd.set_ | apply jia | apply jZ | apply jja | refine jM ?_ GW476.out _ | refine jM ?_ GW477.out _ | refine jM ?_ GW485.out _) | exact HK.out)) (jd.of_below hb g none) (.inl rfl));replace HB:=am (jf (by repeat (first |(with_reducible first | exact HB.out | apply jC | apply jr | apply jy | refine jq ?_ (ja.ge HI0.out) | refine jq ?_ GE476.out | refine jq ?_ GE477.out | refine jq ?_ GE485.out) | exact HB.out)) hb);replace HI0:=am (ja.below (by repeat (first |(with_reducible first | exact HI0.out | apply ja.alloc | apply ja.drewN | apply ja.drew | apply ja.jdb | refine ja.far ?_ NB0_476.out _ | refine ja.far ?_ NB0_477.out _ | refine ja.far ?_ NB0_485.out _) | exact HI0.out)) hb);clear hb hbox hg;obtain ⟨Ao9,co9,eo9⟩:=Kd.jN HO480.out;subst eo9;have hnb10:=NB485_476.out;have hnc10:=NB476_485.out;have hnb11:=NB485_477.out;have hnc11:=NB477_485.out;have hnb12:=NB485_486.out;have hnc12:=NB486_485.out;have hnb13:=NB485_0.out;have hnc13:=NB0_485.out;have hcz14_0:=bc0 BK485.out;have hfz14_0:=je BK485.out 0;obtain ⟨Ao15,co15,eo15⟩:=Kd.jN HO483.out;subst eo15;have hnb16:=NB486_476.out;have hnc16:=NB476_486.out;have hnb17:=NB486_477.out;have hnc17:=NB477_486.out;have hnb18:=NB486_0.out;have hnc18:=NB0_486.out;have hcz19_0:=bc0 BK486.out;have hfz19_0:=je BK486.out 0))
 have n0_:jB (Kd.R k94 94 ((w8.setCell ⟨gb485,0,none⟩ (.slice Ao9 t478.length co9)).setCell ⟨gb486,0,none⟩ (.slice Ao15 t481.length co15)) w.heap.size (fun _=>True) (.slice Ao9 t478.length co9) t478):=⟨by (with_reducible repeat (first | apply Kd.jW | apply Kd.jY | apply Kd.jU));exact Kd.jH (Kd.jya (p:=⟨gb486,0,none⟩) (Kd.jya (p:=⟨gb485,0,none⟩) (Kd.jR (Kd.jR HO480.out BK485.out (by decide)) BK486.out (by decide)) (fun _ hk=>hk.1.2) (.slice Ao9 t478.length co9)) (fun _ hk=>hk.2) (.slice Ao15 t481.length co15)) (fun _ hk=>trivial)⟩
 have n1_:jB (Kd.R k54 54 ((w8.setCell ⟨gb485,0,none⟩ (.slice Ao9 t478.length co9)).setCell ⟨gb486,0,none⟩ (.slice Ao15 t481.length co15)) w.heap.size (fun _=>True) (.slice Ao15 t481.length co15) t481):=⟨by (with_reducible repeat (first | apply Kd.jW | apply Kd.jY | apply Kd.jU));exact Kd.jH (Kd.jya (p:=⟨gb486,0,none⟩) (Kd.jya (p:=⟨gb485,0,none⟩) (Kd.jR (Kd.jR HO483.out BK485.out (by decide)) BK486.out (by decide)) (fun _ hk=>hk.1.2) (.slice Ao9 t478.length co9)) (fun _ hk=>hk.2) (.slice Ao15 t481.length co15)) (fun _ hk=>trivial)⟩
 have n2_:jB (((w8.setCell ⟨gb485,0,none⟩ (.slice Ao9 t478.length co9)).setCell ⟨gb486,0,none⟩ (.slice Ao15 t481.length co15)).heap[gb476]?=some (.cells #[.slice none 0 0] 37 (0,0))):=⟨by (with_reducible repeat (first | refine jh ?_ _ | refine jg ?_ | refine jk ?_ _));refine jaa ?_ NB476_486.out _;(with_reducible repeat (first | refine jh ?_ _ | refine jg ?_ | refine jk ?_ _));refine jaa ?_ NB476_485.out _;(with_reducible repeat (first | refine jh ?_ _ | refine jg ?_ | refine jk ?_ _));exact BK476.out⟩
 have n3_:jB (((w8.setCell ⟨gb485,0,none⟩ (.slice Ao9 t478.length co9)).setCell ⟨gb486,0,none⟩ (.slice Ao15 t481.length co15)).heap[gb477]?=some (.cells #[.slice none 0 0] 32 (0,0))):=⟨by (with_reducible repeat (first | refine jh ?_ _ | refine jg ?_ | refine jk ?_ _));refine jaa ?_ NB477_486.out _;(with_reducible repeat (first | refine jh ?_ _ | refine jg ?_ | refine jk ?_ _));refine jaa ?_ NB477_485.out _;(with_reducible repeat (first | refine jh ?_ _ | refine jg ?_ | refine jk ?_ _));exact BK477.out⟩
 have n4_:jB (((w8.setCell ⟨gb485,0,none⟩ (.slice Ao9 t478.length co9)).setCell ⟨gb486,0,none⟩ (.slice Ao15 t481.length co15)).heap[gb485]?=some (.cells #[.slice Ao9 t478.length co9] 37 (0,0))):=⟨by (with_reducible repeat (first | refine jh ?_ _ | refine jg ?_ | refine jk ?_ _));refine jaa ?_ NB485_486.out _;(with_reducible repeat (first | refine jh ?_ _ | refine jg ?_ | refine jk ?_ _));refine jHa (cs:=#[.slice none 0 0]) ?_ 0 _ rfl;(with_reducible repeat (first | refine jh ?_ _ | refine jg ?_ | refine jk ?_ _));exact BK485.out⟩
 have n5_:jB (((w8.setCell ⟨gb485,0,none⟩ (.slice Ao9 t478.length co9)).setCell ⟨gb486,0,none⟩ (.slice Ao15 t481.length co15)).heap[gb486]?=some (.cells #[.slice Ao15 t481.length co15] 32 (0,0))):=⟨by (with_reducible repeat (first | refine jh ?_ _ | refine jg ?_ | refine jk ?_ _));refine jHa (cs:=#[.slice none 0 0]) ?_ 0 _ rfl;(with_reducible repeat (first | refine jh ?_ _ | refine jg ?_ | refine jk ?_ _));refine jaa ?_ NB486_485.out _;(with_reducible repeat (first | refine jh ?_ _ | refine jg ?_ | refine jk ?_ _));exact BK486.out⟩
 have n6_:jB (ja w0 ((w8.setCell ⟨gb485,0,none⟩ (.slice Ao9 t478.length co9)).setCell ⟨gb486,0,none⟩ (.slice Ao15 t481.length co15)) g s0_0 t484):=⟨Y76⟩
 have n7_:jB (jd w ((w8.setCell ⟨gb485,0,none⟩ (.slice Ao9 t478.length co9)).setCell ⟨gb486,0,none⟩ (.slice Ao15 t481.length co15)) g none):=⟨Y122⟩
 have n8_:jB (Below w0.heap.size w0 ((w8.setCell ⟨gb485,0,none⟩ (.slice Ao9 t478.length co9)).setCell ⟨gb486,0,none⟩ (.slice Ao15 t481.length co15))):=⟨Y123⟩
 (try clear HO480)
 (try clear HO483)
 (try clear BK476)
 (try clear BK477)
 (try clear BK485)
 (try clear BK486)
 (try clear HI0)
 (try clear HK)
 (try clear HB)
 generalize ((w8.setCell ⟨gb485,0,none⟩ (.slice Ao9 t478.length co9)).setCell ⟨gb486,0,none⟩ (.slice Ao15 t481.length co15))=w20 at n0_ n1_ n2_ n3_ n4_ n5_ n6_ n7_ n8_ ⊢
 have HO480:=n0_
 have HO483:=n1_
 have BK476:=n2_
 have BK477:=n3_
 have BK485:=n4_
 have BK486:=n5_
 have HI0:=n6_
 have HK:=n7_
 have HB:=n8_
 clear n0_ n1_ n2_ n3_ n4_ n5_ n6_ n7_ n8_
 replace HO480:=am (Kd.jU HO480.out)
 replace HO483:=am (Kd.jU HO483.out)
 replace BK476:=am (jg BK476.out)
 replace BK477:=am (jg BK477.out)
 replace BK485:=am (jg BK485.out)
 replace BK486:=am (jg BK486.out)
 replace HI0:=am (ja.drew HI0.out)
 replace HK:=am (jZ HK.out)
 replace HB:=am (jy HB.out)
 refine jLb (n:=8) (S:=fun w'=>w'.cell? ⟨gb485,0,none⟩=some (.slice Ao9 t478.length co9)∧w'.cell? ⟨gb486,0,none⟩=some (.slice Ao15 t481.length co15)) (ds:=[]) #[false,false,false,false,false,false,false,false] (by kernel_rfl) rfl rfl ⟨(jI BK485.out 0).trans rfl,(jI BK486.out 0).trans rfl⟩ (fun hHeld=>?_);refine jAb jDa.tab2 jDa.bits2 (fun HT_ HW_=>?_)
 generalize w20.drew=w21 at HO480 HO483 BK476 BK477 BK485 BK486 HI0 HK HB hHeld ⊢
 refine pq (i:=2) (N:=some 14) #[false,false,true,false,false,false,false,false] ?_
 refine jBb (i:=0) (N:=some 12) (v:=?_) (a':=?_) #[true,false,true,false,false,false,false,false] rfl rfl (jgb HT_.out HW_.out (by kernel_rfl)) (fun _ _ _ h=>h) (Or.inl ⟨by rfl,?_⟩) hHeld ?_ ?_
 rotate_left
 ·rintro w' ⟨s0,s1⟩
  go_simp
  with_reducible rfl
 rotate_left
 ·exact sa
 refine jBb (i:=1) (N:=some 13) (v:=?_) (a':=?_) #[true,true,true,false,false,false,false,false] rfl rfl (jgb HT_.out HW_.out (by kernel_rfl)) (fun _ _ _ h=>h) (Or.inl ⟨by rfl,?_⟩) hHeld ?_ ?_
 rotate_left
 ·rintro w' ⟨s0,s1⟩
  go_simp
  with_reducible rfl
 rotate_left
 ·exact sa
 refine jBb (i:=3) (N:=some 15) (v:=?_) (a':=?_) #[true,true,true,true,false,false,false,false] rfl rfl (jgb HT_.out HW_.out (by kernel_rfl)) (fun _ _ _ h=>h) (Or.inl ⟨by rfl,?_⟩) hHeld ?_ ?_
 rotate_left
 ·rintro w' ⟨s0,s1⟩
  go_simp
  with_reducible rfl
 rotate_left
 ·exact sa
 refine one_ (i:=4) (N:=some 16) #[true,true,true,true,true,false,false,false] rfl rfl (jcb HT_.out (by kernel_rfl)) (by decide) (fun K hK=>?_)
 refine goes_ Try.func84 (by kernel_rfl) rfl #[.pointer (some ⟨g,0,none⟩), .agg #[.slice Ao15 t481.length co15]] (by rfl) rfl rfl (aq) ?_
 with_reducible refine (jvb.calls k g s0_0 t484 _ _ t481 t487 t488 w0 _ ?side1 ?side2 ?side3 ?side4 A3.out).mono ?_
 (case side1=>exact Y76)
 (case side2=>exact Y123)
 (case side3=>exact Kd.jFb (ja.apart (show ja w0 _ g s0_0 t484 from Y76) (rq HO483.out) (by decide)) (fun _ h_=>h_.2))
 (case side4=>exact (Kd.jm HO483.out).2.1)
 rintro e w22 ⟨rfl,hi,hb,hk⟩
 refine ⟨_,rfl,?_⟩
 replace BK476:=am (jd.blk hk (g':=gb476) (o:=.cells #[.slice none 0 0] 37 (0,0)) (kq BK476.out) NB476_0.out (by simp))
 replace BK477:=am (jd.blk hk (g':=gb477) (o:=.cells #[.slice none 0 0] 32 (0,0)) (kq BK477.out) NB477_0.out (by simp))
 replace HO480:=am (Kd.jH (Kd.joa (ja.apart (show ja w0 _ g s0_0 t484 from Y76) (rq HO480.out) (by decide)) hk (fun _ h=>h.2)) (fun _ h=>h.1))
 replace HO483:=am (Kd.jH (Kd.joa (ja.apart (show ja w0 _ g s0_0 t484 from Y76) (rq HO483.out) (by decide)) hk (fun _ h=>h.2)) (fun _ h=>h.1))
 replace BK485:=am (jd.blk hk (g':=gb485) (o:=.cells #[.slice Ao9 t478.length co9] 37 (0,0)) (kq BK485.out) NB485_0.out (by simp))
 replace BK486:=am (jd.blk hk (g':=gb486) (o:=.cells #[.slice Ao15 t481.length co15] 32 (0,0)) (kq BK486.out) NB486_0.out (by simp))
 replace HK:=am (jd.trans (Y122) hk (.inl rfl))
 replace HB:=am (hb)
 replace HI0:=am (hi)
 (try clear hb)
 (try clear hb2)
 (try clear hk)
 (try clear hi)
 refine hK.out _ _ ⟨(jI BK485.out 0).trans rfl,(jI BK486.out 0).trans rfl⟩ (fun hHeld=>?_)
 clear hK K
 refine jJb (a':=?_) ?_ ?_
 rotate_left
 ·show Act.put _ (some 16) _=_
  simp only [Act.put,List.setIfInBounds_toArray,List.set_cons_zero,List.set_cons_succ,jqb,jwb]
  rfl
 refine one_ (i:=5) (N:=none) #[true,true,true,true,true,true,false,false] rfl rfl (jcb HT_.out (by kernel_rfl)) (by decide) (fun K hK=>?_)
 have hs23:w22.cell? ⟨gb476,0,none⟩=some (.slice none 0 0):=(jI BK476.out 0).trans rfl
 have hfs23:=je BK476.out 0
 have hns23_1:=NB477_476.out
 have hns23_2:=NB485_476.out
 have hns23_3:=NB486_476.out
 have hms23_1:=NB476_477.out
 have hms23_2:=NB476_485.out
 have hms23_3:=NB476_486.out
 refine jRb (w1:=?_) (by rfl) rfl ?_ ?_
 rotate_left
 ·go_simp
  rfl
 refine hK.out _ _ ⟨((cell_far (p:=⟨gb476,_,none⟩) NB485_476.out _).trans (hHeld.1)),((cell_far (p:=⟨gb476,_,none⟩) NB486_476.out _).trans (hHeld.2))⟩ (fun hHeld=>?_)
 clear hK K
 refine one_ (i:=6) (N:=none) #[true,true,true,true,true,true,true,false] rfl rfl (jcb HT_.out (by kernel_rfl)) (by decide) (fun K hK=>?_)
 have hs24:w22.cell? ⟨gb477,0,none⟩=some (.slice none 0 0):=(jI BK477.out 0).trans rfl
 have hfs24:=je BK477.out 0
 have hns24_0:=NB476_477.out
 have hns24_2:=NB485_477.out
 have hns24_3:=NB486_477.out
 have hms24_0:=NB477_476.out
 have hms24_2:=NB477_485.out
 have hms24_3:=NB477_486.out
 refine jRb (w1:=?_) (by rfl) rfl ?_ ?_
 rotate_left
 ·go_simp
  rfl
 refine hK.out _ _ ⟨((cell_far (p:=⟨gb477,_,none⟩) NB485_477.out _).trans (hHeld.1)),((cell_far (p:=⟨gb477,_,none⟩) NB486_477.out _).trans (hHeld.2))⟩ (fun hHeld=>?_)
 clear hK K
 refine pq (i:=7) (N:=some 4) #[true,true,true,true,true,true,true,true] ?_
 refine done_ (jXb HT_.out (by kernel_rfl)) ?_
 try go_wp2
 refine bodyPost_ret (results_list (rs:=[.cell 2 37, .cell 3 32, .tmp 4]) rfl (by simp) (.cell gb476 37 #[.slice Ao9 t478.length co9] (0,0) _ rfl (by (with_reducible repeat (first | refine jh ?_ _ | refine jg ?_ | refine jk ?_ _));refine jaa ?_ NB476_477.out _;(with_reducible repeat (first | refine jh ?_ _ | refine jg ?_ | refine jk ?_ _));refine jHa (cs:=#[.slice none 0 0]) ?_ 0 _ rfl;(with_reducible repeat (first | refine jh ?_ _ | refine jg ?_ | refine jk ?_ _));exact BK476.out) Try.underlying37 rfl (by kernel_rfl) (.cell gb477 32 #[.slice Ao15 t481.length co15] (0,0) _ rfl (by (with_reducible repeat (first | refine jh ?_ _ | refine jg ?_ | refine jk ?_ _));refine jHa (cs:=#[.slice none 0 0]) ?_ 0 _ rfl;(with_reducible repeat (first | refine jh ?_ _ | refine jg ?_ | refine jk ?_ _));refine jaa ?_ NB477_476.out _;(with_reducible repeat (first | refine jh ?_ _ | refine jg ?_ | refine jk ?_ _));exact BK477.out) Try.underlying32 rfl (by kernel_rfl) (.tmp .nil)))) rfl ?_
 exact ⟨_,_,Y2,by (with_reducible repeat (first | apply Kd.jW | apply Kd.jY | apply Kd.jU));exact Kd.jH (Kd.jya (p:=⟨gb477,0,none⟩) (Kd.jya (p:=⟨gb476,0,none⟩) (Kd.jR (Kd.jR HO480.out BK476.out (by decide)) BK477.out (by decide)) (fun _ hk=>hk.1.2) (.slice Ao9 t478.length co9)) (fun _ hk=>hk.2) (.slice Ao15 t481.length co15)) (fun _ hk=>trivial),by (with_reducible repeat (first | apply Kd.jW | apply Kd.jY | apply Kd.jU));exact Kd.jH (Kd.jya (p:=⟨gb477,0,none⟩) (Kd.jya (p:=⟨gb476,0,none⟩) (Kd.jR (Kd.jR HO483.out BK476.out (by decide)) BK477.out (by decide)) (fun _ hk=>hk.1.2) (.slice Ao9 t478.length co9)) (fun _ hk=>hk.2) (.slice Ao15 t481.length co15)) (fun _ hk=>trivial),Y76,Y123,Y122⟩
def jlb.f (l0 : List Int) : Option (List Int × Int) := if (l0.length : Int) > 2000 then (if 2000 ≤ (l0.length : Int) then (some (l0.take 2000, 0)) else (none)) else (some (l0, 0))
set_option maxHeartbeats 8000000 in
set_option maxRecDepth 100000 in
theorem jlb.calls (A0 : Option Addr) (c0 : Nat) (l0 : List Int) (r1 : List Int) (r2 : Int) (w0 w : World) (hB : Below w0.heap.size w0 w) (hr0 : Kd.C (Kd.int .u8) w0 A0 l0.length l0) (hc0 : l0.length ≤ c0) (h : jlb.f l0 = some (r1, r2)) :
  Calls Try.prog 56 #[.slice A0 l0.length c0] w fun e w'=>∃ g_:Nat,e=.returned (.pointer (some ⟨g_,0,none⟩))∧ja w0 w' g_ r1 r2∧Below w0.heap.size w0 w'∧Below w.heap.size w w':=by
 have hu106:=Try.underlying106
 have HR0:=am hr0
 have HC0:=am hc0
 clear hr0 hc0
 have HBW:=am (Below.refl w.heap.size w)
 have HW0:=am hB.size
 have HB:=am hB
 clear hB
 have H:(if (l0.length:Int) > 2000 then (if 2000≤(l0.length:Int) then (some (l0.take 2000,0)) else (none)) else (some (l0,0)))=some (r1,r2):=h
 clear h
 by_cases c2:(l0.length:Int) > 2000
 ·rw [if_pos c2] at H
  have c2b0:decide (2000<(l0.length:Int))=true:=dzT c2
  have c2b1:decide (2000<l0.length)=true:=dzT (by omega)
  clear c2
  by_cases c3:2000≤(l0.length:Int)
  ·rw [if_pos c3] at H
   have c3b0:=ezT c3
   have c3b1:decide (2000≤(l0.length:Int))=true:=dzT c3
   clear c3
   simp only [Option.some.injEq,Prod.mk.injEq] at H
   obtain ⟨rfl,rfl⟩:=H
   obtain ⟨i04,hi04,_,hsz4,_⟩:=info_parts info5
   obtain ⟨hcut4,hA4,hC4⟩:=print_take_of (P:=Try.prog) (Value.int .u8) 0 49 5 .i64 Try.underlying49 hi04 hsz4 A0 c0 l0 2000 (by omega) (ozD (uq)) HC0.out
   have HR489:=am (Kd.C_of_reads (h1:=fun _=>rfl) (hA4 _ (Kd.reads_of_C HR0.out)))
   have HC489:=am hC4
   clear hA4 hC4 hi04 hsz4
   go_enter Try.func56,Try.ntmps56
   go_wp2_with (first |((with_reducible refine jG (N:=10) rfl ?_);refine bE (N:=10) (cs:=#[.slice A0 (l0.take 2000).length c0, .int .i64 0]) (t:=106) ?_;intro gb490 hg w5 hbox hb;have BK490:=am (hbox);have GW490:=am ((Y103:w.heap.size≤gb490));have GE490:=am ((Nat.le_trans HW0.out (Y103:w.heap.size≤gb490):w0.heap.size≤gb490));replace HBW:=am (jf HBW.out hb);replace HB:=am (jf (bq) hb);clear hb hbox hg))
   go_ret
   exact ⟨_,rfl,(show ja w0 _ gb490 (l0.take 2000) 0 from ⟨_,_,kq BK490.out,GE490.out,HR489.out⟩),by repeat (first |(with_reducible first | exact HB.out | apply jC | apply jr | apply jy | refine jq ?_ GE490.out) | exact HB.out),by repeat (first |(with_reducible first | exact HBW.out | apply jC | apply jr | apply jy | refine jq ?_ GW490.out) | exact HBW.out)⟩
  ·rw [if_neg c3] at H
   exact absurd H (by simp)
 ·rw [if_neg c2] at H
  have c2b0:decide (2000<(l0.length:Int))=false:=dzF c2
  have c2b1:decide (2000<l0.length)=false:=dzF (by omega)
  clear c2
  simp only [Option.some.injEq,Prod.mk.injEq] at H
  obtain ⟨rfl,rfl⟩:=H
  go_enter Try.func56,Try.ntmps56
  go_wp2_with (first |((with_reducible refine jG (N:=10) rfl ?_);refine bE (N:=10) (cs:=#[.slice A0 l0.length c0, .int .i64 0]) (t:=106) ?_;intro gb491 hg w6 hbox hb;have BK491:=am (hbox);have GW491:=am ((Y103:w.heap.size≤gb491));have GE491:=am ((Nat.le_trans HW0.out (Y103:w.heap.size≤gb491):w0.heap.size≤gb491));replace HBW:=am (jf HBW.out hb);replace HB:=am (jf (bq) hb);clear hb hbox hg))
  go_ret
  exact ⟨_,rfl,(show ja w0 _ gb491 l0 0 from ⟨_,_,kq BK491.out,GE491.out,HR0.out⟩),by repeat (first |(with_reducible first | exact HB.out | apply jC | apply jr | apply jy | refine jq ?_ GE491.out) | exact HB.out),by repeat (first |(with_reducible first | exact HBW.out | apply jC | apply jr | apply jy | refine jq ?_ GW491.out) | exact HBW.out)⟩
def jza.f (k : Nat) (l0 : List Int) : Option ((List (S94)) × (List (S54)) × Int) := (jlb.f l0).bind fun bt595 => ((jDa.f k bt595.1 bt595.2).bind fun bt598 => (some (bt598.1, bt598.2.1, bt598.2.2.1)))
set_option maxHeartbeats 8000000 in
set_option maxRecDepth 100000 in
theorem jza.calls (k : Nat) (A0 : Option Addr) (c0 : Nat) (l0 : List Int) (r1 : List (S94)) (r2 : List (S54)) (r3 : Int) (w : World) (hr0 : Kd.C (Kd.int .u8) w A0 l0.length l0) (hc0 : l0.length ≤ c0) (h : jza.f k l0 = some (r1, r2, r3)) :
  Calls Try.prog 25 #[.slice A0 l0.length c0] w fun e w'=>∃ v0_ v1_:Value,e=.returned (.tuple #[.agg #[v0_], .agg #[v1_], .int .i64 r3])∧Kd.R k94 94 w' w.heap.size (fun _=>True) v0_ r1∧Kd.R k54 54 w' w.heap.size (fun _=>True) v1_ r2∧Below w.heap.size w w':=by
 have hu37:=Try.underlying37
 have hu32:=Try.underlying32
 have HR0:=am hr0
 have HC0:=am hc0
 clear hr0 hc0
 have HB:=am (Below.refl w.heap.size w)
 have H:((jlb.f l0).bind fun bt595=>((jDa.f k bt595.1 bt595.2).bind fun bt598=>(some (bt598.1,bt598.2.1,bt598.2.2.1))))=some (r1,r2,r3):=h
 clear h
 replace H:=bzS H
 obtain ⟨⟨t595,t596⟩,A20,H⟩:=H
 replace H:((jDa.f k t595 t596).bind fun bt598=>(some (bt598.1,bt598.2.1,bt598.2.2.1)))=some (r1,r2,r3):=H
 have A2:=am A20
 clear A20
 replace H:=bzS H
 obtain ⟨⟨t598,t601,t604,t605⟩,A30,H⟩:=H
 replace H:(some (t598,t601,t604))=some (r1,r2,r3):=H
 have A3:=am A30
 clear A30
 simp only [Option.some.injEq,Prod.mk.injEq] at H
 obtain ⟨rfl,rfl,rfl⟩:=H
 go_enter Try.func25,Try.ntmps25
 go_wp2_with (first |((with_reducible refine jG (N:=2) rfl ?_);refine bE (N:=2) (cs:=#[.slice none 0 0]) (t:=37) ?_;intro gb593 hg w4 hbox hb;have BK593:=am (hbox);have GW593:=am ((Y0:w.heap.size≤gb593));have GE593:=am ((Y0:w.heap.size≤gb593));replace HB:=am (jf (bq) hb);clear hb hbox hg) |((with_reducible refine jG (N:=3) rfl ?_);refine bE (N:=3) (cs:=#[.slice none 0 0]) (t:=32) ?_;intro gb594 hg w5 hbox hb;have BK594:=am (hbox);have GW594:=am ((Y159:w.heap.size≤gb594));have GE594:=am ((Y159:w.heap.size≤gb594));have NB593_594:=am ((by rw [hg];exact Nat.ne_of_lt (jha (g:=gb593) (o:=.cells #[.slice none 0 0] 37 (0,0)) (kq BK593.out)):gb593≠gb594));have NB594_593:=am ((by rw [hg];exact Nat.ne_of_gt (jha (g:=gb593) (o:=.cells #[.slice none 0 0] 37 (0,0)) (kq BK593.out)):gb594≠gb593));replace BK593:=am (jc (g:=gb593) (o:=.cells #[.slice none 0 0] 37 (0,0)) (kq BK593.out) hb);replace HB:=am (jf (by repeat (first |(with_reducible first | exact HB.out | apply jC | apply jr | apply jy | refine jq ?_ GE593.out) | exact HB.out)) hb);clear hb hbox hg) |((with_reducible refine jA (f:=56) rfl ?_);refine gL (some 6) Try.func56 #[.slice A0 l0.length c0] ?_;(with_reducible refine (jlb.calls _ _ l0 t595 t596 w _ ?side1 ?side2 ?side3 A2.out).mono ?_);(case side1=>repeat (first |(with_reducible first | exact HB.out | apply jC | apply jr | apply jy | refine jq ?_ GE593.out | refine jq ?_ GE594.out) | exact HB.out));(case side2=>exact HR0.out);(case side3=>exact HC0.out);rintro e w6 ⟨g597,rfl,hi,hb,hb2⟩;refine ⟨_,rfl,?_⟩;have HI597:=am (hi);have NB597_593:=am (ja.ne_blk hi (jc (g:=gb593) (o:=.cells #[.slice none 0 0] 37 (0,0)) (kq BK593.out) hb2) (by decide));have NB593_597:=am (Ne.symm (ja.ne_blk hi (jc (g:=gb593) (o:=.cells #[.slice none 0 0] 37 (0,0)) (kq BK593.out) hb2) (by decide)));have NB597_594:=am (ja.ne_blk hi (jc (g:=gb594) (o:=.cells #[.slice none 0 0] 32 (0,0)) (kq BK594.out) hb2) (by decide));have NB594_597:=am (Ne.symm (ja.ne_blk hi (jc (g:=gb594) (o:=.cells #[.slice none 0 0] 32 (0,0)) (kq BK594.out) hb2) (by decide)));replace BK593:=am (jc (g:=gb593) (o:=.cells #[.slice none 0 0] 37 (0,0)) (kq BK593.out) hb2);replace BK594:=am (jc (g:=gb594) (o:=.cells #[.slice none 0 0] 32 (0,0)) (kq BK594.out) hb2);replace HB:=am (hb);(try clear hb);(try clear hb2);(try clear hk);(try clear hi)) |((with_reducible refine jA (f:=55) rfl ?_);refine gL (some 7) Try.func55 #[.pointer (some ⟨g597,0,none⟩)] ?_;(with_reducible refine (jDa.calls k g597 t595 t596 t598 t601 t604 t605 w _ ?side1 ?side2 A3.out).mono ?_);(case side1=>repeat (first |(with_reducible first | exact HI597.out | apply ja.alloc | apply ja.drewN | apply ja.drew | apply ja.jdb | refine ja.far ?_ NB597_593.out _ | refine ja.far ?_ NB597_594.out _) | exact HI597.out));(case side2=>exact Y104);rintro e w7 ⟨v599,v602,rfl,ho0,ho1,hi,hb,hk⟩;refine ⟨_,rfl,?_⟩;have HO600:=am (Kd.jV ho0 (jK (Y104)));have HO603:=am (Kd.jV ho1 (jK (Y104)));replace BK593:=am (jd.blk hk (g':=gb593) (o:=.cells #[.slice none 0 0] 37 (0,0)) (kq BK593.out) NB593_597.out (by simp));replace BK594:=am (jd.blk hk (g':=gb594) (o:=.cells #[.slice none 0 0] 32 (0,0)) (kq BK594.out) NB594_597.out (by simp));replace HB:=am (hb);replace HI597:=am (hi);(try clear hb);(try clear hb2);(try clear hk);(try clear hi);(try clear ho0);(try clear ho1);obtain ⟨Ao8,co8,eo8⟩:=Kd.jN HO600.out;subst eo8;have hnb9:=NB593_594.out;have hnc9:=NB594_593.out;have hnb10:=NB593_597.out;have hnc10:=NB597_593.out;have hcz11_0:=bc0 BK593.out;have hfz11_0:=je BK593.out 0;obtain ⟨Ao12,co12,eo12⟩:=Kd.jN HO603.out;subst eo12;have hnb13:=NB594_597.out;have hnc13:=NB597_594.out;have hcz14_0:=bc0 BK594.out;have hfz14_0:=je BK594.out 0))
 refine bodyPost_ret (results_list (rs:=[.cell 2 37, .cell 3 32, .tmp 4]) rfl (by simp) (.cell gb593 37 #[.slice Ao8 t598.length co8] (0,0) _ rfl (by (with_reducible repeat (first | refine jh ?_ _ | refine jg ?_ | refine jk ?_ _));refine jaa ?_ NB593_594.out _;(with_reducible repeat (first | refine jh ?_ _ | refine jg ?_ | refine jk ?_ _));refine jHa (cs:=#[.slice none 0 0]) ?_ 0 _ rfl;(with_reducible repeat (first | refine jh ?_ _ | refine jg ?_ | refine jk ?_ _));exact BK593.out) Try.underlying37 rfl (by kernel_rfl) (.cell gb594 32 #[.slice Ao12 t601.length co12] (0,0) _ rfl (by (with_reducible repeat (first | refine jh ?_ _ | refine jg ?_ | refine jk ?_ _));refine jHa (cs:=#[.slice none 0 0]) ?_ 0 _ rfl;(with_reducible repeat (first | refine jh ?_ _ | refine jg ?_ | refine jk ?_ _));refine jaa ?_ NB594_593.out _;(with_reducible repeat (first | refine jh ?_ _ | refine jg ?_ | refine jk ?_ _));exact BK594.out) Try.underlying32 rfl (by kernel_rfl) (.tmp .nil)))) rfl ?_
 exact ⟨_,_,Y2,by (with_reducible repeat (first | apply Kd.jW | apply Kd.jY | apply Kd.jU));exact Kd.jH (Kd.jya (p:=⟨gb594,0,none⟩) (Kd.jya (p:=⟨gb593,0,none⟩) (Kd.jR (Kd.jR HO600.out BK593.out (by decide)) BK594.out (by decide)) (fun _ hk=>hk.1.2) (.slice Ao8 t598.length co8)) (fun _ hk=>hk.2) (.slice Ao12 t601.length co12)) (fun _ hk=>trivial),by (with_reducible repeat (first | apply Kd.jW | apply Kd.jY | apply Kd.jU));exact Kd.jH (Kd.jya (p:=⟨gb594,0,none⟩) (Kd.jya (p:=⟨gb593,0,none⟩) (Kd.jR (Kd.jR HO603.out BK593.out (by decide)) BK594.out (by decide)) (fun _ hk=>hk.1.2) (.slice Ao8 t598.length co8)) (fun _ hk=>hk.2) (.slice Ao12 t601.length co12)) (fun _ hk=>trivial),Y104⟩
def jKa.f (k : Nat) (l0_0 : List (S94)) (l1_0 : List (S54)) (a2 : Int) : Option (List Int) := (jNa.f k l0_0 l1_0 (([a2] : List Int))).bind fun t611 => (if t611 = true then ((jsa.f k l1_0 a2).bind fun t612 => (some t612)) else (some ([] : List Int)))
set_option maxHeartbeats 8000000 in
set_option maxRecDepth 100000 in
theorem jKa.calls (k : Nat) (A0_0 : Option Addr) (c0_0 : Nat) (l0_0 : List (S94)) (A1_0 : Option Addr) (c1_0 : Nat) (l1_0 : List (S54)) (a2 : Int) (r : List Int) (w : World) (hr0_0 : Kd.C k94 w A0_0 l0_0.length l0_0) (hc0_0 : l0_0.length ≤ c0_0) (hr1_0 : Kd.C k54 w A1_0 l1_0.length l1_0) (hc1_0 : l1_0.length ≤ c1_0) (h : jKa.f k l0_0 l1_0 a2 = some r) :
  Calls Try.prog 26 #[.agg #[.slice A0_0 l0_0.length c0_0], .agg #[.slice A1_0 l1_0.length c1_0], .int .i64 a2] w fun e w'=>∃ v0_:Value,e=.returned (v0_)∧Kd.R (Kd.int .i64) 3 w' w.heap.size (fun _=>True) v0_ r∧Below w.heap.size w w':=by
 have hu37:=Try.underlying37
 have hu32:=Try.underlying32
 have HR0_0:=am hr0_0
 have HC0_0:=am hc0_0
 clear hr0_0 hc0_0
 have HR1_0:=am hr1_0
 have HC1_0:=am hc1_0
 clear hr1_0 hc1_0
 have HB:=am (Below.refl w.heap.size w)
 have H:((jNa.f k l0_0 l1_0 (([a2]:List Int))).bind fun t611=>(if t611=true then ((jsa.f k l1_0 a2).bind fun t612=>(some t612)) else (some ([]:List Int))))=some r:=h
 clear h
 obtain ⟨y608,hy608⟩:∃ y_:List Int,y_=(([a2]:List Int)):=⟨_,rfl⟩
 replace H:((jNa.f k l0_0 l1_0 y608).bind fun t611=>(if t611=true then ((jsa.f k l1_0 a2).bind fun t612=>(some t612)) else (some ([]:List Int))))=some r:=by first |(rw [hy608];with_reducible exact H) |(have H2_:=(Option.bind_some _ _).symm.trans H;rw [hy608];with_reducible exact H2_) |(have H2_:=(Option.bind_some _ _).symm.trans H;with_reducible exact H2_) | with_reducible exact H |(rw [hy608];exact H) | exact H
 have Ny608:=am hy608
 clear hy608
 replace H:=bzS H
 obtain ⟨t611,A40,H⟩:=H
 replace H:(if t611=true then ((jsa.f k l1_0 a2).bind fun t612=>(some t612)) else (some ([]:List Int)))=some r:=H
 have A4:=am A40
 clear A40
 by_cases c5:t611=true
 ·subst c5
  have H1:((jsa.f k l1_0 a2).bind fun t612=>(some t612))=some r:=by rw [if_pos rfl] at H;exact H
  clear H
  have H:=H1
  clear H1
  replace H:=bzS H
  obtain ⟨t612,A60,H⟩:=H
  replace H:(some t612)=some r:=H
  have A6:=am A60
  clear A60
  obtain rfl:=Option.some.inj H
  go_enter Try.func26,Try.ntmps26
  go_wp2_with (first |((with_reducible refine jG (N:=3) rfl ?_);refine bE (N:=3) (cs:=#[.slice A0_0 l0_0.length c0_0]) (t:=37) ?_;intro gb606 hg w7 hbox hb;have BK606:=am (hbox);have GW606:=am ((Y0:w.heap.size≤gb606));have GE606:=am ((Y0:w.heap.size≤gb606));replace HB:=am (jf (bq) hb);clear hb hbox hg) |((with_reducible refine jG (N:=4) rfl ?_);refine bE (N:=4) (cs:=#[.slice A1_0 l1_0.length c1_0]) (t:=32) ?_;intro gb607 hg w8 hbox hb;have BK607:=am (hbox);have GW607:=am ((Y105:w.heap.size≤gb607));have GE607:=am ((Y105:w.heap.size≤gb607));have NB606_607:=am ((by rw [hg];exact Nat.ne_of_lt (jha (g:=gb606) (o:=.cells #[.slice A0_0 l0_0.length c0_0] 37 (0,0)) (kq BK606.out)):gb606≠gb607));have NB607_606:=am ((by rw [hg];exact Nat.ne_of_gt (jha (g:=gb606) (o:=.cells #[.slice A0_0 l0_0.length c0_0] 37 (0,0)) (kq BK606.out)):gb607≠gb606));replace BK606:=am (jc (g:=gb606) (o:=.cells #[.slice A0_0 l0_0.length c0_0] 37 (0,0)) (kq BK606.out) hb);replace HB:=am (jf (Y160) hb);clear hb hbox hg;have hnb9:=NB606_607.out;have hnc9:=NB607_606.out;have hcz10_0:=bc0 BK606.out;have hfz10_0:=je BK606.out 0;have hcz11_0:=bc0 BK607.out;have hfz11_0:=je BK607.out 0) |((with_reducible refine jG (N:=10) rfl ?_);refine Kd.R_lit (Kd.int .i64) _ 3 ?hg (N:=10) ?hd (xs:=([a2]:List Int)) (inner:=[.int .i64 a2]) (ok:=fun _=>True) (okp:=fun _=>True) ?hr ?hp (fun _ hk=>hk) trivial (Below.refl _ _) (Nat.le_refl _) (by simp) ?_;(case hd=>rfl);(case hg=>rfl);(case hr=>exact Y3);(case hp=>exact (Reps.one (show Kd.M (Kd.int .i64) _ _ _ a2 [.int .i64 a2] from rfl) (Reps.none _ _)));intro v609 w12 ho13 hb hg_ hnew_;clear hg_ hnew_;(first | rw [← Ny608.out] at ho13 |(simp only [Int.reduceToNat] at ho13;rw [← Ny608.out] at ho13));have HO610:=am (Kd.jV ho13 (jK (Y42)));replace BK606:=am (jc (g:=gb606) (o:=.cells #[.slice A0_0 l0_0.length c0_0] 37 (0,0)) (kq BK606.out) hb);replace BK607:=am (jc (g:=gb607) (o:=.cells #[.slice A1_0 l1_0.length c1_0] 32 (0,0)) (kq BK607.out) hb);replace HB:=am (jf (Y42) hb);clear hb ho13;obtain ⟨Ao14,co14,eo14⟩:=Kd.jN HO610.out;subst eo14) |((with_reducible refine jA (f:=45) rfl ?_);refine gL (some 11) Try.func45 #[.agg #[.slice A0_0 l0_0.length c0_0], .agg #[.slice A1_0 l1_0.length c1_0], .slice Ao14 y608.length co14] ?_;(with_reducible refine (jNa.calls k _ _ l0_0 _ _ l1_0 _ _ y608 true _ ?side1 ?side2 ?side3 ?side4 ?side5 ?side6 A4.out).mono ?_);(case side1=>exact cq (Kd.jca HR0_0.out HB.out));(case side2=>exact HC0_0.out);(case side3=>exact cq (Kd.jca HR1_0.out HB.out));(case side4=>exact HC1_0.out);(case side5=>exact cq (Kd.jm HO610.out).2.2);(case side6=>exact (Kd.jm HO610.out).2.1);rintro e w15 ⟨rfl,hb⟩;refine ⟨_,rfl,?_⟩;replace HO610:=am (Kd.jO (rq HO610.out) hb);replace BK606:=am (jc (g:=gb606) (o:=.cells #[.slice A0_0 l0_0.length c0_0] 37 (0,0)) (kq BK606.out) hb);replace BK607:=am (jc (g:=gb607) (o:=.cells #[.slice A1_0 l1_0.length c1_0] 32 (0,0)) (kq BK607.out) hb);replace HB:=am (jf (Y42) hb);(try clear hb);(try clear hb2);(try clear hk);(try clear hi);have hcz16_0:=bc0 BK607.out;have hfz16_0:=je BK607.out 0) |((with_reducible refine jA (f:=57) rfl ?_);refine gL (some 15) Try.func57 #[.agg #[.slice A1_0 l1_0.length c1_0], .int .i64 a2] ?_;(with_reducible refine (jsa.calls k _ _ l1_0 a2 t612 _ ?side1 ?side2 A6.out).mono ?_);(case side1=>exact cq (Kd.jca HR1_0.out HB.out));(case side2=>exact HC1_0.out);rintro e w17 ⟨v613,rfl,ho0,hb⟩;refine ⟨_,rfl,?_⟩;have HO614:=am (Kd.jV (Kd.jMb ho0 (Kd.R_lt (rq HO610.out))) (jK (Y42)));replace HO610:=am (Kd.job (rq HO610.out) (Kd.jNb ho0) hb);replace BK606:=am (jc (g:=gb606) (o:=.cells #[.slice A0_0 l0_0.length c0_0] 37 (0,0)) (kq BK606.out) hb);replace BK607:=am (jc (g:=gb607) (o:=.cells #[.slice A1_0 l1_0.length c1_0] 32 (0,0)) (kq BK607.out) hb);replace HB:=am (jf (Y42) hb);(try clear hb);(try clear hb2);(try clear hk);(try clear hi);(try clear ho0)))
  go_ret
  exact ⟨_,Y2,by (with_reducible repeat (first | apply Kd.jW | apply Kd.jY | apply Kd.jU));exact Kd.jH HO614.out (fun _ hk=>trivial),Y42⟩
 ·replace c5:=Bool.eq_false_iff.mpr c5
  subst c5
  have H1:(some ([]:List Int))=some r:=by rw [if_neg (show ¬ (false=true) by decide)] at H;exact H
  clear H
  have H:=H1
  clear H1
  obtain rfl:=Option.some.inj H
  go_enter Try.func26,Try.ntmps26
  go_wp2_with (first |((with_reducible refine jG (N:=3) rfl ?_);refine bE (N:=3) (cs:=#[.slice A0_0 l0_0.length c0_0]) (t:=37) ?_;intro gb606 hg w18 hbox hb;have BK606:=am (hbox);have GW606:=am ((Y0:w.heap.size≤gb606));have GE606:=am ((Y0:w.heap.size≤gb606));replace HB:=am (jf (bq) hb);clear hb hbox hg) |((with_reducible refine jG (N:=4) rfl ?_);refine bE (N:=4) (cs:=#[.slice A1_0 l1_0.length c1_0]) (t:=32) ?_;intro gb607 hg w19 hbox hb;have BK607:=am (hbox);have GW607:=am ((Y105:w.heap.size≤gb607));have GE607:=am ((Y105:w.heap.size≤gb607));have NB606_607:=am ((by rw [hg];exact Nat.ne_of_lt (jha (g:=gb606) (o:=.cells #[.slice A0_0 l0_0.length c0_0] 37 (0,0)) (kq BK606.out)):gb606≠gb607));have NB607_606:=am ((by rw [hg];exact Nat.ne_of_gt (jha (g:=gb606) (o:=.cells #[.slice A0_0 l0_0.length c0_0] 37 (0,0)) (kq BK606.out)):gb607≠gb606));replace BK606:=am (jc (g:=gb606) (o:=.cells #[.slice A0_0 l0_0.length c0_0] 37 (0,0)) (kq BK606.out) hb);replace HB:=am (jf (Y160) hb);clear hb hbox hg;have hnb20:=NB606_607.out;have hnc20:=NB607_606.out;have hcz21_0:=bc0 BK606.out;have hfz21_0:=je BK606.out 0;have hcz22_0:=bc0 BK607.out;have hfz22_0:=je BK607.out 0) |((with_reducible refine jG (N:=10) rfl ?_);refine Kd.R_lit (Kd.int .i64) _ 3 ?hg (N:=10) ?hd (xs:=([a2]:List Int)) (inner:=[.int .i64 a2]) (ok:=fun _=>True) (okp:=fun _=>True) ?hr ?hp (fun _ hk=>hk) trivial (Below.refl _ _) (Nat.le_refl _) (by simp) ?_;(case hd=>rfl);(case hg=>rfl);(case hr=>exact Y3);(case hp=>exact (Reps.one (show Kd.M (Kd.int .i64) _ _ _ a2 [.int .i64 a2] from rfl) (Reps.none _ _)));intro v609 w23 ho24 hb hg_ hnew_;clear hg_ hnew_;(first | rw [← Ny608.out] at ho24 |(simp only [Int.reduceToNat] at ho24;rw [← Ny608.out] at ho24));have HO610:=am (Kd.jV ho24 (jK (Y42)));replace BK606:=am (jc (g:=gb606) (o:=.cells #[.slice A0_0 l0_0.length c0_0] 37 (0,0)) (kq BK606.out) hb);replace BK607:=am (jc (g:=gb607) (o:=.cells #[.slice A1_0 l1_0.length c1_0] 32 (0,0)) (kq BK607.out) hb);replace HB:=am (jf (Y42) hb);clear hb ho24;obtain ⟨Ao25,co25,eo25⟩:=Kd.jN HO610.out;subst eo25) |((with_reducible refine jA (f:=45) rfl ?_);refine gL (some 11) Try.func45 #[.agg #[.slice A0_0 l0_0.length c0_0], .agg #[.slice A1_0 l1_0.length c1_0], .slice Ao25 y608.length co25] ?_;(with_reducible refine (jNa.calls k _ _ l0_0 _ _ l1_0 _ _ y608 false _ ?side1 ?side2 ?side3 ?side4 ?side5 ?side6 A4.out).mono ?_);(case side1=>exact cq (Kd.jca HR0_0.out HB.out));(case side2=>exact HC0_0.out);(case side3=>exact cq (Kd.jca HR1_0.out HB.out));(case side4=>exact HC1_0.out);(case side5=>exact cq (Kd.jm HO610.out).2.2);(case side6=>exact (Kd.jm HO610.out).2.1);rintro e w26 ⟨rfl,hb⟩;refine ⟨_,rfl,?_⟩;replace HO610:=am (Kd.jO (rq HO610.out) hb);replace BK606:=am (jc (g:=gb606) (o:=.cells #[.slice A0_0 l0_0.length c0_0] 37 (0,0)) (kq BK606.out) hb);replace BK607:=am (jc (g:=gb607) (o:=.cells #[.slice A1_0 l1_0.length c1_0] 32 (0,0)) (kq BK607.out) hb);replace HB:=am (jf (Y42) hb);(try clear hb);(try clear hb2);(try clear hk);(try clear hi)))
  go_ret
  exact ⟨_,Y2,Y94,Y42⟩
def jQa.l0 : Nat → List Int → Int → Int → Option (Bool)
 | 0,_,_,_=>none
 | k+1,x0,x1,x5=>if x5<(x0.length:Int) then (if 0≤x5 then (if (rd x0 x5)=x1 then (some true) else (jQa.l0 k x0 x1 (wrap64 (x5+1)))) else (none)) else (some false)
def jQa.f (k : Nat) (l0 : List Int) (a1 : Int) : Option (Bool) := jQa.l0 k l0 a1 0
set_option maxHeartbeats 8000000 in
set_option maxRecDepth 100000 in
theorem jQa.calls (k : Nat) (A0 : Option Addr) (c0 : Nat) (l0 : List Int) (a1 : Int) (r : Bool) (w : World) (hr0 : Kd.C (Kd.int .i64) w A0 l0.length l0) (hc0 : l0.length ≤ c0) (h : jQa.f k l0 a1 = some r) :
  Calls Try.prog 80 #[.slice A0 l0.length c0, .int .i64 a1] w fun e w'=>e=.returned (.bool r)∧jfb w w':=by
 have HR0:=am hr0
 have HC0:=am hc0
 clear hr0 hc0
 have H:(jQa.l0 k l0 a1 0)=some r:=h
 clear h
 have H':=am H
 clear H
 go_enter Try.func80,Try.ntmps80
 go_wp2
 go_loopg [5] k (fun kq v5 w'=>∃ (x5_1:Int),v5=.int .i64 x5_1∧jB (jQa.l0 kq l0 a1 x5_1=some r)∧jB (kq≤k)∧jfb w w')
 case atStart=>exact ⟨(0),(sq),H',⟨Nat.le_refl _⟩,Y6⟩
 case round =>
  clear H'
  try clear p2
  obtain ⟨x5_1,rfl,HA,HK1,⟨m1,rfl⟩⟩:=hrel
  cases gk with
  | zero=>exact absurd HA.out (by simp [jQa.l0])
  | succ k1 =>
   have H:=HA.out
   clear HA
   simp only [jQa.l0] at H
   by_cases c3:x5_1<(l0.length:Int)
   ·rw [if_pos c3] at H
    have c3b0:decide (x5_1<(l0.length:Int))=true:=dzT c3
    clear c3
    by_cases c4:0≤x5_1
    ·rw [if_pos c4] at H
     have c4b0:decide (0≤x5_1)=true:=dzT c4
     clear c4
     by_cases c5:(rd l0 x5_1)=a1
     ·rw [if_pos c5] at H
      have c5b0:((rd l0 x5_1) == a1)=true:=beq_iff_eq.mpr c5
      have c5b1:((rd l0 x5_1) != a1)=false:=bne_eq_false_iff_eq.mpr c5
      clear c5
      obtain rfl:=Option.some.inj H
      have p101:0≤(x5_1:Int):=ozD (uq)
      have q101:x5_1<(l0.length:Int):=ozD (uq)
      obtain ⟨ad101,e101,hx101_0⟩:=Kd.jYa HR0.out x5_1 p101 q101
      cases e101
      replace p101:=ezT p101
      replace q101:=ezT q101
      go_wp2
      go_ret
      exact ⟨sq,Y6⟩
     ·rw [if_neg c5] at H
      have c5b0:((rd l0 x5_1) == a1)=false:=beq_eq_false_iff_ne.mpr c5
      have c5b1:((rd l0 x5_1) != a1)=true:=bne_iff_ne.mpr c5
      have H':=am H
      clear H
      have p101:0≤(x5_1:Int):=ozD (uq)
      have q101:x5_1<(l0.length:Int):=ozD (uq)
      obtain ⟨ad101,e101,hx101_0⟩:=Kd.jYa HR0.out x5_1 p101 q101
      cases e101
      replace p101:=ezT p101
      replace q101:=ezT q101
      go_wp2
      go_roundg k1
      case measure=>have:=HK1.out;omega
      case rel=>exact ⟨(wrap64 (x5_1+1)),(sq),H',⟨by have:=HK1.out;omega⟩,Y6⟩
    ·rw [if_neg c4] at H
     exact absurd H (by simp)
   ·rw [if_neg c3] at H
    have c3b0:decide (x5_1<(l0.length:Int))=false:=dzF c3
    clear c3
    obtain rfl:=Option.some.inj H
    go_wp2
    go_ret
    exact ⟨sq,Y6⟩
def jea.l0 : Nat → Int → List Int → List (S54) → Option (List Int)
 | 0,_,_,_=>none
 | k+1,x1,x5,x103000=>if x1≥0 then ((jQa.f k x5 x1).bind fun t106=>(if t106=true then (some x5) else (if x5.length<17592186044416 then (if 0≤x1 then (if x1<(x103000.length:Int) then (jea.l0 k ((jb x103000 x1).f3) (x5 ++ [x1]) x103000) else (none)) else (none)) else (none)))) else (some x5)
def jea.f (k : Nat) (l0_0 : List (S54)) (a1 : Int) : Option (List Int) := jea.l0 k a1 (([] : List Int)) l0_0
set_option maxHeartbeats 8000000 in
set_option maxRecDepth 100000 in
theorem jea.calls (k : Nat) (A0_0 : Option Addr) (c0_0 : Nat) (l0_0 : List (S54)) (a1 : Int) (r : List Int) (w : World) (hr0_0 : Kd.C k54 w A0_0 l0_0.length l0_0) (hc0_0 : l0_0.length ≤ c0_0) (h : jea.f k l0_0 a1 = some r) :
  Calls Try.prog 58 #[.agg #[.slice A0_0 l0_0.length c0_0], .int .i64 a1] w fun e w'=>∃ v0_:Value,e=.returned (v0_)∧Kd.R (Kd.int .i64) 3 w' w.heap.size (fun _=>True) v0_ r∧Below w.heap.size w w':=by
 have hu32:=Try.underlying32
 have HR0_0:=am hr0_0
 have HC0_0:=am hc0_0
 clear hr0_0 hc0_0
 have HB:=am (Below.refl w.heap.size w)
 have H:(jea.l0 k a1 (([]:List Int)) l0_0)=some r:=h
 clear h
 obtain ⟨y103,hy103⟩:∃ y_:List Int,y_=(([]:List Int)):=⟨_,rfl⟩
 replace H:(jea.l0 k a1 y103 l0_0)=some r:=by first |(rw [hy103];with_reducible exact H) |(have H2_:=(Option.bind_some _ _).symm.trans H;rw [hy103];with_reducible exact H2_) |(have H2_:=(Option.bind_some _ _).symm.trans H;with_reducible exact H2_) | with_reducible exact H |(rw [hy103];exact H) | exact H
 have Ny103:=am hy103
 clear hy103
 have H':=am H
 clear H
 go_enter Try.func58,Try.ntmps58
 go_wp2_with (first |((with_reducible refine jG (N:=2) rfl ?_);refine bE (N:=2) (cs:=#[.slice A0_0 l0_0.length c0_0]) (t:=32) ?_;intro gb102 hg w3 hbox hb;have BK102:=am (hbox);have GW102:=am ((Y0:w.heap.size≤gb102));have GE102:=am ((Y0:w.heap.size≤gb102));replace HB:=am (jf (bq) hb);clear hb hbox hg) |((with_reducible refine jG (N:=6) rfl ?_);refine Kd.R_lit (Kd.int .i64) _ 3 ?hg (N:=6) ?hd (xs:=([]:List Int)) (inner:=[]) (ok:=fun _=>True) (okp:=fun _=>True) ?hr ?hp (fun _ hk=>hk) trivial (Below.refl _ _) (Nat.le_refl _) (by simp) ?_;(case hd=>rfl);(case hg=>rfl);(case hr=>exact Y3);(case hp=>exact (Reps.none _ _));intro v104 w4 ho5 hb hg_ hnew_;clear hg_ hnew_;(first | rw [← Ny103.out] at ho5 |(simp only [Int.reduceToNat] at ho5;rw [← Ny103.out] at ho5));have HO105:=am (Kd.jV ho5 (jK (Y54)));replace BK102:=am (jc (g:=gb102) (o:=.cells #[.slice A0_0 l0_0.length c0_0] 32 (0,0)) (kq BK102.out) hb);replace HB:=am (jf (Y54) hb);clear hb ho5))
 go_loopg [1,5] k (fun kq v1 v5 w'=>∃ (x1_1:Int) (x5_1:List Int),v1=.int .i64 x1_1∧jB (jea.l0 kq x1_1 x5_1 l0_0=some r)∧jB (kq≤k)∧jB (Kd.R (Kd.int .i64) 3 w' w.heap.size (fun _=>True) v5 x5_1)∧jB (w'.heap[gb102]?=some (.cells #[(.slice A0_0 l0_0.length c0_0)] 32 (0,0)))∧jB (Below w.heap.size w w'))
 case atStart=>exact ⟨(a1),(y103),(sq),H',⟨Nat.le_refl _⟩,⟨rq HO105.out⟩,⟨kq BK102.out⟩,⟨Y54⟩⟩
 case round =>
  clear H'
  try clear p2
  try clear c5
  obtain ⟨x1_1,x5_1,rfl,HA,HK1,HO_5,BK102,HB⟩:=hrel
  cases gk with
  | zero=>exact absurd HA.out (by simp [jea.l0])
  | succ k1 =>
   have H:=HA.out
   clear HA
   simp only [jea.l0] at H
   by_cases c6:x1_1≥0
   ·rw [if_pos c6] at H
    have c6b0:decide (0≤x1_1)=true:=dzT c6
    clear c6
    replace H:=bzS H
    obtain ⟨t106,A70,H⟩:=H
    replace H:(if t106=true then (some x5_1) else (if x5_1.length<17592186044416 then (if 0≤x1_1 then (if x1_1<(l0_0.length:Int) then (jea.l0 k1 ((jb l0_0 x1_1).f3) (x5_1 ++ [x1_1]) l0_0) else (none)) else (none)) else (none)))=some r:=H
    have A7:=am A70
    clear A70
    by_cases c8:t106=true
    ·subst c8
     have H1:(some x5_1)=some r:=by rw [if_pos rfl] at H;exact H
     clear H
     have H:=H1
     clear H1
     obtain rfl:=Option.some.inj H
     obtain ⟨Ao9,co9,eo9⟩:=Kd.jN HO_5.out
     subst eo9
     go_wp2_with (first |(go_at_call 80;(with_reducible refine (jQa.calls k1 _ _ x5_1 x1_1 true _ ?side1 ?side2 A7.out).mono ?_);(case side1=>exact cq (Kd.jm HO_5.out).2.2);(case side2=>exact (Kd.jm HO_5.out).2.1);rintro e w' ⟨rfl,⟨nd,rfl⟩⟩))
     go_ret
     exact ⟨_,Y2,rq HO_5.out,Y54⟩
    ·replace c8:=Bool.eq_false_iff.mpr c8
     subst c8
     have H1:(if x5_1.length<17592186044416 then (if 0≤x1_1 then (if x1_1<(l0_0.length:Int) then (jea.l0 k1 ((jb l0_0 x1_1).f3) (x5_1 ++ [x1_1]) l0_0) else (none)) else (none)) else (none))=some r:=by rw [if_neg (show ¬ (false=true) by decide)] at H;exact H
     clear H
     have H:=H1
     clear H1
     by_cases c10:x5_1.length<17592186044416
     ·rw [if_pos c10] at H
      have LMc10:=am c10
      clear c10
      obtain ⟨y107,hy107⟩:∃ y_:List Int,y_=(x5_1 ++ [x1_1]):=⟨_,rfl⟩
      replace H:(if 0≤x1_1 then (if x1_1<(l0_0.length:Int) then (jea.l0 k1 ((jb l0_0 x1_1).f3) y107 l0_0) else (none)) else (none))=some r:=by first |(rw [hy107];with_reducible exact H) |(have H2_:=(Option.bind_some _ _).symm.trans H;rw [hy107];with_reducible exact H2_) |(have H2_:=(Option.bind_some _ _).symm.trans H;with_reducible exact H2_) | with_reducible exact H |(rw [hy107];exact H) | exact H
      have Ny107:=am hy107
      clear hy107
      by_cases c11:0≤x1_1
      ·rw [if_pos c11] at H
       have c11b0:decide (0≤x1_1)=true:=dzT c11
       clear c11
       by_cases c12:x1_1<(l0_0.length:Int)
       ·rw [if_pos c12] at H
        have c12b0:decide (x1_1<(l0_0.length:Int))=true:=dzT c12
        clear c12
        have H':=am H
        clear H
        obtain ⟨Ao13,co13,eo13⟩:=Kd.jN HO_5.out
        subst eo13
        go_wp2_with (first |(go_at_call 80;(with_reducible refine (jQa.calls k1 _ _ x5_1 x1_1 false _ ?side1 ?side2 A7.out).mono ?_);(case side1=>exact cq (Kd.jm HO_5.out).2.2);(case side2=>exact (Kd.jm HO_5.out).2.1);rintro e w' ⟨rfl,⟨nd,rfl⟩⟩) |((with_reducible refine jKb (b:=.append) (xs:=#[.tmp 15, .tmp 17]) rfl ?_);at_builtin;refine Kd.R_append (Kd.int .i64) (w0:=w) w.heap.size rfl (.tmp 15) (.tmp 17) 45 3 (.int .i64 0) 8 rfl Try.underlying45 info3 rfl (by decide) (by omega) (.slice Ao13 x5_1.length co13) x5_1 x1_1 [.int .i64 x1_1] (fun _=>True) (fun _=>False) rfl rfl ?aP (fun _ hk=>hk.elim) ?aF ?aO ?aB ?aS ?aL ?_;(case aP=>exact rfl);(case aB=>exact (Y54));(case aF=>exact (fun _ _=>trivial));(case aO=>exact (rq HO_5.out));(case aS=>exact (jK (Y54)));(case aL=>have:=LMc10.out;omega);intro v108 w14 ho hb hg hat;rw [← Ny107.out] at ho;have n0_:=am (jEa (g:=gb102) (o:=.cells #[.slice A0_0 l0_0.length c0_0] 32 (0,0)) (kq BK102.out) hg (Kd.R_ne HO_5.out BK102.out (by decide)));have n1_:=am (hb);have n2_:=am (ho);clear BK102 HB HO_5;have BK102:=n0_;have HB:=n1_;have HO109:=n2_;clear n0_ n1_ n2_ ho hb hg hat;have hcz15_0:=bc0 BK102.out;have hfz15_0:=je BK102.out 0;have p110:0≤(x1_1:Int):=ozD (uq);have q110:x1_1<(l0_0.length:Int):=ozD (uq);obtain ⟨ad110,e110,hx110_0,hx110_1,hx110_2,hx110_3,hx110_4⟩:=jpb HR0_0.out x1_1 p110 q110;cases e110;replace hx110_0:=cb HB.out hx110_0;replace hx110_1:=cb HB.out hx110_1;replace hx110_2:=cb HB.out hx110_2;replace hx110_3:=cb HB.out hx110_3;replace hx110_4:=cb HB.out hx110_4;replace p110:=ezT p110;replace q110:=ezT q110))
        go_roundg k1
        case measure=>have:=HK1.out;omega
        case rel=>exact ⟨((jb l0_0 x1_1).f3),(y107),(sq),H',⟨by have:=HK1.out;omega⟩,⟨rq HO109.out⟩,⟨kq BK102.out⟩,⟨Y54⟩⟩
       ·rw [if_neg c12] at H
        exact absurd H (by simp)
      ·rw [if_neg c11] at H
       exact absurd H (by simp)
     ·rw [if_neg c10] at H
      exact absurd H (by simp)
   ·rw [if_neg c6] at H
    have c6b0:decide (0≤x1_1)=false:=dzF c6
    clear c6
    obtain rfl:=Option.some.inj H
    go_wp2
    go_ret
    exact ⟨_,Y2,rq HO_5.out,Y54⟩
def jQ.f (a0 : Int) (a1 : Int) (a2 : Int) : Option (Bool) := if a1 ≤ a0 then (some (decide (a0 ≤ a2))) else (some false)
set_option maxHeartbeats 8000000 in
set_option maxRecDepth 100000 in
theorem jQ.calls (a0 : Int) (a1 : Int) (a2 : Int) (r : Bool) (w : World) (h : jQ.f a0 a1 a2 = some r) :
  Calls Try.prog 98 #[.int .i64 a0, .int .i64 a1, .int .i64 a2] w fun e w'=>e=.returned (.bool r)∧jfb w w':=by
 have H:(if a1≤a0 then (some (decide (a0≤a2))) else (some false))=some r:=h
 clear h
 by_cases c4:a1≤a0
 ·rw [if_pos c4] at H
  have c4b0:decide (a1≤a0)=true:=dzT c4
  clear c4
  obtain rfl:=Option.some.inj H
  go_enter Try.func98,Try.ntmps98
  go_wp2
  go_ret
  exact ⟨sq,Y6⟩
 ·rw [if_neg c4] at H
  have c4b0:decide (a1≤a0)=false:=dzF c4
  clear c4
  obtain rfl:=Option.some.inj H
  go_enter Try.func98,Try.ntmps98
  go_wp2
  go_ret
  exact ⟨sq,Y6⟩
def jMa.f (l0_0 : List (S94)) (a1 : Int) : Option (Bool) := (jQ.f a1 0 (wrap64 ((l0_0.length : Int) - 1))).bind fun t112 => (some t112)
set_option maxHeartbeats 8000000 in
set_option maxRecDepth 100000 in
theorem jMa.calls (A0_0 : Option Addr) (c0_0 : Nat) (l0_0 : List (S94)) (a1 : Int) (r : Bool) (w : World) (hr0_0 : Kd.C k94 w A0_0 l0_0.length l0_0) (hc0_0 : l0_0.length ≤ c0_0) (h : jMa.f l0_0 a1 = some r) :
  Calls Try.prog 97 #[.agg #[.slice A0_0 l0_0.length c0_0], .int .i64 a1] w fun e w'=>e=.returned (.bool r)∧Below w.heap.size w w':=by
 have hu37:=Try.underlying37
 have HR0_0:=am hr0_0
 have HC0_0:=am hc0_0
 clear hr0_0 hc0_0
 have HB:=am (Below.refl w.heap.size w)
 have H:((jQ.f a1 0 (wrap64 ((l0_0.length:Int) - 1))).bind fun t112=>(some t112))=some r:=h
 clear h
 replace H:=bzS H
 obtain ⟨t112,A30,H⟩:=H
 replace H:(some t112)=some r:=H
 have A3:=am A30
 clear A30
 obtain rfl:=Option.some.inj H
 go_enter Try.func97,Try.ntmps97
 go_wp2_with (first |((with_reducible refine jG (N:=2) rfl ?_);refine bE (N:=2) (cs:=#[.slice A0_0 l0_0.length c0_0]) (t:=37) ?_;intro gb111 hg w4 hbox hb;have BK111:=am (hbox);have GW111:=am ((Y0:w.heap.size≤gb111));have GE111:=am ((Y0:w.heap.size≤gb111));replace HB:=am (jf (bq) hb);clear hb hbox hg;have hcz5_0:=bc0 BK111.out;have hfz5_0:=je BK111.out 0) |((with_reducible refine jA (f:=98) rfl ?_);refine gL (some 10) Try.func98 #[.int .i64 a1, .int .i64 0, .int .i64 (wrap64 ((l0_0.length:Int) - 1))] ?_;(with_reducible refine (jQ.calls a1 0 (wrap64 ((l0_0.length:Int) - 1)) t112 _ A3.out).mono ?_);rintro e w' ⟨rfl,⟨nd,rfl⟩⟩;refine ⟨_,rfl,?_⟩))
 go_ret
 exact ⟨Y2,by repeat (first |(with_reducible first | exact HB.out | apply jC | apply jr | apply jy | refine jq ?_ GE111.out) | exact HB.out)⟩
def jIa.f (l0_0 : List (S54)) (a1 : Int) : Option (Bool) := if 0 ≤ a1 then (if a1 < (l0_0.length : Int) then ((jQ.f ((jb l0_0 a1).f2) (-1) (wrap64 ((l0_0.length : Int) - 1))).bind fun t116 => (if t116 = true then ((jQ.f ((jb l0_0 a1).f3) (-1) (wrap64 ((l0_0.length : Int) - 1))).bind fun t117 => (if t117 = true then (if ((jb l0_0 a1).f2) = a1 then (some false) else (some (((jb l0_0 a1).f3) != a1))) else (some false))) else (some false))) else (none)) else (none)
set_option maxHeartbeats 8000000 in
set_option maxRecDepth 100000 in
theorem jIa.calls (A0_0 : Option Addr) (c0_0 : Nat) (l0_0 : List (S54)) (a1 : Int) (r : Bool) (w : World) (hr0_0 : Kd.C k54 w A0_0 l0_0.length l0_0) (hc0_0 : l0_0.length ≤ c0_0) (h : jIa.f l0_0 a1 = some r) :
  Calls Try.prog 99 #[.agg #[.slice A0_0 l0_0.length c0_0], .int .i64 a1] w fun e w'=>e=.returned (.bool r)∧Below w.heap.size w w':=by
 have hu32:=Try.underlying32
 have hu54:=Try.underlying54
 have HR0_0:=am hr0_0
 have HC0_0:=am hc0_0
 clear hr0_0 hc0_0
 have HB:=am (Below.refl w.heap.size w)
 have H:(if 0≤a1 then (if a1<(l0_0.length:Int) then ((jQ.f ((jb l0_0 a1).f2) (-1) (wrap64 ((l0_0.length:Int) - 1))).bind fun t116=>(if t116=true then ((jQ.f ((jb l0_0 a1).f3) (-1) (wrap64 ((l0_0.length:Int) - 1))).bind fun t117=>(if t117=true then (if ((jb l0_0 a1).f2)=a1 then (some false) else (some (((jb l0_0 a1).f3) != a1))) else (some false))) else (some false))) else (none)) else (none))=some r:=h
 clear h
 by_cases c3:0≤a1
 ·rw [if_pos c3] at H
  have c3b0:decide (0≤a1)=true:=dzT c3
  clear c3
  by_cases c4:a1<(l0_0.length:Int)
  ·rw [if_pos c4] at H
   have c4b0:decide (a1<(l0_0.length:Int))=true:=dzT c4
   clear c4
   replace H:=bzS H
   obtain ⟨t116,A50,H⟩:=H
   replace H:(if t116=true then ((jQ.f ((jb l0_0 a1).f3) (-1) (wrap64 ((l0_0.length:Int) - 1))).bind fun t117=>(if t117=true then (if ((jb l0_0 a1).f2)=a1 then (some false) else (some (((jb l0_0 a1).f3) != a1))) else (some false))) else (some false))=some r:=H
   have A5:=am A50
   clear A50
   by_cases c6:t116=true
   ·subst c6
    have H1:((jQ.f ((jb l0_0 a1).f3) (-1) (wrap64 ((l0_0.length:Int) - 1))).bind fun t117=>(if t117=true then (if ((jb l0_0 a1).f2)=a1 then (some false) else (some (((jb l0_0 a1).f3) != a1))) else (some false)))=some r:=by rw [if_pos rfl] at H;exact H
    clear H
    have H:=H1
    clear H1
    replace H:=bzS H
    obtain ⟨t117,A70,H⟩:=H
    replace H:(if t117=true then (if ((jb l0_0 a1).f2)=a1 then (some false) else (some (((jb l0_0 a1).f3) != a1))) else (some false))=some r:=H
    have A7:=am A70
    clear A70
    by_cases c8:t117=true
    ·subst c8
     have H1:(if ((jb l0_0 a1).f2)=a1 then (some false) else (some (((jb l0_0 a1).f3) != a1)))=some r:=by rw [if_pos rfl] at H;exact H
     clear H
     have H:=H1
     clear H1
     by_cases c9:((jb l0_0 a1).f2)=a1
     ·rw [if_pos c9] at H
      have c9b0:(((jb l0_0 a1).f2) == a1)=true:=beq_iff_eq.mpr c9
      have c9b1:(((jb l0_0 a1).f2) != a1)=false:=bne_eq_false_iff_eq.mpr c9
      clear c9
      obtain rfl:=Option.some.inj H
      go_enter Try.func99,Try.ntmps99
      go_wp2_with (first |((with_reducible refine jG (N:=2) rfl ?_);refine bE (N:=2) (cs:=#[.slice A0_0 l0_0.length c0_0]) (t:=32) ?_;intro gb113 hg w10 hbox hb;have BK113:=am (hbox);have GW113:=am ((Y0:w.heap.size≤gb113));have GE113:=am ((Y0:w.heap.size≤gb113));replace HB:=am (jf (bq) hb);clear hb hbox hg;have hcz11_0:=bc0 BK113.out;have hfz11_0:=je BK113.out 0;have p114:0≤(a1:Int):=ozD (uq);have q114:a1<(l0_0.length:Int):=ozD (uq);obtain ⟨ad114,e114,hx114_0,hx114_1,hx114_2,hx114_3,hx114_4⟩:=jpb HR0_0.out a1 p114 q114;cases e114;replace hx114_0:=cb HB.out hx114_0;replace hx114_1:=cb HB.out hx114_1;replace hx114_2:=cb HB.out hx114_2;replace hx114_3:=cb HB.out hx114_3;replace hx114_4:=cb HB.out hx114_4;replace p114:=ezT p114;replace q114:=ezT q114) |((with_reducible refine jG (N:=6) rfl ?_);refine bE (N:=6) (cs:=#[.int .i64 0, .int .i64 0, .int .i64 0, .int .i64 0, .bool false]) (t:=54) ?_;intro gb115 hg w12 hbox hb;have BK115:=am (hbox);have GW115:=am ((Y55:w.heap.size≤gb115));have GE115:=am ((Y55:w.heap.size≤gb115));have NB113_115:=am ((Y106:gb113≠gb115));have NB115_113:=am ((Y107:gb115≠gb113));replace BK113:=am (jc (g:=gb113) (o:=.cells #[.slice (some ad114) l0_0.length c0_0] 32 (0,0)) (kq BK113.out) hb);replace HB:=am (jf (Y108) hb);clear hb hbox hg;have hnb13:=NB115_113.out;have hnc13:=NB113_115.out;have hcz14_0:=bc0 BK115.out;have hcz14_1:=bc1 BK115.out;have hcz14_2:=bc2 BK115.out;have hcz14_3:=bc3 BK115.out;have hcz14_4:w12.cell? ⟨gb115,4,none⟩=some (.bool false):=(jI BK115.out 4).trans rfl;have hfz14_0:=je BK115.out 0;have hfz14_1:=je BK115.out 1;have hfz14_2:=je BK115.out 2;have hfz14_3:=je BK115.out 3;have hfz14_4:=je BK115.out 4) |((with_reducible refine jA (f:=98) rfl ?_);refine gL (some 19) Try.func98 #[.int .i64 ((jb l0_0 a1).f2), .int .i64 (-1), .int .i64 (wrap64 ((l0_0.length:Int) - 1))] ?_;(with_reducible refine (jQ.calls ((jb l0_0 a1).f2) (-1) (wrap64 ((l0_0.length:Int) - 1)) true _ A5.out).mono ?_);rintro e w' ⟨rfl,⟨nd,rfl⟩⟩;refine ⟨_,rfl,?_⟩) |(go_at_call 98;(with_reducible refine (jQ.calls ((jb l0_0 a1).f3) (-1) (wrap64 ((l0_0.length:Int) - 1)) true _ A7.out).mono ?_);rintro e w' ⟨rfl,⟨nd,rfl⟩⟩))
      go_ret
      exact ⟨Y2,Y109⟩
     ·rw [if_neg c9] at H
      have c9b0:(((jb l0_0 a1).f2) == a1)=false:=beq_eq_false_iff_ne.mpr c9
      have c9b1:(((jb l0_0 a1).f2) != a1)=true:=bne_iff_ne.mpr c9
      obtain rfl:=Option.some.inj H
      go_enter Try.func99,Try.ntmps99
      go_wp2_with (first |((with_reducible refine jG (N:=2) rfl ?_);refine bE (N:=2) (cs:=#[.slice A0_0 l0_0.length c0_0]) (t:=32) ?_;intro gb113 hg w15 hbox hb;have BK113:=am (hbox);have GW113:=am ((Y0:w.heap.size≤gb113));have GE113:=am ((Y0:w.heap.size≤gb113));replace HB:=am (jf (bq) hb);clear hb hbox hg;have hcz16_0:=bc0 BK113.out;have hfz16_0:=je BK113.out 0;have p114:0≤(a1:Int):=ozD (uq);have q114:a1<(l0_0.length:Int):=ozD (uq);obtain ⟨ad114,e114,hx114_0,hx114_1,hx114_2,hx114_3,hx114_4⟩:=jpb HR0_0.out a1 p114 q114;cases e114;replace hx114_0:=cb HB.out hx114_0;replace hx114_1:=cb HB.out hx114_1;replace hx114_2:=cb HB.out hx114_2;replace hx114_3:=cb HB.out hx114_3;replace hx114_4:=cb HB.out hx114_4;replace p114:=ezT p114;replace q114:=ezT q114) |((with_reducible refine jG (N:=6) rfl ?_);refine bE (N:=6) (cs:=#[.int .i64 0, .int .i64 0, .int .i64 0, .int .i64 0, .bool false]) (t:=54) ?_;intro gb115 hg w17 hbox hb;have BK115:=am (hbox);have GW115:=am ((Y55:w.heap.size≤gb115));have GE115:=am ((Y55:w.heap.size≤gb115));have NB113_115:=am ((Y106:gb113≠gb115));have NB115_113:=am ((Y107:gb115≠gb113));replace BK113:=am (jc (g:=gb113) (o:=.cells #[.slice (some ad114) l0_0.length c0_0] 32 (0,0)) (kq BK113.out) hb);replace HB:=am (jf (Y108) hb);clear hb hbox hg;have hnb18:=NB115_113.out;have hnc18:=NB113_115.out;have hcz19_0:=bc0 BK115.out;have hcz19_1:=bc1 BK115.out;have hcz19_2:=bc2 BK115.out;have hcz19_3:=bc3 BK115.out;have hcz19_4:w17.cell? ⟨gb115,4,none⟩=some (.bool false):=(jI BK115.out 4).trans rfl;have hfz19_0:=je BK115.out 0;have hfz19_1:=je BK115.out 1;have hfz19_2:=je BK115.out 2;have hfz19_3:=je BK115.out 3;have hfz19_4:=je BK115.out 4) |((with_reducible refine jA (f:=98) rfl ?_);refine gL (some 19) Try.func98 #[.int .i64 ((jb l0_0 a1).f2), .int .i64 (-1), .int .i64 (wrap64 ((l0_0.length:Int) - 1))] ?_;(with_reducible refine (jQ.calls ((jb l0_0 a1).f2) (-1) (wrap64 ((l0_0.length:Int) - 1)) true _ A5.out).mono ?_);rintro e w' ⟨rfl,⟨nd,rfl⟩⟩;refine ⟨_,rfl,?_⟩) |(go_at_call 98;(with_reducible refine (jQ.calls ((jb l0_0 a1).f3) (-1) (wrap64 ((l0_0.length:Int) - 1)) true _ A7.out).mono ?_);rintro e w' ⟨rfl,⟨nd,rfl⟩⟩))
      go_ret
      exact ⟨Y2,Y109⟩
    ·replace c8:=Bool.eq_false_iff.mpr c8
     subst c8
     have H1:(some false)=some r:=by rw [if_neg (show ¬ (false=true) by decide)] at H;exact H
     clear H
     have H:=H1
     clear H1
     obtain rfl:=Option.some.inj H
     go_enter Try.func99,Try.ntmps99
     go_wp2_with (first |((with_reducible refine jG (N:=2) rfl ?_);refine bE (N:=2) (cs:=#[.slice A0_0 l0_0.length c0_0]) (t:=32) ?_;intro gb113 hg w20 hbox hb;have BK113:=am (hbox);have GW113:=am ((Y0:w.heap.size≤gb113));have GE113:=am ((Y0:w.heap.size≤gb113));replace HB:=am (jf (bq) hb);clear hb hbox hg;have hcz21_0:=bc0 BK113.out;have hfz21_0:=je BK113.out 0;have p114:0≤(a1:Int):=ozD (uq);have q114:a1<(l0_0.length:Int):=ozD (uq);obtain ⟨ad114,e114,hx114_0,hx114_1,hx114_2,hx114_3,hx114_4⟩:=jpb HR0_0.out a1 p114 q114;cases e114;replace hx114_0:=cb HB.out hx114_0;replace hx114_1:=cb HB.out hx114_1;replace hx114_2:=cb HB.out hx114_2;replace hx114_3:=cb HB.out hx114_3;replace hx114_4:=cb HB.out hx114_4;replace p114:=ezT p114;replace q114:=ezT q114) |((with_reducible refine jG (N:=6) rfl ?_);refine bE (N:=6) (cs:=#[.int .i64 0, .int .i64 0, .int .i64 0, .int .i64 0, .bool false]) (t:=54) ?_;intro gb115 hg w22 hbox hb;have BK115:=am (hbox);have GW115:=am ((Y55:w.heap.size≤gb115));have GE115:=am ((Y55:w.heap.size≤gb115));have NB113_115:=am ((Y106:gb113≠gb115));have NB115_113:=am ((Y107:gb115≠gb113));replace BK113:=am (jc (g:=gb113) (o:=.cells #[.slice (some ad114) l0_0.length c0_0] 32 (0,0)) (kq BK113.out) hb);replace HB:=am (jf (Y108) hb);clear hb hbox hg;have hnb23:=NB115_113.out;have hnc23:=NB113_115.out;have hcz24_0:=bc0 BK115.out;have hcz24_1:=bc1 BK115.out;have hcz24_2:=bc2 BK115.out;have hcz24_3:=bc3 BK115.out;have hcz24_4:w22.cell? ⟨gb115,4,none⟩=some (.bool false):=(jI BK115.out 4).trans rfl;have hfz24_0:=je BK115.out 0;have hfz24_1:=je BK115.out 1;have hfz24_2:=je BK115.out 2;have hfz24_3:=je BK115.out 3;have hfz24_4:=je BK115.out 4) |((with_reducible refine jA (f:=98) rfl ?_);refine gL (some 19) Try.func98 #[.int .i64 ((jb l0_0 a1).f2), .int .i64 (-1), .int .i64 (wrap64 ((l0_0.length:Int) - 1))] ?_;(with_reducible refine (jQ.calls ((jb l0_0 a1).f2) (-1) (wrap64 ((l0_0.length:Int) - 1)) true _ A5.out).mono ?_);rintro e w' ⟨rfl,⟨nd,rfl⟩⟩;refine ⟨_,rfl,?_⟩) |(go_at_call 98;(with_reducible refine (jQ.calls ((jb l0_0 a1).f3) (-1) (wrap64 ((l0_0.length:Int) - 1)) false _ A7.out).mono ?_);rintro e w' ⟨rfl,⟨nd,rfl⟩⟩))
     go_ret
     exact ⟨Y2,Y109⟩
   ·replace c6:=Bool.eq_false_iff.mpr c6
    subst c6
    have H1:(some false)=some r:=by rw [if_neg (show ¬ (false=true) by decide)] at H;exact H
    clear H
    have H:=H1
    clear H1
    obtain rfl:=Option.some.inj H
    go_enter Try.func99,Try.ntmps99
    go_wp2_with (first |((with_reducible refine jG (N:=2) rfl ?_);refine bE (N:=2) (cs:=#[.slice A0_0 l0_0.length c0_0]) (t:=32) ?_;intro gb113 hg w25 hbox hb;have BK113:=am (hbox);have GW113:=am ((Y0:w.heap.size≤gb113));have GE113:=am ((Y0:w.heap.size≤gb113));replace HB:=am (jf (bq) hb);clear hb hbox hg;have hcz26_0:=bc0 BK113.out;have hfz26_0:=je BK113.out 0;have p114:0≤(a1:Int):=ozD (uq);have q114:a1<(l0_0.length:Int):=ozD (uq);obtain ⟨ad114,e114,hx114_0,hx114_1,hx114_2,hx114_3,hx114_4⟩:=jpb HR0_0.out a1 p114 q114;cases e114;replace hx114_0:=cb HB.out hx114_0;replace hx114_1:=cb HB.out hx114_1;replace hx114_2:=cb HB.out hx114_2;replace hx114_3:=cb HB.out hx114_3;replace hx114_4:=cb HB.out hx114_4;replace p114:=ezT p114;replace q114:=ezT q114) |((with_reducible refine jG (N:=6) rfl ?_);refine bE (N:=6) (cs:=#[.int .i64 0, .int .i64 0, .int .i64 0, .int .i64 0, .bool false]) (t:=54) ?_;intro gb115 hg w27 hbox hb;have BK115:=am (hbox);have GW115:=am ((Y55:w.heap.size≤gb115));have GE115:=am ((Y55:w.heap.size≤gb115));have NB113_115:=am ((Y106:gb113≠gb115));have NB115_113:=am ((Y107:gb115≠gb113));replace BK113:=am (jc (g:=gb113) (o:=.cells #[.slice (some ad114) l0_0.length c0_0] 32 (0,0)) (kq BK113.out) hb);replace HB:=am (jf (Y108) hb);clear hb hbox hg;have hnb28:=NB115_113.out;have hnc28:=NB113_115.out;have hcz29_0:=bc0 BK115.out;have hcz29_1:=bc1 BK115.out;have hcz29_2:=bc2 BK115.out;have hcz29_3:=bc3 BK115.out;have hcz29_4:w27.cell? ⟨gb115,4,none⟩=some (.bool false):=(jI BK115.out 4).trans rfl;have hfz29_0:=je BK115.out 0;have hfz29_1:=je BK115.out 1;have hfz29_2:=je BK115.out 2;have hfz29_3:=je BK115.out 3;have hfz29_4:=je BK115.out 4) |((with_reducible refine jA (f:=98) rfl ?_);refine gL (some 19) Try.func98 #[.int .i64 ((jb l0_0 a1).f2), .int .i64 (-1), .int .i64 (wrap64 ((l0_0.length:Int) - 1))] ?_;(with_reducible refine (jQ.calls ((jb l0_0 a1).f2) (-1) (wrap64 ((l0_0.length:Int) - 1)) false _ A5.out).mono ?_);rintro e w' ⟨rfl,⟨nd,rfl⟩⟩;refine ⟨_,rfl,?_⟩))
    go_ret
    exact ⟨Y2,Y109⟩
  ·rw [if_neg c4] at H
   exact absurd H (by simp)
 ·rw [if_neg c3] at H
  exact absurd H (by simp)
def jBa.l0 : Nat → ByteArray → Int → Option (Bool)
 | 0,_,_=>none
 | k+1,x0,x3=>if x3<(x0.size:Int) then (if 0≤x3 then (if (bt x0 x3)<97 then (some false) else (if (bt x0 x3) > 122 then (some false) else (jBa.l0 k x0 (wrap64 (x3+1))))) else (none)) else ((jQ.f (x0.size:Int) 1 6).bind fun t118=>(some t118))
def jBa.f (k : Nat) (a0 : ByteArray) : Option (Bool) := jBa.l0 k a0 0
set_option maxHeartbeats 8000000 in
set_option maxRecDepth 100000 in
theorem jBa.calls (k : Nat) (a0 : ByteArray) (r : Bool) (w : World) (h : jBa.f k a0 = some r) :
  Calls Try.prog 109 #[.string a0] w fun e w'=>e=.returned (.bool r)∧jfb w w':=by
 have H:(jBa.l0 k a0 0)=some r:=h
 clear h
 have H':=am H
 clear H
 go_enter Try.func109,Try.ntmps109
 go_wp2
 go_loopg [3] k (fun kq v3 w'=>∃ (x3_1:Int),v3=.int .i64 x3_1∧jB (jBa.l0 kq a0 x3_1=some r)∧jB (kq≤k)∧jfb w w')
 case atStart=>exact ⟨(0),(sq),H',⟨Nat.le_refl _⟩,Y6⟩
 case round =>
  clear H'
  try clear c1
  obtain ⟨x3_1,rfl,HA,HK1,⟨m1,rfl⟩⟩:=hrel
  cases gk with
  | zero=>exact absurd HA.out (by simp [jBa.l0])
  | succ k1 =>
   have H:=HA.out
   clear HA
   simp only [jBa.l0] at H
   by_cases c2:x3_1<(a0.size:Int)
   ·rw [if_pos c2] at H
    have c2b0:decide (x3_1<(a0.size:Int))=true:=dzT c2
    clear c2
    by_cases c3:0≤x3_1
    ·rw [if_pos c3] at H
     have c3b0:decide (0≤x3_1)=true:=dzT c3
     clear c3
     by_cases c5:(bt a0 x3_1)<97
     ·rw [if_pos c5] at H
      have c5b0:decide ((bt a0 x3_1)<97)=true:=dzT c5
      clear c5
      obtain rfl:=Option.some.inj H
      have p4:0≤(x3_1:Int):=ozD (uq)
      have q4:x3_1<(a0.size:Int):=ozD (uq)
      have hx4:=bt_at a0 x3_1
      replace p4:=ezT p4
      replace q4:=ezT q4
      go_wp2
      go_ret
      exact ⟨sq,Y6⟩
     ·rw [if_neg c5] at H
      have c5b0:decide ((bt a0 x3_1)<97)=false:=dzF c5
      clear c5
      by_cases c7:(bt a0 x3_1) > 122
      ·rw [if_pos c7] at H
       have c7b0:decide (122<(bt a0 x3_1))=true:=dzT c7
       clear c7
       obtain rfl:=Option.some.inj H
       have p4:0≤(x3_1:Int):=ozD (uq)
       have q4:x3_1<(a0.size:Int):=ozD (uq)
       have hx4:=bt_at a0 x3_1
       replace p4:=ezT p4
       replace q4:=ezT q4
       have p6:0≤(x3_1:Int):=ozD (uq)
       have q6:x3_1<(a0.size:Int):=ozD (uq)
       have hx6:=bt_at a0 x3_1
       replace p6:=ezT p6
       replace q6:=ezT q6
       go_wp2
       go_ret
       exact ⟨sq,Y6⟩
      ·rw [if_neg c7] at H
       have c7b0:decide (122<(bt a0 x3_1))=false:=dzF c7
       clear c7
       have H':=am H
       clear H
       have p4:0≤(x3_1:Int):=ozD (uq)
       have q4:x3_1<(a0.size:Int):=ozD (uq)
       have hx4:=bt_at a0 x3_1
       replace p4:=ezT p4
       replace q4:=ezT q4
       have p6:0≤(x3_1:Int):=ozD (uq)
       have q6:x3_1<(a0.size:Int):=ozD (uq)
       have hx6:=bt_at a0 x3_1
       replace p6:=ezT p6
       replace q6:=ezT q6
       go_wp2
       go_roundg k1
       case measure=>have:=HK1.out;omega
       case rel=>exact ⟨(wrap64 (x3_1+1)),(sq),H',⟨by have:=HK1.out;omega⟩,Y6⟩
    ·rw [if_neg c3] at H
     exact absurd H (by simp)
   ·rw [if_neg c2] at H
    have c2b0:decide (x3_1<(a0.size:Int))=false:=dzF c2
    clear c2
    replace H:=bzS H
    obtain ⟨t118,A80,H⟩:=H
    replace H:(some t118)=some r:=H
    have A8:=am A80
    clear A80
    obtain rfl:=Option.some.inj H
    go_wp2_with (first |((with_reducible refine jA (f:=98) rfl ?_);refine gL (some 22) Try.func98 #[.int .i64 (a0.size:Int), .int .i64 1, .int .i64 6] ?_;(with_reducible refine (jQ.calls (a0.size:Int) 1 6 t118 _ A8.out).mono ?_);rintro e w' ⟨rfl,⟨nd,rfl⟩⟩;refine ⟨_,rfl,?_⟩))
    go_ret
    exact ⟨sq,Y6⟩
def jta.l0 : Nat → List (S94) → ByteArray → Int → Option (Int)
 | 0,_,_,_=>none
 | k+1,x0,x1,x5=>if x5<(x0.length:Int) then (if 0≤x5 then (if ((jS x0 x5).f0).toList=x1.toList then (some x5) else (jta.l0 k x0 x1 (wrap64 (x5+1)))) else (none)) else (some (-1))
def jta.f (k : Nat) (l0 : List (S94)) (a1 : ByteArray) : Option (Int) := jta.l0 k l0 a1 0
set_option maxHeartbeats 8000000 in
set_option maxRecDepth 100000 in
theorem jta.calls (k : Nat) (A0 : Option Addr) (c0 : Nat) (l0 : List (S94)) (a1 : ByteArray) (r : Int) (w : World) (hr0 : Kd.C k94 w A0 l0.length l0) (hc0 : l0.length ≤ c0) (h : jta.f k l0 a1 = some r) :
  Calls Try.prog 110 #[.slice A0 l0.length c0, .string a1] w fun e w'=>e=.returned (.int .i64 r)∧jfb w w':=by
 have HR0:=am hr0
 have HC0:=am hc0
 clear hr0 hc0
 have H:(jta.l0 k l0 a1 0)=some r:=h
 clear h
 have H':=am H
 clear H
 go_enter Try.func110,Try.ntmps110
 go_wp2
 go_loopg [5] k (fun kq v5 w'=>∃ (x5_1:Int),v5=.int .i64 x5_1∧jB (jta.l0 kq l0 a1 x5_1=some r)∧jB (kq≤k)∧jfb w w')
 case atStart=>exact ⟨(0),(sq),H',⟨Nat.le_refl _⟩,Y6⟩
 case round =>
  clear H'
  try clear c1
  try clear p2
  obtain ⟨x5_1,rfl,HA,HK1,⟨m1,rfl⟩⟩:=hrel
  cases gk with
  | zero=>exact absurd HA.out (by simp [jta.l0])
  | succ k1 =>
   have H:=HA.out
   clear HA
   simp only [jta.l0] at H
   by_cases c3:x5_1<(l0.length:Int)
   ·rw [if_pos c3] at H
    have c3b0:decide (x5_1<(l0.length:Int))=true:=dzT c3
    clear c3
    by_cases c4:0≤x5_1
    ·rw [if_pos c4] at H
     have c4b0:decide (0≤x5_1)=true:=dzT c4
     clear c4
     by_cases c5:((jS l0 x5_1).f0).toList=a1.toList
     ·rw [if_pos c5] at H
      have c5b0:(((jS l0 x5_1).f0).toList == a1.toList)=true:=beq_iff_eq.mpr c5
      have c5b1:(((jS l0 x5_1).f0).toList != a1.toList)=false:=bne_eq_false_iff_eq.mpr c5
      clear c5
      obtain rfl:=Option.some.inj H
      have p119:0≤(x5_1:Int):=ozD (uq)
      have q119:x5_1<(l0.length:Int):=ozD (uq)
      obtain ⟨ad119,e119,hx119_0,hx119_1⟩:=at_T94 HR0.out x5_1 p119 q119
      cases e119
      replace p119:=ezT p119
      replace q119:=ezT q119
      go_wp2
      go_ret
      exact ⟨sq,Y6⟩
     ·rw [if_neg c5] at H
      have c5b0:(((jS l0 x5_1).f0).toList == a1.toList)=false:=beq_eq_false_iff_ne.mpr c5
      have c5b1:(((jS l0 x5_1).f0).toList != a1.toList)=true:=bne_iff_ne.mpr c5
      have H':=am H
      clear H
      have p119:0≤(x5_1:Int):=ozD (uq)
      have q119:x5_1<(l0.length:Int):=ozD (uq)
      obtain ⟨ad119,e119,hx119_0,hx119_1⟩:=at_T94 HR0.out x5_1 p119 q119
      cases e119
      replace p119:=ezT p119
      replace q119:=ezT q119
      go_wp2
      go_roundg k1
      case measure=>have:=HK1.out;omega
      case rel=>exact ⟨(wrap64 (x5_1+1)),(sq),H',⟨by have:=HK1.out;omega⟩,Y6⟩
    ·rw [if_neg c4] at H
     exact absurd H (by simp)
   ·rw [if_neg c3] at H
    have c3b0:decide (x5_1<(l0.length:Int))=false:=dzF c3
    clear c3
    obtain rfl:=Option.some.inj H
    go_wp2
    go_ret
    exact ⟨sq,Y6⟩
mutual
def jJ.l0 : Nat → Int → List (S94) → Option (Bool)
 | 0,_,_=>none
 | k+1,x3,x155000=>if x3<(x155000.length:Int) then (if 0≤x3 then ((jBa.f k ((jS x155000 x3).f0)).bind fun t158=>(if t158=true then (if x3≤(x155000.length:Int) then ((jta.f k (x155000.take (x3:Int).toNat) ((jS x155000 x3).f0)).bind fun t163=>(if t163≥0 then (jJ.j1 k x3 true x155000) else (if x3=0 then (if ((jS x155000 x3).f1)=(-1) then (if x3 > 0 then ((jQ.f ((jS x155000 x3).f1) 0 (wrap64 (x3 - 1))).bind fun t164=>(jJ.j1 k x3 (!t164) x155000)) else (jJ.j1 k x3 false x155000)) else (jJ.j1 k x3 true x155000)) else (if x3 > 0 then ((jQ.f ((jS x155000 x3).f1) 0 (wrap64 (x3 - 1))).bind fun t165=>(jJ.j1 k x3 (!t165) x155000)) else (jJ.j1 k x3 false x155000))))) else (none)) else (jJ.j1 k x3 true x155000))) else (none)) else ((jQ.f (x155000.length:Int) 1 8).bind fun t155=>(some t155))
def jJ.j1 : Nat → Int → Bool → List (S94) → Option (Bool)
 | 0,_,_,_=>none
 | k+1,x3,x51,x155000=>if x51=true then (some false) else (jJ.l0 k (wrap64 (x3+1)) x155000)
end
def jJ.f (k : Nat) (l0_0 : List (S94)) : Option (Bool) := jJ.l0 k 0 l0_0
set_option maxHeartbeats 8000000 in
set_option maxRecDepth 100000 in
theorem jJ.calls (k : Nat) (A0_0 : Option Addr) (c0_0 : Nat) (l0_0 : List (S94)) (r : Bool) (w : World) (hr0_0 : Kd.C k94 w A0_0 l0_0.length l0_0) (hc0_0 : l0_0.length ≤ c0_0) (h : jJ.f k l0_0 = some r) :
  Calls Try.prog 100 #[.agg #[.slice A0_0 l0_0.length c0_0]] w fun e w'=>e=.returned (.bool r)∧Below w.heap.size w w':=by
 have hu37:=Try.underlying37
 have hu94:=Try.underlying94
 have HR0_0:=am hr0_0
 have HC0_0:=am hc0_0
 clear hr0_0 hc0_0
 have HB:=am (Below.refl w.heap.size w)
 have H:(jJ.l0 k 0 l0_0)=some r:=h
 clear h
 have H':=am H
 clear H
 go_enter Try.func100,Try.ntmps100
 go_wp2_with (first |((with_reducible refine jG (N:=1) rfl ?_);refine bE (N:=1) (cs:=#[.slice A0_0 l0_0.length c0_0]) (t:=37) ?_;intro gb154 hg w2 hbox hb;have BK154:=am (hbox);have GW154:=am ((Y0:w.heap.size≤gb154));have GE154:=am ((Y0:w.heap.size≤gb154));replace HB:=am (jf (bq) hb);clear hb hbox hg))
 go_loopg [3] k (fun kq v3 w'=>∃ (x3_1:Int),v3=.int .i64 x3_1∧jB (jJ.l0 kq x3_1 l0_0=some r)∧jB (kq≤k)∧jB (w'.heap[gb154]?=some (.cells #[(.slice A0_0 l0_0.length c0_0)] 37 (0,0)))∧jB (Below w.heap.size w w'))
 case atStart=>exact ⟨(0),(sq),H',⟨Nat.le_refl _⟩,⟨kq BK154.out⟩,⟨Y124⟩⟩
 case round =>
  clear H'
  try clear c1
  try clear p2
  obtain ⟨x3_1,rfl,HA,HK1,BK154,HB⟩:=hrel
  cases gk with
  | zero=>exact absurd HA.out (by simp [jJ.l0])
  | succ k1 =>
   have H:=HA.out
   clear HA
   simp only [jJ.l0] at H
   by_cases c3:x3_1<(l0_0.length:Int)
   ·rw [if_pos c3] at H
    have c3b0:decide (x3_1<(l0_0.length:Int))=true:=dzT c3
    clear c3
    by_cases c4:0≤x3_1
    ·rw [if_pos c4] at H
     have c4b0:decide (0≤x3_1)=true:=dzT c4
     clear c4
     have HC5:=am H
     clear H
     have hcz6_0:=bc0 BK154.out
     have hfz6_0:=je BK154.out 0
     have p156:0≤(x3_1:Int):=ozD (uq)
     have q156:x3_1<(l0_0.length:Int):=ozD (uq)
     obtain ⟨ad156,e156,hx156_0,hx156_1⟩:=at_T94 HR0_0.out x3_1 p156 q156
     cases e156
     replace hx156_0:=cb HB.out hx156_0
     replace hx156_1:=cb HB.out hx156_1
     replace p156:=ezT p156
     replace q156:=ezT q156
     go_upto_region 5 with (first |((with_reducible refine jG (N:=4) rfl ?_);refine bE (N:=4) (cs:=#[.string (⟨#[]⟩:ByteArray), .int .i64 0]) (t:=94) ?_;intro gb157 hg w7 hbox hb;have BK157:=am (hbox);have GW157:=am ((Y161:w.heap.size≤gb157));have GE157:=am ((Y161:w.heap.size≤gb157));have NB154_157:=am ((by rw [hg];exact Nat.ne_of_lt (jha (g:=gb154) (o:=.cells #[.slice (some ad156) l0_0.length c0_0] 37 (0,0)) (kq BK154.out)):gb154≠gb157));have NB157_154:=am ((by rw [hg];exact Nat.ne_of_gt (jha (g:=gb154) (o:=.cells #[.slice (some ad156) l0_0.length c0_0] 37 (0,0)) (kq BK154.out)):gb157≠gb154));replace BK154:=am (jc (g:=gb154) (o:=.cells #[.slice (some ad156) l0_0.length c0_0] 37 (0,0)) (kq BK154.out) hb);replace HB:=am (jf (Y124) hb);clear hb hbox hg;have hnb8:=NB157_154.out;have hnc8:=NB154_157.out;have hcz9_0:=bc0 BK157.out;have hcz9_1:=bc1 BK157.out;have hfz9_0:=je BK157.out 0;have hfz9_1:=je BK157.out 1))
     (try simp only [Act.put,List.setIfInBounds_toArray,List.set_cons_zero,List.set_cons_succ])
     go_cut [51] (fun v51 wc=>∃ (kq:Nat) (x51_4:Bool),v51=.bool x51_4∧jB (jJ.j1 kq x3_1 x51_4 l0_0=some r)∧jB (kq≤k1)∧jB (wc.heap[gb154]?=some (.cells #[(.slice (some ad156) l0_0.length c0_0)] 37 (0,0)))∧jB (wc.heap[gb157]?=some (.cells #[.string ((jS l0_0 x3_1).f0), .int .i64 ((jS l0_0 x3_1).f1)] 94 (0,0)))∧jB (Below w.heap.size w wc))
     case first =>
      have n0_:jB (((w7.setCell ⟨gb157,0,none⟩ (.string ((jS l0_0 x3_1).f0))).setCell ⟨gb157,1,none⟩ (.int .i64 ((jS l0_0 x3_1).f1))).heap[gb154]?=some (.cells #[.slice (some ad156) l0_0.length c0_0] 37 (0,0))):=⟨by (with_reducible repeat (first | refine jh ?_ _ | refine jg ?_ | refine jk ?_ _));refine jaa ?_ NB154_157.out _;(with_reducible repeat (first | refine jh ?_ _ | refine jg ?_ | refine jk ?_ _));refine jaa ?_ NB154_157.out _;(with_reducible repeat (first | refine jh ?_ _ | refine jg ?_ | refine jk ?_ _));exact BK154.out⟩
      have n1_:jB (((w7.setCell ⟨gb157,0,none⟩ (.string ((jS l0_0 x3_1).f0))).setCell ⟨gb157,1,none⟩ (.int .i64 ((jS l0_0 x3_1).f1))).heap[gb157]?=some (.cells #[.string ((jS l0_0 x3_1).f0), .int .i64 ((jS l0_0 x3_1).f1)] 94 (0,0))):=⟨by (with_reducible repeat (first | refine jh ?_ _ | refine jg ?_ | refine jk ?_ _));refine jHa (cs:=#[.string ((jS l0_0 x3_1).f0), .int .i64 0]) ?_ 1 _ rfl;(with_reducible repeat (first | refine jh ?_ _ | refine jg ?_ | refine jk ?_ _));refine jHa (cs:=#[.string (⟨#[]⟩:ByteArray), .int .i64 0]) ?_ 0 _ rfl;(with_reducible repeat (first | refine jh ?_ _ | refine jg ?_ | refine jk ?_ _));exact BK157.out⟩
      have n2_:jB (Below w.heap.size w ((w7.setCell ⟨gb157,0,none⟩ (.string ((jS l0_0 x3_1).f0))).setCell ⟨gb157,1,none⟩ (.int .i64 ((jS l0_0 x3_1).f1)))):=⟨Y125⟩
      clear BK154 BK157 HB hcz9_0 hcz9_1 hfz9_0 hfz9_1
      generalize ((w7.setCell ⟨gb157,0,none⟩ (.string ((jS l0_0 x3_1).f0))).setCell ⟨gb157,1,none⟩ (.int .i64 ((jS l0_0 x3_1).f1)))=w16 at n0_ n1_ n2_ ⊢
      have BK154:=n0_
      have BK157:=n1_
      have HB:=n2_
      clear n0_ n1_ n2_
      have HRW:=am (Kd.jca HR0_0.out HB.out)
      have e0:w16.cell? ⟨gb157,0,none⟩=some (.string ((jS l0_0 x3_1).f0)):=(jI BK157.out 0).trans rfl
      have e1:w16.cell? ⟨gb157,1,none⟩=some (.int .i64 ((jS l0_0 x3_1).f1)):=(jI BK157.out 1).trans rfl
      have e2:w16.cell? ⟨gb154,0,none⟩=some (.slice (some ad156) l0_0.length c0_0):=(jI BK154.out 0).trans rfl
      have H:=HC5.out
      clear HC5
      obtain ⟨v,hv,H⟩:=bzS H
      have HN:=am (fun W=>(jBa.calls k1 _ v W hv).mono fun e w' h=>(⟨h.1,h.2.out⟩:e=.returned (.bool v)∧∃ m,w'=W.drewN m))
      clear hv hx156_0 hx156_1
      generalize hgx:jS l0_0 x3_1=x at H e0 e1 HN BK157
      have HGX:=am hgx
      clear hgx
      cases v with
      | false =>
       have H':=am (show jJ.j1 k1 x3_1 true l0_0=some r from H)
       clear H
       go_big_quiet ((go_at_call 109;exact Calls.quiet_of (HN.out _)))
       go_wp2
       go_meet
       case rel=>exact ⟨_,_,rfl,H',⟨by have:=HK1.out;omega⟩,⟨jh BK154.out _⟩,⟨by rw [HGX.out];exact jh BK157.out _⟩,⟨jr HB.out _⟩⟩
      | true =>
       replace H:(if x3_1≤(l0_0.length:Int) then ((jta.f k1 (l0_0.take (x3_1:Int).toNat) x.f0).bind fun t163=>(if t163≥0 then (jJ.j1 k1 x3_1 true l0_0) else (if x3_1=0 then (if x.f1=(-1) then (if x3_1 > 0 then ((jQ.f x.f1 0 (wrap64 (x3_1 - 1))).bind fun t164=>(jJ.j1 k1 x3_1 (!t164) l0_0)) else (jJ.j1 k1 x3_1 false l0_0)) else (jJ.j1 k1 x3_1 true l0_0)) else (if x3_1 > 0 then ((jQ.f x.f1 0 (wrap64 (x3_1 - 1))).bind fun t165=>(jJ.j1 k1 x3_1 (!t165) l0_0)) else (jJ.j1 k1 x3_1 false l0_0))))) else (none))=some r:=H
       have hle:x3_1≤(l0_0.length:Int):=by have:=ozD c3b0;omega
       have h0:0≤x3_1:=ozD c4b0
       rw [if_pos hle] at H
       obtain ⟨c,hc,H⟩:=bzS H
       obtain ⟨i0,hi0,_,_,_⟩:=info_parts info94
       have hcut:=cut_to (P:=Try.prog) 35 94 .i64 Try.underlying35 hi0 (some ad156) l0_0.length c0_0 x3_1 h0 hle HC0_0.out
       have hr18:=Kd.C_take (m:=(x3_1:Int).toNat) HRW.out (by omega)
       obtain ⟨y,hy⟩:∃ y:List S94,y=l0_0.take (x3_1:Int).toNat:=⟨_,rfl⟩
       have hyl:y.length=(x3_1:Int).toNat:=by rw [hy,List.length_take];omega
       have hyc:y.length≤c0_0:=by have:=HC0_0.out;omega
       rw [← hy] at hr18
       rw [← hyl] at hcut
       rw [← hy] at hc
       have HCN:=am (fun m=>(jta.calls k1 _ _ y x.f0 c (w16.drewN m) (Kd.C_drewN hr18 m) hyc hc).mono fun e w' h=>(⟨h.1,h.2.out⟩:e=.returned (.int .i64 c)∧∃ m',w'=(w16.drewN m).drewN m'))
       clear hr18 hc hy hyl hyc
       have b0:=ezT h0
       have b1:=ezT hle
       by_cases hc0:c≥0
       ·rw [if_pos hc0] at H
        have b2:decide (0≤c)=true:=dzT hc0
        have H':=am H
        clear H hc0 h0 hle
        go_big_quiet (first |(go_at_call 109;exact Calls.quiet_of (HN.out _)) |(go_at_call 110;exact Calls.quiet_of (HCN.out _)))
        go_wp2
        go_meet
        case rel=>exact ⟨_,_,rfl,H',⟨by have:=HK1.out;omega⟩,⟨jh BK154.out _⟩,⟨by rw [HGX.out];exact jh BK157.out _⟩,⟨jr HB.out _⟩⟩
       ·rw [if_neg hc0] at H
        have b2:decide (0≤c)=false:=dzF hc0
        clear hc0
        by_cases hz:x3_1=0
        ·rw [if_pos hz] at H
         have b3:(x3_1 == 0)=true:=beq_iff_eq.2 hz
         have b4:decide (0<x3_1)=false:=dzF (by omega)
         by_cases hf:x.f1 = -1
         ·rw [if_pos hf,if_neg (by omega)] at H
          have b5:(x.f1 != -1)=false:=by simpa using hf
          have H':=am H
          clear H hf h0 hle hz
          go_big_quiet (first |(go_at_call 109;exact Calls.quiet_of (HN.out _)) |(go_at_call 110;exact Calls.quiet_of (HCN.out _)))
          go_wp2
          go_meet
          case rel=>exact ⟨_,_,rfl,H',⟨by have:=HK1.out;omega⟩,⟨jh BK154.out _⟩,⟨by rw [HGX.out];exact jh BK157.out _⟩,⟨jr HB.out _⟩⟩
         ·rw [if_neg hf] at H
          have b5:(x.f1 != -1)=true:=by simpa using hf
          have H':=am H
          clear H hf h0 hle hz
          go_big_quiet (first |(go_at_call 109;exact Calls.quiet_of (HN.out _)) |(go_at_call 110;exact Calls.quiet_of (HCN.out _)))
          go_wp2
          go_meet
          case rel=>exact ⟨_,_,rfl,H',⟨by have:=HK1.out;omega⟩,⟨jh BK154.out _⟩,⟨by rw [HGX.out];exact jh BK157.out _⟩,⟨jr HB.out _⟩⟩
        ·rw [if_neg hz,if_pos (by omega)] at H
         have b3:(x3_1 == 0)=false:=beq_eq_false_iff_ne.2 hz
         have b4:decide (0<x3_1)=true:=dzT (by omega)
         obtain ⟨t,ht,H⟩:=bzS H
         have H':=am H
         have HI:=am (fun W=>(jQ.calls _ _ _ t W ht).mono fun e w' h=>(⟨h.1,h.2.out⟩:e=.returned (.bool t)∧∃ m,w'=W.drewN m))
         clear H ht h0 hle hz
         go_big_quiet (first |(go_at_call 109;exact Calls.quiet_of (HN.out _)) |(go_at_call 110;exact Calls.quiet_of (HCN.out _)) |(go_at_call 98;exact Calls.quiet_of (HI.out _)))
         go_wp2
         go_meet
         case rel=>exact ⟨_,_,rfl,H',⟨by have:=HK1.out;omega⟩,⟨jh BK154.out _⟩,⟨by rw [HGX.out];exact jh BK157.out _⟩,⟨jr HB.out _⟩⟩
     case rest =>
      clear HC5
      try clear c1
      try clear c2
      try clear p2
      try clear c3
      try clear q3
      try clear p6
      try clear c11
      try clear c12
      try clear c13
      try clear c21
      try clear c32
      try clear c32b0
      try clear q39
      try clear q39
      obtain ⟨kq,x51_4,rfl,HA,HJ4,BK154,BK157,HB⟩:=hcut
      cases kq with
      | zero=>exact absurd HA.out (by simp [jJ.j1])
      | succ kj4 =>
       have H:=HA.out
       clear HA
       simp only [jJ.j1] at H
       by_cases c42:x51_4=true
       ·subst c42
        have H1:(some false)=some r:=by rw [if_pos rfl] at H;exact H
        clear H
        have H:=H1
        clear H1
        obtain rfl:=Option.some.inj H
        go_wp2
        go_ret
        exact ⟨Y2,Y125⟩
       ·replace c42:=Bool.eq_false_iff.mpr c42
        subst c42
        have H1:(jJ.l0 kj4 (wrap64 (x3_1+1)) l0_0)=some r:=by rw [if_neg (show ¬ (false=true) by decide)] at H;exact H
        clear H
        have H:=H1
        clear H1
        have H':=am H
        clear H
        go_wp2
        go_roundg kj4
        case measure=>have:=HK1.out;have:=HJ4.out;omega
        case rel=>exact ⟨(wrap64 (x3_1+1)),(sq),H',⟨by have:=HK1.out;have:=HJ4.out;omega⟩,⟨kq BK154.out⟩,⟨Y125⟩⟩
    ·rw [if_neg c4] at H
     exact absurd H (by simp)
   ·rw [if_neg c3] at H
    have c3b0:decide (x3_1<(l0_0.length:Int))=false:=dzF c3
    clear c3
    replace H:=bzS H
    obtain ⟨t155,A430,H⟩:=H
    replace H:(some t155)=some r:=H
    have A43:=am A430
    clear A430
    obtain rfl:=Option.some.inj H
    have hcz44_0:=bc0 BK154.out
    have hfz44_0:=je BK154.out 0
    go_wp2_with (first |((with_reducible refine jA (f:=98) rfl ?_);refine gL (some 55) Try.func98 #[.int .i64 (l0_0.length:Int), .int .i64 1, .int .i64 8] ?_;(with_reducible refine (jQ.calls (l0_0.length:Int) 1 8 t155 _ A43.out).mono ?_);rintro e w' ⟨rfl,⟨nd,rfl⟩⟩;refine ⟨_,rfl,?_⟩))
    go_ret
    exact ⟨Y2,Y124⟩
end Go.Proofs.Ytecdfgejmbpclaa.P
end
