/- One part of the proofs on this program: functions of the program as plain functions, that the code comes to them, and facts on them. -/
import Derived.Test.YtecdfgejmbpclaaYAll1
import Derived.Test.YtecdfgejmbpclaaYAll2
import Derived.Test.YtecdfgejmbpclaaYAll5
import Derived.Test.YtecdfgejmbpclaaYWAuto
section
namespace Go.Proofs.Ytecdfgejmbpclaa.P
open Go.RowKit Go.Proofs.YtecdfgejmbpclaaW.PrintWords Go.Proofs.YtecdfgejmbpclaaW.PrintLast Go.Proofs.YtecdfgejmbpclaaW.PrintMore
attribute [local go_sem] jqa joa jwa jva jea jda jpa jna jA
set_option linter.unusedVariables false
set_option linter.unusedSimpArgs false
def jrb.f (k : Nat) (s0_0 : List Int) (s0_1 : Int) (l1_0 : List (S54)) : Option (Int × Int) := (jl.f k s0_0 s0_1 16).bind fun bt664 => (if bt664.1 = 0 then ((jv.f k s0_0 bt664.2 (([(-1), (l1_0.length : Int), 9] : List Int))).bind fun bt669 => (some (bt669.1, bt669.2))) else ((jl.f k s0_0 bt664.2 (l1_0.length : Int)).bind fun bt671 => (some (bt671.1, bt671.2))))
set_option maxHeartbeats 8000000 in
set_option maxRecDepth 100000 in
theorem jrb.calls (k : Nat) (g : Nat) (s0_0 : List Int) (s0_1 : Int) (A1_0 : Option Addr) (c1_0 : Nat) (l1_0 : List (S54)) (r1 : Int) (r2 : Int) (w0 w : World) (hI : jc w0 w g s0_0 s0_1) (hB : Below w0.heap.size w0 w) (hr1_0 : ∀ W_, jd w W_ g none → Kd.C k54 W_ A1_0 l1_0.length l1_0) (hc1_0 : l1_0.length ≤ c1_0) (h : jrb.f k s0_0 s0_1 l1_0 = some (r1, r2)) :
  Calls Try.prog 84 #[.pointer (some ⟨g,0,none⟩), .agg #[.slice A1_0 l1_0.length c1_0]] w fun e w'=>e=.returned (.int .i64 r1)∧jc w0 w' g s0_0 r2∧Below w0.heap.size w0 w'∧jd w w' g none:=by
 have hu32:=Try.underlying32
 have HR1_0:=am hr1_0
 have HC1_0:=am hc1_0
 clear hr1_0 hc1_0
 have HI0:=am hI
 have HK:=am (jd.refl w g none)
 have HL:=am hB.size
 clear hI
 have HW0:=am hB.size
 have HB:=am hB
 clear hB
 have H:((jl.f k s0_0 s0_1 16).bind fun bt664=>(if bt664.1=0 then ((jv.f k s0_0 bt664.2 (([(-1),(l1_0.length:Int),9]:List Int))).bind fun bt669=>(some (bt669.1,bt669.2))) else ((jl.f k s0_0 bt664.2 (l1_0.length:Int)).bind fun bt671=>(some (bt671.1,bt671.2)))))=some (r1,r2):=h
 clear h
 replace H:=bzS H
 obtain ⟨⟨t664,t665⟩,A30,H⟩:=H
 replace H:(if t664=0 then ((jv.f k s0_0 t665 (([(-1),(l1_0.length:Int),9]:List Int))).bind fun bt669=>(some (bt669.1,bt669.2))) else ((jl.f k s0_0 t665 (l1_0.length:Int)).bind fun bt671=>(some (bt671.1,bt671.2))))=some (r1,r2):=H
 have A3:=am A30
 clear A30
 by_cases c4:t664=0
 ·rw [if_pos c4] at H
  have c4b0:(t664 == 0)=true:=beq_iff_eq.mpr c4
  have c4b1:(t664 != 0)=false:=bne_eq_false_iff_eq.mpr c4
  clear c4
  obtain ⟨y666,hy666⟩:∃ y_:List Int,y_=(([(-1),(l1_0.length:Int),9]:List Int)):=⟨_,rfl⟩
  replace H:((jv.f k s0_0 t665 y666).bind fun bt669=>(some (bt669.1,bt669.2)))=some (r1,r2):=by first |(rw [hy666];with_reducible exact H) |(have H2_:=(Option.bind_some _ _).symm.trans H;rw [hy666];with_reducible exact H2_) |(have H2_:=(Option.bind_some _ _).symm.trans H;with_reducible exact H2_) | with_reducible exact H |(rw [hy666];exact H) | exact H
  have Ny666:=am hy666
  clear hy666
  replace H:=bzS H
  obtain ⟨⟨t669,t670⟩,A50,H⟩:=H
  replace H:(some (t669,t670))=some (r1,r2):=H
  have A5:=am A50
  clear A50
  simp only [Option.some.injEq,Prod.mk.injEq] at H
  obtain ⟨rfl,rfl⟩:=H
  go_enter Try.func84,Try.ntmps84
  go_wp2_with (first |((with_reducible refine jD (N:=3) rfl ?_);refine bE (N:=3) (cs:=#[.slice A1_0 l1_0.length c1_0]) (t:=32) ?_;intro gb663 hg w6 hbox hb;have BK663:=am (hbox);have GW663:=am ((Y6:w.heap.size≤gb663));have GE663:=am ((Nat.le_trans HW0.out (Y6:w.heap.size≤gb663):w0.heap.size≤gb663));have NB0_663:=am ((Y24:g≠gb663));have NB663_0:=am ((Y25:gb663≠g));replace HK:=am (jd.trans (Y13) (jd.of_below hb g none) (.inl rfl));replace HB:=am (jf (Y14) hb);replace HI0:=am (jc.below (Y12) hb);clear hb hbox hg) |((with_reducible refine jy (f:=88) rfl ?_);refine gL (some 6) Try.func88 #[.pointer (some ⟨g,0,none⟩), .int .i64 16] ?_;(with_reducible refine (jl.calls k g s0_0 s0_1 16 t664 t665 w0 _ ?side1 ?side2 A3.out).mono ?_);(case side1=>exact Y51);(case side2=>exact Y57);rintro e w7 ⟨rfl,hi,hb,hk⟩;refine ⟨_,rfl,?_⟩;replace BK663:=am (jd.blk hk (g':=gb663) (o:=.cells #[.slice A1_0 l1_0.length c1_0] 32 (0,0)) (kq BK663.out) NB663_0.out (by simp));replace HK:=am (jd.trans (Y52) hk (.inl rfl));replace HB:=am (hb);replace HI0:=am (hi);(try clear hb);(try clear hb2);(try clear hk);(try clear hi);have hnb8:=NB663_0.out;have hnc8:=NB0_663.out;have hcz9_0:=bc0 BK663.out;have hfz9_0:=jb BK663.out 0) |((with_reducible refine jD (N:=12) rfl ?_);refine Kd.R_lit (Kd.int .i64) _ 3 ?hg (N:=12) ?hd (xs:=([(-1),(l1_0.length:Int),9]:List Int)) (inner:=[.int .i64 (-1), .int .i64 (l1_0.length:Int), .int .i64 9]) (ok:=fun _=>True) (okp:=fun _=>True) ?hr ?hp (fun _ hk=>hk) trivial (Below.refl _ _) (Nat.le_refl _) (by simp) ?_;(case hd=>rfl);(case hg=>rfl);(case hr=>exact Y4);(case hp=>exact (Reps.one (show Kd.M (Kd.int .i64) _ _ _ (-1) [.int .i64 (-1)] from rfl) (Reps.one (show Kd.M (Kd.int .i64) _ _ _ (l1_0.length:Int) [.int .i64 (l1_0.length:Int)] from rfl) (Reps.one (show Kd.M (Kd.int .i64) _ _ _ 9 [.int .i64 9] from rfl) (Reps.none _ _)))));intro v667 w10 ho11 hb hg_ hnew_;clear hg_ hnew_;(first | rw [← Ny666.out] at ho11 |(simp only [Int.reduceToNat] at ho11;rw [← Ny666.out] at ho11));have HO668:=am (Kd.jia ho11 (jba (w:=w) (g:=g) (row:=none) (Y52)));replace BK663:=am (je (g:=gb663) (o:=.cells #[.slice A1_0 l1_0.length c1_0] 32 (0,0)) (kq BK663.out) hb);replace HK:=am (jd.trans (Y52) (jd.of_below hb g none) (.inl rfl));replace HB:=am (jf (Y57) hb);replace HI0:=am (jc.below (Y51) hb);clear hb ho11;obtain ⟨Ao12,co12,eo12⟩:=Kd.jZ HO668.out;subst eo12) |((with_reducible refine jy (f:=89) rfl ?_);refine gL (some 13) Try.func89 #[.pointer (some ⟨g,0,none⟩), .slice Ao12 y666.length co12] ?_;(with_reducible refine (jv.calls k g s0_0 t665 _ _ y666 t669 t670 w0 _ ?side1 ?side2 ?side3 ?side4 ?side5 A5.out).mono ?_);(case side1=>exact Y51);(case side2=>exact Y57);(case side3=>exact cq (Kd.jB HO668.out).2.2);(case side4=>exact (Kd.jB HO668.out).2.1);(case side5=>exact jnb (jc.own_ne HI0.out HO668.out (by decide)));rintro e w13 ⟨rfl,hi,hb,hk⟩;refine ⟨_,rfl,?_⟩;replace BK663:=am (jd.blk hk (g':=gb663) (o:=.cells #[.slice A1_0 l1_0.length c1_0] 32 (0,0)) (kq BK663.out) NB663_0.out (by simp));replace HO668:=am (Kd.jH (Kd.jla (jc.apart (show jc w0 _ g s0_0 t665 from Y51) (rq HO668.out) (by decide)) hk (fun _ h=>h.2)) (fun _ h=>h.1));replace HK:=am (jd.trans (Y52) hk (.inl rfl));replace HB:=am (hb);replace HI0:=am (hi);(try clear hb);(try clear hb2);(try clear hk);(try clear hi)))
  go_ret
  exact ⟨Y1,Y51,Y57,Y52⟩
 ·rw [if_neg c4] at H
  have c4b0:(t664 == 0)=false:=beq_eq_false_iff_ne.mpr c4
  have c4b1:(t664 != 0)=true:=bne_iff_ne.mpr c4
  replace H:=bzS H
  obtain ⟨⟨t671,t672⟩,A140,H⟩:=H
  replace H:(some (t671,t672))=some (r1,r2):=H
  have A14:=am A140
  clear A140
  simp only [Option.some.injEq,Prod.mk.injEq] at H
  obtain ⟨rfl,rfl⟩:=H
  go_enter Try.func84,Try.ntmps84
  go_wp2_with (first |((with_reducible refine jD (N:=3) rfl ?_);refine bE (N:=3) (cs:=#[.slice A1_0 l1_0.length c1_0]) (t:=32) ?_;intro gb663 hg w15 hbox hb;have BK663:=am (hbox);have GW663:=am ((Y6:w.heap.size≤gb663));have GE663:=am ((Nat.le_trans HW0.out (Y6:w.heap.size≤gb663):w0.heap.size≤gb663));have NB0_663:=am ((Y24:g≠gb663));have NB663_0:=am ((Y25:gb663≠g));replace HK:=am (jd.trans (Y13) (jd.of_below hb g none) (.inl rfl));replace HB:=am (jf (Y14) hb);replace HI0:=am (jc.below (Y12) hb);clear hb hbox hg) |((with_reducible refine jy (f:=88) rfl ?_);refine gL (some 6) Try.func88 #[.pointer (some ⟨g,0,none⟩), .int .i64 16] ?_;(with_reducible refine (jl.calls k g s0_0 s0_1 16 t664 t665 w0 _ ?side1 ?side2 A3.out).mono ?_);(case side1=>exact Y51);(case side2=>exact Y57);rintro e w16 ⟨rfl,hi,hb,hk⟩;refine ⟨_,rfl,?_⟩;replace BK663:=am (jd.blk hk (g':=gb663) (o:=.cells #[.slice A1_0 l1_0.length c1_0] 32 (0,0)) (kq BK663.out) NB663_0.out (by simp));replace HK:=am (jd.trans (Y52) hk (.inl rfl));replace HB:=am (hb);replace HI0:=am (hi);(try clear hb);(try clear hb2);(try clear hk);(try clear hi);have hnb17:=NB663_0.out;have hnc17:=NB0_663.out;have hcz18_0:=bc0 BK663.out;have hfz18_0:=jb BK663.out 0) |((with_reducible refine jy (f:=88) rfl ?_);refine gL (some 18) Try.func88 #[.pointer (some ⟨g,0,none⟩), .int .i64 (l1_0.length:Int)] ?_;(with_reducible refine (jl.calls k g s0_0 t665 (l1_0.length:Int) t671 t672 w0 _ ?side1 ?side2 A14.out).mono ?_);(case side1=>exact Y51);(case side2=>exact Y57);rintro e w19 ⟨rfl,hi,hb,hk⟩;refine ⟨_,rfl,?_⟩;replace BK663:=am (jd.blk hk (g':=gb663) (o:=.cells #[.slice A1_0 l1_0.length c1_0] 32 (0,0)) (kq BK663.out) NB663_0.out (by simp));replace HK:=am (jd.trans (Y52) hk (.inl rfl));replace HB:=am (hb);replace HI0:=am (hi);(try clear hb);(try clear hb2);(try clear hk);(try clear hi)))
  go_ret
  exact ⟨Y1,Y51,Y57,Y52⟩
def jBa.f (k : Nat) (s0_0 : List Int) (s0_1 : Int) : Option ((List (S94)) × (List (S54)) × Int × Int) := (jJ.f k s0_0 s0_1).bind fun bt675 => ((jrb.f k s0_0 bt675.2.2 bt675.2.1).bind fun bt684 => (some (bt675.1, bt675.2.1, bt684.1, bt684.2)))
def jBa.T2 : Bool × List (List Nat × List Nat) := (true, [([], []), ([], []), ([], []), ([], []), ([2, 3], [2, 3]), ([0, 4, 0], [0]), ([1, 5, 0, 1, 5], [1]), ([4, 6, 0, 1, 2, 3, 4, 5, 6], [4])])
def jBa.B2 : List Nat := [0, 0, 0, 0, 12, 29, 63, 127]
theorem jBa.tab2 : rtab .any (opsOf Try.f55 2) = jBa.T2 := by kernel_rfl
theorem jBa.bits2 : jFb jBa.T2.2 jBa.B2 = true := by kernel_rfl
set_option maxHeartbeats 8000000 in
set_option maxRecDepth 100000 in
theorem jBa.calls (k : Nat) (g : Nat) (s0_0 : List Int) (s0_1 : Int) (r1 : List (S94)) (r2 : List (S54)) (r3 : Int) (r4 : Int) (w0 w : World) (hI : jc w0 w g s0_0 s0_1) (hB : Below w0.heap.size w0 w) (h : jBa.f k s0_0 s0_1 = some (r1, r2, r3, r4)) :
  Calls Try.prog 55 #[.pointer (some ⟨g,0,none⟩)] w fun e w'=>∃ v0_ v1_:Value,e=.returned (.tuple #[.agg #[v0_], .agg #[v1_], .int .i64 r3])∧Kd.R k94 94 w' w.heap.size (fun _=>True) v0_ r1∧Kd.R k54 54 w' w.heap.size (fun _=>True) v1_ r2∧jc w0 w' g s0_0 r4∧Below w0.heap.size w0 w'∧jd w w' g none:=by
 have hu37:=Try.underlying37
 have hu32:=Try.underlying32
 have HI0:=am hI
 have HK:=am (jd.refl w g none)
 have HL:=am hB.size
 clear hI
 have HW0:=am hB.size
 have HB:=am hB
 clear hB
 have H:((jJ.f k s0_0 s0_1).bind fun bt675=>((jrb.f k s0_0 bt675.2.2 bt675.2.1).bind fun bt684=>(some (bt675.1,bt675.2.1,bt684.1,bt684.2))))=some (r1,r2,r3,r4):=h
 clear h
 replace H:=bzS H
 obtain ⟨⟨t675,t678,t681⟩,A20,H⟩:=H
 replace H:((jrb.f k s0_0 t681 t678).bind fun bt684=>(some (t675,t678,bt684.1,bt684.2)))=some (r1,r2,r3,r4):=H
 have A2:=am A20
 clear A20
 replace H:=bzS H
 obtain ⟨⟨t684,t685⟩,A30,H⟩:=H
 replace H:(some (t675,t678,t684,t685))=some (r1,r2,r3,r4):=H
 have A3:=am A30
 clear A30
 simp only [Option.some.injEq,Prod.mk.injEq] at H
 obtain ⟨rfl,rfl,rfl,rfl⟩:=H
 go_enter Try.func55,Try.ntmps55
 try go_wp2_with (first |((with_reducible refine jD (N:=2) rfl ?_);refine bE (N:=2) (cs:=#[.slice none 0 0]) (t:=37) ?_;intro gb673 hg w4 hbox hb;have BK673:=am (hbox);have GW673:=am ((Y6:w.heap.size≤gb673));have GE673:=am ((Nat.le_trans HW0.out (Y6:w.heap.size≤gb673):w0.heap.size≤gb673));have NB0_673:=am ((Y24:g≠gb673));have NB673_0:=am ((Y25:gb673≠g));replace HK:=am (jd.trans (Y13) (jd.of_below hb g none) (.inl rfl));replace HB:=am (jf (Y14) hb);replace HI0:=am (jc.below (Y12) hb);clear hb hbox hg) |((with_reducible refine jD (N:=3) rfl ?_);refine bE (N:=3) (cs:=#[.slice none 0 0]) (t:=32) ?_;intro gb674 hg w5 hbox hb;have BK674:=am (hbox);have GW674:=am ((Y157:w.heap.size≤gb674));have GE674:=am ((Nat.le_trans HW0.out (Y157:w.heap.size≤gb674):w0.heap.size≤gb674));have NB673_674:=am ((Y118:gb673≠gb674));have NB674_673:=am ((Y119:gb674≠gb673));have NB0_674:=am ((by rw [hg];exact Nat.ne_of_lt (jc.lt (show jc w0 _ g s0_0 s0_1 from by repeat (first |(with_reducible first | exact HI0.out | apply jc.alloc | apply jc.drewN | apply jc.drew | apply jc.jeb | refine jc.far ?_ NB0_673.out _) | exact HI0.out))):g≠gb674));have NB674_0:=am ((by rw [hg];exact Nat.ne_of_gt (jc.lt (show jc w0 _ g s0_0 s0_1 from by repeat (first |(with_reducible first | exact HI0.out | apply jc.alloc | apply jc.drewN | apply jc.drew | apply jc.jeb | refine jc.far ?_ NB0_673.out _) | exact HI0.out))):gb674≠g));replace BK673:=am (je (g:=gb673) (o:=.cells #[.slice none 0 0] 37 (0,0)) (kq BK673.out) hb);replace HK:=am (jd.trans (by repeat (first |(with_reducible first | exact HK.out | apply jd.set_ | apply jga | apply jV | apply jha | refine jK ?_ GW673.out _) | exact HK.out)) (jd.of_below hb g none) (.inl rfl));replace HB:=am (jf (by repeat (first |(with_reducible first | exact HB.out | apply jw | apply jo | apply jr | refine jm ?_ (jc.ge HI0.out) | refine jm ?_ GE673.out) | exact HB.out)) hb);replace HI0:=am (jc.below (by repeat (first |(with_reducible first | exact HI0.out | apply jc.alloc | apply jc.drewN | apply jc.drew | apply jc.jeb | refine jc.far ?_ NB0_673.out _) | exact HI0.out)) hb);clear hb hbox hg) |((with_reducible refine jy (f:=61) rfl ?_);refine gL (some 9) Try.func61 #[.pointer (some ⟨g,0,none⟩)] ?_;(with_reducible refine (jJ.calls k g s0_0 s0_1 t675 t678 t681 w0 _ ?side1 ?side2 A2.out).mono ?_);(case side1=>exact Y158);(case side2=>exact Y159);rintro e w6 ⟨v676,v679,rfl,ho0,ho1,hi,hb,hk⟩;refine ⟨_,rfl,?_⟩;have HO677:=am (Kd.jia ho0 (jba (w:=w) (g:=g) (row:=none) (Y99)));have HO680:=am (Kd.jia ho1 (jba (w:=w) (g:=g) (row:=none) (Y99)));replace BK673:=am (jd.blk hk (g':=gb673) (o:=.cells #[.slice none 0 0] 37 (0,0)) (kq BK673.out) NB673_0.out (by simp));replace BK674:=am (jd.blk hk (g':=gb674) (o:=.cells #[.slice none 0 0] 32 (0,0)) (kq BK674.out) NB674_0.out (by simp));replace HK:=am (jd.trans (Y99) hk (.inl rfl));replace HB:=am (hb);replace HI0:=am (hi);(try clear hb);(try clear hb2);(try clear hk);(try clear hi);(try clear ho0);(try clear ho1)) |((with_reducible refine jD (N:=5) rfl ?_);refine bE (N:=5) (cs:=#[.slice none 0 0]) (t:=37) ?_;intro gb682 hg w7 hbox hb;have BK682:=am (hbox);have GW682:=am ((Y160:w.heap.size≤gb682));have GE682:=am ((Nat.le_trans HW0.out (Y160:w.heap.size≤gb682):w0.heap.size≤gb682));have NB673_682:=am ((Y118:gb673≠gb682));have NB682_673:=am ((Y119:gb682≠gb673));have NB674_682:=am ((by rw [hg];exact Nat.ne_of_lt (jca (g:=gb674) (o:=.cells #[.slice none 0 0] 32 (0,0)) (kq BK674.out)):gb674≠gb682));have NB682_674:=am ((by rw [hg];exact Nat.ne_of_gt (jca (g:=gb674) (o:=.cells #[.slice none 0 0] 32 (0,0)) (kq BK674.out)):gb682≠gb674));have NB0_682:=am ((by rw [hg];exact Nat.ne_of_lt (jc.lt (show jc w0 _ g s0_0 t681 from by repeat (first |(with_reducible first | exact HI0.out | apply jc.alloc | apply jc.drewN | apply jc.drew | apply jc.jeb | refine jc.far ?_ NB0_673.out _ | refine jc.far ?_ NB0_674.out _) | exact HI0.out))):g≠gb682));have NB682_0:=am ((by rw [hg];exact Nat.ne_of_gt (jc.lt (show jc w0 _ g s0_0 t681 from by repeat (first |(with_reducible first | exact HI0.out | apply jc.alloc | apply jc.drewN | apply jc.drew | apply jc.jeb | refine jc.far ?_ NB0_673.out _ | refine jc.far ?_ NB0_674.out _) | exact HI0.out))):gb682≠g));replace HO677:=am (Kd.jX (rq HO677.out) hb);replace HO680:=am (Kd.jX (rq HO680.out) hb);replace BK673:=am (je (g:=gb673) (o:=.cells #[.slice none 0 0] 37 (0,0)) (kq BK673.out) hb);replace BK674:=am (je (g:=gb674) (o:=.cells #[.slice none 0 0] 32 (0,0)) (kq BK674.out) hb);replace HK:=am (jd.trans (Y99) (jd.of_below hb g none) (.inl rfl));replace HB:=am (jf (Y159) hb);replace HI0:=am (jc.below (Y158) hb);clear hb hbox hg) |((with_reducible refine jD (N:=6) rfl ?_);refine bE (N:=6) (cs:=#[.slice none 0 0]) (t:=32) ?_;intro gb683 hg w8 hbox hb;have BK683:=am (hbox);have GW683:=am ((Y161:w.heap.size≤gb683));have GE683:=am ((Nat.le_trans HW0.out (Y161:w.heap.size≤gb683):w0.heap.size≤gb683));have NB673_683:=am ((Y118:gb673≠gb683));have NB683_673:=am ((Y119:gb683≠gb673));have NB674_683:=am ((by rw [hg];exact Nat.ne_of_lt (jca (g:=gb674) (o:=.cells #[.slice none 0 0] 32 (0,0)) (kq BK674.out)):gb674≠gb683));have NB683_674:=am ((by rw [hg];exact Nat.ne_of_gt (jca (g:=gb674) (o:=.cells #[.slice none 0 0] 32 (0,0)) (kq BK674.out)):gb683≠gb674));have NB682_683:=am ((by rw [hg];exact Nat.ne_of_lt (jca (g:=gb682) (o:=.cells #[.slice none 0 0] 37 (0,0)) (kq BK682.out)):gb682≠gb683));have NB683_682:=am ((by rw [hg];exact Nat.ne_of_gt (jca (g:=gb682) (o:=.cells #[.slice none 0 0] 37 (0,0)) (kq BK682.out)):gb683≠gb682));have NB0_683:=am ((by rw [hg];exact Nat.ne_of_lt (jc.lt (show jc w0 _ g s0_0 t681 from by repeat (first |(with_reducible first | exact HI0.out | apply jc.alloc | apply jc.drewN | apply jc.drew | apply jc.jeb | refine jc.far ?_ NB0_673.out _ | refine jc.far ?_ NB0_674.out _ | refine jc.far ?_ NB0_682.out _) | exact HI0.out))):g≠gb683));have NB683_0:=am ((by rw [hg];exact Nat.ne_of_gt (jc.lt (show jc w0 _ g s0_0 t681 from by repeat (first |(with_reducible first | exact HI0.out | apply jc.alloc | apply jc.drewN | apply jc.drew | apply jc.jeb | refine jc.far ?_ NB0_673.out _ | refine jc.far ?_ NB0_674.out _ | refine jc.far ?_ NB0_682.out _) | exact HI0.out))):gb683≠g));replace HO677:=am (Kd.jX (rq HO677.out) hb);replace HO680:=am (Kd.jX (rq HO680.out) hb);replace BK673:=am (je (g:=gb673) (o:=.cells #[.slice none 0 0] 37 (0,0)) (kq BK673.out) hb);replace BK674:=am (je (g:=gb674) (o:=.cells #[.slice none 0 0] 32 (0,0)) (kq BK674.out) hb);replace BK682:=am (je (g:=gb682) (o:=.cells #[.slice none 0 0] 37 (0,0)) (kq BK682.out) hb);replace HK:=am (jd.trans (by repeat (first |(with_reducible first | exact HK.out | apply jd.set_ | apply jga | apply jV | apply jha | refine jK ?_ GW673.out _ | refine jK ?_ GW674.out _ | refine jK ?_ GW682.out _) | exact HK.out)) (jd.of_below hb g none) (.inl rfl));replace HB:=am (jf (by repeat (first |(with_reducible first | exact HB.out | apply jw | apply jo | apply jr | refine jm ?_ (jc.ge HI0.out) | refine jm ?_ GE673.out | refine jm ?_ GE674.out | refine jm ?_ GE682.out) | exact HB.out)) hb);replace HI0:=am (jc.below (by repeat (first |(with_reducible first | exact HI0.out | apply jc.alloc | apply jc.drewN | apply jc.drew | apply jc.jeb | refine jc.far ?_ NB0_673.out _ | refine jc.far ?_ NB0_674.out _ | refine jc.far ?_ NB0_682.out _) | exact HI0.out)) hb);clear hb hbox hg;obtain ⟨Ao9,co9,eo9⟩:=Kd.jZ HO677.out;subst eo9;have hnb10:=NB682_673.out;have hnc10:=NB673_682.out;have hnb11:=NB682_674.out;have hnc11:=NB674_682.out;have hnb12:=NB682_683.out;have hnc12:=NB683_682.out;have hnb13:=NB682_0.out;have hnc13:=NB0_682.out;have hcz14_0:=bc0 BK682.out;have hfz14_0:=jb BK682.out 0;obtain ⟨Ao15,co15,eo15⟩:=Kd.jZ HO680.out;subst eo15;have hnb16:=NB683_673.out;have hnc16:=NB673_683.out;have hnb17:=NB683_674.out;have hnc17:=NB674_683.out;have hnb18:=NB683_0.out;have hnc18:=NB0_683.out;have hcz19_0:=bc0 BK683.out;have hfz19_0:=jb BK683.out 0))
 have n0_:jC (Kd.R k94 94 ((w8.setCell ⟨gb682,0,none⟩ (.slice Ao9 t675.length co9)).setCell ⟨gb683,0,none⟩ (.slice Ao15 t678.length co15)) w.heap.size (fun _=>True) (.slice Ao9 t675.length co9) t675):=⟨by (with_reducible repeat (first | apply Kd.jU | apply Kd.jW | apply Kd.jS));exact Kd.jH (Kd.jra (p:=⟨gb683,0,none⟩) (Kd.jra (p:=⟨gb682,0,none⟩) (Kd.jN (Kd.jN HO677.out BK682.out (by decide)) BK683.out (by decide)) (fun _ hk=>hk.1.2) (.slice Ao9 t675.length co9)) (fun _ hk=>hk.2) (.slice Ao15 t678.length co15)) (fun _ hk=>trivial)⟩
 have n1_:jC (Kd.R k54 54 ((w8.setCell ⟨gb682,0,none⟩ (.slice Ao9 t675.length co9)).setCell ⟨gb683,0,none⟩ (.slice Ao15 t678.length co15)) w.heap.size (fun _=>True) (.slice Ao15 t678.length co15) t678):=⟨by (with_reducible repeat (first | apply Kd.jU | apply Kd.jW | apply Kd.jS));exact Kd.jH (Kd.jra (p:=⟨gb683,0,none⟩) (Kd.jra (p:=⟨gb682,0,none⟩) (Kd.jN (Kd.jN HO680.out BK682.out (by decide)) BK683.out (by decide)) (fun _ hk=>hk.1.2) (.slice Ao9 t675.length co9)) (fun _ hk=>hk.2) (.slice Ao15 t678.length co15)) (fun _ hk=>trivial)⟩
 have n2_:jC (((w8.setCell ⟨gb682,0,none⟩ (.slice Ao9 t675.length co9)).setCell ⟨gb683,0,none⟩ (.slice Ao15 t678.length co15)).heap[gb673]?=some (.cells #[.slice none 0 0] 37 (0,0))):=⟨by (with_reducible repeat (first | refine jh ?_ _ | refine jg ?_ | refine jk ?_ _));refine jO ?_ NB673_683.out _;(with_reducible repeat (first | refine jh ?_ _ | refine jg ?_ | refine jk ?_ _));refine jO ?_ NB673_682.out _;(with_reducible repeat (first | refine jh ?_ _ | refine jg ?_ | refine jk ?_ _));exact BK673.out⟩
 have n3_:jC (((w8.setCell ⟨gb682,0,none⟩ (.slice Ao9 t675.length co9)).setCell ⟨gb683,0,none⟩ (.slice Ao15 t678.length co15)).heap[gb674]?=some (.cells #[.slice none 0 0] 32 (0,0))):=⟨by (with_reducible repeat (first | refine jh ?_ _ | refine jg ?_ | refine jk ?_ _));refine jO ?_ NB674_683.out _;(with_reducible repeat (first | refine jh ?_ _ | refine jg ?_ | refine jk ?_ _));refine jO ?_ NB674_682.out _;(with_reducible repeat (first | refine jh ?_ _ | refine jg ?_ | refine jk ?_ _));exact BK674.out⟩
 have n4_:jC (((w8.setCell ⟨gb682,0,none⟩ (.slice Ao9 t675.length co9)).setCell ⟨gb683,0,none⟩ (.slice Ao15 t678.length co15)).heap[gb682]?=some (.cells #[.slice Ao9 t675.length co9] 37 (0,0))):=⟨by (with_reducible repeat (first | refine jh ?_ _ | refine jg ?_ | refine jk ?_ _));refine jO ?_ NB682_683.out _;(with_reducible repeat (first | refine jh ?_ _ | refine jg ?_ | refine jk ?_ _));refine jya (cs:=#[.slice none 0 0]) ?_ 0 _ rfl;(with_reducible repeat (first | refine jh ?_ _ | refine jg ?_ | refine jk ?_ _));exact BK682.out⟩
 have n5_:jC (((w8.setCell ⟨gb682,0,none⟩ (.slice Ao9 t675.length co9)).setCell ⟨gb683,0,none⟩ (.slice Ao15 t678.length co15)).heap[gb683]?=some (.cells #[.slice Ao15 t678.length co15] 32 (0,0))):=⟨by (with_reducible repeat (first | refine jh ?_ _ | refine jg ?_ | refine jk ?_ _));refine jya (cs:=#[.slice none 0 0]) ?_ 0 _ rfl;(with_reducible repeat (first | refine jh ?_ _ | refine jg ?_ | refine jk ?_ _));refine jO ?_ NB683_682.out _;(with_reducible repeat (first | refine jh ?_ _ | refine jg ?_ | refine jk ?_ _));exact BK683.out⟩
 have n6_:jC (jc w0 ((w8.setCell ⟨gb682,0,none⟩ (.slice Ao9 t675.length co9)).setCell ⟨gb683,0,none⟩ (.slice Ao15 t678.length co15)) g s0_0 t681):=⟨Y75⟩
 have n7_:jC (jd w ((w8.setCell ⟨gb682,0,none⟩ (.slice Ao9 t675.length co9)).setCell ⟨gb683,0,none⟩ (.slice Ao15 t678.length co15)) g none):=⟨Y120⟩
 have n8_:jC (Below w0.heap.size w0 ((w8.setCell ⟨gb682,0,none⟩ (.slice Ao9 t675.length co9)).setCell ⟨gb683,0,none⟩ (.slice Ao15 t678.length co15))):=⟨Y121⟩
 (try clear HO677)
 (try clear HO680)
 (try clear BK673)
 (try clear BK674)
 (try clear BK682)
 (try clear BK683)
 (try clear HI0)
 (try clear HK)
 (try clear HB)
 generalize ((w8.setCell ⟨gb682,0,none⟩ (.slice Ao9 t675.length co9)).setCell ⟨gb683,0,none⟩ (.slice Ao15 t678.length co15))=w20 at n0_ n1_ n2_ n3_ n4_ n5_ n6_ n7_ n8_ ⊢
 have HO677:=n0_
 have HO680:=n1_
 have BK673:=n2_
 have BK674:=n3_
 have BK682:=n4_
 have BK683:=n5_
 have HI0:=n6_
 have HK:=n7_
 have HB:=n8_
 clear n0_ n1_ n2_ n3_ n4_ n5_ n6_ n7_ n8_
 replace HO677:=am (Kd.jS HO677.out)
 replace HO680:=am (Kd.jS HO680.out)
 replace BK673:=am (jg BK673.out)
 replace BK674:=am (jg BK674.out)
 replace BK682:=am (jg BK682.out)
 replace BK683:=am (jg BK683.out)
 replace HI0:=am (jc.drew HI0.out)
 replace HK:=am (jV HK.out)
 replace HB:=am (jr HB.out)
 refine jLb (n:=8) (S:=fun w'=>w'.cell? ⟨gb682,0,none⟩=some (.slice Ao9 t675.length co9)∧w'.cell? ⟨gb683,0,none⟩=some (.slice Ao15 t678.length co15)) (ds:=[]) #[false,false,false,false,false,false,false,false] (by kernel_rfl) rfl rfl ⟨(jG BK682.out 0).trans rfl,(jG BK683.out 0).trans rfl⟩ (fun hHeld=>?_);refine jyb jBa.tab2 jBa.bits2 (fun HT_ HW_=>?_)
 generalize w20.drew=w21 at HO677 HO680 BK673 BK674 BK682 BK683 HI0 HK HB hHeld ⊢
 refine pq (i:=2) (N:=some 14) #[false,false,true,false,false,false,false,false] ?_
 refine jzb (i:=0) (N:=some 12) (v:=?_) (a':=?_) #[true,false,true,false,false,false,false,false] rfl rfl (jgb HT_.out HW_.out (by kernel_rfl)) (fun _ _ _ h=>h) (Or.inl ⟨by rfl,?_⟩) hHeld ?_ ?_
 rotate_left
 ·rintro w' ⟨s0,s1⟩
  go_simp
  with_reducible rfl
 rotate_left
 ·exact sa
 refine jzb (i:=1) (N:=some 13) (v:=?_) (a':=?_) #[true,true,true,false,false,false,false,false] rfl rfl (jgb HT_.out HW_.out (by kernel_rfl)) (fun _ _ _ h=>h) (Or.inl ⟨by rfl,?_⟩) hHeld ?_ ?_
 rotate_left
 ·rintro w' ⟨s0,s1⟩
  go_simp
  with_reducible rfl
 rotate_left
 ·exact sa
 refine jzb (i:=3) (N:=some 15) (v:=?_) (a':=?_) #[true,true,true,true,false,false,false,false] rfl rfl (jgb HT_.out HW_.out (by kernel_rfl)) (fun _ _ _ h=>h) (Or.inl ⟨by rfl,?_⟩) hHeld ?_ ?_
 rotate_left
 ·rintro w' ⟨s0,s1⟩
  go_simp
  with_reducible rfl
 rotate_left
 ·exact sa
 refine one_ (i:=4) (N:=some 16) #[true,true,true,true,true,false,false,false] rfl rfl (jbb HT_.out (by kernel_rfl)) (by decide) (fun K hK=>?_)
 refine goes_ Try.func84 (by kernel_rfl) rfl #[.pointer (some ⟨g,0,none⟩), .agg #[.slice Ao15 t678.length co15]] (by rfl) rfl rfl (aq) ?_
 with_reducible refine (jrb.calls k g s0_0 t681 _ _ t678 t684 t685 w0 _ ?side1 ?side2 ?side3 ?side4 A3.out).mono ?_
 (case side1=>exact Y75)
 (case side2=>exact Y121)
 (case side3=>exact Kd.jEb (jc.apart (show jc w0 _ g s0_0 t681 from Y75) (rq HO680.out) (by decide)) (fun _ h_=>h_.2))
 (case side4=>exact (Kd.jB HO680.out).2.1)
 rintro e w22 ⟨rfl,hi,hb,hk⟩
 refine ⟨_,rfl,?_⟩
 replace BK673:=am (jd.blk hk (g':=gb673) (o:=.cells #[.slice none 0 0] 37 (0,0)) (kq BK673.out) NB673_0.out (by simp))
 replace BK674:=am (jd.blk hk (g':=gb674) (o:=.cells #[.slice none 0 0] 32 (0,0)) (kq BK674.out) NB674_0.out (by simp))
 replace HO677:=am (Kd.jH (Kd.jla (jc.apart (show jc w0 _ g s0_0 t681 from Y75) (rq HO677.out) (by decide)) hk (fun _ h=>h.2)) (fun _ h=>h.1))
 replace HO680:=am (Kd.jH (Kd.jla (jc.apart (show jc w0 _ g s0_0 t681 from Y75) (rq HO680.out) (by decide)) hk (fun _ h=>h.2)) (fun _ h=>h.1))
 replace BK682:=am (jd.blk hk (g':=gb682) (o:=.cells #[.slice Ao9 t675.length co9] 37 (0,0)) (kq BK682.out) NB682_0.out (by simp))
 replace BK683:=am (jd.blk hk (g':=gb683) (o:=.cells #[.slice Ao15 t678.length co15] 32 (0,0)) (kq BK683.out) NB683_0.out (by simp))
 replace HK:=am (jd.trans (Y120) hk (.inl rfl))
 replace HB:=am (hb)
 replace HI0:=am (hi)
 (try clear hb)
 (try clear hb2)
 (try clear hk)
 (try clear hi)
 refine hK.out _ _ ⟨(jG BK682.out 0).trans rfl,(jG BK683.out 0).trans rfl⟩ (fun hHeld=>?_)
 clear hK K
 refine jJb (a':=?_) ?_ ?_
 rotate_left
 ·show Act.put _ (some 16) _=_
  simp only [Act.put,List.setIfInBounds_toArray,List.set_cons_zero,List.set_cons_succ,job,jsb]
  rfl
 refine one_ (i:=5) (N:=none) #[true,true,true,true,true,true,false,false] rfl rfl (jbb HT_.out (by kernel_rfl)) (by decide) (fun K hK=>?_)
 have hs23:w22.cell? ⟨gb673,0,none⟩=some (.slice none 0 0):=(jG BK673.out 0).trans rfl
 have hfs23:=jb BK673.out 0
 have hns23_1:=NB674_673.out
 have hns23_2:=NB682_673.out
 have hns23_3:=NB683_673.out
 have hms23_1:=NB673_674.out
 have hms23_2:=NB673_682.out
 have hms23_3:=NB673_683.out
 refine jPb (w1:=?_) (by rfl) rfl ?_ ?_
 rotate_left
 ·go_simp
  rfl
 refine hK.out _ _ ⟨((cell_far (p:=⟨gb673,_,none⟩) NB682_673.out _).trans (hHeld.1)),((cell_far (p:=⟨gb673,_,none⟩) NB683_673.out _).trans (hHeld.2))⟩ (fun hHeld=>?_)
 clear hK K
 refine one_ (i:=6) (N:=none) #[true,true,true,true,true,true,true,false] rfl rfl (jbb HT_.out (by kernel_rfl)) (by decide) (fun K hK=>?_)
 have hs24:w22.cell? ⟨gb674,0,none⟩=some (.slice none 0 0):=(jG BK674.out 0).trans rfl
 have hfs24:=jb BK674.out 0
 have hns24_0:=NB673_674.out
 have hns24_2:=NB682_674.out
 have hns24_3:=NB683_674.out
 have hms24_0:=NB674_673.out
 have hms24_2:=NB674_682.out
 have hms24_3:=NB674_683.out
 refine jPb (w1:=?_) (by rfl) rfl ?_ ?_
 rotate_left
 ·go_simp
  rfl
 refine hK.out _ _ ⟨((cell_far (p:=⟨gb674,_,none⟩) NB682_674.out _).trans (hHeld.1)),((cell_far (p:=⟨gb674,_,none⟩) NB683_674.out _).trans (hHeld.2))⟩ (fun hHeld=>?_)
 clear hK K
 refine pq (i:=7) (N:=some 4) #[true,true,true,true,true,true,true,true] ?_
 refine done_ (jUb HT_.out (by kernel_rfl)) ?_
 try go_wp2
 refine bodyPost_ret (results_list (rs:=[.cell 2 37, .cell 3 32, .tmp 4]) rfl (by simp) (.cell gb673 37 #[.slice Ao9 t675.length co9] (0,0) _ rfl (by (with_reducible repeat (first | refine jh ?_ _ | refine jg ?_ | refine jk ?_ _));refine jO ?_ NB673_674.out _;(with_reducible repeat (first | refine jh ?_ _ | refine jg ?_ | refine jk ?_ _));refine jya (cs:=#[.slice none 0 0]) ?_ 0 _ rfl;(with_reducible repeat (first | refine jh ?_ _ | refine jg ?_ | refine jk ?_ _));exact BK673.out) Try.underlying37 rfl (by kernel_rfl) (.cell gb674 32 #[.slice Ao15 t678.length co15] (0,0) _ rfl (by (with_reducible repeat (first | refine jh ?_ _ | refine jg ?_ | refine jk ?_ _));refine jya (cs:=#[.slice none 0 0]) ?_ 0 _ rfl;(with_reducible repeat (first | refine jh ?_ _ | refine jg ?_ | refine jk ?_ _));refine jO ?_ NB674_673.out _;(with_reducible repeat (first | refine jh ?_ _ | refine jg ?_ | refine jk ?_ _));exact BK674.out) Try.underlying32 rfl (by kernel_rfl) (.tmp .nil)))) rfl ?_
 exact ⟨_,_,Y1,by (with_reducible repeat (first | apply Kd.jU | apply Kd.jW | apply Kd.jS));exact Kd.jH (Kd.jra (p:=⟨gb674,0,none⟩) (Kd.jra (p:=⟨gb673,0,none⟩) (Kd.jN (Kd.jN HO677.out BK673.out (by decide)) BK674.out (by decide)) (fun _ hk=>hk.1.2) (.slice Ao9 t675.length co9)) (fun _ hk=>hk.2) (.slice Ao15 t678.length co15)) (fun _ hk=>trivial),by (with_reducible repeat (first | apply Kd.jU | apply Kd.jW | apply Kd.jS));exact Kd.jH (Kd.jra (p:=⟨gb674,0,none⟩) (Kd.jra (p:=⟨gb673,0,none⟩) (Kd.jN (Kd.jN HO680.out BK673.out (by decide)) BK674.out (by decide)) (fun _ hk=>hk.1.2) (.slice Ao9 t675.length co9)) (fun _ hk=>hk.2) (.slice Ao15 t678.length co15)) (fun _ hk=>trivial),Y75,Y121,Y120⟩
def jib.f (l0 : List Int) : Option (List Int × Int) := if (l0.length : Int) > 2000 then (if 2000 ≤ (l0.length : Int) then (some (l0.take 2000, 0)) else (none)) else (some (l0, 0))
set_option maxHeartbeats 8000000 in
set_option maxRecDepth 100000 in
theorem jib.calls (A0 : Option Addr) (c0 : Nat) (l0 : List Int) (r1 : List Int) (r2 : Int) (w0 w : World) (hB : Below w0.heap.size w0 w) (hr0 : Kd.C (Kd.int .u8) w0 A0 l0.length l0) (hc0 : l0.length ≤ c0) (h : jib.f l0 = some (r1, r2)) :
  Calls Try.prog 56 #[.slice A0 l0.length c0] w fun e w'=>∃ g_:Nat,e=.returned (.pointer (some ⟨g_,0,none⟩))∧jc w0 w' g_ r1 r2∧Below w0.heap.size w0 w'∧Below w.heap.size w w':=by
 have hu106:=Try.underlying106
 have HR0:=am hr0
 have HC0:=am hc0
 clear hr0 hc0
 have HBW:=am (Below.refl w.heap.size w)
 have HW0:=am hB.size
 have HB:=am hB
 clear hB
 have H:(if (l0.length:Int) > 2000 then (if 2000≤(l0.length:Int) then (some (l0.take 2000,0)) else (none)) else (some (l0,0)))=some (r1,r2):=h
 clear h
 by_cases c2:(l0.length:Int) > 2000
 ·rw [if_pos c2] at H
  have c2b0:decide (2000<(l0.length:Int))=true:=dzT c2
  have c2b1:decide (2000<l0.length)=true:=dzT (by omega)
  clear c2
  by_cases c3:2000≤(l0.length:Int)
  ·rw [if_pos c3] at H
   have c3b0:=ezT c3
   have c3b1:decide (2000≤(l0.length:Int))=true:=dzT c3
   clear c3
   simp only [Option.some.injEq,Prod.mk.injEq] at H
   obtain ⟨rfl,rfl⟩:=H
   obtain ⟨i04,hi04,_,hsz4,_⟩:=info_parts info5
   obtain ⟨hcut4,hA4,hC4⟩:=print_take_of (P:=Try.prog) (Value.int .u8) 0 49 5 .i64 Try.underlying49 hi04 hsz4 A0 c0 l0 2000 (by omega) (ozD (uq)) HC0.out
   have HR686:=am (Kd.C_of_reads (h1:=fun _=>rfl) (hA4 _ (Kd.reads_of_C HR0.out)))
   have HC686:=am hC4
   clear hA4 hC4 hi04 hsz4
   go_enter Try.func56,Try.ntmps56
   go_wp2_with (first |((with_reducible refine jD (N:=10) rfl ?_);refine bE (N:=10) (cs:=#[.slice A0 (l0.take 2000).length c0, .int .i64 0]) (t:=106) ?_;intro gb687 hg w5 hbox hb;have BK687:=am (hbox);have GW687:=am ((Y100:w.heap.size≤gb687));have GE687:=am ((Nat.le_trans HW0.out (Y100:w.heap.size≤gb687):w0.heap.size≤gb687));replace HBW:=am (jf HBW.out hb);replace HB:=am (jf (bq) hb);clear hb hbox hg))
   go_ret
   exact ⟨_,rfl,(show jc w0 _ gb687 (l0.take 2000) 0 from ⟨_,_,kq BK687.out,GE687.out,HR686.out⟩),by repeat (first |(with_reducible first | exact HB.out | apply jw | apply jo | apply jr | refine jm ?_ GE687.out) | exact HB.out),by repeat (first |(with_reducible first | exact HBW.out | apply jw | apply jo | apply jr | refine jm ?_ GW687.out) | exact HBW.out)⟩
  ·rw [if_neg c3] at H
   exact absurd H (by simp)
 ·rw [if_neg c2] at H
  have c2b0:decide (2000<(l0.length:Int))=false:=dzF c2
  have c2b1:decide (2000<l0.length)=false:=dzF (by omega)
  clear c2
  simp only [Option.some.injEq,Prod.mk.injEq] at H
  obtain ⟨rfl,rfl⟩:=H
  go_enter Try.func56,Try.ntmps56
  go_wp2_with (first |((with_reducible refine jD (N:=10) rfl ?_);refine bE (N:=10) (cs:=#[.slice A0 l0.length c0, .int .i64 0]) (t:=106) ?_;intro gb688 hg w6 hbox hb;have BK688:=am (hbox);have GW688:=am ((Y100:w.heap.size≤gb688));have GE688:=am ((Nat.le_trans HW0.out (Y100:w.heap.size≤gb688):w0.heap.size≤gb688));replace HBW:=am (jf HBW.out hb);replace HB:=am (jf (bq) hb);clear hb hbox hg))
  go_ret
  exact ⟨_,rfl,(show jc w0 _ gb688 l0 0 from ⟨_,_,kq BK688.out,GE688.out,HR0.out⟩),by repeat (first |(with_reducible first | exact HB.out | apply jw | apply jo | apply jr | refine jm ?_ GE688.out) | exact HB.out),by repeat (first |(with_reducible first | exact HBW.out | apply jw | apply jo | apply jr | refine jm ?_ GW688.out) | exact HBW.out)⟩
def jSa.f (k : Nat) (l0 : List Int) : Option ((List (S94)) × (List (S54)) × Int) := (jib.f l0).bind fun bt758 => ((jBa.f k bt758.1 bt758.2).bind fun bt761 => (some (bt761.1, bt761.2.1, bt761.2.2.1)))
set_option maxHeartbeats 8000000 in
set_option maxRecDepth 100000 in
theorem jSa.calls (k : Nat) (A0 : Option Addr) (c0 : Nat) (l0 : List Int) (r1 : List (S94)) (r2 : List (S54)) (r3 : Int) (w : World) (hr0 : Kd.C (Kd.int .u8) w A0 l0.length l0) (hc0 : l0.length ≤ c0) (h : jSa.f k l0 = some (r1, r2, r3)) :
  Calls Try.prog 30 #[.slice A0 l0.length c0] w fun e w'=>∃ v0_ v1_:Value,e=.returned (.tuple #[.agg #[v0_], .agg #[v1_], .int .i64 r3])∧Kd.R k94 94 w' w.heap.size (fun _=>True) v0_ r1∧Kd.R k54 54 w' w.heap.size (fun _=>True) v1_ r2∧Below w.heap.size w w':=by
 have hu37:=Try.underlying37
 have hu32:=Try.underlying32
 have HR0:=am hr0
 have HC0:=am hc0
 clear hr0 hc0
 have HB:=am (Below.refl w.heap.size w)
 have H:((jib.f l0).bind fun bt758=>((jBa.f k bt758.1 bt758.2).bind fun bt761=>(some (bt761.1,bt761.2.1,bt761.2.2.1))))=some (r1,r2,r3):=h
 clear h
 replace H:=bzS H
 obtain ⟨⟨t758,t759⟩,A20,H⟩:=H
 replace H:((jBa.f k t758 t759).bind fun bt761=>(some (bt761.1,bt761.2.1,bt761.2.2.1)))=some (r1,r2,r3):=H
 have A2:=am A20
 clear A20
 replace H:=bzS H
 obtain ⟨⟨t761,t764,t767,t768⟩,A30,H⟩:=H
 replace H:(some (t761,t764,t767))=some (r1,r2,r3):=H
 have A3:=am A30
 clear A30
 simp only [Option.some.injEq,Prod.mk.injEq] at H
 obtain ⟨rfl,rfl,rfl⟩:=H
 go_enter Try.func30,Try.ntmps30
 go_wp2_with (first |((with_reducible refine jD (N:=2) rfl ?_);refine bE (N:=2) (cs:=#[.slice none 0 0]) (t:=37) ?_;intro gb756 hg w4 hbox hb;have BK756:=am (hbox);have GW756:=am ((Y0:w.heap.size≤gb756));have GE756:=am ((Y0:w.heap.size≤gb756));replace HB:=am (jf (bq) hb);clear hb hbox hg) |((with_reducible refine jD (N:=3) rfl ?_);refine bE (N:=3) (cs:=#[.slice none 0 0]) (t:=32) ?_;intro gb757 hg w5 hbox hb;have BK757:=am (hbox);have GW757:=am ((Y162:w.heap.size≤gb757));have GE757:=am ((Y162:w.heap.size≤gb757));have NB756_757:=am ((by rw [hg];exact Nat.ne_of_lt (jca (g:=gb756) (o:=.cells #[.slice none 0 0] 37 (0,0)) (kq BK756.out)):gb756≠gb757));have NB757_756:=am ((by rw [hg];exact Nat.ne_of_gt (jca (g:=gb756) (o:=.cells #[.slice none 0 0] 37 (0,0)) (kq BK756.out)):gb757≠gb756));replace BK756:=am (je (g:=gb756) (o:=.cells #[.slice none 0 0] 37 (0,0)) (kq BK756.out) hb);replace HB:=am (jf (by repeat (first |(with_reducible first | exact HB.out | apply jw | apply jo | apply jr | refine jm ?_ GE756.out) | exact HB.out)) hb);clear hb hbox hg) |((with_reducible refine jy (f:=56) rfl ?_);refine gL (some 6) Try.func56 #[.slice A0 l0.length c0] ?_;(with_reducible refine (jib.calls _ _ l0 t758 t759 w _ ?side1 ?side2 ?side3 A2.out).mono ?_);(case side1=>repeat (first |(with_reducible first | exact HB.out | apply jw | apply jo | apply jr | refine jm ?_ GE756.out | refine jm ?_ GE757.out) | exact HB.out));(case side2=>exact HR0.out);(case side3=>exact HC0.out);rintro e w6 ⟨g760,rfl,hi,hb,hb2⟩;refine ⟨_,rfl,?_⟩;have HI760:=am (hi);have NB760_756:=am (jc.ne_blk hi (je (g:=gb756) (o:=.cells #[.slice none 0 0] 37 (0,0)) (kq BK756.out) hb2) (by decide));have NB756_760:=am (Ne.symm (jc.ne_blk hi (je (g:=gb756) (o:=.cells #[.slice none 0 0] 37 (0,0)) (kq BK756.out) hb2) (by decide)));have NB760_757:=am (jc.ne_blk hi (je (g:=gb757) (o:=.cells #[.slice none 0 0] 32 (0,0)) (kq BK757.out) hb2) (by decide));have NB757_760:=am (Ne.symm (jc.ne_blk hi (je (g:=gb757) (o:=.cells #[.slice none 0 0] 32 (0,0)) (kq BK757.out) hb2) (by decide)));replace BK756:=am (je (g:=gb756) (o:=.cells #[.slice none 0 0] 37 (0,0)) (kq BK756.out) hb2);replace BK757:=am (je (g:=gb757) (o:=.cells #[.slice none 0 0] 32 (0,0)) (kq BK757.out) hb2);replace HB:=am (hb);(try clear hb);(try clear hb2);(try clear hk);(try clear hi)) |((with_reducible refine jy (f:=55) rfl ?_);refine gL (some 7) Try.func55 #[.pointer (some ⟨g760,0,none⟩)] ?_;(with_reducible refine (jBa.calls k g760 t758 t759 t761 t764 t767 t768 w _ ?side1 ?side2 A3.out).mono ?_);(case side1=>repeat (first |(with_reducible first | exact HI760.out | apply jc.alloc | apply jc.drewN | apply jc.drew | apply jc.jeb | refine jc.far ?_ NB760_756.out _ | refine jc.far ?_ NB760_757.out _) | exact HI760.out));(case side2=>exact Y101);rintro e w7 ⟨v762,v765,rfl,ho0,ho1,hi,hb,hk⟩;refine ⟨_,rfl,?_⟩;have HO763:=am (Kd.jia ho0 (jR (Y101)));have HO766:=am (Kd.jia ho1 (jR (Y101)));replace BK756:=am (jd.blk hk (g':=gb756) (o:=.cells #[.slice none 0 0] 37 (0,0)) (kq BK756.out) NB756_760.out (by simp));replace BK757:=am (jd.blk hk (g':=gb757) (o:=.cells #[.slice none 0 0] 32 (0,0)) (kq BK757.out) NB757_760.out (by simp));replace HB:=am (hb);replace HI760:=am (hi);(try clear hb);(try clear hb2);(try clear hk);(try clear hi);(try clear ho0);(try clear ho1);obtain ⟨Ao8,co8,eo8⟩:=Kd.jZ HO763.out;subst eo8;have hnb9:=NB756_757.out;have hnc9:=NB757_756.out;have hnb10:=NB756_760.out;have hnc10:=NB760_756.out;have hcz11_0:=bc0 BK756.out;have hfz11_0:=jb BK756.out 0;obtain ⟨Ao12,co12,eo12⟩:=Kd.jZ HO766.out;subst eo12;have hnb13:=NB757_760.out;have hnc13:=NB760_757.out;have hcz14_0:=bc0 BK757.out;have hfz14_0:=jb BK757.out 0))
 refine bodyPost_ret (results_list (rs:=[.cell 2 37, .cell 3 32, .tmp 4]) rfl (by simp) (.cell gb756 37 #[.slice Ao8 t761.length co8] (0,0) _ rfl (by (with_reducible repeat (first | refine jh ?_ _ | refine jg ?_ | refine jk ?_ _));refine jO ?_ NB756_757.out _;(with_reducible repeat (first | refine jh ?_ _ | refine jg ?_ | refine jk ?_ _));refine jya (cs:=#[.slice none 0 0]) ?_ 0 _ rfl;(with_reducible repeat (first | refine jh ?_ _ | refine jg ?_ | refine jk ?_ _));exact BK756.out) Try.underlying37 rfl (by kernel_rfl) (.cell gb757 32 #[.slice Ao12 t764.length co12] (0,0) _ rfl (by (with_reducible repeat (first | refine jh ?_ _ | refine jg ?_ | refine jk ?_ _));refine jya (cs:=#[.slice none 0 0]) ?_ 0 _ rfl;(with_reducible repeat (first | refine jh ?_ _ | refine jg ?_ | refine jk ?_ _));refine jO ?_ NB757_756.out _;(with_reducible repeat (first | refine jh ?_ _ | refine jg ?_ | refine jk ?_ _));exact BK757.out) Try.underlying32 rfl (by kernel_rfl) (.tmp .nil)))) rfl ?_
 exact ⟨_,_,Y1,by (with_reducible repeat (first | apply Kd.jU | apply Kd.jW | apply Kd.jS));exact Kd.jH (Kd.jra (p:=⟨gb757,0,none⟩) (Kd.jra (p:=⟨gb756,0,none⟩) (Kd.jN (Kd.jN HO763.out BK756.out (by decide)) BK757.out (by decide)) (fun _ hk=>hk.1.2) (.slice Ao8 t761.length co8)) (fun _ hk=>hk.2) (.slice Ao12 t764.length co12)) (fun _ hk=>trivial),by (with_reducible repeat (first | apply Kd.jU | apply Kd.jW | apply Kd.jS));exact Kd.jH (Kd.jra (p:=⟨gb757,0,none⟩) (Kd.jra (p:=⟨gb756,0,none⟩) (Kd.jN (Kd.jN HO766.out BK756.out (by decide)) BK757.out (by decide)) (fun _ hk=>hk.1.2) (.slice Ao8 t761.length co8)) (fun _ hk=>hk.2) (.slice Ao12 t764.length co12)) (fun _ hk=>trivial),Y101⟩
def jOa.f (l0_0 : List (S54)) (a1 : Int) : Option (Int) := if 0 ≤ a1 then (if a1 < (l0_0.length : Int) then (if ((ja l0_0 a1).f2) ≥ 0 then (some ((ja l0_0 a1).f2)) else (if (ja l0_0 a1).f4 = true then (some (-1)) else (some ((ja l0_0 a1).f3)))) else (none)) else (none)
set_option maxHeartbeats 8000000 in
set_option maxRecDepth 100000 in
theorem jOa.calls (A0_0 : Option Addr) (c0_0 : Nat) (l0_0 : List (S54)) (a1 : Int) (r : Int) (w : World) (hr0_0 : Kd.C k54 w A0_0 l0_0.length l0_0) (hc0_0 : l0_0.length ≤ c0_0) (h : jOa.f l0_0 a1 = some r) :
  Calls Try.prog 59 #[.agg #[.slice A0_0 l0_0.length c0_0], .int .i64 a1] w fun e w'=>e=.returned (.int .i64 r)∧Below w.heap.size w w':=by
 have hu32:=Try.underlying32
 have hu54:=Try.underlying54
 have HR0_0:=am hr0_0
 have HC0_0:=am hc0_0
 clear hr0_0 hc0_0
 have HB:=am (Below.refl w.heap.size w)
 have H:(if 0≤a1 then (if a1<(l0_0.length:Int) then (if ((ja l0_0 a1).f2)≥0 then (some ((ja l0_0 a1).f2)) else (if (ja l0_0 a1).f4=true then (some (-1)) else (some ((ja l0_0 a1).f3)))) else (none)) else (none))=some r:=h
 clear h
 by_cases c3:0≤a1
 ·rw [if_pos c3] at H
  have c3b0:decide (0≤a1)=true:=dzT c3
  clear c3
  by_cases c4:a1<(l0_0.length:Int)
  ·rw [if_pos c4] at H
   have c4b0:decide (a1<(l0_0.length:Int))=true:=dzT c4
   clear c4
   by_cases c5:((ja l0_0 a1).f2)≥0
   ·rw [if_pos c5] at H
    have c5b0:decide (0≤((ja l0_0 a1).f2))=true:=dzT c5
    clear c5
    obtain rfl:=Option.some.inj H
    go_enter Try.func59,Try.ntmps59
    go_wp2_with (first |((with_reducible refine jD (N:=2) rfl ?_);refine bE (N:=2) (cs:=#[.slice A0_0 l0_0.length c0_0]) (t:=32) ?_;intro gb769 hg w6 hbox hb;have BK769:=am (hbox);have GW769:=am ((Y0:w.heap.size≤gb769));have GE769:=am ((Y0:w.heap.size≤gb769));replace HB:=am (jf (bq) hb);clear hb hbox hg;have hcz7_0:=bc0 BK769.out;have hfz7_0:=jb BK769.out 0;have p770:0≤(a1:Int):=ozD (uq);have q770:a1<(l0_0.length:Int):=ozD (uq);obtain ⟨ad770,e770,hx770_0,hx770_1,hx770_2,hx770_3,hx770_4⟩:=jdb HR0_0.out a1 p770 q770;cases e770;replace hx770_0:=cb HB.out hx770_0;replace hx770_1:=cb HB.out hx770_1;replace hx770_2:=cb HB.out hx770_2;replace hx770_3:=cb HB.out hx770_3;replace hx770_4:=cb HB.out hx770_4;replace p770:=ezT p770;replace q770:=ezT q770) |((with_reducible refine jD (N:=5) rfl ?_);refine bE (N:=5) (cs:=#[.int .i64 0, .int .i64 0, .int .i64 0, .int .i64 0, .bool false]) (t:=54) ?_;intro gb771 hg w8 hbox hb;have BK771:=am (hbox);have GW771:=am ((Y76:w.heap.size≤gb771));have GE771:=am ((Y76:w.heap.size≤gb771));have NB769_771:=am ((Y122:gb769≠gb771));have NB771_769:=am ((Y123:gb771≠gb769));replace BK769:=am (je (g:=gb769) (o:=.cells #[.slice (some ad770) l0_0.length c0_0] 32 (0,0)) (kq BK769.out) hb);replace HB:=am (jf (Y124) hb);clear hb hbox hg;have hnb9:=NB771_769.out;have hnc9:=NB769_771.out;have hcz10_0:=bc0 BK771.out;have hcz10_1:=bc1 BK771.out;have hcz10_2:=bc2 BK771.out;have hcz10_3:=bc3 BK771.out;have hcz10_4:w8.cell? ⟨gb771,4,none⟩=some (.bool false):=(jG BK771.out 4).trans rfl;have hfz10_0:=jb BK771.out 0;have hfz10_1:=jb BK771.out 1;have hfz10_2:=jb BK771.out 2;have hfz10_3:=jb BK771.out 3;have hfz10_4:=jb BK771.out 4))
    go_ret
    exact ⟨Y1,Y125⟩
   ·rw [if_neg c5] at H
    have c5b0:decide (0≤((ja l0_0 a1).f2))=false:=dzF c5
    clear c5
    obtain ⟨bq11,hbq11⟩:∃ b_:Bool,b_=((ja l0_0 a1).f4):=⟨_,rfl⟩
    replace H:(if bq11=true then (some (-1)) else (some ((ja l0_0 a1).f3)))=some r:=by rw [← hbq11] at H;exact H
    have Nbq11:=am hbq11
    clear hbq11
    by_cases c12:bq11=true
    ·subst c12
     have H1:(some (-1))=some r:=by rw [if_pos rfl] at H;exact H
     clear H
     have H:=H1
     clear H1
     obtain rfl:=Option.some.inj H
     go_enter Try.func59,Try.ntmps59
     go_wp2_with (first |((with_reducible refine jD (N:=2) rfl ?_);refine bE (N:=2) (cs:=#[.slice A0_0 l0_0.length c0_0]) (t:=32) ?_;intro gb769 hg w13 hbox hb;have BK769:=am (hbox);have GW769:=am ((Y0:w.heap.size≤gb769));have GE769:=am ((Y0:w.heap.size≤gb769));replace HB:=am (jf (bq) hb);clear hb hbox hg;have hcz14_0:=bc0 BK769.out;have hfz14_0:=jb BK769.out 0;have p770:0≤(a1:Int):=ozD (uq);have q770:a1<(l0_0.length:Int):=ozD (uq);obtain ⟨ad770,e770,hx770_0,hx770_1,hx770_2,hx770_3,hx770_4⟩:=jdb HR0_0.out a1 p770 q770;(try rw [← Nbq11.out] at hx770_4);cases e770;replace hx770_0:=cb HB.out hx770_0;replace hx770_1:=cb HB.out hx770_1;replace hx770_2:=cb HB.out hx770_2;replace hx770_3:=cb HB.out hx770_3;replace hx770_4:=cb HB.out hx770_4;replace p770:=ezT p770;replace q770:=ezT q770) |((with_reducible refine jD (N:=5) rfl ?_);refine bE (N:=5) (cs:=#[.int .i64 0, .int .i64 0, .int .i64 0, .int .i64 0, .bool false]) (t:=54) ?_;intro gb771 hg w15 hbox hb;have BK771:=am (hbox);have GW771:=am ((Y76:w.heap.size≤gb771));have GE771:=am ((Y76:w.heap.size≤gb771));have NB769_771:=am ((Y122:gb769≠gb771));have NB771_769:=am ((Y123:gb771≠gb769));replace BK769:=am (je (g:=gb769) (o:=.cells #[.slice (some ad770) l0_0.length c0_0] 32 (0,0)) (kq BK769.out) hb);replace HB:=am (jf (Y124) hb);clear hb hbox hg;have hnb16:=NB771_769.out;have hnc16:=NB769_771.out;have hcz17_0:=bc0 BK771.out;have hcz17_1:=bc1 BK771.out;have hcz17_2:=bc2 BK771.out;have hcz17_3:=bc3 BK771.out;have hcz17_4:w15.cell? ⟨gb771,4,none⟩=some (.bool false):=(jG BK771.out 4).trans rfl;have hfz17_0:=jb BK771.out 0;have hfz17_1:=jb BK771.out 1;have hfz17_2:=jb BK771.out 2;have hfz17_3:=jb BK771.out 3;have hfz17_4:=jb BK771.out 4))
     go_ret
     exact ⟨Y1,Y125⟩
    ·replace c12:=Bool.eq_false_iff.mpr c12
     subst c12
     have H1:(some ((ja l0_0 a1).f3))=some r:=by rw [if_neg (show ¬ (false=true) by decide)] at H;exact H
     clear H
     have H:=H1
     clear H1
     obtain rfl:=Option.some.inj H
     go_enter Try.func59,Try.ntmps59
     go_wp2_with (first |((with_reducible refine jD (N:=2) rfl ?_);refine bE (N:=2) (cs:=#[.slice A0_0 l0_0.length c0_0]) (t:=32) ?_;intro gb769 hg w18 hbox hb;have BK769:=am (hbox);have GW769:=am ((Y0:w.heap.size≤gb769));have GE769:=am ((Y0:w.heap.size≤gb769));replace HB:=am (jf (bq) hb);clear hb hbox hg;have hcz19_0:=bc0 BK769.out;have hfz19_0:=jb BK769.out 0;have p770:0≤(a1:Int):=ozD (uq);have q770:a1<(l0_0.length:Int):=ozD (uq);obtain ⟨ad770,e770,hx770_0,hx770_1,hx770_2,hx770_3,hx770_4⟩:=jdb HR0_0.out a1 p770 q770;(try rw [← Nbq11.out] at hx770_4);cases e770;replace hx770_0:=cb HB.out hx770_0;replace hx770_1:=cb HB.out hx770_1;replace hx770_2:=cb HB.out hx770_2;replace hx770_3:=cb HB.out hx770_3;replace hx770_4:=cb HB.out hx770_4;replace p770:=ezT p770;replace q770:=ezT q770) |((with_reducible refine jD (N:=5) rfl ?_);refine bE (N:=5) (cs:=#[.int .i64 0, .int .i64 0, .int .i64 0, .int .i64 0, .bool false]) (t:=54) ?_;intro gb771 hg w20 hbox hb;have BK771:=am (hbox);have GW771:=am ((Y76:w.heap.size≤gb771));have GE771:=am ((Y76:w.heap.size≤gb771));have NB769_771:=am ((Y122:gb769≠gb771));have NB771_769:=am ((Y123:gb771≠gb769));replace BK769:=am (je (g:=gb769) (o:=.cells #[.slice (some ad770) l0_0.length c0_0] 32 (0,0)) (kq BK769.out) hb);replace HB:=am (jf (Y124) hb);clear hb hbox hg;have hnb21:=NB771_769.out;have hnc21:=NB769_771.out;have hcz22_0:=bc0 BK771.out;have hcz22_1:=bc1 BK771.out;have hcz22_2:=bc2 BK771.out;have hcz22_3:=bc3 BK771.out;have hcz22_4:w20.cell? ⟨gb771,4,none⟩=some (.bool false):=(jG BK771.out 4).trans rfl;have hfz22_0:=jb BK771.out 0;have hfz22_1:=jb BK771.out 1;have hfz22_2:=jb BK771.out 2;have hfz22_3:=jb BK771.out 3;have hfz22_4:=jb BK771.out 4))
     go_ret
     exact ⟨Y1,Y125⟩
  ·rw [if_neg c4] at H
   exact absurd H (by simp)
 ·rw [if_neg c3] at H
  exact absurd H (by simp)
def jcb.f (k : Nat) (l0_0 : List (S94)) (l1_0 : List (S54)) (a2 : Int) : Option (Int) := (jIa.f k l0_0 l1_0 (([a2] : List Int))).bind fun t777 => (if t777 = true then ((jOa.f l1_0 a2).bind fun t778 => (some t778)) else (some (-2)))
set_option maxHeartbeats 8000000 in
set_option maxRecDepth 100000 in
theorem jcb.calls (k : Nat) (A0_0 : Option Addr) (c0_0 : Nat) (l0_0 : List (S94)) (A1_0 : Option Addr) (c1_0 : Nat) (l1_0 : List (S54)) (a2 : Int) (r : Int) (w : World) (hr0_0 : Kd.C k94 w A0_0 l0_0.length l0_0) (hc0_0 : l0_0.length ≤ c0_0) (hr1_0 : Kd.C k54 w A1_0 l1_0.length l1_0) (hc1_0 : l1_0.length ≤ c1_0) (h : jcb.f k l0_0 l1_0 a2 = some r) :
  Calls Try.prog 31 #[.agg #[.slice A0_0 l0_0.length c0_0], .agg #[.slice A1_0 l1_0.length c1_0], .int .i64 a2] w fun e w'=>e=.returned (.int .i64 r)∧Below w.heap.size w w':=by
 have hu37:=Try.underlying37
 have hu32:=Try.underlying32
 have HR0_0:=am hr0_0
 have HC0_0:=am hc0_0
 clear hr0_0 hc0_0
 have HR1_0:=am hr1_0
 have HC1_0:=am hc1_0
 clear hr1_0 hc1_0
 have HB:=am (Below.refl w.heap.size w)
 have H:((jIa.f k l0_0 l1_0 (([a2]:List Int))).bind fun t777=>(if t777=true then ((jOa.f l1_0 a2).bind fun t778=>(some t778)) else (some (-2))))=some r:=h
 clear h
 obtain ⟨y774,hy774⟩:∃ y_:List Int,y_=(([a2]:List Int)):=⟨_,rfl⟩
 replace H:((jIa.f k l0_0 l1_0 y774).bind fun t777=>(if t777=true then ((jOa.f l1_0 a2).bind fun t778=>(some t778)) else (some (-2))))=some r:=by first |(rw [hy774];with_reducible exact H) |(have H2_:=(Option.bind_some _ _).symm.trans H;rw [hy774];with_reducible exact H2_) |(have H2_:=(Option.bind_some _ _).symm.trans H;with_reducible exact H2_) | with_reducible exact H |(rw [hy774];exact H) | exact H
 have Ny774:=am hy774
 clear hy774
 replace H:=bzS H
 obtain ⟨t777,A40,H⟩:=H
 replace H:(if t777=true then ((jOa.f l1_0 a2).bind fun t778=>(some t778)) else (some (-2)))=some r:=H
 have A4:=am A40
 clear A40
 by_cases c5:t777=true
 ·subst c5
  have H1:((jOa.f l1_0 a2).bind fun t778=>(some t778))=some r:=by rw [if_pos rfl] at H;exact H
  clear H
  have H:=H1
  clear H1
  replace H:=bzS H
  obtain ⟨t778,A60,H⟩:=H
  replace H:(some t778)=some r:=H
  have A6:=am A60
  clear A60
  obtain rfl:=Option.some.inj H
  go_enter Try.func31,Try.ntmps31
  go_wp2_with (first |((with_reducible refine jD (N:=3) rfl ?_);refine bE (N:=3) (cs:=#[.slice A0_0 l0_0.length c0_0]) (t:=37) ?_;intro gb772 hg w7 hbox hb;have BK772:=am (hbox);have GW772:=am ((Y0:w.heap.size≤gb772));have GE772:=am ((Y0:w.heap.size≤gb772));replace HB:=am (jf (bq) hb);clear hb hbox hg) |((with_reducible refine jD (N:=4) rfl ?_);refine bE (N:=4) (cs:=#[.slice A1_0 l1_0.length c1_0]) (t:=32) ?_;intro gb773 hg w8 hbox hb;have BK773:=am (hbox);have GW773:=am ((Y102:w.heap.size≤gb773));have GE773:=am ((Y102:w.heap.size≤gb773));have NB772_773:=am ((by rw [hg];exact Nat.ne_of_lt (jca (g:=gb772) (o:=.cells #[.slice A0_0 l0_0.length c0_0] 37 (0,0)) (kq BK772.out)):gb772≠gb773));have NB773_772:=am ((by rw [hg];exact Nat.ne_of_gt (jca (g:=gb772) (o:=.cells #[.slice A0_0 l0_0.length c0_0] 37 (0,0)) (kq BK772.out)):gb773≠gb772));replace BK772:=am (je (g:=gb772) (o:=.cells #[.slice A0_0 l0_0.length c0_0] 37 (0,0)) (kq BK772.out) hb);replace HB:=am (jf (Y163) hb);clear hb hbox hg;have hnb9:=NB772_773.out;have hnc9:=NB773_772.out;have hcz10_0:=bc0 BK772.out;have hfz10_0:=jb BK772.out 0;have hcz11_0:=bc0 BK773.out;have hfz11_0:=jb BK773.out 0) |((with_reducible refine jD (N:=10) rfl ?_);refine Kd.R_lit (Kd.int .i64) _ 3 ?hg (N:=10) ?hd (xs:=([a2]:List Int)) (inner:=[.int .i64 a2]) (ok:=fun _=>True) (okp:=fun _=>True) ?hr ?hp (fun _ hk=>hk) trivial (Below.refl _ _) (Nat.le_refl _) (by simp) ?_;(case hd=>rfl);(case hg=>rfl);(case hr=>exact Y4);(case hp=>exact (Reps.one (show Kd.M (Kd.int .i64) _ _ _ a2 [.int .i64 a2] from rfl) (Reps.none _ _)));intro v775 w12 ho13 hb hg_ hnew_;clear hg_ hnew_;(first | rw [← Ny774.out] at ho13 |(simp only [Int.reduceToNat] at ho13;rw [← Ny774.out] at ho13));have HO776:=am (Kd.jia ho13 (jR (Y41)));replace BK772:=am (je (g:=gb772) (o:=.cells #[.slice A0_0 l0_0.length c0_0] 37 (0,0)) (kq BK772.out) hb);replace BK773:=am (je (g:=gb773) (o:=.cells #[.slice A1_0 l1_0.length c1_0] 32 (0,0)) (kq BK773.out) hb);replace HB:=am (jf (Y41) hb);clear hb ho13;obtain ⟨Ao14,co14,eo14⟩:=Kd.jZ HO776.out;subst eo14) |((with_reducible refine jy (f:=45) rfl ?_);refine gL (some 11) Try.func45 #[.agg #[.slice A0_0 l0_0.length c0_0], .agg #[.slice A1_0 l1_0.length c1_0], .slice Ao14 y774.length co14] ?_;(with_reducible refine (jIa.calls k _ _ l0_0 _ _ l1_0 _ _ y774 true _ ?side1 ?side2 ?side3 ?side4 ?side5 ?side6 A4.out).mono ?_);(case side1=>exact cq (Kd.jaa HR0_0.out HB.out));(case side2=>exact HC0_0.out);(case side3=>exact cq (Kd.jaa HR1_0.out HB.out));(case side4=>exact HC1_0.out);(case side5=>exact cq (Kd.jB HO776.out).2.2);(case side6=>exact (Kd.jB HO776.out).2.1);rintro e w15 ⟨rfl,hb⟩;refine ⟨_,rfl,?_⟩;replace HO776:=am (Kd.jX (rq HO776.out) hb);replace BK772:=am (je (g:=gb772) (o:=.cells #[.slice A0_0 l0_0.length c0_0] 37 (0,0)) (kq BK772.out) hb);replace BK773:=am (je (g:=gb773) (o:=.cells #[.slice A1_0 l1_0.length c1_0] 32 (0,0)) (kq BK773.out) hb);replace HB:=am (jf (Y41) hb);(try clear hb);(try clear hb2);(try clear hk);(try clear hi);have hcz16_0:=bc0 BK773.out;have hfz16_0:=jb BK773.out 0) |((with_reducible refine jy (f:=59) rfl ?_);refine gL (some 15) Try.func59 #[.agg #[.slice A1_0 l1_0.length c1_0], .int .i64 a2] ?_;(with_reducible refine (jOa.calls _ _ l1_0 a2 t778 _ ?side1 ?side2 A6.out).mono ?_);(case side1=>exact cq (Kd.jaa HR1_0.out HB.out));(case side2=>exact HC1_0.out);rintro e w17 ⟨rfl,hb⟩;refine ⟨_,rfl,?_⟩;replace HO776:=am (Kd.jX (rq HO776.out) hb);replace BK772:=am (je (g:=gb772) (o:=.cells #[.slice A0_0 l0_0.length c0_0] 37 (0,0)) (kq BK772.out) hb);replace BK773:=am (je (g:=gb773) (o:=.cells #[.slice A1_0 l1_0.length c1_0] 32 (0,0)) (kq BK773.out) hb);replace HB:=am (jf (Y41) hb);(try clear hb);(try clear hb2);(try clear hk);(try clear hi)))
  go_ret
  exact ⟨Y1,Y41⟩
 ·replace c5:=Bool.eq_false_iff.mpr c5
  subst c5
  have H1:(some (-2))=some r:=by rw [if_neg (show ¬ (false=true) by decide)] at H;exact H
  clear H
  have H:=H1
  clear H1
  obtain rfl:=Option.some.inj H
  go_enter Try.func31,Try.ntmps31
  go_wp2_with (first |((with_reducible refine jD (N:=3) rfl ?_);refine bE (N:=3) (cs:=#[.slice A0_0 l0_0.length c0_0]) (t:=37) ?_;intro gb772 hg w18 hbox hb;have BK772:=am (hbox);have GW772:=am ((Y0:w.heap.size≤gb772));have GE772:=am ((Y0:w.heap.size≤gb772));replace HB:=am (jf (bq) hb);clear hb hbox hg) |((with_reducible refine jD (N:=4) rfl ?_);refine bE (N:=4) (cs:=#[.slice A1_0 l1_0.length c1_0]) (t:=32) ?_;intro gb773 hg w19 hbox hb;have BK773:=am (hbox);have GW773:=am ((Y102:w.heap.size≤gb773));have GE773:=am ((Y102:w.heap.size≤gb773));have NB772_773:=am ((by rw [hg];exact Nat.ne_of_lt (jca (g:=gb772) (o:=.cells #[.slice A0_0 l0_0.length c0_0] 37 (0,0)) (kq BK772.out)):gb772≠gb773));have NB773_772:=am ((by rw [hg];exact Nat.ne_of_gt (jca (g:=gb772) (o:=.cells #[.slice A0_0 l0_0.length c0_0] 37 (0,0)) (kq BK772.out)):gb773≠gb772));replace BK772:=am (je (g:=gb772) (o:=.cells #[.slice A0_0 l0_0.length c0_0] 37 (0,0)) (kq BK772.out) hb);replace HB:=am (jf (Y163) hb);clear hb hbox hg;have hnb20:=NB772_773.out;have hnc20:=NB773_772.out;have hcz21_0:=bc0 BK772.out;have hfz21_0:=jb BK772.out 0;have hcz22_0:=bc0 BK773.out;have hfz22_0:=jb BK773.out 0) |((with_reducible refine jD (N:=10) rfl ?_);refine Kd.R_lit (Kd.int .i64) _ 3 ?hg (N:=10) ?hd (xs:=([a2]:List Int)) (inner:=[.int .i64 a2]) (ok:=fun _=>True) (okp:=fun _=>True) ?hr ?hp (fun _ hk=>hk) trivial (Below.refl _ _) (Nat.le_refl _) (by simp) ?_;(case hd=>rfl);(case hg=>rfl);(case hr=>exact Y4);(case hp=>exact (Reps.one (show Kd.M (Kd.int .i64) _ _ _ a2 [.int .i64 a2] from rfl) (Reps.none _ _)));intro v775 w23 ho24 hb hg_ hnew_;clear hg_ hnew_;(first | rw [← Ny774.out] at ho24 |(simp only [Int.reduceToNat] at ho24;rw [← Ny774.out] at ho24));have HO776:=am (Kd.jia ho24 (jR (Y41)));replace BK772:=am (je (g:=gb772) (o:=.cells #[.slice A0_0 l0_0.length c0_0] 37 (0,0)) (kq BK772.out) hb);replace BK773:=am (je (g:=gb773) (o:=.cells #[.slice A1_0 l1_0.length c1_0] 32 (0,0)) (kq BK773.out) hb);replace HB:=am (jf (Y41) hb);clear hb ho24;obtain ⟨Ao25,co25,eo25⟩:=Kd.jZ HO776.out;subst eo25) |((with_reducible refine jy (f:=45) rfl ?_);refine gL (some 11) Try.func45 #[.agg #[.slice A0_0 l0_0.length c0_0], .agg #[.slice A1_0 l1_0.length c1_0], .slice Ao25 y774.length co25] ?_;(with_reducible refine (jIa.calls k _ _ l0_0 _ _ l1_0 _ _ y774 false _ ?side1 ?side2 ?side3 ?side4 ?side5 ?side6 A4.out).mono ?_);(case side1=>exact cq (Kd.jaa HR0_0.out HB.out));(case side2=>exact HC0_0.out);(case side3=>exact cq (Kd.jaa HR1_0.out HB.out));(case side4=>exact HC1_0.out);(case side5=>exact cq (Kd.jB HO776.out).2.2);(case side6=>exact (Kd.jB HO776.out).2.1);rintro e w26 ⟨rfl,hb⟩;refine ⟨_,rfl,?_⟩;replace HO776:=am (Kd.jX (rq HO776.out) hb);replace BK772:=am (je (g:=gb772) (o:=.cells #[.slice A0_0 l0_0.length c0_0] 37 (0,0)) (kq BK772.out) hb);replace BK773:=am (je (g:=gb773) (o:=.cells #[.slice A1_0 l1_0.length c1_0] 32 (0,0)) (kq BK773.out) hb);replace HB:=am (jf (Y41) hb);(try clear hb);(try clear hb2);(try clear hk);(try clear hi)))
  go_ret
  exact ⟨Y1,Y41⟩
def jWa.f (l0_0 : List (S54)) (a1 : Int) : Option (Int) := if 0 ≤ a1 then (if a1 < (l0_0.length : Int) then (if ((ja l0_0 a1).f2) ≥ 0 then (some ((ja l0_0 a1).f2)) else (if ((ja l0_0 a1).f4 = true) then (some (-1)) else (some ((ja l0_0 a1).f3)))) else (none)) else (none)
set_option maxHeartbeats 8000000 in
set_option maxRecDepth 100000 in
theorem jWa.calls (A0_0 : Option Addr) (c0_0 : Nat) (l0_0 : List (S54)) (a1 : Int) (r : Int) (w : World) (hr0_0 : Kd.C k54 w A0_0 l0_0.length l0_0) (hc0_0 : l0_0.length ≤ c0_0) (h : jWa.f l0_0 a1 = some r) :
  Calls Try.prog 60 #[.agg #[.slice A0_0 l0_0.length c0_0], .int .i64 a1] w fun e w'=>e=.returned (.int .i64 r)∧Below w.heap.size w w':=by
 have hu32:=Try.underlying32
 have hu54:=Try.underlying54
 have HR0_0:=am hr0_0
 have HC0_0:=am hc0_0
 clear hr0_0 hc0_0
 have HB:=am (Below.refl w.heap.size w)
 have H:(if 0≤a1 then (if a1<(l0_0.length:Int) then (if ((ja l0_0 a1).f2)≥0 then (some ((ja l0_0 a1).f2)) else (if ((ja l0_0 a1).f4=true) then (some (-1)) else (some ((ja l0_0 a1).f3)))) else (none)) else (none))=some r:=h
 clear h
 by_cases c3:0≤a1
 ·rw [if_pos c3] at H
  have c3b0:decide (0≤a1)=true:=dzT c3
  clear c3
  by_cases c4:a1<(l0_0.length:Int)
  ·rw [if_pos c4] at H
   have c4b0:decide (a1<(l0_0.length:Int))=true:=dzT c4
   clear c4
   by_cases c5:((ja l0_0 a1).f2)≥0
   ·rw [if_pos c5] at H
    have c5b0:decide (0≤((ja l0_0 a1).f2))=true:=dzT c5
    clear c5
    obtain rfl:=Option.some.inj H
    go_enter Try.func60,Try.ntmps60
    go_wp2_with (first |((with_reducible refine jD (N:=2) rfl ?_);refine bE (N:=2) (cs:=#[.slice A0_0 l0_0.length c0_0]) (t:=32) ?_;intro gb779 hg w6 hbox hb;have BK779:=am (hbox);have GW779:=am ((Y0:w.heap.size≤gb779));have GE779:=am ((Y0:w.heap.size≤gb779));replace HB:=am (jf (bq) hb);clear hb hbox hg;have hcz7_0:=bc0 BK779.out;have hfz7_0:=jb BK779.out 0;have p780:0≤(a1:Int):=ozD (uq);have q780:a1<(l0_0.length:Int):=ozD (uq);obtain ⟨ad780,e780,hx780_0,hx780_1,hx780_2,hx780_3,hx780_4⟩:=jdb HR0_0.out a1 p780 q780;cases e780;replace hx780_0:=cb HB.out hx780_0;replace hx780_1:=cb HB.out hx780_1;replace hx780_2:=cb HB.out hx780_2;replace hx780_3:=cb HB.out hx780_3;replace hx780_4:=cb HB.out hx780_4;replace p780:=ezT p780;replace q780:=ezT q780) |((with_reducible refine jD (N:=5) rfl ?_);refine bE (N:=5) (cs:=#[.int .i64 0, .int .i64 0, .int .i64 0, .int .i64 0, .bool false]) (t:=54) ?_;intro gb781 hg w8 hbox hb;have BK781:=am (hbox);have GW781:=am ((Y77:w.heap.size≤gb781));have GE781:=am ((Y77:w.heap.size≤gb781));have NB779_781:=am ((Y126:gb779≠gb781));have NB781_779:=am ((Y127:gb781≠gb779));replace BK779:=am (je (g:=gb779) (o:=.cells #[.slice (some ad780) l0_0.length c0_0] 32 (0,0)) (kq BK779.out) hb);replace HB:=am (jf (Y128) hb);clear hb hbox hg;have hnb9:=NB781_779.out;have hnc9:=NB779_781.out;have hcz10_0:=bc0 BK781.out;have hcz10_1:=bc1 BK781.out;have hcz10_2:=bc2 BK781.out;have hcz10_3:=bc3 BK781.out;have hcz10_4:w8.cell? ⟨gb781,4,none⟩=some (.bool false):=(jG BK781.out 4).trans rfl;have hfz10_0:=jb BK781.out 0;have hfz10_1:=jb BK781.out 1;have hfz10_2:=jb BK781.out 2;have hfz10_3:=jb BK781.out 3;have hfz10_4:=jb BK781.out 4))
    go_ret
    exact ⟨Y1,Y129⟩
   ·rw [if_neg c5] at H
    have c5b0:decide (0≤((ja l0_0 a1).f2))=false:=dzF c5
    clear c5
    obtain ⟨bq11,hbq11⟩:∃ b_:Bool,b_=((ja l0_0 a1).f4):=⟨_,rfl⟩
    replace H:(if (bq11=true) then (some (-1)) else (some ((ja l0_0 a1).f3)))=some r:=by rw [← hbq11] at H;exact H
    have Nbq11:=am hbq11
    clear hbq11
    by_cases c12:(bq11=true)
    ·subst c12
     have H1:(some (-1))=some r:=by rw [if_pos rfl] at H;exact H
     clear H
     have H:=H1
     clear H1
     obtain rfl:=Option.some.inj H
     go_enter Try.func60,Try.ntmps60
     go_wp2_with (first |((with_reducible refine jD (N:=2) rfl ?_);refine bE (N:=2) (cs:=#[.slice A0_0 l0_0.length c0_0]) (t:=32) ?_;intro gb779 hg w13 hbox hb;have BK779:=am (hbox);have GW779:=am ((Y0:w.heap.size≤gb779));have GE779:=am ((Y0:w.heap.size≤gb779));replace HB:=am (jf (bq) hb);clear hb hbox hg;have hcz14_0:=bc0 BK779.out;have hfz14_0:=jb BK779.out 0;have p780:0≤(a1:Int):=ozD (uq);have q780:a1<(l0_0.length:Int):=ozD (uq);obtain ⟨ad780,e780,hx780_0,hx780_1,hx780_2,hx780_3,hx780_4⟩:=jdb HR0_0.out a1 p780 q780;(try rw [← Nbq11.out] at hx780_4);cases e780;replace hx780_0:=cb HB.out hx780_0;replace hx780_1:=cb HB.out hx780_1;replace hx780_2:=cb HB.out hx780_2;replace hx780_3:=cb HB.out hx780_3;replace hx780_4:=cb HB.out hx780_4;replace p780:=ezT p780;replace q780:=ezT q780) |((with_reducible refine jD (N:=5) rfl ?_);refine bE (N:=5) (cs:=#[.int .i64 0, .int .i64 0, .int .i64 0, .int .i64 0, .bool false]) (t:=54) ?_;intro gb781 hg w15 hbox hb;have BK781:=am (hbox);have GW781:=am ((Y77:w.heap.size≤gb781));have GE781:=am ((Y77:w.heap.size≤gb781));have NB779_781:=am ((Y126:gb779≠gb781));have NB781_779:=am ((Y127:gb781≠gb779));replace BK779:=am (je (g:=gb779) (o:=.cells #[.slice (some ad780) l0_0.length c0_0] 32 (0,0)) (kq BK779.out) hb);replace HB:=am (jf (Y128) hb);clear hb hbox hg;have hnb16:=NB781_779.out;have hnc16:=NB779_781.out;have hcz17_0:=bc0 BK781.out;have hcz17_1:=bc1 BK781.out;have hcz17_2:=bc2 BK781.out;have hcz17_3:=bc3 BK781.out;have hcz17_4:w15.cell? ⟨gb781,4,none⟩=some (.bool false):=(jG BK781.out 4).trans rfl;have hfz17_0:=jb BK781.out 0;have hfz17_1:=jb BK781.out 1;have hfz17_2:=jb BK781.out 2;have hfz17_3:=jb BK781.out 3;have hfz17_4:=jb BK781.out 4))
     go_ret
     exact ⟨Y1,Y129⟩
    ·replace c12:=Bool.eq_false_iff.mpr c12
     subst c12
     have H1:(some ((ja l0_0 a1).f3))=some r:=by rw [if_neg (show ¬ (false=true) by decide)] at H;exact H
     clear H
     have H:=H1
     clear H1
     obtain rfl:=Option.some.inj H
     go_enter Try.func60,Try.ntmps60
     go_wp2_with (first |((with_reducible refine jD (N:=2) rfl ?_);refine bE (N:=2) (cs:=#[.slice A0_0 l0_0.length c0_0]) (t:=32) ?_;intro gb779 hg w18 hbox hb;have BK779:=am (hbox);have GW779:=am ((Y0:w.heap.size≤gb779));have GE779:=am ((Y0:w.heap.size≤gb779));replace HB:=am (jf (bq) hb);clear hb hbox hg;have hcz19_0:=bc0 BK779.out;have hfz19_0:=jb BK779.out 0;have p780:0≤(a1:Int):=ozD (uq);have q780:a1<(l0_0.length:Int):=ozD (uq);obtain ⟨ad780,e780,hx780_0,hx780_1,hx780_2,hx780_3,hx780_4⟩:=jdb HR0_0.out a1 p780 q780;(try rw [← Nbq11.out] at hx780_4);cases e780;replace hx780_0:=cb HB.out hx780_0;replace hx780_1:=cb HB.out hx780_1;replace hx780_2:=cb HB.out hx780_2;replace hx780_3:=cb HB.out hx780_3;replace hx780_4:=cb HB.out hx780_4;replace p780:=ezT p780;replace q780:=ezT q780) |((with_reducible refine jD (N:=5) rfl ?_);refine bE (N:=5) (cs:=#[.int .i64 0, .int .i64 0, .int .i64 0, .int .i64 0, .bool false]) (t:=54) ?_;intro gb781 hg w20 hbox hb;have BK781:=am (hbox);have GW781:=am ((Y77:w.heap.size≤gb781));have GE781:=am ((Y77:w.heap.size≤gb781));have NB779_781:=am ((Y126:gb779≠gb781));have NB781_779:=am ((Y127:gb781≠gb779));replace BK779:=am (je (g:=gb779) (o:=.cells #[.slice (some ad780) l0_0.length c0_0] 32 (0,0)) (kq BK779.out) hb);replace HB:=am (jf (Y128) hb);clear hb hbox hg;have hnb21:=NB781_779.out;have hnc21:=NB779_781.out;have hcz22_0:=bc0 BK781.out;have hcz22_1:=bc1 BK781.out;have hcz22_2:=bc2 BK781.out;have hcz22_3:=bc3 BK781.out;have hcz22_4:w20.cell? ⟨gb781,4,none⟩=some (.bool false):=(jG BK781.out 4).trans rfl;have hfz22_0:=jb BK781.out 0;have hfz22_1:=jb BK781.out 1;have hfz22_2:=jb BK781.out 2;have hfz22_3:=jb BK781.out 3;have hfz22_4:=jb BK781.out 4))
     go_ret
     exact ⟨Y1,Y129⟩
  ·rw [if_neg c4] at H
   exact absurd H (by simp)
 ·rw [if_neg c3] at H
  exact absurd H (by simp)
def jM.f (a0 : Int) (a1 : Int) (a2 : Int) : Option (Bool) := if a1 ≤ a0 then (some (decide (a0 ≤ a2))) else (some false)
set_option maxHeartbeats 8000000 in
set_option maxRecDepth 100000 in
theorem jM.calls (a0 : Int) (a1 : Int) (a2 : Int) (r : Bool) (w : World) (h : jM.f a0 a1 a2 = some r) :
  Calls Try.prog 98 #[.int .i64 a0, .int .i64 a1, .int .i64 a2] w fun e w'=>e=.returned (.bool r)∧jkb w w':=by
 have H:(if a1≤a0 then (some (decide (a0≤a2))) else (some false))=some r:=h
 clear h
 by_cases c4:a1≤a0
 ·rw [if_pos c4] at H
  have c4b0:decide (a1≤a0)=true:=dzT c4
  clear c4
  obtain rfl:=Option.some.inj H
  go_enter Try.func98,Try.ntmps98
  go_wp2
  go_ret
  exact ⟨sq,Y7⟩
 ·rw [if_neg c4] at H
  have c4b0:decide (a1≤a0)=false:=dzF c4
  clear c4
  obtain rfl:=Option.some.inj H
  go_enter Try.func98,Try.ntmps98
  go_wp2
  go_ret
  exact ⟨sq,Y7⟩
def jGa.f (l0_0 : List (S94)) (a1 : Int) : Option (Bool) := (jM.f a1 0 (wrap64 ((l0_0.length : Int) - 1))).bind fun t119 => (some t119)
set_option maxHeartbeats 8000000 in
set_option maxRecDepth 100000 in
theorem jGa.calls (A0_0 : Option Addr) (c0_0 : Nat) (l0_0 : List (S94)) (a1 : Int) (r : Bool) (w : World) (hr0_0 : Kd.C k94 w A0_0 l0_0.length l0_0) (hc0_0 : l0_0.length ≤ c0_0) (h : jGa.f l0_0 a1 = some r) :
  Calls Try.prog 97 #[.agg #[.slice A0_0 l0_0.length c0_0], .int .i64 a1] w fun e w'=>e=.returned (.bool r)∧Below w.heap.size w w':=by
 have hu37:=Try.underlying37
 have HR0_0:=am hr0_0
 have HC0_0:=am hc0_0
 clear hr0_0 hc0_0
 have HB:=am (Below.refl w.heap.size w)
 have H:((jM.f a1 0 (wrap64 ((l0_0.length:Int) - 1))).bind fun t119=>(some t119))=some r:=h
 clear h
 replace H:=bzS H
 obtain ⟨t119,A30,H⟩:=H
 replace H:(some t119)=some r:=H
 have A3:=am A30
 clear A30
 obtain rfl:=Option.some.inj H
 go_enter Try.func97,Try.ntmps97
 go_wp2_with (first |((with_reducible refine jD (N:=2) rfl ?_);refine bE (N:=2) (cs:=#[.slice A0_0 l0_0.length c0_0]) (t:=37) ?_;intro gb118 hg w4 hbox hb;have BK118:=am (hbox);have GW118:=am ((Y0:w.heap.size≤gb118));have GE118:=am ((Y0:w.heap.size≤gb118));replace HB:=am (jf (bq) hb);clear hb hbox hg;have hcz5_0:=bc0 BK118.out;have hfz5_0:=jb BK118.out 0) |((with_reducible refine jy (f:=98) rfl ?_);refine gL (some 10) Try.func98 #[.int .i64 a1, .int .i64 0, .int .i64 (wrap64 ((l0_0.length:Int) - 1))] ?_;(with_reducible refine (jM.calls a1 0 (wrap64 ((l0_0.length:Int) - 1)) t119 _ A3.out).mono ?_);rintro e w' ⟨rfl,⟨nd,rfl⟩⟩;refine ⟨_,rfl,?_⟩))
 go_ret
 exact ⟨Y1,by repeat (first |(with_reducible first | exact HB.out | apply jw | apply jo | apply jr | refine jm ?_ GE118.out) | exact HB.out)⟩
def jDa.f (l0_0 : List (S54)) (a1 : Int) : Option (Bool) := if 0 ≤ a1 then (if a1 < (l0_0.length : Int) then ((jM.f ((ja l0_0 a1).f2) (-1) (wrap64 ((l0_0.length : Int) - 1))).bind fun t123 => (if t123 = true then ((jM.f ((ja l0_0 a1).f3) (-1) (wrap64 ((l0_0.length : Int) - 1))).bind fun t124 => (if t124 = true then (if ((ja l0_0 a1).f2) = a1 then (some false) else (some (((ja l0_0 a1).f3) != a1))) else (some false))) else (some false))) else (none)) else (none)
set_option maxHeartbeats 8000000 in
set_option maxRecDepth 100000 in
theorem jDa.calls (A0_0 : Option Addr) (c0_0 : Nat) (l0_0 : List (S54)) (a1 : Int) (r : Bool) (w : World) (hr0_0 : Kd.C k54 w A0_0 l0_0.length l0_0) (hc0_0 : l0_0.length ≤ c0_0) (h : jDa.f l0_0 a1 = some r) :
  Calls Try.prog 99 #[.agg #[.slice A0_0 l0_0.length c0_0], .int .i64 a1] w fun e w'=>e=.returned (.bool r)∧Below w.heap.size w w':=by
 have hu32:=Try.underlying32
 have hu54:=Try.underlying54
 have HR0_0:=am hr0_0
 have HC0_0:=am hc0_0
 clear hr0_0 hc0_0
 have HB:=am (Below.refl w.heap.size w)
 have H:(if 0≤a1 then (if a1<(l0_0.length:Int) then ((jM.f ((ja l0_0 a1).f2) (-1) (wrap64 ((l0_0.length:Int) - 1))).bind fun t123=>(if t123=true then ((jM.f ((ja l0_0 a1).f3) (-1) (wrap64 ((l0_0.length:Int) - 1))).bind fun t124=>(if t124=true then (if ((ja l0_0 a1).f2)=a1 then (some false) else (some (((ja l0_0 a1).f3) != a1))) else (some false))) else (some false))) else (none)) else (none))=some r:=h
 clear h
 by_cases c3:0≤a1
 ·rw [if_pos c3] at H
  have c3b0:decide (0≤a1)=true:=dzT c3
  clear c3
  by_cases c4:a1<(l0_0.length:Int)
  ·rw [if_pos c4] at H
   have c4b0:decide (a1<(l0_0.length:Int))=true:=dzT c4
   clear c4
   replace H:=bzS H
   obtain ⟨t123,A50,H⟩:=H
   replace H:(if t123=true then ((jM.f ((ja l0_0 a1).f3) (-1) (wrap64 ((l0_0.length:Int) - 1))).bind fun t124=>(if t124=true then (if ((ja l0_0 a1).f2)=a1 then (some false) else (some (((ja l0_0 a1).f3) != a1))) else (some false))) else (some false))=some r:=H
   have A5:=am A50
   clear A50
   by_cases c6:t123=true
   ·subst c6
    have H1:((jM.f ((ja l0_0 a1).f3) (-1) (wrap64 ((l0_0.length:Int) - 1))).bind fun t124=>(if t124=true then (if ((ja l0_0 a1).f2)=a1 then (some false) else (some (((ja l0_0 a1).f3) != a1))) else (some false)))=some r:=by rw [if_pos rfl] at H;exact H
    clear H
    have H:=H1
    clear H1
    replace H:=bzS H
    obtain ⟨t124,A70,H⟩:=H
    replace H:(if t124=true then (if ((ja l0_0 a1).f2)=a1 then (some false) else (some (((ja l0_0 a1).f3) != a1))) else (some false))=some r:=H
    have A7:=am A70
    clear A70
    by_cases c8:t124=true
    ·subst c8
     have H1:(if ((ja l0_0 a1).f2)=a1 then (some false) else (some (((ja l0_0 a1).f3) != a1)))=some r:=by rw [if_pos rfl] at H;exact H
     clear H
     have H:=H1
     clear H1
     by_cases c9:((ja l0_0 a1).f2)=a1
     ·rw [if_pos c9] at H
      have c9b0:(((ja l0_0 a1).f2) == a1)=true:=beq_iff_eq.mpr c9
      have c9b1:(((ja l0_0 a1).f2) != a1)=false:=bne_eq_false_iff_eq.mpr c9
      clear c9
      obtain rfl:=Option.some.inj H
      go_enter Try.func99,Try.ntmps99
      go_wp2_with (first |((with_reducible refine jD (N:=2) rfl ?_);refine bE (N:=2) (cs:=#[.slice A0_0 l0_0.length c0_0]) (t:=32) ?_;intro gb120 hg w10 hbox hb;have BK120:=am (hbox);have GW120:=am ((Y0:w.heap.size≤gb120));have GE120:=am ((Y0:w.heap.size≤gb120));replace HB:=am (jf (bq) hb);clear hb hbox hg;have hcz11_0:=bc0 BK120.out;have hfz11_0:=jb BK120.out 0;have p121:0≤(a1:Int):=ozD (uq);have q121:a1<(l0_0.length:Int):=ozD (uq);obtain ⟨ad121,e121,hx121_0,hx121_1,hx121_2,hx121_3,hx121_4⟩:=jdb HR0_0.out a1 p121 q121;cases e121;replace hx121_0:=cb HB.out hx121_0;replace hx121_1:=cb HB.out hx121_1;replace hx121_2:=cb HB.out hx121_2;replace hx121_3:=cb HB.out hx121_3;replace hx121_4:=cb HB.out hx121_4;replace p121:=ezT p121;replace q121:=ezT q121) |((with_reducible refine jD (N:=6) rfl ?_);refine bE (N:=6) (cs:=#[.int .i64 0, .int .i64 0, .int .i64 0, .int .i64 0, .bool false]) (t:=54) ?_;intro gb122 hg w12 hbox hb;have BK122:=am (hbox);have GW122:=am ((Y53:w.heap.size≤gb122));have GE122:=am ((Y53:w.heap.size≤gb122));have NB120_122:=am ((Y103:gb120≠gb122));have NB122_120:=am ((Y104:gb122≠gb120));replace BK120:=am (je (g:=gb120) (o:=.cells #[.slice (some ad121) l0_0.length c0_0] 32 (0,0)) (kq BK120.out) hb);replace HB:=am (jf (Y105) hb);clear hb hbox hg;have hnb13:=NB122_120.out;have hnc13:=NB120_122.out;have hcz14_0:=bc0 BK122.out;have hcz14_1:=bc1 BK122.out;have hcz14_2:=bc2 BK122.out;have hcz14_3:=bc3 BK122.out;have hcz14_4:w12.cell? ⟨gb122,4,none⟩=some (.bool false):=(jG BK122.out 4).trans rfl;have hfz14_0:=jb BK122.out 0;have hfz14_1:=jb BK122.out 1;have hfz14_2:=jb BK122.out 2;have hfz14_3:=jb BK122.out 3;have hfz14_4:=jb BK122.out 4) |((with_reducible refine jy (f:=98) rfl ?_);refine gL (some 19) Try.func98 #[.int .i64 ((ja l0_0 a1).f2), .int .i64 (-1), .int .i64 (wrap64 ((l0_0.length:Int) - 1))] ?_;(with_reducible refine (jM.calls ((ja l0_0 a1).f2) (-1) (wrap64 ((l0_0.length:Int) - 1)) true _ A5.out).mono ?_);rintro e w' ⟨rfl,⟨nd,rfl⟩⟩;refine ⟨_,rfl,?_⟩) |(go_at_call 98;(with_reducible refine (jM.calls ((ja l0_0 a1).f3) (-1) (wrap64 ((l0_0.length:Int) - 1)) true _ A7.out).mono ?_);rintro e w' ⟨rfl,⟨nd,rfl⟩⟩))
      go_ret
      exact ⟨Y1,Y106⟩
     ·rw [if_neg c9] at H
      have c9b0:(((ja l0_0 a1).f2) == a1)=false:=beq_eq_false_iff_ne.mpr c9
      have c9b1:(((ja l0_0 a1).f2) != a1)=true:=bne_iff_ne.mpr c9
      obtain rfl:=Option.some.inj H
      go_enter Try.func99,Try.ntmps99
      go_wp2_with (first |((with_reducible refine jD (N:=2) rfl ?_);refine bE (N:=2) (cs:=#[.slice A0_0 l0_0.length c0_0]) (t:=32) ?_;intro gb120 hg w15 hbox hb;have BK120:=am (hbox);have GW120:=am ((Y0:w.heap.size≤gb120));have GE120:=am ((Y0:w.heap.size≤gb120));replace HB:=am (jf (bq) hb);clear hb hbox hg;have hcz16_0:=bc0 BK120.out;have hfz16_0:=jb BK120.out 0;have p121:0≤(a1:Int):=ozD (uq);have q121:a1<(l0_0.length:Int):=ozD (uq);obtain ⟨ad121,e121,hx121_0,hx121_1,hx121_2,hx121_3,hx121_4⟩:=jdb HR0_0.out a1 p121 q121;cases e121;replace hx121_0:=cb HB.out hx121_0;replace hx121_1:=cb HB.out hx121_1;replace hx121_2:=cb HB.out hx121_2;replace hx121_3:=cb HB.out hx121_3;replace hx121_4:=cb HB.out hx121_4;replace p121:=ezT p121;replace q121:=ezT q121) |((with_reducible refine jD (N:=6) rfl ?_);refine bE (N:=6) (cs:=#[.int .i64 0, .int .i64 0, .int .i64 0, .int .i64 0, .bool false]) (t:=54) ?_;intro gb122 hg w17 hbox hb;have BK122:=am (hbox);have GW122:=am ((Y53:w.heap.size≤gb122));have GE122:=am ((Y53:w.heap.size≤gb122));have NB120_122:=am ((Y103:gb120≠gb122));have NB122_120:=am ((Y104:gb122≠gb120));replace BK120:=am (je (g:=gb120) (o:=.cells #[.slice (some ad121) l0_0.length c0_0] 32 (0,0)) (kq BK120.out) hb);replace HB:=am (jf (Y105) hb);clear hb hbox hg;have hnb18:=NB122_120.out;have hnc18:=NB120_122.out;have hcz19_0:=bc0 BK122.out;have hcz19_1:=bc1 BK122.out;have hcz19_2:=bc2 BK122.out;have hcz19_3:=bc3 BK122.out;have hcz19_4:w17.cell? ⟨gb122,4,none⟩=some (.bool false):=(jG BK122.out 4).trans rfl;have hfz19_0:=jb BK122.out 0;have hfz19_1:=jb BK122.out 1;have hfz19_2:=jb BK122.out 2;have hfz19_3:=jb BK122.out 3;have hfz19_4:=jb BK122.out 4) |((with_reducible refine jy (f:=98) rfl ?_);refine gL (some 19) Try.func98 #[.int .i64 ((ja l0_0 a1).f2), .int .i64 (-1), .int .i64 (wrap64 ((l0_0.length:Int) - 1))] ?_;(with_reducible refine (jM.calls ((ja l0_0 a1).f2) (-1) (wrap64 ((l0_0.length:Int) - 1)) true _ A5.out).mono ?_);rintro e w' ⟨rfl,⟨nd,rfl⟩⟩;refine ⟨_,rfl,?_⟩) |(go_at_call 98;(with_reducible refine (jM.calls ((ja l0_0 a1).f3) (-1) (wrap64 ((l0_0.length:Int) - 1)) true _ A7.out).mono ?_);rintro e w' ⟨rfl,⟨nd,rfl⟩⟩))
      go_ret
      exact ⟨Y1,Y106⟩
    ·replace c8:=Bool.eq_false_iff.mpr c8
     subst c8
     have H1:(some false)=some r:=by rw [if_neg (show ¬ (false=true) by decide)] at H;exact H
     clear H
     have H:=H1
     clear H1
     obtain rfl:=Option.some.inj H
     go_enter Try.func99,Try.ntmps99
     go_wp2_with (first |((with_reducible refine jD (N:=2) rfl ?_);refine bE (N:=2) (cs:=#[.slice A0_0 l0_0.length c0_0]) (t:=32) ?_;intro gb120 hg w20 hbox hb;have BK120:=am (hbox);have GW120:=am ((Y0:w.heap.size≤gb120));have GE120:=am ((Y0:w.heap.size≤gb120));replace HB:=am (jf (bq) hb);clear hb hbox hg;have hcz21_0:=bc0 BK120.out;have hfz21_0:=jb BK120.out 0;have p121:0≤(a1:Int):=ozD (uq);have q121:a1<(l0_0.length:Int):=ozD (uq);obtain ⟨ad121,e121,hx121_0,hx121_1,hx121_2,hx121_3,hx121_4⟩:=jdb HR0_0.out a1 p121 q121;cases e121;replace hx121_0:=cb HB.out hx121_0;replace hx121_1:=cb HB.out hx121_1;replace hx121_2:=cb HB.out hx121_2;replace hx121_3:=cb HB.out hx121_3;replace hx121_4:=cb HB.out hx121_4;replace p121:=ezT p121;replace q121:=ezT q121) |((with_reducible refine jD (N:=6) rfl ?_);refine bE (N:=6) (cs:=#[.int .i64 0, .int .i64 0, .int .i64 0, .int .i64 0, .bool false]) (t:=54) ?_;intro gb122 hg w22 hbox hb;have BK122:=am (hbox);have GW122:=am ((Y53:w.heap.size≤gb122));have GE122:=am ((Y53:w.heap.size≤gb122));have NB120_122:=am ((Y103:gb120≠gb122));have NB122_120:=am ((Y104:gb122≠gb120));replace BK120:=am (je (g:=gb120) (o:=.cells #[.slice (some ad121) l0_0.length c0_0] 32 (0,0)) (kq BK120.out) hb);replace HB:=am (jf (Y105) hb);clear hb hbox hg;have hnb23:=NB122_120.out;have hnc23:=NB120_122.out;have hcz24_0:=bc0 BK122.out;have hcz24_1:=bc1 BK122.out;have hcz24_2:=bc2 BK122.out;have hcz24_3:=bc3 BK122.out;have hcz24_4:w22.cell? ⟨gb122,4,none⟩=some (.bool false):=(jG BK122.out 4).trans rfl;have hfz24_0:=jb BK122.out 0;have hfz24_1:=jb BK122.out 1;have hfz24_2:=jb BK122.out 2;have hfz24_3:=jb BK122.out 3;have hfz24_4:=jb BK122.out 4) |((with_reducible refine jy (f:=98) rfl ?_);refine gL (some 19) Try.func98 #[.int .i64 ((ja l0_0 a1).f2), .int .i64 (-1), .int .i64 (wrap64 ((l0_0.length:Int) - 1))] ?_;(with_reducible refine (jM.calls ((ja l0_0 a1).f2) (-1) (wrap64 ((l0_0.length:Int) - 1)) true _ A5.out).mono ?_);rintro e w' ⟨rfl,⟨nd,rfl⟩⟩;refine ⟨_,rfl,?_⟩) |(go_at_call 98;(with_reducible refine (jM.calls ((ja l0_0 a1).f3) (-1) (wrap64 ((l0_0.length:Int) - 1)) false _ A7.out).mono ?_);rintro e w' ⟨rfl,⟨nd,rfl⟩⟩))
     go_ret
     exact ⟨Y1,Y106⟩
   ·replace c6:=Bool.eq_false_iff.mpr c6
    subst c6
    have H1:(some false)=some r:=by rw [if_neg (show ¬ (false=true) by decide)] at H;exact H
    clear H
    have H:=H1
    clear H1
    obtain rfl:=Option.some.inj H
    go_enter Try.func99,Try.ntmps99
    go_wp2_with (first |((with_reducible refine jD (N:=2) rfl ?_);refine bE (N:=2) (cs:=#[.slice A0_0 l0_0.length c0_0]) (t:=32) ?_;intro gb120 hg w25 hbox hb;have BK120:=am (hbox);have GW120:=am ((Y0:w.heap.size≤gb120));have GE120:=am ((Y0:w.heap.size≤gb120));replace HB:=am (jf (bq) hb);clear hb hbox hg;have hcz26_0:=bc0 BK120.out;have hfz26_0:=jb BK120.out 0;have p121:0≤(a1:Int):=ozD (uq);have q121:a1<(l0_0.length:Int):=ozD (uq);obtain ⟨ad121,e121,hx121_0,hx121_1,hx121_2,hx121_3,hx121_4⟩:=jdb HR0_0.out a1 p121 q121;cases e121;replace hx121_0:=cb HB.out hx121_0;replace hx121_1:=cb HB.out hx121_1;replace hx121_2:=cb HB.out hx121_2;replace hx121_3:=cb HB.out hx121_3;replace hx121_4:=cb HB.out hx121_4;replace p121:=ezT p121;replace q121:=ezT q121) |((with_reducible refine jD (N:=6) rfl ?_);refine bE (N:=6) (cs:=#[.int .i64 0, .int .i64 0, .int .i64 0, .int .i64 0, .bool false]) (t:=54) ?_;intro gb122 hg w27 hbox hb;have BK122:=am (hbox);have GW122:=am ((Y53:w.heap.size≤gb122));have GE122:=am ((Y53:w.heap.size≤gb122));have NB120_122:=am ((Y103:gb120≠gb122));have NB122_120:=am ((Y104:gb122≠gb120));replace BK120:=am (je (g:=gb120) (o:=.cells #[.slice (some ad121) l0_0.length c0_0] 32 (0,0)) (kq BK120.out) hb);replace HB:=am (jf (Y105) hb);clear hb hbox hg;have hnb28:=NB122_120.out;have hnc28:=NB120_122.out;have hcz29_0:=bc0 BK122.out;have hcz29_1:=bc1 BK122.out;have hcz29_2:=bc2 BK122.out;have hcz29_3:=bc3 BK122.out;have hcz29_4:w27.cell? ⟨gb122,4,none⟩=some (.bool false):=(jG BK122.out 4).trans rfl;have hfz29_0:=jb BK122.out 0;have hfz29_1:=jb BK122.out 1;have hfz29_2:=jb BK122.out 2;have hfz29_3:=jb BK122.out 3;have hfz29_4:=jb BK122.out 4) |((with_reducible refine jy (f:=98) rfl ?_);refine gL (some 19) Try.func98 #[.int .i64 ((ja l0_0 a1).f2), .int .i64 (-1), .int .i64 (wrap64 ((l0_0.length:Int) - 1))] ?_;(with_reducible refine (jM.calls ((ja l0_0 a1).f2) (-1) (wrap64 ((l0_0.length:Int) - 1)) false _ A5.out).mono ?_);rintro e w' ⟨rfl,⟨nd,rfl⟩⟩;refine ⟨_,rfl,?_⟩))
    go_ret
    exact ⟨Y1,Y106⟩
  ·rw [if_neg c4] at H
   exact absurd H (by simp)
 ·rw [if_neg c3] at H
  exact absurd H (by simp)
def jLa.l0 : Nat → List Int → Int → Int → Option (Bool)
 | 0,_,_,_=>none
 | k+1,x0,x1,x5=>if x5<(x0.length:Int) then (if 0≤x5 then (if (rd x0 x5)=x1 then (some true) else (jLa.l0 k x0 x1 (wrap64 (x5+1)))) else (none)) else (some false)
def jLa.f (k : Nat) (l0 : List Int) (a1 : Int) : Option (Bool) := jLa.l0 k l0 a1 0
set_option maxHeartbeats 8000000 in
set_option maxRecDepth 100000 in
theorem jLa.calls (k : Nat) (A0 : Option Addr) (c0 : Nat) (l0 : List Int) (a1 : Int) (r : Bool) (w : World) (hr0 : Kd.C (Kd.int .i64) w A0 l0.length l0) (hc0 : l0.length ≤ c0) (h : jLa.f k l0 a1 = some r) :
  Calls Try.prog 80 #[.slice A0 l0.length c0, .int .i64 a1] w fun e w'=>e=.returned (.bool r)∧jkb w w':=by
 have HR0:=am hr0
 have HC0:=am hc0
 clear hr0 hc0
 have H:(jLa.l0 k l0 a1 0)=some r:=h
 clear h
 have H':=am H
 clear H
 go_enter Try.func80,Try.ntmps80
 go_wp2
 go_loopg [5] k (fun kq v5 w'=>∃ (x5_1:Int),v5=.int .i64 x5_1∧jC (jLa.l0 kq l0 a1 x5_1=some r)∧jC (kq≤k)∧jkb w w')
 case atStart=>exact ⟨(0),(sq),H',⟨Nat.le_refl _⟩,Y7⟩
 case round =>
  clear H'
  try clear p2
  obtain ⟨x5_1,rfl,HA,HK1,⟨m1,rfl⟩⟩:=hrel
  cases gk with
  | zero=>exact absurd HA.out (by simp [jLa.l0])
  | succ k1 =>
   have H:=HA.out
   clear HA
   simp only [jLa.l0] at H
   by_cases c3:x5_1<(l0.length:Int)
   ·rw [if_pos c3] at H
    have c3b0:decide (x5_1<(l0.length:Int))=true:=dzT c3
    clear c3
    by_cases c4:0≤x5_1
    ·rw [if_pos c4] at H
     have c4b0:decide (0≤x5_1)=true:=dzT c4
     clear c4
     by_cases c5:(rd l0 x5_1)=a1
     ·rw [if_pos c5] at H
      have c5b0:((rd l0 x5_1) == a1)=true:=beq_iff_eq.mpr c5
      have c5b1:((rd l0 x5_1) != a1)=false:=bne_eq_false_iff_eq.mpr c5
      clear c5
      obtain rfl:=Option.some.inj H
      have p108:0≤(x5_1:Int):=ozD (uq)
      have q108:x5_1<(l0.length:Int):=ozD (uq)
      obtain ⟨ad108,e108,hx108_0⟩:=Kd.jCb HR0.out x5_1 p108 q108
      cases e108
      replace p108:=ezT p108
      replace q108:=ezT q108
      go_wp2
      go_ret
      exact ⟨sq,Y7⟩
     ·rw [if_neg c5] at H
      have c5b0:((rd l0 x5_1) == a1)=false:=beq_eq_false_iff_ne.mpr c5
      have c5b1:((rd l0 x5_1) != a1)=true:=bne_iff_ne.mpr c5
      have H':=am H
      clear H
      have p108:0≤(x5_1:Int):=ozD (uq)
      have q108:x5_1<(l0.length:Int):=ozD (uq)
      obtain ⟨ad108,e108,hx108_0⟩:=Kd.jCb HR0.out x5_1 p108 q108
      cases e108
      replace p108:=ezT p108
      replace q108:=ezT q108
      go_wp2
      go_roundg k1
      case measure=>have:=HK1.out;omega
      case rel=>exact ⟨(wrap64 (x5_1+1)),(sq),H',⟨by have:=HK1.out;omega⟩,Y7⟩
    ·rw [if_neg c4] at H
     exact absurd H (by simp)
   ·rw [if_neg c3] at H
    have c3b0:decide (x5_1<(l0.length:Int))=false:=dzF c3
    clear c3
    obtain rfl:=Option.some.inj H
    go_wp2
    go_ret
    exact ⟨sq,Y7⟩
def jka.l0 : Nat → Int → List Int → List (S54) → Option (List Int)
 | 0,_,_,_=>none
 | k+1,x1,x5,x110000=>if x1≥0 then ((jLa.f k x5 x1).bind fun t113=>(if t113=true then (some x5) else (if x5.length<17592186044416 then (if 0≤x1 then (if x1<(x110000.length:Int) then (jka.l0 k ((ja x110000 x1).f3) (x5 ++ [x1]) x110000) else (none)) else (none)) else (none)))) else (some x5)
def jka.f (k : Nat) (l0_0 : List (S54)) (a1 : Int) : Option (List Int) := jka.l0 k a1 (([] : List Int)) l0_0
set_option maxHeartbeats 8000000 in
set_option maxRecDepth 100000 in
theorem jka.calls (k : Nat) (A0_0 : Option Addr) (c0_0 : Nat) (l0_0 : List (S54)) (a1 : Int) (r : List Int) (w : World) (hr0_0 : Kd.C k54 w A0_0 l0_0.length l0_0) (hc0_0 : l0_0.length ≤ c0_0) (h : jka.f k l0_0 a1 = some r) :
  Calls Try.prog 58 #[.agg #[.slice A0_0 l0_0.length c0_0], .int .i64 a1] w fun e w'=>∃ v0_:Value,e=.returned (v0_)∧Kd.R (Kd.int .i64) 3 w' w.heap.size (fun _=>True) v0_ r∧Below w.heap.size w w':=by
 have hu32:=Try.underlying32
 have HR0_0:=am hr0_0
 have HC0_0:=am hc0_0
 clear hr0_0 hc0_0
 have HB:=am (Below.refl w.heap.size w)
 have H:(jka.l0 k a1 (([]:List Int)) l0_0)=some r:=h
 clear h
 obtain ⟨y110,hy110⟩:∃ y_:List Int,y_=(([]:List Int)):=⟨_,rfl⟩
 replace H:(jka.l0 k a1 y110 l0_0)=some r:=by first |(rw [hy110];with_reducible exact H) |(have H2_:=(Option.bind_some _ _).symm.trans H;rw [hy110];with_reducible exact H2_) |(have H2_:=(Option.bind_some _ _).symm.trans H;with_reducible exact H2_) | with_reducible exact H |(rw [hy110];exact H) | exact H
 have Ny110:=am hy110
 clear hy110
 have H':=am H
 clear H
 go_enter Try.func58,Try.ntmps58
 go_wp2_with (first |((with_reducible refine jD (N:=2) rfl ?_);refine bE (N:=2) (cs:=#[.slice A0_0 l0_0.length c0_0]) (t:=32) ?_;intro gb109 hg w3 hbox hb;have BK109:=am (hbox);have GW109:=am ((Y0:w.heap.size≤gb109));have GE109:=am ((Y0:w.heap.size≤gb109));replace HB:=am (jf (bq) hb);clear hb hbox hg) |((with_reducible refine jD (N:=6) rfl ?_);refine Kd.R_lit (Kd.int .i64) _ 3 ?hg (N:=6) ?hd (xs:=([]:List Int)) (inner:=[]) (ok:=fun _=>True) (okp:=fun _=>True) ?hr ?hp (fun _ hk=>hk) trivial (Below.refl _ _) (Nat.le_refl _) (by simp) ?_;(case hd=>rfl);(case hg=>rfl);(case hr=>exact Y4);(case hp=>exact (Reps.none _ _));intro v111 w4 ho5 hb hg_ hnew_;clear hg_ hnew_;(first | rw [← Ny110.out] at ho5 |(simp only [Int.reduceToNat] at ho5;rw [← Ny110.out] at ho5));have HO112:=am (Kd.jia ho5 (jR (Y54)));replace BK109:=am (je (g:=gb109) (o:=.cells #[.slice A0_0 l0_0.length c0_0] 32 (0,0)) (kq BK109.out) hb);replace HB:=am (jf (Y54) hb);clear hb ho5))
 go_loopg [1,5] k (fun kq v1 v5 w'=>∃ (x1_1:Int) (x5_1:List Int),v1=.int .i64 x1_1∧jC (jka.l0 kq x1_1 x5_1 l0_0=some r)∧jC (kq≤k)∧jC (Kd.R (Kd.int .i64) 3 w' w.heap.size (fun _=>True) v5 x5_1)∧jC (w'.heap[gb109]?=some (.cells #[(.slice A0_0 l0_0.length c0_0)] 32 (0,0)))∧jC (Below w.heap.size w w'))
 case atStart=>exact ⟨(a1),(y110),(sq),H',⟨Nat.le_refl _⟩,⟨rq HO112.out⟩,⟨kq BK109.out⟩,⟨Y54⟩⟩
 case round =>
  clear H'
  try clear p2
  try clear c5
  obtain ⟨x1_1,x5_1,rfl,HA,HK1,HO_5,BK109,HB⟩:=hrel
  cases gk with
  | zero=>exact absurd HA.out (by simp [jka.l0])
  | succ k1 =>
   have H:=HA.out
   clear HA
   simp only [jka.l0] at H
   by_cases c6:x1_1≥0
   ·rw [if_pos c6] at H
    have c6b0:decide (0≤x1_1)=true:=dzT c6
    clear c6
    replace H:=bzS H
    obtain ⟨t113,A70,H⟩:=H
    replace H:(if t113=true then (some x5_1) else (if x5_1.length<17592186044416 then (if 0≤x1_1 then (if x1_1<(l0_0.length:Int) then (jka.l0 k1 ((ja l0_0 x1_1).f3) (x5_1 ++ [x1_1]) l0_0) else (none)) else (none)) else (none)))=some r:=H
    have A7:=am A70
    clear A70
    by_cases c8:t113=true
    ·subst c8
     have H1:(some x5_1)=some r:=by rw [if_pos rfl] at H;exact H
     clear H
     have H:=H1
     clear H1
     obtain rfl:=Option.some.inj H
     obtain ⟨Ao9,co9,eo9⟩:=Kd.jZ HO_5.out
     subst eo9
     go_wp2_with (first |(go_at_call 80;(with_reducible refine (jLa.calls k1 _ _ x5_1 x1_1 true _ ?side1 ?side2 A7.out).mono ?_);(case side1=>exact cq (Kd.jB HO_5.out).2.2);(case side2=>exact (Kd.jB HO_5.out).2.1);rintro e w' ⟨rfl,⟨nd,rfl⟩⟩))
     go_ret
     exact ⟨_,Y1,rq HO_5.out,Y54⟩
    ·replace c8:=Bool.eq_false_iff.mpr c8
     subst c8
     have H1:(if x5_1.length<17592186044416 then (if 0≤x1_1 then (if x1_1<(l0_0.length:Int) then (jka.l0 k1 ((ja l0_0 x1_1).f3) (x5_1 ++ [x1_1]) l0_0) else (none)) else (none)) else (none))=some r:=by rw [if_neg (show ¬ (false=true) by decide)] at H;exact H
     clear H
     have H:=H1
     clear H1
     by_cases c10:x5_1.length<17592186044416
     ·rw [if_pos c10] at H
      have LMc10:=am c10
      clear c10
      obtain ⟨y114,hy114⟩:∃ y_:List Int,y_=(x5_1 ++ [x1_1]):=⟨_,rfl⟩
      replace H:(if 0≤x1_1 then (if x1_1<(l0_0.length:Int) then (jka.l0 k1 ((ja l0_0 x1_1).f3) y114 l0_0) else (none)) else (none))=some r:=by first |(rw [hy114];with_reducible exact H) |(have H2_:=(Option.bind_some _ _).symm.trans H;rw [hy114];with_reducible exact H2_) |(have H2_:=(Option.bind_some _ _).symm.trans H;with_reducible exact H2_) | with_reducible exact H |(rw [hy114];exact H) | exact H
      have Ny114:=am hy114
      clear hy114
      by_cases c11:0≤x1_1
      ·rw [if_pos c11] at H
       have c11b0:decide (0≤x1_1)=true:=dzT c11
       clear c11
       by_cases c12:x1_1<(l0_0.length:Int)
       ·rw [if_pos c12] at H
        have c12b0:decide (x1_1<(l0_0.length:Int))=true:=dzT c12
        clear c12
        have H':=am H
        clear H
        obtain ⟨Ao13,co13,eo13⟩:=Kd.jZ HO_5.out
        subst eo13
        go_wp2_with (first |(go_at_call 80;(with_reducible refine (jLa.calls k1 _ _ x5_1 x1_1 false _ ?side1 ?side2 A7.out).mono ?_);(case side1=>exact cq (Kd.jB HO_5.out).2.2);(case side2=>exact (Kd.jB HO_5.out).2.1);rintro e w' ⟨rfl,⟨nd,rfl⟩⟩) |((with_reducible refine jKb (b:=.append) (xs:=#[.tmp 15, .tmp 17]) rfl ?_);at_builtin;refine Kd.R_append (Kd.int .i64) (w0:=w) w.heap.size rfl (.tmp 15) (.tmp 17) 45 3 (.int .i64 0) 8 rfl Try.underlying45 info3 rfl (by decide) (by omega) (.slice Ao13 x5_1.length co13) x5_1 x1_1 [.int .i64 x1_1] (fun _=>True) (fun _=>False) rfl rfl ?aP (fun _ hk=>hk.elim) ?aF ?aO ?aB ?aS ?aL ?_;(case aP=>exact rfl);(case aB=>exact (Y54));(case aF=>exact (fun _ _=>trivial));(case aO=>exact (rq HO_5.out));(case aS=>exact (jR (Y54)));(case aL=>have:=LMc10.out;omega);intro v115 w14 ho hb hg hat;rw [← Ny114.out] at ho;have n0_:=am (jCa (g:=gb109) (o:=.cells #[.slice A0_0 l0_0.length c0_0] 32 (0,0)) (kq BK109.out) hg (Kd.R_ne HO_5.out BK109.out (by decide)));have n1_:=am (hb);have n2_:=am (ho);clear BK109 HB HO_5;have BK109:=n0_;have HB:=n1_;have HO116:=n2_;clear n0_ n1_ n2_ ho hb hg hat;have hcz15_0:=bc0 BK109.out;have hfz15_0:=jb BK109.out 0;have p117:0≤(x1_1:Int):=ozD (uq);have q117:x1_1<(l0_0.length:Int):=ozD (uq);obtain ⟨ad117,e117,hx117_0,hx117_1,hx117_2,hx117_3,hx117_4⟩:=jdb HR0_0.out x1_1 p117 q117;cases e117;replace hx117_0:=cb HB.out hx117_0;replace hx117_1:=cb HB.out hx117_1;replace hx117_2:=cb HB.out hx117_2;replace hx117_3:=cb HB.out hx117_3;replace hx117_4:=cb HB.out hx117_4;replace p117:=ezT p117;replace q117:=ezT q117))
        go_roundg k1
        case measure=>have:=HK1.out;omega
        case rel=>exact ⟨((ja l0_0 x1_1).f3),(y114),(sq),H',⟨by have:=HK1.out;omega⟩,⟨rq HO116.out⟩,⟨kq BK109.out⟩,⟨Y54⟩⟩
       ·rw [if_neg c12] at H
        exact absurd H (by simp)
      ·rw [if_neg c11] at H
       exact absurd H (by simp)
     ·rw [if_neg c10] at H
      exact absurd H (by simp)
   ·rw [if_neg c6] at H
    have c6b0:decide (0≤x1_1)=false:=dzF c6
    clear c6
    obtain rfl:=Option.some.inj H
    go_wp2
    go_ret
    exact ⟨_,Y1,rq HO_5.out,Y54⟩
def jza.l0 : Nat → ByteArray → Int → Option (Bool)
 | 0,_,_=>none
 | k+1,x0,x3=>if x3<(x0.size:Int) then (if 0≤x3 then (if (bt x0 x3)<97 then (some false) else (if (bt x0 x3) > 122 then (some false) else (jza.l0 k x0 (wrap64 (x3+1))))) else (none)) else ((jM.f (x0.size:Int) 1 6).bind fun t125=>(some t125))
def jza.f (k : Nat) (a0 : ByteArray) : Option (Bool) := jza.l0 k a0 0
set_option maxHeartbeats 8000000 in
set_option maxRecDepth 100000 in
theorem jza.calls (k : Nat) (a0 : ByteArray) (r : Bool) (w : World) (h : jza.f k a0 = some r) :
  Calls Try.prog 109 #[.string a0] w fun e w'=>e=.returned (.bool r)∧jkb w w':=by
 have H:(jza.l0 k a0 0)=some r:=h
 clear h
 have H':=am H
 clear H
 go_enter Try.func109,Try.ntmps109
 go_wp2
 go_loopg [3] k (fun kq v3 w'=>∃ (x3_1:Int),v3=.int .i64 x3_1∧jC (jza.l0 kq a0 x3_1=some r)∧jC (kq≤k)∧jkb w w')
 case atStart=>exact ⟨(0),(sq),H',⟨Nat.le_refl _⟩,Y7⟩
 case round =>
  clear H'
  try clear c1
  obtain ⟨x3_1,rfl,HA,HK1,⟨m1,rfl⟩⟩:=hrel
  cases gk with
  | zero=>exact absurd HA.out (by simp [jza.l0])
  | succ k1 =>
   have H:=HA.out
   clear HA
   simp only [jza.l0] at H
   by_cases c2:x3_1<(a0.size:Int)
   ·rw [if_pos c2] at H
    have c2b0:decide (x3_1<(a0.size:Int))=true:=dzT c2
    clear c2
    by_cases c3:0≤x3_1
    ·rw [if_pos c3] at H
     have c3b0:decide (0≤x3_1)=true:=dzT c3
     clear c3
     by_cases c5:(bt a0 x3_1)<97
     ·rw [if_pos c5] at H
      have c5b0:decide ((bt a0 x3_1)<97)=true:=dzT c5
      clear c5
      obtain rfl:=Option.some.inj H
      have p4:0≤(x3_1:Int):=ozD (uq)
      have q4:x3_1<(a0.size:Int):=ozD (uq)
      have hx4:=bt_at a0 x3_1
      replace p4:=ezT p4
      replace q4:=ezT q4
      go_wp2
      go_ret
      exact ⟨sq,Y7⟩
     ·rw [if_neg c5] at H
      have c5b0:decide ((bt a0 x3_1)<97)=false:=dzF c5
      clear c5
      by_cases c7:(bt a0 x3_1) > 122
      ·rw [if_pos c7] at H
       have c7b0:decide (122<(bt a0 x3_1))=true:=dzT c7
       clear c7
       obtain rfl:=Option.some.inj H
       have p4:0≤(x3_1:Int):=ozD (uq)
       have q4:x3_1<(a0.size:Int):=ozD (uq)
       have hx4:=bt_at a0 x3_1
       replace p4:=ezT p4
       replace q4:=ezT q4
       have p6:0≤(x3_1:Int):=ozD (uq)
       have q6:x3_1<(a0.size:Int):=ozD (uq)
       have hx6:=bt_at a0 x3_1
       replace p6:=ezT p6
       replace q6:=ezT q6
       go_wp2
       go_ret
       exact ⟨sq,Y7⟩
      ·rw [if_neg c7] at H
       have c7b0:decide (122<(bt a0 x3_1))=false:=dzF c7
       clear c7
       have H':=am H
       clear H
       have p4:0≤(x3_1:Int):=ozD (uq)
       have q4:x3_1<(a0.size:Int):=ozD (uq)
       have hx4:=bt_at a0 x3_1
       replace p4:=ezT p4
       replace q4:=ezT q4
       have p6:0≤(x3_1:Int):=ozD (uq)
       have q6:x3_1<(a0.size:Int):=ozD (uq)
       have hx6:=bt_at a0 x3_1
       replace p6:=ezT p6
       replace q6:=ezT q6
       go_wp2
       go_roundg k1
       case measure=>have:=HK1.out;omega
       case rel=>exact ⟨(wrap64 (x3_1+1)),(sq),H',⟨by have:=HK1.out;omega⟩,Y7⟩
    ·rw [if_neg c3] at H
     exact absurd H (by simp)
   ·rw [if_neg c2] at H
    have c2b0:decide (x3_1<(a0.size:Int))=false:=dzF c2
    clear c2
    replace H:=bzS H
    obtain ⟨t125,A80,H⟩:=H
    replace H:(some t125)=some r:=H
    have A8:=am A80
    clear A80
    obtain rfl:=Option.some.inj H
    go_wp2_with (first |((with_reducible refine jy (f:=98) rfl ?_);refine gL (some 22) Try.func98 #[.int .i64 (a0.size:Int), .int .i64 1, .int .i64 6] ?_;(with_reducible refine (jM.calls (a0.size:Int) 1 6 t125 _ A8.out).mono ?_);rintro e w' ⟨rfl,⟨nd,rfl⟩⟩;refine ⟨_,rfl,?_⟩))
    go_ret
    exact ⟨sq,Y7⟩
def jua.l0 : Nat → List (S94) → ByteArray → Int → Option (Int)
 | 0,_,_,_=>none
 | k+1,x0,x1,x5=>if x5<(x0.length:Int) then (if 0≤x5 then (if ((jP x0 x5).f0).toList=x1.toList then (some x5) else (jua.l0 k x0 x1 (wrap64 (x5+1)))) else (none)) else (some (-1))
def jua.f (k : Nat) (l0 : List (S94)) (a1 : ByteArray) : Option (Int) := jua.l0 k l0 a1 0
set_option maxHeartbeats 8000000 in
set_option maxRecDepth 100000 in
theorem jua.calls (k : Nat) (A0 : Option Addr) (c0 : Nat) (l0 : List (S94)) (a1 : ByteArray) (r : Int) (w : World) (hr0 : Kd.C k94 w A0 l0.length l0) (hc0 : l0.length ≤ c0) (h : jua.f k l0 a1 = some r) :
  Calls Try.prog 110 #[.slice A0 l0.length c0, .string a1] w fun e w'=>e=.returned (.int .i64 r)∧jkb w w':=by
 have HR0:=am hr0
 have HC0:=am hc0
 clear hr0 hc0
 have H:(jua.l0 k l0 a1 0)=some r:=h
 clear h
 have H':=am H
 clear H
 go_enter Try.func110,Try.ntmps110
 go_wp2
 go_loopg [5] k (fun kq v5 w'=>∃ (x5_1:Int),v5=.int .i64 x5_1∧jC (jua.l0 kq l0 a1 x5_1=some r)∧jC (kq≤k)∧jkb w w')
 case atStart=>exact ⟨(0),(sq),H',⟨Nat.le_refl _⟩,Y7⟩
 case round =>
  clear H'
  try clear c1
  try clear p2
  obtain ⟨x5_1,rfl,HA,HK1,⟨m1,rfl⟩⟩:=hrel
  cases gk with
  | zero=>exact absurd HA.out (by simp [jua.l0])
  | succ k1 =>
   have H:=HA.out
   clear HA
   simp only [jua.l0] at H
   by_cases c3:x5_1<(l0.length:Int)
   ·rw [if_pos c3] at H
    have c3b0:decide (x5_1<(l0.length:Int))=true:=dzT c3
    clear c3
    by_cases c4:0≤x5_1
    ·rw [if_pos c4] at H
     have c4b0:decide (0≤x5_1)=true:=dzT c4
     clear c4
     by_cases c5:((jP l0 x5_1).f0).toList=a1.toList
     ·rw [if_pos c5] at H
      have c5b0:(((jP l0 x5_1).f0).toList == a1.toList)=true:=beq_iff_eq.mpr c5
      have c5b1:(((jP l0 x5_1).f0).toList != a1.toList)=false:=bne_eq_false_iff_eq.mpr c5
      clear c5
      obtain rfl:=Option.some.inj H
      have p126:0≤(x5_1:Int):=ozD (uq)
      have q126:x5_1<(l0.length:Int):=ozD (uq)
      obtain ⟨ad126,e126,hx126_0,hx126_1⟩:=at_T94 HR0.out x5_1 p126 q126
      cases e126
      replace p126:=ezT p126
      replace q126:=ezT q126
      go_wp2
      go_ret
      exact ⟨sq,Y7⟩
     ·rw [if_neg c5] at H
      have c5b0:(((jP l0 x5_1).f0).toList == a1.toList)=false:=beq_eq_false_iff_ne.mpr c5
      have c5b1:(((jP l0 x5_1).f0).toList != a1.toList)=true:=bne_iff_ne.mpr c5
      have H':=am H
      clear H
      have p126:0≤(x5_1:Int):=ozD (uq)
      have q126:x5_1<(l0.length:Int):=ozD (uq)
      obtain ⟨ad126,e126,hx126_0,hx126_1⟩:=at_T94 HR0.out x5_1 p126 q126
      cases e126
      replace p126:=ezT p126
      replace q126:=ezT q126
      go_wp2
      go_roundg k1
      case measure=>have:=HK1.out;omega
      case rel=>exact ⟨(wrap64 (x5_1+1)),(sq),H',⟨by have:=HK1.out;omega⟩,Y7⟩
    ·rw [if_neg c4] at H
     exact absurd H (by simp)
   ·rw [if_neg c3] at H
    have c3b0:decide (x5_1<(l0.length:Int))=false:=dzF c3
    clear c3
    obtain rfl:=Option.some.inj H
    go_wp2
    go_ret
    exact ⟨sq,Y7⟩
mutual
def jI.l0 : Nat → Int → List (S94) → Option (Bool)
 | 0,_,_=>none
 | k+1,x3,x155000=>if x3<(x155000.length:Int) then (if 0≤x3 then ((jza.f k ((jP x155000 x3).f0)).bind fun t158=>(if t158=true then (if x3≤(x155000.length:Int) then ((jua.f k (x155000.take (x3:Int).toNat) ((jP x155000 x3).f0)).bind fun t163=>(if t163≥0 then (jI.j1 k x3 true x155000) else (if x3=0 then (if ((jP x155000 x3).f1)=(-1) then (if x3 > 0 then ((jM.f ((jP x155000 x3).f1) 0 (wrap64 (x3 - 1))).bind fun t164=>(jI.j1 k x3 (!t164) x155000)) else (jI.j1 k x3 false x155000)) else (jI.j1 k x3 true x155000)) else (if x3 > 0 then ((jM.f ((jP x155000 x3).f1) 0 (wrap64 (x3 - 1))).bind fun t165=>(jI.j1 k x3 (!t165) x155000)) else (jI.j1 k x3 false x155000))))) else (none)) else (jI.j1 k x3 true x155000))) else (none)) else ((jM.f (x155000.length:Int) 1 8).bind fun t155=>(some t155))
def jI.j1 : Nat → Int → Bool → List (S94) → Option (Bool)
 | 0,_,_,_=>none
 | k+1,x3,x51,x155000=>if x51=true then (some false) else (jI.l0 k (wrap64 (x3+1)) x155000)
end
def jI.f (k : Nat) (l0_0 : List (S94)) : Option (Bool) := jI.l0 k 0 l0_0
set_option maxHeartbeats 8000000 in
set_option maxRecDepth 100000 in
theorem jI.calls (k : Nat) (A0_0 : Option Addr) (c0_0 : Nat) (l0_0 : List (S94)) (r : Bool) (w : World) (hr0_0 : Kd.C k94 w A0_0 l0_0.length l0_0) (hc0_0 : l0_0.length ≤ c0_0) (h : jI.f k l0_0 = some r) :
  Calls Try.prog 100 #[.agg #[.slice A0_0 l0_0.length c0_0]] w fun e w'=>e=.returned (.bool r)∧Below w.heap.size w w':=by
 have hu37:=Try.underlying37
 have hu94:=Try.underlying94
 have HR0_0:=am hr0_0
 have HC0_0:=am hc0_0
 clear hr0_0 hc0_0
 have HB:=am (Below.refl w.heap.size w)
 have H:(jI.l0 k 0 l0_0)=some r:=h
 clear h
 have H':=am H
 clear H
 go_enter Try.func100,Try.ntmps100
 go_wp2_with (first |((with_reducible refine jD (N:=1) rfl ?_);refine bE (N:=1) (cs:=#[.slice A0_0 l0_0.length c0_0]) (t:=37) ?_;intro gb154 hg w2 hbox hb;have BK154:=am (hbox);have GW154:=am ((Y0:w.heap.size≤gb154));have GE154:=am ((Y0:w.heap.size≤gb154));replace HB:=am (jf (bq) hb);clear hb hbox hg))
 go_loopg [3] k (fun kq v3 w'=>∃ (x3_1:Int),v3=.int .i64 x3_1∧jC (jI.l0 kq x3_1 l0_0=some r)∧jC (kq≤k)∧jC (w'.heap[gb154]?=some (.cells #[(.slice A0_0 l0_0.length c0_0)] 37 (0,0)))∧jC (Below w.heap.size w w'))
 case atStart=>exact ⟨(0),(sq),H',⟨Nat.le_refl _⟩,⟨kq BK154.out⟩,⟨Y130⟩⟩
 case round =>
  clear H'
  try clear c1
  try clear p2
  obtain ⟨x3_1,rfl,HA,HK1,BK154,HB⟩:=hrel
  cases gk with
  | zero=>exact absurd HA.out (by simp [jI.l0])
  | succ k1 =>
   have H:=HA.out
   clear HA
   simp only [jI.l0] at H
   by_cases c3:x3_1<(l0_0.length:Int)
   ·rw [if_pos c3] at H
    have c3b0:decide (x3_1<(l0_0.length:Int))=true:=dzT c3
    clear c3
    by_cases c4:0≤x3_1
    ·rw [if_pos c4] at H
     have c4b0:decide (0≤x3_1)=true:=dzT c4
     clear c4
     have HC5:=am H
     clear H
     have hcz6_0:=bc0 BK154.out
     have hfz6_0:=jb BK154.out 0
     have p156:0≤(x3_1:Int):=ozD (uq)
     have q156:x3_1<(l0_0.length:Int):=ozD (uq)
     obtain ⟨ad156,e156,hx156_0,hx156_1⟩:=at_T94 HR0_0.out x3_1 p156 q156
     cases e156
     replace hx156_0:=cb HB.out hx156_0
     replace hx156_1:=cb HB.out hx156_1
     replace p156:=ezT p156
     replace q156:=ezT q156
     go_upto_region 5 with (first |((with_reducible refine jD (N:=4) rfl ?_);refine bE (N:=4) (cs:=#[.string (⟨#[]⟩:ByteArray), .int .i64 0]) (t:=94) ?_;intro gb157 hg w7 hbox hb;have BK157:=am (hbox);have GW157:=am ((Y164:w.heap.size≤gb157));have GE157:=am ((Y164:w.heap.size≤gb157));have NB154_157:=am ((by rw [hg];exact Nat.ne_of_lt (jca (g:=gb154) (o:=.cells #[.slice (some ad156) l0_0.length c0_0] 37 (0,0)) (kq BK154.out)):gb154≠gb157));have NB157_154:=am ((by rw [hg];exact Nat.ne_of_gt (jca (g:=gb154) (o:=.cells #[.slice (some ad156) l0_0.length c0_0] 37 (0,0)) (kq BK154.out)):gb157≠gb154));replace BK154:=am (je (g:=gb154) (o:=.cells #[.slice (some ad156) l0_0.length c0_0] 37 (0,0)) (kq BK154.out) hb);replace HB:=am (jf (Y130) hb);clear hb hbox hg;have hnb8:=NB157_154.out;have hnc8:=NB154_157.out;have hcz9_0:=bc0 BK157.out;have hcz9_1:=bc1 BK157.out;have hfz9_0:=jb BK157.out 0;have hfz9_1:=jb BK157.out 1))
     (try simp only [Act.put,List.setIfInBounds_toArray,List.set_cons_zero,List.set_cons_succ])
     go_cut [51] (fun v51 wc=>∃ (kq:Nat) (x51_4:Bool),v51=.bool x51_4∧jC (jI.j1 kq x3_1 x51_4 l0_0=some r)∧jC (kq≤k1)∧jC (wc.heap[gb154]?=some (.cells #[(.slice (some ad156) l0_0.length c0_0)] 37 (0,0)))∧jC (wc.heap[gb157]?=some (.cells #[.string ((jP l0_0 x3_1).f0), .int .i64 ((jP l0_0 x3_1).f1)] 94 (0,0)))∧jC (Below w.heap.size w wc))
     case first =>
      have n0_:jC (((w7.setCell ⟨gb157,0,none⟩ (.string ((jP l0_0 x3_1).f0))).setCell ⟨gb157,1,none⟩ (.int .i64 ((jP l0_0 x3_1).f1))).heap[gb154]?=some (.cells #[.slice (some ad156) l0_0.length c0_0] 37 (0,0))):=⟨by (with_reducible repeat (first | refine jh ?_ _ | refine jg ?_ | refine jk ?_ _));refine jO ?_ NB154_157.out _;(with_reducible repeat (first | refine jh ?_ _ | refine jg ?_ | refine jk ?_ _));refine jO ?_ NB154_157.out _;(with_reducible repeat (first | refine jh ?_ _ | refine jg ?_ | refine jk ?_ _));exact BK154.out⟩
      have n1_:jC (((w7.setCell ⟨gb157,0,none⟩ (.string ((jP l0_0 x3_1).f0))).setCell ⟨gb157,1,none⟩ (.int .i64 ((jP l0_0 x3_1).f1))).heap[gb157]?=some (.cells #[.string ((jP l0_0 x3_1).f0), .int .i64 ((jP l0_0 x3_1).f1)] 94 (0,0))):=⟨by (with_reducible repeat (first | refine jh ?_ _ | refine jg ?_ | refine jk ?_ _));refine jya (cs:=#[.string ((jP l0_0 x3_1).f0), .int .i64 0]) ?_ 1 _ rfl;(with_reducible repeat (first | refine jh ?_ _ | refine jg ?_ | refine jk ?_ _));refine jya (cs:=#[.string (⟨#[]⟩:ByteArray), .int .i64 0]) ?_ 0 _ rfl;(with_reducible repeat (first | refine jh ?_ _ | refine jg ?_ | refine jk ?_ _));exact BK157.out⟩
      have n2_:jC (Below w.heap.size w ((w7.setCell ⟨gb157,0,none⟩ (.string ((jP l0_0 x3_1).f0))).setCell ⟨gb157,1,none⟩ (.int .i64 ((jP l0_0 x3_1).f1)))):=⟨Y131⟩
      clear BK154 BK157 HB hcz9_0 hcz9_1 hfz9_0 hfz9_1
      generalize ((w7.setCell ⟨gb157,0,none⟩ (.string ((jP l0_0 x3_1).f0))).setCell ⟨gb157,1,none⟩ (.int .i64 ((jP l0_0 x3_1).f1)))=w16 at n0_ n1_ n2_ ⊢
      have BK154:=n0_
      have BK157:=n1_
      have HB:=n2_
      clear n0_ n1_ n2_
      have HRW:=am (Kd.jaa HR0_0.out HB.out)
      have e0:w16.cell? ⟨gb157,0,none⟩=some (.string ((jP l0_0 x3_1).f0)):=(jG BK157.out 0).trans rfl
      have e1:w16.cell? ⟨gb157,1,none⟩=some (.int .i64 ((jP l0_0 x3_1).f1)):=(jG BK157.out 1).trans rfl
      have e2:w16.cell? ⟨gb154,0,none⟩=some (.slice (some ad156) l0_0.length c0_0):=(jG BK154.out 0).trans rfl
      have H:=HC5.out
      clear HC5
      obtain ⟨v,hv,H⟩:=bzS H
      have HN:=am (fun W=>(jza.calls k1 _ v W hv).mono fun e w' h=>(⟨h.1,h.2.out⟩:e=.returned (.bool v)∧∃ m,w'=W.drewN m))
      clear hv hx156_0 hx156_1
      generalize hgx:jP l0_0 x3_1=x at H e0 e1 HN BK157
      have HGX:=am hgx
      clear hgx
      cases v with
      | false =>
       have H':=am (show jI.j1 k1 x3_1 true l0_0=some r from H)
       clear H
       go_big_quiet ((go_at_call 109;exact Calls.quiet_of (HN.out _)))
       go_wp2
       go_meet
       case rel=>exact ⟨_,_,rfl,H',⟨by have:=HK1.out;omega⟩,⟨jh BK154.out _⟩,⟨by rw [HGX.out];exact jh BK157.out _⟩,⟨jo HB.out _⟩⟩
      | true =>
       replace H:(if x3_1≤(l0_0.length:Int) then ((jua.f k1 (l0_0.take (x3_1:Int).toNat) x.f0).bind fun t163=>(if t163≥0 then (jI.j1 k1 x3_1 true l0_0) else (if x3_1=0 then (if x.f1=(-1) then (if x3_1 > 0 then ((jM.f x.f1 0 (wrap64 (x3_1 - 1))).bind fun t164=>(jI.j1 k1 x3_1 (!t164) l0_0)) else (jI.j1 k1 x3_1 false l0_0)) else (jI.j1 k1 x3_1 true l0_0)) else (if x3_1 > 0 then ((jM.f x.f1 0 (wrap64 (x3_1 - 1))).bind fun t165=>(jI.j1 k1 x3_1 (!t165) l0_0)) else (jI.j1 k1 x3_1 false l0_0))))) else (none))=some r:=H
       have hle:x3_1≤(l0_0.length:Int):=by have:=ozD c3b0;omega
       have h0:0≤x3_1:=ozD c4b0
       rw [if_pos hle] at H
       obtain ⟨c,hc,H⟩:=bzS H
       obtain ⟨i0,hi0,_,_,_⟩:=info_parts info94
       have hcut:=cut_to (P:=Try.prog) 35 94 .i64 Try.underlying35 hi0 (some ad156) l0_0.length c0_0 x3_1 h0 hle HC0_0.out
       have hr18:=Kd.C_take (m:=(x3_1:Int).toNat) HRW.out (by omega)
       obtain ⟨y,hy⟩:∃ y:List S94,y=l0_0.take (x3_1:Int).toNat:=⟨_,rfl⟩
       have hyl:y.length=(x3_1:Int).toNat:=by rw [hy,List.length_take];omega
       have hyc:y.length≤c0_0:=by have:=HC0_0.out;omega
       rw [← hy] at hr18
       rw [← hyl] at hcut
       rw [← hy] at hc
       have HCN:=am (fun m=>(jua.calls k1 _ _ y x.f0 c (w16.drewN m) (Kd.C_drewN hr18 m) hyc hc).mono fun e w' h=>(⟨h.1,h.2.out⟩:e=.returned (.int .i64 c)∧∃ m',w'=(w16.drewN m).drewN m'))
       clear hr18 hc hy hyl hyc
       have b0:=ezT h0
       have b1:=ezT hle
       by_cases hc0:c≥0
       ·rw [if_pos hc0] at H
        have b2:decide (0≤c)=true:=dzT hc0
        have H':=am H
        clear H hc0 h0 hle
        go_big_quiet (first |(go_at_call 109;exact Calls.quiet_of (HN.out _)) |(go_at_call 110;exact Calls.quiet_of (HCN.out _)))
        go_wp2
        go_meet
        case rel=>exact ⟨_,_,rfl,H',⟨by have:=HK1.out;omega⟩,⟨jh BK154.out _⟩,⟨by rw [HGX.out];exact jh BK157.out _⟩,⟨jo HB.out _⟩⟩
       ·rw [if_neg hc0] at H
        have b2:decide (0≤c)=false:=dzF hc0
        clear hc0
        by_cases hz:x3_1=0
        ·rw [if_pos hz] at H
         have b3:(x3_1 == 0)=true:=beq_iff_eq.2 hz
         have b4:decide (0<x3_1)=false:=dzF (by omega)
         by_cases hf:x.f1 = -1
         ·rw [if_pos hf,if_neg (by omega)] at H
          have b5:(x.f1 != -1)=false:=by simpa using hf
          have H':=am H
          clear H hf h0 hle hz
          go_big_quiet (first |(go_at_call 109;exact Calls.quiet_of (HN.out _)) |(go_at_call 110;exact Calls.quiet_of (HCN.out _)))
          go_wp2
          go_meet
          case rel=>exact ⟨_,_,rfl,H',⟨by have:=HK1.out;omega⟩,⟨jh BK154.out _⟩,⟨by rw [HGX.out];exact jh BK157.out _⟩,⟨jo HB.out _⟩⟩
         ·rw [if_neg hf] at H
          have b5:(x.f1 != -1)=true:=by simpa using hf
          have H':=am H
          clear H hf h0 hle hz
          go_big_quiet (first |(go_at_call 109;exact Calls.quiet_of (HN.out _)) |(go_at_call 110;exact Calls.quiet_of (HCN.out _)))
          go_wp2
          go_meet
          case rel=>exact ⟨_,_,rfl,H',⟨by have:=HK1.out;omega⟩,⟨jh BK154.out _⟩,⟨by rw [HGX.out];exact jh BK157.out _⟩,⟨jo HB.out _⟩⟩
        ·rw [if_neg hz,if_pos (by omega)] at H
         have b3:(x3_1 == 0)=false:=beq_eq_false_iff_ne.2 hz
         have b4:decide (0<x3_1)=true:=dzT (by omega)
         obtain ⟨t,ht,H⟩:=bzS H
         have H':=am H
         have HI:=am (fun W=>(jM.calls _ _ _ t W ht).mono fun e w' h=>(⟨h.1,h.2.out⟩:e=.returned (.bool t)∧∃ m,w'=W.drewN m))
         clear H ht h0 hle hz
         go_big_quiet (first |(go_at_call 109;exact Calls.quiet_of (HN.out _)) |(go_at_call 110;exact Calls.quiet_of (HCN.out _)) |(go_at_call 98;exact Calls.quiet_of (HI.out _)))
         go_wp2
         go_meet
         case rel=>exact ⟨_,_,rfl,H',⟨by have:=HK1.out;omega⟩,⟨jh BK154.out _⟩,⟨by rw [HGX.out];exact jh BK157.out _⟩,⟨jo HB.out _⟩⟩
     case rest =>
      clear HC5
      try clear c1
      try clear c2
      try clear p2
      try clear c3
      try clear q3
      try clear p6
      try clear c11
      try clear c12
      try clear c13
      try clear c21
      try clear c32
      try clear c32b0
      try clear q39
      try clear q39
      obtain ⟨kq,x51_4,rfl,HA,HJ4,BK154,BK157,HB⟩:=hcut
      cases kq with
      | zero=>exact absurd HA.out (by simp [jI.j1])
      | succ kj4 =>
       have H:=HA.out
       clear HA
       simp only [jI.j1] at H
       by_cases c42:x51_4=true
       ·subst c42
        have H1:(some false)=some r:=by rw [if_pos rfl] at H;exact H
        clear H
        have H:=H1
        clear H1
        obtain rfl:=Option.some.inj H
        go_wp2
        go_ret
        exact ⟨Y1,Y131⟩
       ·replace c42:=Bool.eq_false_iff.mpr c42
        subst c42
        have H1:(jI.l0 kj4 (wrap64 (x3_1+1)) l0_0)=some r:=by rw [if_neg (show ¬ (false=true) by decide)] at H;exact H
        clear H
        have H:=H1
        clear H1
        have H':=am H
        clear H
        go_wp2
        go_roundg kj4
        case measure=>have:=HK1.out;have:=HJ4.out;omega
        case rel=>exact ⟨(wrap64 (x3_1+1)),(sq),H',⟨by have:=HK1.out;have:=HJ4.out;omega⟩,⟨kq BK154.out⟩,⟨Y131⟩⟩
    ·rw [if_neg c4] at H
     exact absurd H (by simp)
   ·rw [if_neg c3] at H
    have c3b0:decide (x3_1<(l0_0.length:Int))=false:=dzF c3
    clear c3
    replace H:=bzS H
    obtain ⟨t155,A430,H⟩:=H
    replace H:(some t155)=some r:=H
    have A43:=am A430
    clear A430
    obtain rfl:=Option.some.inj H
    have hcz44_0:=bc0 BK154.out
    have hfz44_0:=jb BK154.out 0
    go_wp2_with (first |((with_reducible refine jy (f:=98) rfl ?_);refine gL (some 55) Try.func98 #[.int .i64 (l0_0.length:Int), .int .i64 1, .int .i64 8] ?_;(with_reducible refine (jM.calls (l0_0.length:Int) 1 8 t155 _ A43.out).mono ?_);rintro e w' ⟨rfl,⟨nd,rfl⟩⟩;refine ⟨_,rfl,?_⟩))
    go_ret
    exact ⟨Y1,Y130⟩
end Go.Proofs.Ytecdfgejmbpclaa.P
end
