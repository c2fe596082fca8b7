/- One part of the proofs on this program: functions of the program as plain functions, that the code comes to them, and facts on them. -/
import Derived.Lib.SliceRun
import Derived.Test.YtecdfgejmbpclaaYAll1
import Derived.Test.YtecdfgejmbpclaaYAll2
import Derived.Test.YtecdfgejmbpclaaYAll3
import Derived.Test.YtecdfgejmbpclaaYAll4
import Derived.Test.YtecdfgejmbpclaaYAll6
import Derived.Test.YtecdfgejmbpclaaYWAuto
section
namespace Go.Proofs.Ytecdfgejmbpclaa.P
open Go.RowKit Go.Proofs.YtecdfgejmbpclaaW.PrintWords Go.Proofs.YtecdfgejmbpclaaW.PrintLast Go.Proofs.YtecdfgejmbpclaaW.PrintMore
attribute [local go_sem] jva jta jFa jEa jha jga jua jsa jF
set_option linter.unusedVariables false
set_option linter.unusedSimpArgs false
def jna.f (k : Nat) (l0 : List Int) : Option ((List (S94)) × (List (S54)) × (List (S54))) := (jlb.f l0).bind fun bt650 => ((jU.f k bt650.1 bt650.2).bind fun bt653 => ((jv.f k bt650.1 bt653.2.2 bt653.1).bind fun bt662 => (some (bt653.1, bt653.2.1, bt662.1))))
def jna.T3 : Bool × List (List Nat × List Nat) := (true, [([], []), ([], []), ([], []), ([], []), ([2, 3], [2, 3]), ([0, 4, 0], [0]), ([1, 5, 0, 1, 5], [1]), ([4, 6, 0, 1, 2, 3, 4, 5, 6], [4])])
def jna.B3 : List Nat := [0, 0, 0, 0, 12, 29, 63, 127]
theorem jna.tab3 : rtab .any (opsOf Try.f35 3) = jna.T3 := by kernel_rfl
theorem jna.bits3 : jFb jna.T3.2 jna.B3 = true := by kernel_rfl
set_option maxHeartbeats 8000000 in
set_option maxRecDepth 100000 in
theorem jna.calls (k : Nat) (A0 : Option Addr) (c0 : Nat) (l0 : List Int) (r1 : List (S94)) (r2 : List (S54)) (r3 : List (S54)) (w : World) (hr0 : Kd.C (Kd.int .u8) w A0 l0.length l0) (hc0 : l0.length ≤ c0) (h : jna.f k l0 = some (r1, r2, r3)) :
  Calls Try.prog 35 #[.slice A0 l0.length c0] w fun e w'=>∃ v0_ v1_ v2_:Value,e=.returned (.tuple #[.agg #[v0_], .agg #[v1_], .agg #[v2_]])∧Kd.R k94 94 w' w.heap.size (fun _=>True) v0_ r1∧Kd.R k54 54 w' w.heap.size (fun k_=>some k_≠(v2_:Value).ownBlock) v1_ r2∧Kd.R k54 54 w' w.heap.size (fun k_=>some k_≠(v1_:Value).ownBlock) v2_ r3∧Below w.heap.size w w':=by
 have hu37:=Try.underlying37
 have hu32:=Try.underlying32
 have HR0:=am hr0
 have HC0:=am hc0
 clear hr0 hc0
 have HB:=am (Below.refl w.heap.size w)
 have H:((jlb.f l0).bind fun bt650=>((jU.f k bt650.1 bt650.2).bind fun bt653=>((jv.f k bt650.1 bt653.2.2 bt653.1).bind fun bt662=>(some (bt653.1,bt653.2.1,bt662.1)))))=some (r1,r2,r3):=h
 clear h
 replace H:=bzS H
 obtain ⟨⟨t650,t651⟩,A20,H⟩:=H
 replace H:((jU.f k t650 t651).bind fun bt653=>((jv.f k t650 bt653.2.2 bt653.1).bind fun bt662=>(some (bt653.1,bt653.2.1,bt662.1))))=some (r1,r2,r3):=H
 have A2:=am A20
 clear A20
 replace H:=bzS H
 obtain ⟨⟨t653,t656,t659⟩,A30,H⟩:=H
 replace H:((jv.f k t650 t659 t653).bind fun bt662=>(some (t653,t656,bt662.1)))=some (r1,r2,r3):=H
 have A3:=am A30
 clear A30
 replace H:=bzS H
 obtain ⟨⟨t662,t665⟩,A40,H⟩:=H
 replace H:(some (t653,t656,t662))=some (r1,r2,r3):=H
 have A4:=am A40
 clear A40
 simp only [Option.some.injEq,Prod.mk.injEq] at H
 obtain ⟨rfl,rfl,rfl⟩:=H
 go_enter Try.func35,Try.ntmps35
 try go_wp2_with (first |((with_reducible refine jI (N:=2) rfl ?_);refine bE (N:=2) (cs:=#[.slice none 0 0]) (t:=37) ?_;intro gb647 hg w5 hbox hb;have BK647:=am (hbox);have GW647:=am ((Y1:w.heap.size≤gb647));have GE647:=am ((Y1:w.heap.size≤gb647));replace HB:=am (jl (bq) hb);clear hb hbox hg) |((with_reducible refine jI (N:=3) rfl ?_);refine bE (N:=3) (cs:=#[.slice none 0 0]) (t:=32) ?_;intro gb648 hg w6 hbox hb;have BK648:=am (hbox);have GW648:=am ((Y198:w.heap.size≤gb648));have GE648:=am ((Y198:w.heap.size≤gb648));have NB647_648:=am ((Y119:gb647≠gb648));have NB648_647:=am ((Y120:gb648≠gb647));replace BK647:=am (je (g:=gb647) (o:=.cells #[.slice none 0 0] 37 (0,0)) (kq BK647.out) hb);replace HB:=am (jl (by repeat (first |(with_reducible first | exact HB.out | apply jy | apply jo | apply jr | refine jk ?_ GE647.out) | exact HB.out)) hb);clear hb hbox hg) |((with_reducible refine jI (N:=4) rfl ?_);refine bE (N:=4) (cs:=#[.slice none 0 0]) (t:=32) ?_;intro gb649 hg w7 hbox hb;have BK649:=am (hbox);have GW649:=am ((Y199:w.heap.size≤gb649));have GE649:=am ((Y199:w.heap.size≤gb649));have NB647_649:=am ((Y119:gb647≠gb649));have NB649_647:=am ((Y120:gb649≠gb647));have NB648_649:=am ((Y148:gb648≠gb649));have NB649_648:=am ((Y149:gb649≠gb648));replace BK647:=am (je (g:=gb647) (o:=.cells #[.slice none 0 0] 37 (0,0)) (kq BK647.out) hb);replace BK648:=am (je (g:=gb648) (o:=.cells #[.slice none 0 0] 32 (0,0)) (kq BK648.out) hb);replace HB:=am (jl (by repeat (first |(with_reducible first | exact HB.out | apply jy | apply jo | apply jr | refine jk ?_ GE647.out | refine jk ?_ GE648.out) | exact HB.out)) hb);clear hb hbox hg) |((with_reducible refine jC (f:=56) rfl ?_);refine gL (some 9) Try.func56 #[.slice A0 l0.length c0] ?_;(with_reducible refine (jlb.calls _ _ l0 t650 t651 w _ ?side1 ?side2 ?side3 A2.out).mono ?_);(case side1=>repeat (first |(with_reducible first | exact HB.out | apply jy | apply jo | apply jr | refine jk ?_ GE647.out | refine jk ?_ GE648.out | refine jk ?_ GE649.out) | exact HB.out));(case side2=>exact HR0.out);(case side3=>exact HC0.out);rintro e w8 ⟨g652,rfl,hi,hb,hb2⟩;refine ⟨_,rfl,?_⟩;have HI652:=am (hi);have NB652_647:=am (jg.ne_blk hi (je (g:=gb647) (o:=.cells #[.slice none 0 0] 37 (0,0)) (kq BK647.out) hb2) (by decide));have NB647_652:=am (Ne.symm (jg.ne_blk hi (je (g:=gb647) (o:=.cells #[.slice none 0 0] 37 (0,0)) (kq BK647.out) hb2) (by decide)));have NB652_648:=am (jg.ne_blk hi (je (g:=gb648) (o:=.cells #[.slice none 0 0] 32 (0,0)) (kq BK648.out) hb2) (by decide));have NB648_652:=am (Ne.symm (jg.ne_blk hi (je (g:=gb648) (o:=.cells #[.slice none 0 0] 32 (0,0)) (kq BK648.out) hb2) (by decide)));have NB652_649:=am (jg.ne_blk hi (je (g:=gb649) (o:=.cells #[.slice none 0 0] 32 (0,0)) (kq BK649.out) hb2) (by decide));have NB649_652:=am (Ne.symm (jg.ne_blk hi (je (g:=gb649) (o:=.cells #[.slice none 0 0] 32 (0,0)) (kq BK649.out) hb2) (by decide)));replace BK647:=am (je (g:=gb647) (o:=.cells #[.slice none 0 0] 37 (0,0)) (kq BK647.out) hb2);replace BK648:=am (je (g:=gb648) (o:=.cells #[.slice none 0 0] 32 (0,0)) (kq BK648.out) hb2);replace BK649:=am (je (g:=gb649) (o:=.cells #[.slice none 0 0] 32 (0,0)) (kq BK649.out) hb2);replace HB:=am (hb);(try clear hb);(try clear hb2);(try clear hk);(try clear hi)) |((with_reducible refine jC (f:=61) rfl ?_);refine gL (some 12) Try.func61 #[.pointer (some ⟨g652,0,none⟩)] ?_;(with_reducible refine (jU.calls k g652 t650 t651 t653 t656 t659 w _ ?side1 ?side2 A3.out).mono ?_);(case side1=>exact Y200);(case side2=>exact Y121);rintro e w9 ⟨v654,v657,rfl,ho0,ho1,hi,hb,hk⟩;refine ⟨_,rfl,?_⟩;have HO655:=am (Kd.jla ho0 (jQ (Y121)));have HO658:=am (Kd.jla ho1 (jQ (Y121)));replace BK647:=am (jh.blk hk (g':=gb647) (o:=.cells #[.slice none 0 0] 37 (0,0)) (kq BK647.out) NB647_652.out (by simp));replace BK648:=am (jh.blk hk (g':=gb648) (o:=.cells #[.slice none 0 0] 32 (0,0)) (kq BK648.out) NB648_652.out (by simp));replace BK649:=am (jh.blk hk (g':=gb649) (o:=.cells #[.slice none 0 0] 32 (0,0)) (kq BK649.out) NB649_652.out (by simp));replace HB:=am (hb);replace HI652:=am (hi);(try clear hb);(try clear hb2);(try clear hk);(try clear hi);(try clear ho0);(try clear ho1)) |((with_reducible refine jI (N:=6) rfl ?_);refine bE (N:=6) (cs:=#[.slice none 0 0]) (t:=37) ?_;intro gb660 hg w10 hbox hb;have BK660:=am (hbox);have GW660:=am ((Y201:w.heap.size≤gb660));have GE660:=am ((Y201:w.heap.size≤gb660));have NB647_660:=am ((Y119:gb647≠gb660));have NB660_647:=am ((Y120:gb660≠gb647));have NB648_660:=am ((Y148:gb648≠gb660));have NB660_648:=am ((Y149:gb660≠gb648));have NB649_660:=am ((by rw [hg];exact Nat.ne_of_lt (jV (g:=gb649) (o:=.cells #[.slice none 0 0] 32 (0,0)) (kq BK649.out)):gb649≠gb660));have NB660_649:=am ((by rw [hg];exact Nat.ne_of_gt (jV (g:=gb649) (o:=.cells #[.slice none 0 0] 32 (0,0)) (kq BK649.out)):gb660≠gb649));have NB652_660:=am ((by rw [hg];exact Nat.ne_of_lt (jg.lt (show jg w _ g652 t650 t659 from by repeat (first |(with_reducible first | exact HI652.out | apply jg.alloc | apply jg.drewN | apply jg.drew | apply jg.jmb | refine jg.far ?_ NB652_647.out _ | refine jg.far ?_ NB652_648.out _ | refine jg.far ?_ NB652_649.out _) | exact HI652.out))):g652≠gb660));have NB660_652:=am ((by rw [hg];exact Nat.ne_of_gt (jg.lt (show jg w _ g652 t650 t659 from by repeat (first |(with_reducible first | exact HI652.out | apply jg.alloc | apply jg.drewN | apply jg.drew | apply jg.jmb | refine jg.far ?_ NB652_647.out _ | refine jg.far ?_ NB652_648.out _ | refine jg.far ?_ NB652_649.out _) | exact HI652.out))):gb660≠g652));replace HO655:=am (Kd.jP (rq HO655.out) hb);replace HO658:=am (Kd.jP (rq HO658.out) hb);replace BK647:=am (je (g:=gb647) (o:=.cells #[.slice none 0 0] 37 (0,0)) (kq BK647.out) hb);replace BK648:=am (je (g:=gb648) (o:=.cells #[.slice none 0 0] 32 (0,0)) (kq BK648.out) hb);replace BK649:=am (je (g:=gb649) (o:=.cells #[.slice none 0 0] 32 (0,0)) (kq BK649.out) hb);replace HB:=am (jl (Y121) hb);replace HI652:=am (jg.below (Y200) hb);clear hb hbox hg) |((with_reducible refine jI (N:=7) rfl ?_);refine bE (N:=7) (cs:=#[.slice none 0 0]) (t:=32) ?_;intro gb661 hg w11 hbox hb;have BK661:=am (hbox);have GW661:=am ((Y202:w.heap.size≤gb661));have GE661:=am ((Y202:w.heap.size≤gb661));have NB647_661:=am ((Y119:gb647≠gb661));have NB661_647:=am ((Y120:gb661≠gb647));have NB648_661:=am ((Y148:gb648≠gb661));have NB661_648:=am ((Y149:gb661≠gb648));have NB649_661:=am ((by rw [hg];exact Nat.ne_of_lt (jV (g:=gb649) (o:=.cells #[.slice none 0 0] 32 (0,0)) (kq BK649.out)):gb649≠gb661));have NB661_649:=am ((by rw [hg];exact Nat.ne_of_gt (jV (g:=gb649) (o:=.cells #[.slice none 0 0] 32 (0,0)) (kq BK649.out)):gb661≠gb649));have NB660_661:=am ((by rw [hg];exact Nat.ne_of_lt (jV (g:=gb660) (o:=.cells #[.slice none 0 0] 37 (0,0)) (kq BK660.out)):gb660≠gb661));have NB661_660:=am ((by rw [hg];exact Nat.ne_of_gt (jV (g:=gb660) (o:=.cells #[.slice none 0 0] 37 (0,0)) (kq BK660.out)):gb661≠gb660));have NB652_661:=am ((by rw [hg];exact Nat.ne_of_lt (jg.lt (show jg w _ g652 t650 t659 from by repeat (first |(with_reducible first | exact HI652.out | apply jg.alloc | apply jg.drewN | apply jg.drew | apply jg.jmb | refine jg.far ?_ NB652_647.out _ | refine jg.far ?_ NB652_648.out _ | refine jg.far ?_ NB652_649.out _ | refine jg.far ?_ NB652_660.out _) | exact HI652.out))):g652≠gb661));have NB661_652:=am ((by rw [hg];exact Nat.ne_of_gt (jg.lt (show jg w _ g652 t650 t659 from by repeat (first |(with_reducible first | exact HI652.out | apply jg.alloc | apply jg.drewN | apply jg.drew | apply jg.jmb | refine jg.far ?_ NB652_647.out _ | refine jg.far ?_ NB652_648.out _ | refine jg.far ?_ NB652_649.out _ | refine jg.far ?_ NB652_660.out _) | exact HI652.out))):gb661≠g652));replace HO655:=am (Kd.jP (rq HO655.out) hb);replace HO658:=am (Kd.jP (rq HO658.out) hb);replace BK647:=am (je (g:=gb647) (o:=.cells #[.slice none 0 0] 37 (0,0)) (kq BK647.out) hb);replace BK648:=am (je (g:=gb648) (o:=.cells #[.slice none 0 0] 32 (0,0)) (kq BK648.out) hb);replace BK649:=am (je (g:=gb649) (o:=.cells #[.slice none 0 0] 32 (0,0)) (kq BK649.out) hb);replace BK660:=am (je (g:=gb660) (o:=.cells #[.slice none 0 0] 37 (0,0)) (kq BK660.out) hb);replace HB:=am (jl (by repeat (first |(with_reducible first | exact HB.out | apply jy | apply jo | apply jr | refine jk ?_ (jg.ge HI652.out) | refine jk ?_ GE647.out | refine jk ?_ GE648.out | refine jk ?_ GE649.out | refine jk ?_ GE660.out) | exact HB.out)) hb);replace HI652:=am (jg.below (by repeat (first |(with_reducible first | exact HI652.out | apply jg.alloc | apply jg.drewN | apply jg.drew | apply jg.jmb | refine jg.far ?_ NB652_647.out _ | refine jg.far ?_ NB652_648.out _ | refine jg.far ?_ NB652_649.out _ | refine jg.far ?_ NB652_660.out _) | exact HI652.out)) hb);clear hb hbox hg;obtain ⟨Ao12,co12,eo12⟩:=Kd.jaa HO655.out;subst eo12;have hnb13:=NB660_647.out;have hnc13:=NB647_660.out;have hnb14:=NB660_648.out;have hnc14:=NB648_660.out;have hnb15:=NB660_649.out;have hnc15:=NB649_660.out;have hnb16:=NB660_661.out;have hnc16:=NB661_660.out;have hnb17:=NB660_652.out;have hnc17:=NB652_660.out;have hcz18_0:=bc0 BK660.out;have hfz18_0:=jf BK660.out 0;obtain ⟨Ao19,co19,eo19⟩:=Kd.jaa HO658.out;subst eo19;have hnb20:=NB661_647.out;have hnc20:=NB647_661.out;have hnb21:=NB661_648.out;have hnc21:=NB648_661.out;have hnb22:=NB661_649.out;have hnc22:=NB649_661.out;have hnb23:=NB661_652.out;have hnc23:=NB652_661.out;have hcz24_0:=bc0 BK661.out;have hfz24_0:=jf BK661.out 0))
 have n0_:jw (Kd.R k94 94 ((w11.setCell ⟨gb660,0,none⟩ (.slice Ao12 t653.length co12)).setCell ⟨gb661,0,none⟩ (.slice Ao19 t656.length co19)) w.heap.size (fun _=>True) (.slice Ao12 t653.length co12) t653):=⟨by (with_reducible repeat (first | apply Kd.jL | apply Kd.jM | apply Kd.jN));exact Kd.jD (Kd.jX (p:=⟨gb661,0,none⟩) (Kd.jX (p:=⟨gb660,0,none⟩) (Kd.jJ (Kd.jJ HO655.out BK660.out (by decide)) BK661.out (by decide)) (fun _ hk=>hk.1.2) (.slice Ao12 t653.length co12)) (fun _ hk=>hk.2) (.slice Ao19 t656.length co19)) (fun _ hk=>trivial)⟩
 have n1_:jw (Kd.R k54 54 ((w11.setCell ⟨gb660,0,none⟩ (.slice Ao12 t653.length co12)).setCell ⟨gb661,0,none⟩ (.slice Ao19 t656.length co19)) w.heap.size (fun _=>True) (.slice Ao19 t656.length co19) t656):=⟨by (with_reducible repeat (first | apply Kd.jL | apply Kd.jM | apply Kd.jN));exact Kd.jD (Kd.jX (p:=⟨gb661,0,none⟩) (Kd.jX (p:=⟨gb660,0,none⟩) (Kd.jJ (Kd.jJ HO658.out BK660.out (by decide)) BK661.out (by decide)) (fun _ hk=>hk.1.2) (.slice Ao12 t653.length co12)) (fun _ hk=>hk.2) (.slice Ao19 t656.length co19)) (fun _ hk=>trivial)⟩
 have n2_:jw (((w11.setCell ⟨gb660,0,none⟩ (.slice Ao12 t653.length co12)).setCell ⟨gb661,0,none⟩ (.slice Ao19 t656.length co19)).heap[gb647]?=some (.cells #[.slice none 0 0] 37 (0,0))):=⟨by (with_reducible repeat (first | refine jb ?_ _ | refine jd ?_ | refine jc ?_ _));refine jA ?_ NB647_661.out _;(with_reducible repeat (first | refine jb ?_ _ | refine jd ?_ | refine jc ?_ _));refine jA ?_ NB647_660.out _;(with_reducible repeat (first | refine jb ?_ _ | refine jd ?_ | refine jc ?_ _));exact BK647.out⟩
 have n3_:jw (((w11.setCell ⟨gb660,0,none⟩ (.slice Ao12 t653.length co12)).setCell ⟨gb661,0,none⟩ (.slice Ao19 t656.length co19)).heap[gb648]?=some (.cells #[.slice none 0 0] 32 (0,0))):=⟨by (with_reducible repeat (first | refine jb ?_ _ | refine jd ?_ | refine jc ?_ _));refine jA ?_ NB648_661.out _;(with_reducible repeat (first | refine jb ?_ _ | refine jd ?_ | refine jc ?_ _));refine jA ?_ NB648_660.out _;(with_reducible repeat (first | refine jb ?_ _ | refine jd ?_ | refine jc ?_ _));exact BK648.out⟩
 have n4_:jw (((w11.setCell ⟨gb660,0,none⟩ (.slice Ao12 t653.length co12)).setCell ⟨gb661,0,none⟩ (.slice Ao19 t656.length co19)).heap[gb649]?=some (.cells #[.slice none 0 0] 32 (0,0))):=⟨by (with_reducible repeat (first | refine jb ?_ _ | refine jd ?_ | refine jc ?_ _));refine jA ?_ NB649_661.out _;(with_reducible repeat (first | refine jb ?_ _ | refine jd ?_ | refine jc ?_ _));refine jA ?_ NB649_660.out _;(with_reducible repeat (first | refine jb ?_ _ | refine jd ?_ | refine jc ?_ _));exact BK649.out⟩
 have n5_:jw (((w11.setCell ⟨gb660,0,none⟩ (.slice Ao12 t653.length co12)).setCell ⟨gb661,0,none⟩ (.slice Ao19 t656.length co19)).heap[gb660]?=some (.cells #[.slice Ao12 t653.length co12] 37 (0,0))):=⟨by (with_reducible repeat (first | refine jb ?_ _ | refine jd ?_ | refine jc ?_ _));refine jA ?_ NB660_661.out _;(with_reducible repeat (first | refine jb ?_ _ | refine jd ?_ | refine jc ?_ _));refine jfa (cs:=#[.slice none 0 0]) ?_ 0 _ rfl;(with_reducible repeat (first | refine jb ?_ _ | refine jd ?_ | refine jc ?_ _));exact BK660.out⟩
 have n6_:jw (((w11.setCell ⟨gb660,0,none⟩ (.slice Ao12 t653.length co12)).setCell ⟨gb661,0,none⟩ (.slice Ao19 t656.length co19)).heap[gb661]?=some (.cells #[.slice Ao19 t656.length co19] 32 (0,0))):=⟨by (with_reducible repeat (first | refine jb ?_ _ | refine jd ?_ | refine jc ?_ _));refine jfa (cs:=#[.slice none 0 0]) ?_ 0 _ rfl;(with_reducible repeat (first | refine jb ?_ _ | refine jd ?_ | refine jc ?_ _));refine jA ?_ NB661_660.out _;(with_reducible repeat (first | refine jb ?_ _ | refine jd ?_ | refine jc ?_ _));exact BK661.out⟩
 have n7_:jw (jg w ((w11.setCell ⟨gb660,0,none⟩ (.slice Ao12 t653.length co12)).setCell ⟨gb661,0,none⟩ (.slice Ao19 t656.length co19)) g652 t650 t659):=⟨Y97⟩
 have n8_:jw (Below w.heap.size w ((w11.setCell ⟨gb660,0,none⟩ (.slice Ao12 t653.length co12)).setCell ⟨gb661,0,none⟩ (.slice Ao19 t656.length co19))):=⟨Y122⟩
 (try clear HO655)
 (try clear HO658)
 (try clear BK647)
 (try clear BK648)
 (try clear BK649)
 (try clear BK660)
 (try clear BK661)
 (try clear HI652)
 (try clear HB)
 generalize ((w11.setCell ⟨gb660,0,none⟩ (.slice Ao12 t653.length co12)).setCell ⟨gb661,0,none⟩ (.slice Ao19 t656.length co19))=w25 at n0_ n1_ n2_ n3_ n4_ n5_ n6_ n7_ n8_ ⊢
 have HO655:=n0_
 have HO658:=n1_
 have BK647:=n2_
 have BK648:=n3_
 have BK649:=n4_
 have BK660:=n5_
 have BK661:=n6_
 have HI652:=n7_
 have HB:=n8_
 clear n0_ n1_ n2_ n3_ n4_ n5_ n6_ n7_ n8_
 replace HO655:=am (Kd.jN HO655.out)
 replace HO658:=am (Kd.jN HO658.out)
 replace BK647:=am (jd BK647.out)
 replace BK648:=am (jd BK648.out)
 replace BK649:=am (jd BK649.out)
 replace BK660:=am (jd BK660.out)
 replace BK661:=am (jd BK661.out)
 replace HI652:=am (jg.drew HI652.out)
 replace HB:=am (jr HB.out)
 refine jPb (n:=8) (S:=fun w'=>w'.cell? ⟨gb660,0,none⟩=some (.slice Ao12 t653.length co12)∧w'.cell? ⟨gb661,0,none⟩=some (.slice Ao19 t656.length co19)) (ds:=[]) #[false,false,false,false,false,false,false,false] (by kernel_rfl) rfl rfl ⟨(jH BK660.out 0).trans rfl,(jH BK661.out 0).trans rfl⟩ (fun hHeld=>?_);refine jvb jna.tab3 jna.bits3 (fun HT_ HW_=>?_)
 generalize w25.drew=w26 at HO655 HO658 BK647 BK648 BK649 BK660 BK661 HI652 HB hHeld ⊢
 refine pq (i:=2) (N:=some 17) #[false,false,true,false,false,false,false,false] ?_
 refine jwb (i:=0) (N:=some 15) (v:=?_) (a':=?_) #[true,false,true,false,false,false,false,false] rfl rfl (jZa HT_.out HW_.out (by kernel_rfl)) (fun _ _ _ h=>h) (Or.inl ⟨by rfl,?_⟩) hHeld ?_ ?_
 rotate_left
 ·rintro w' ⟨s0,s1⟩
  go_simp
  with_reducible rfl
 rotate_left
 ·exact sa
 refine jwb (i:=1) (N:=some 16) (v:=?_) (a':=?_) #[true,true,true,false,false,false,false,false] rfl rfl (jZa HT_.out HW_.out (by kernel_rfl)) (fun _ _ _ h=>h) (Or.inl ⟨by rfl,?_⟩) hHeld ?_ ?_
 rotate_left
 ·rintro w' ⟨s0,s1⟩
  go_simp
  with_reducible rfl
 rotate_left
 ·exact sa
 refine jwb (i:=3) (N:=some 18) (v:=?_) (a':=?_) #[true,true,true,true,false,false,false,false] rfl rfl (jZa HT_.out HW_.out (by kernel_rfl)) (fun _ _ _ h=>h) (Or.inl ⟨by rfl,?_⟩) hHeld ?_ ?_
 rotate_left
 ·rintro w' ⟨s0,s1⟩
  go_simp
  with_reducible rfl
 rotate_left
 ·exact sa
 refine one_ (i:=4) (N:=some 19) #[true,true,true,true,true,false,false,false] rfl rfl (jUa HT_.out (by kernel_rfl)) (by decide) (fun K hK=>?_)
 refine goes_ Try.func62 (by kernel_rfl) rfl #[.pointer (some ⟨g652,0,none⟩), .agg #[.slice Ao12 t653.length co12]] (by rfl) rfl rfl (aq) ?_
 with_reducible refine (jv.calls k g652 t650 t659 _ _ t653 t662 t665 w _ ?side1 ?side2 ?side3 ?side4 A4.out).mono ?_
 (case side1=>exact Y97)
 (case side2=>exact Y122)
 (case side3=>exact Kd.jJb (jg.apart (show jg w _ g652 t650 t659 from Y97) (rq HO655.out) (by decide)) (fun _ h_=>h_.2))
 (case side4=>exact (Kd.jB HO655.out).2.1)
 rintro e w27 ⟨v663,rfl,ho0,hi,hb,hk⟩
 refine ⟨_,rfl,?_⟩
 have HO664:=am (Kd.jla (Kd.jAb ho0 (Kd.R_lt (rq HO658.out))) (jQ (Y122)))
 replace BK647:=am (jh.blk hk (g':=gb647) (o:=.cells #[.slice none 0 0] 37 (0,0)) (kq BK647.out) NB647_652.out (by simp))
 replace BK648:=am (jh.blk hk (g':=gb648) (o:=.cells #[.slice none 0 0] 32 (0,0)) (kq BK648.out) NB648_652.out (by simp))
 replace BK649:=am (jh.blk hk (g':=gb649) (o:=.cells #[.slice none 0 0] 32 (0,0)) (kq BK649.out) NB649_652.out (by simp))
 replace HO655:=am (Kd.jD (Kd.jqa (jg.apart (show jg w _ g652 t650 t659 from Y97) (rq HO655.out) (by decide)) hk (fun _ h=>h.2)) (fun _ h=>h.1))
 replace HO658:=am (Kd.jD (Kd.R_told (Kd.R_oldK (jg.apart (show jg w _ g652 t650 t659 from Y97) (rq HO658.out) (by decide)) hk) (Kd.jBb ho0)) (fun _ h_=>h_.1))
 replace BK660:=am (jh.blk hk (g':=gb660) (o:=.cells #[.slice Ao12 t653.length co12] 37 (0,0)) (kq BK660.out) NB660_652.out (by simp))
 replace BK661:=am (jh.blk hk (g':=gb661) (o:=.cells #[.slice Ao19 t656.length co19] 32 (0,0)) (kq BK661.out) NB661_652.out (by simp))
 replace HB:=am (hb)
 replace HI652:=am (hi)
 (try clear hb)
 (try clear hb2)
 (try clear hk)
 (try clear hi)
 (try clear ho0)
 obtain ⟨Ao30,co30,eo30⟩:=Kd.jaa HO664.out
 (first | subst eo30 |(injection eo30 with f1_ f2_ f3_;have f4_:=f1_.symm;have f5_:=f3_.symm;clear f1_ f2_ f3_;subst f4_;subst f5_))
 refine hK.out _ _ ⟨(jH BK660.out 0).trans rfl,(jH BK661.out 0).trans rfl⟩ (fun hHeld=>?_)
 clear hK K
 refine jLb (a':=?_) ?_ ?_
 rotate_left
 ·show Act.put _ (some 19) _=_
  simp only [Act.put,List.setIfInBounds_toArray,List.set_cons_zero,List.set_cons_succ,jjb,job]
  rfl
 refine one_ (i:=5) (N:=none) #[true,true,true,true,true,true,false,false] rfl rfl (jUa HT_.out (by kernel_rfl)) (by decide) (fun K hK=>?_)
 have hs28:w27.cell? ⟨gb647,0,none⟩=some (.slice none 0 0):=(jH BK647.out 0).trans rfl
 have hfs28:=jf BK647.out 0
 have hns28_1:=NB648_647.out
 have hns28_2:=NB649_647.out
 have hns28_3:=NB660_647.out
 have hns28_4:=NB661_647.out
 have hms28_1:=NB647_648.out
 have hms28_2:=NB647_649.out
 have hms28_3:=NB647_660.out
 have hms28_4:=NB647_661.out
 refine jQb (w1:=?_) (by rfl) rfl ?_ ?_
 rotate_left
 ·go_simp
  rfl
 refine hK.out _ _ ⟨((cell_far (p:=⟨gb647,_,none⟩) NB660_647.out _).trans (hHeld.1)),((cell_far (p:=⟨gb647,_,none⟩) NB661_647.out _).trans (hHeld.2))⟩ (fun hHeld=>?_)
 clear hK K
 refine one_ (i:=6) (N:=none) #[true,true,true,true,true,true,true,false] rfl rfl (jUa HT_.out (by kernel_rfl)) (by decide) (fun K hK=>?_)
 have hs29:w27.cell? ⟨gb648,0,none⟩=some (.slice none 0 0):=(jH BK648.out 0).trans rfl
 have hfs29:=jf BK648.out 0
 have hns29_0:=NB647_648.out
 have hns29_2:=NB649_648.out
 have hns29_3:=NB660_648.out
 have hns29_4:=NB661_648.out
 have hms29_0:=NB648_647.out
 have hms29_2:=NB648_649.out
 have hms29_3:=NB648_660.out
 have hms29_4:=NB648_661.out
 refine jQb (w1:=?_) (by rfl) rfl ?_ ?_
 rotate_left
 ·go_simp
  rfl
 refine hK.out _ _ ⟨((cell_far (p:=⟨gb648,_,none⟩) NB660_648.out _).trans (hHeld.1)),((cell_far (p:=⟨gb648,_,none⟩) NB661_648.out _).trans (hHeld.2))⟩ (fun hHeld=>?_)
 clear hK K
 refine one_ (i:=7) (N:=none) #[true,true,true,true,true,true,true,true] rfl rfl (jUa HT_.out (by kernel_rfl)) (by decide) (fun K hK=>?_)
 have hs31:w27.cell? ⟨gb649,0,none⟩=some (.slice none 0 0):=(jH BK649.out 0).trans rfl
 have hfs31:=jf BK649.out 0
 have hns31_0:=NB647_649.out
 have hns31_1:=NB648_649.out
 have hns31_3:=NB660_649.out
 have hns31_4:=NB661_649.out
 have hms31_0:=NB649_647.out
 have hms31_1:=NB649_648.out
 have hms31_3:=NB649_660.out
 have hms31_4:=NB649_661.out
 refine jQb (w1:=?_) (by rfl) rfl ?_ ?_
 rotate_left
 ·go_simp
  rfl
 refine hK.out _ _ ⟨((cell_far (p:=⟨gb649,_,none⟩) NB660_649.out _).trans (hHeld.1)),((cell_far (p:=⟨gb649,_,none⟩) NB661_649.out _).trans (hHeld.2))⟩ (fun hHeld=>?_)
 clear hK K
 refine done_ (jWb HT_.out (by kernel_rfl)) ?_
 try go_wp2
 refine bodyPost_ret (results_list (rs:=[.cell 2 37, .cell 3 32, .cell 4 32]) rfl (by simp) (.cell gb647 37 #[.slice Ao12 t653.length co12] (0,0) _ rfl (by (with_reducible repeat (first | refine jb ?_ _ | refine jd ?_ | refine jc ?_ _));refine jA ?_ NB647_649.out _;(with_reducible repeat (first | refine jb ?_ _ | refine jd ?_ | refine jc ?_ _));refine jA ?_ NB647_648.out _;(with_reducible repeat (first | refine jb ?_ _ | refine jd ?_ | refine jc ?_ _));refine jfa (cs:=#[.slice none 0 0]) ?_ 0 _ rfl;(with_reducible repeat (first | refine jb ?_ _ | refine jd ?_ | refine jc ?_ _));exact BK647.out) Try.underlying37 rfl (by kernel_rfl) (.cell gb648 32 #[.slice Ao19 t656.length co19] (0,0) _ rfl (by (with_reducible repeat (first | refine jb ?_ _ | refine jd ?_ | refine jc ?_ _));refine jA ?_ NB648_649.out _;(with_reducible repeat (first | refine jb ?_ _ | refine jd ?_ | refine jc ?_ _));refine jfa (cs:=#[.slice none 0 0]) ?_ 0 _ rfl;(with_reducible repeat (first | refine jb ?_ _ | refine jd ?_ | refine jc ?_ _));refine jA ?_ NB648_647.out _;(with_reducible repeat (first | refine jb ?_ _ | refine jd ?_ | refine jc ?_ _));exact BK648.out) Try.underlying32 rfl (by kernel_rfl) (.cell gb649 32 #[.slice Ao30 t662.length co30] (0,0) _ rfl (by (with_reducible repeat (first | refine jb ?_ _ | refine jd ?_ | refine jc ?_ _));refine jfa (cs:=#[.slice none 0 0]) ?_ 0 _ rfl;(with_reducible repeat (first | refine jb ?_ _ | refine jd ?_ | refine jc ?_ _));refine jA ?_ NB649_648.out _;(with_reducible repeat (first | refine jb ?_ _ | refine jd ?_ | refine jc ?_ _));refine jA ?_ NB649_647.out _;(with_reducible repeat (first | refine jb ?_ _ | refine jd ?_ | refine jc ?_ _));exact BK649.out) Try.underlying32 rfl (by kernel_rfl) .nil)))) rfl ?_
 exact ⟨_,_,_,Y2,by (with_reducible repeat (first | apply Kd.jL | apply Kd.jM | apply Kd.jN));exact Kd.jD (Kd.jX (p:=⟨gb649,0,none⟩) (Kd.jX (p:=⟨gb648,0,none⟩) (Kd.jX (p:=⟨gb647,0,none⟩) (Kd.jJ (Kd.jJ (Kd.jJ HO655.out BK647.out (by decide)) BK648.out (by decide)) BK649.out (by decide)) (fun _ hk=>hk.1.1.2) (.slice Ao12 t653.length co12)) (fun _ hk=>hk.1.2) (.slice Ao19 t656.length co19)) (fun _ hk=>hk.2) (.slice Ao30 t662.length co30)) (fun _ hk=>trivial),by (with_reducible repeat (first | apply Kd.jL | apply Kd.jM | apply Kd.jN));exact Kd.jD (Kd.jX (p:=⟨gb649,0,none⟩) (Kd.jX (p:=⟨gb648,0,none⟩) (Kd.jX (p:=⟨gb647,0,none⟩) (Kd.jJ (Kd.jJ (Kd.jJ HO658.out BK647.out (by decide)) BK648.out (by decide)) BK649.out (by decide)) (fun _ hk=>hk.1.1.2) (.slice Ao12 t653.length co12)) (fun _ hk=>hk.1.2) (.slice Ao19 t656.length co19)) (fun _ hk=>hk.2) (.slice Ao30 t662.length co30)) (fun _ hk=>hk.1.1.1.2),by (with_reducible repeat (first | apply Kd.jL | apply Kd.jM | apply Kd.jN));exact Kd.jD (Kd.jX (p:=⟨gb649,0,none⟩) (Kd.jX (p:=⟨gb648,0,none⟩) (Kd.jX (p:=⟨gb647,0,none⟩) (Kd.jJ (Kd.jJ (Kd.jJ HO664.out BK647.out (by decide)) BK648.out (by decide)) BK649.out (by decide)) (fun _ hk=>hk.1.1.2) (.slice Ao12 t653.length co12)) (fun _ hk=>hk.1.2) (.slice Ao19 t656.length co19)) (fun _ hk=>hk.2) (.slice Ao30 t662.length co30)) (fun _ hk=>hk.1.1.1.2),Y122⟩
def jib.f (l0 : List S54) : Option (List S54) := if l0.length < 1099511627776 then some l0 else none
set_option maxHeartbeats 8000000 in
set_option maxRecDepth 100000 in
theorem jib.calls (A0 : Option Addr) (c0 : Nat) (l0 : List S54) (r : List S54) (w : World) (hr0 : Kd.C k54 w A0 l0.length l0) (hc0 : l0.length ≤ c0) (h : jib.f l0 = some r) :
  Calls Try.prog 64 #[.slice A0 l0.length c0] w fun e w'=>∃ v0_:Value,e=.returned (v0_)∧Kd.R k54 54 w' w.heap.size (fun _=>True) v0_ r∧Below w.heap.size w w':=by
 unfold jib.f at h
 by_cases hlen:l0.length<1099511627776
 ·rw [if_pos hlen] at h
  obtain rfl:=Option.some.inj h
  have LM:=am hlen
  have q22:∀ (w:World) (a:Option Addr) (n c n' c':Nat),(binOp .eql 30 (.slice a n c) (.slice none n' c')).run Try.prog w=.ok (.bool a.isNone) w:=fun w a n c n' c'=>Lib.run_eql_slice_nil w _ _ a n c n' c' Try.underlying30
  clear h hlen
  cases A0 with
  | none =>
   have h0:l0=[]:=by
    rcases Nat.eq_zero_or_pos l0.length with h | h
    ·exact List.eq_nil_of_length_eq_zero h
    ·obtain ⟨ad,e,_⟩:=hr0.2.2 h;cases e
   subst h0
   clear hr0
   go_enter Try.func64,Try.ntmps64
   go_wp2
   go_ret
   exact ⟨_,rfl,Kd.R_nil _ _ _ _ _,Below.refl _ _⟩
  | some ad =>
   have HR:=am hr0
   have HB:=am (Below.refl w.heap.size w)
   clear hr0
   go_enter Try.func64,Try.ntmps64
   go_wp2_with (first |((with_reducible refine jI (N:=5) rfl ?_);refine Kd.R_lit k54 _ 54 ?hg (N:=5) ?hd (xs:=([]:List S54)) (inner:=[]) (ok:=fun _=>True) (okp:=fun _=>True) ?hr ?hp (fun _ hk=>hk) trivial (Below.refl _ _) (Nat.le_refl _) (by simp) ?_;(case hd=>rfl);(case hg=>rfl);(case hr=>exact Y4);(case hp=>exact (Reps.none _ _));intro v111 w4 ho5 hb hg_ hnew_;clear hg_ hnew_;have HO:=am ho5;have HB2:=am hb;clear HB ho5 hb;have HB:=HB2;clear HB2) |(at_builtin;refine Kd.R_append_rows k54 (w0:=w) w.heap.size rfl (.tmp 5) (.tmp 6) 30 54 (.agg #[(.int .i64 0),(.int .i64 0),(.int .i64 0),(.int .i64 0),(.bool false)]) 40 rfl Try.underlying30 info54 rfl (by decide) (by omega) v111 ([]:List S54) l0 _ _ _ (fun _=>True) (fun _=>False) rfl rfl HO.out (Kd.jea HR.out HB.out) (fun _ _ h=>h) (fun _ h=>h.elim) (fun _ _=>trivial) HB.out (jQ HB.out) (by have:=LM.out;simp only [List.length_nil];omega) ?_;intro v1 w2 ho hb hg hat;have HV2:=am ho;have HB2:=am hb;clear ho hb hg hat))
   go_ret
   exact ⟨_,rfl,by simpa using HV2.out,HB2.out⟩
 ·rw [if_neg hlen] at h;cases h
def jhL (n z : Int) : Int := if z ≥ 0 then wrap64 (z + n) else z
def jh1 (n : Int) (x : S54) : S54 := ⟨x.f0, x.f1, jhL n x.f2, x.f3, x.f4⟩
def jhF (n : Int) (x : S54) : S54 := ⟨x.f0, x.f1, jhL n x.f2, jhL n x.f3, x.f4⟩
def jcb.f (k : Nat) (l0_0 : List S94) (l1_0 l2_0 : List S54) : Option (List S54 × Bool) :=
 (jCa.f k l0_0 l1_0).bind fun v=>if v=true then ((jCa.f k l0_0 l2_0).bind fun v2=>if v2=true then (if l1_0.length+l2_0.length<1099511627776 then (if ((l1_0 ++ l2_0.map (jhF (l1_0.length:Int))).length:Int) > 24 then some ([],false) else some (l1_0 ++ l2_0.map (jhF (l1_0.length:Int)),true)) else none) else some ([],false)) else some ([],false)
theorem jc0 {w : World} {b : Nat} {v : Value} {l : List Value} {t : TypeId} (h : w.heap[b]? = some (.cells ⟨v :: l⟩ t (0, 0))) : w.cell? ⟨b, 0, none⟩ = some v := (jH h 0).trans rfl
theorem jc1 {w : World} {b : Nat} {v v1 : Value} {l : List Value} {t : TypeId} (h : w.heap[b]? = some (.cells ⟨v :: v1 :: l⟩ t (0, 0))) : w.cell? ⟨b, 1, none⟩ = some v1 := (jH h 1).trans rfl
theorem jc2 {w : World} {b : Nat} {v v1 v2 : Value} {l : List Value} {t : TypeId} (h : w.heap[b]? = some (.cells ⟨v :: v1 :: v2 :: l⟩ t (0, 0))) : w.cell? ⟨b, 2, none⟩ = some v2 := (jH h 2).trans rfl
theorem jc3 {w : World} {b : Nat} {v v1 v2 v3 : Value} {l : List Value} {t : TypeId} (h : w.heap[b]? = some (.cells ⟨v :: v1 :: v2 :: v3 :: l⟩ t (0, 0))) : w.cell? ⟨b, 3, none⟩ = some v3 := (jH h 3).trans rfl
theorem jc4 {w : World} {b : Nat} {v v1 v2 v3 v4 : Value} {l : List Value} {t : TypeId} (h : w.heap[b]? = some (.cells ⟨v :: v1 :: v2 :: v3 :: v4 :: l⟩ t (0, 0))) : w.cell? ⟨b, 4, none⟩ = some v4 := (jH h 4).trans rfl
theorem jh_valid {k : Nat} {t : List S94} {h : List S54} (e : jCa.f k t h = some true) : h.length ≤ 24 := by
 unfold jCa.f at e
 split at e
 ·cases e
 ·obtain ⟨b,_,e⟩:=bzS e
  split at e
  ·obtain ⟨v,_,e⟩:=bzS e
   have e:=Option.some.inj e
   split at e
   ·have:=ozD e;omega
   ·cases e
  ·cases e
theorem blk_stored {w : World} {b : Nat} {cs : Array Value} {t : TypeId} (h : w.heap[b]? = some (.cells cs t (0, 0))) (i : Nat) (u : Value) : (w.setCell ⟨b, i, none⟩ u).heap[b]? = some (.cells (cs.setIfInBounds i u) t (0, 0)) := heap_setCell_same w b i cs t u h
set_option maxHeartbeats 8000000 in
set_option maxRecDepth 100000 in
theorem jcb.calls (k : Nat) (A0_0 : Option Addr) (c0_0 : Nat) (l0_0 : List (S94)) (A1_0 : Option Addr) (c1_0 : Nat) (l1_0 : List (S54)) (A2_0 : Option Addr) (c2_0 : Nat) (l2_0 : List (S54)) (r1 : List (S54)) (r2 : Bool) (w : World) (hr0_0 : Kd.C k94 w A0_0 l0_0.length l0_0) (hc0_0 : l0_0.length ≤ c0_0) (hr1_0 : Kd.C k54 w A1_0 l1_0.length l1_0) (hc1_0 : l1_0.length ≤ c1_0) (hr2_0 : Kd.C k54 w A2_0 l2_0.length l2_0) (hc2_0 : l2_0.length ≤ c2_0) (h : jcb.f k l0_0 l1_0 l2_0 = some (r1, r2)) :
  Calls Try.prog 36 #[.agg #[.slice A0_0 l0_0.length c0_0], .agg #[.slice A1_0 l1_0.length c1_0], .agg #[.slice A2_0 l2_0.length c2_0]] w fun e w'=>∃ v0_:Value,e=.returned (.tuple #[.agg #[v0_], .bool r2])∧Kd.R k54 54 w' w.heap.size (fun _=>True) v0_ r1∧Below w.heap.size w w':=by
 have hu32:=Try.underlying32
 have hu37:=Try.underlying37
 have hu54:=Try.underlying54
 obtain ⟨v,hv,h⟩:=bzS h
 have HR2:=am hr2_0
 have HV1:=am (fun W (hb:Below w.heap.size w W)=>jCa.calls k A0_0 c0_0 l0_0 A1_0 c1_0 l1_0 v W (Kd.jea hr0_0 hb) hc0_0 (Kd.jea hr1_0 hb) hc1_0 hv)
 have HB:=am (show Below w.heap.size w ((((w.alloc (.cells #[.slice A0_0 l0_0.length c0_0] 37)).alloc (.cells #[.slice A1_0 l1_0.length c1_0] 32)).alloc (.cells #[.slice A2_0 l2_0.length c2_0] 32)).alloc (.cells #[.slice none 0 0] 32)) from ((((Below.refl w.heap.size w).alloc (Nat.le_refl _) _).alloc (by simp) _).alloc (by simp;omega) _).alloc (by simp;omega) _)
 have BT:=am (show ((((w.alloc (.cells #[.slice A0_0 l0_0.length c0_0] 37)).alloc (.cells #[.slice A1_0 l1_0.length c1_0] 32)).alloc (.cells #[.slice A2_0 l2_0.length c2_0] 32)).alloc (.cells #[.slice none 0 0] 32)).heap[w.heap.size]?=some (.cells #[.slice A0_0 l0_0.length c0_0] 37 (0,0)) from by have h:=heap_alloc_new w (.cells #[.slice A0_0 l0_0.length c0_0] 37);have h:=(show (w.alloc (.cells #[.slice A0_0 l0_0.length c0_0] 37)).heap[w.heap.size]?=some (.cells #[.slice A0_0 l0_0.length c0_0] 37 (0,0)) by simpa only [World.size_alloc] using h);have h:=jc h (.cells #[.slice A1_0 l1_0.length c1_0] 32);have h:=jc h (.cells #[.slice A2_0 l2_0.length c2_0] 32);have h:=jc h (.cells #[.slice none 0 0] 32);exact h)
 have BH:=am (show ((((w.alloc (.cells #[.slice A0_0 l0_0.length c0_0] 37)).alloc (.cells #[.slice A1_0 l1_0.length c1_0] 32)).alloc (.cells #[.slice A2_0 l2_0.length c2_0] 32)).alloc (.cells #[.slice none 0 0] 32)).heap[w.heap.size+1]?=some (.cells #[.slice A1_0 l1_0.length c1_0] 32 (0,0)) from by have h:=heap_alloc_new (w.alloc (.cells #[.slice A0_0 l0_0.length c0_0] 37)) (.cells #[.slice A1_0 l1_0.length c1_0] 32);have h:=(show ((w.alloc (.cells #[.slice A0_0 l0_0.length c0_0] 37)).alloc (.cells #[.slice A1_0 l1_0.length c1_0] 32)).heap[w.heap.size+1]?=some (.cells #[.slice A1_0 l1_0.length c1_0] 32 (0,0)) by simpa only [World.size_alloc] using h);have h:=jc h (.cells #[.slice A2_0 l2_0.length c2_0] 32);have h:=jc h (.cells #[.slice none 0 0] 32);exact h)
 have BK:=am (show ((((w.alloc (.cells #[.slice A0_0 l0_0.length c0_0] 37)).alloc (.cells #[.slice A1_0 l1_0.length c1_0] 32)).alloc (.cells #[.slice A2_0 l2_0.length c2_0] 32)).alloc (.cells #[.slice none 0 0] 32)).heap[w.heap.size+2]?=some (.cells #[.slice A2_0 l2_0.length c2_0] 32 (0,0)) from by have h:=heap_alloc_new ((w.alloc (.cells #[.slice A0_0 l0_0.length c0_0] 37)).alloc (.cells #[.slice A1_0 l1_0.length c1_0] 32)) (.cells #[.slice A2_0 l2_0.length c2_0] 32);have h:=(show (((w.alloc (.cells #[.slice A0_0 l0_0.length c0_0] 37)).alloc (.cells #[.slice A1_0 l1_0.length c1_0] 32)).alloc (.cells #[.slice A2_0 l2_0.length c2_0] 32)).heap[w.heap.size+2]?=some (.cells #[.slice A2_0 l2_0.length c2_0] 32 (0,0)) by simpa only [World.size_alloc] using h);have h:=jc h (.cells #[.slice none 0 0] 32);exact h)
 have BR:=am (show ((((w.alloc (.cells #[.slice A0_0 l0_0.length c0_0] 37)).alloc (.cells #[.slice A1_0 l1_0.length c1_0] 32)).alloc (.cells #[.slice A2_0 l2_0.length c2_0] 32)).alloc (.cells #[.slice none 0 0] 32)).heap[w.heap.size+3]?=some (.cells #[.slice none 0 0] 32 (0,0)) from by have h:=heap_alloc_new (((w.alloc (.cells #[.slice A0_0 l0_0.length c0_0] 37)).alloc (.cells #[.slice A1_0 l1_0.length c1_0] 32)).alloc (.cells #[.slice A2_0 l2_0.length c2_0] 32)) (.cells #[.slice none 0 0] 32);have h:=(show ((((w.alloc (.cells #[.slice A0_0 l0_0.length c0_0] 37)).alloc (.cells #[.slice A1_0 l1_0.length c1_0] 32)).alloc (.cells #[.slice A2_0 l2_0.length c2_0] 32)).alloc (.cells #[.slice none 0 0] 32)).heap[w.heap.size+3]?=some (.cells #[.slice none 0 0] 32 (0,0)) by simpa only [World.size_alloc] using h);exact h)
 cases v with
 | false =>
  rw [if_neg (by simp)] at h
  simp only [Option.some.injEq,Prod.mk.injEq] at h
  obtain ⟨rfl,rfl⟩:=h
  clear hv hr0_0 hr1_0 hr2_0 HR2
  go_enter Try.func36,Try.ntmps36
  go_wp2_with (go_at_call 63;refine (HV1.out _ HB.out).mono ?_;rintro e w2 ⟨rfl,hb2⟩;clear HV1;have n0_:=am (je (g:=w.heap.size) (o:=.cells #[.slice A0_0 l0_0.length c0_0] 37 (0,0)) (Y79) hb2);have n1_:=am (je (g:=w.heap.size+1) (o:=.cells #[.slice A1_0 l1_0.length c1_0] 32 (0,0)) (Y56) hb2);have n2_:=am (je (g:=w.heap.size+2) (o:=.cells #[.slice A2_0 l2_0.length c2_0] 32 (0,0)) (Y80) hb2);have n3_:=am (je (g:=w.heap.size+3) (o:=.cells #[.slice none 0 0] 32 (0,0)) (Y81) hb2);have n4_:=am (jl (Y82) hb2);clear BT BH BK BR HB;have BT:=n0_;have BH:=n1_;have BK:=n2_;have BR:=n3_;have HB:=n4_;clear n0_ n1_ n2_ n3_ n4_ hb2;have cT:=jc0 BT.out;have cH:=jc0 BH.out;have cK:=jc0 BK.out;have cR:=jc0 BR.out;have fR:=jf BR.out 0)
  refine bodyPost_ret (jsb rfl _ _ (w.heap.size+3) 32 #[.slice none 0 0] (0,0) _ rfl (Y123) Try.underlying32 rfl (by kernel_rfl)) rfl ?_
  exact ⟨.slice none 0 0,rfl,Kd.R_nil _ _ _ _ _,Y124⟩
 | true =>
  rw [if_pos rfl] at h
  obtain ⟨v2,hv2,h⟩:=bzS h
  have HV2:=am (fun W (hb:Below w.heap.size w W)=>jCa.calls k A0_0 c0_0 l0_0 A2_0 c2_0 l2_0 v2 W (Kd.jea hr0_0 hb) hc0_0 (Kd.jea hr2_0 hb) hc2_0 hv2)
  have HL1:=am (jh_valid hv)
  cases v2 with
  | false =>
   rw [if_neg (by simp)] at h
   simp only [Option.some.injEq,Prod.mk.injEq] at h
   obtain ⟨rfl,rfl⟩:=h
   clear hv hv2 hr0_0 hr1_0 hr2_0 HR2
   go_enter Try.func36,Try.ntmps36
   go_wp2_with (first |(go_at_call 63;refine (HV1.out _ HB.out).mono ?_;rintro e w2 ⟨rfl,hb2⟩;clear HV1;have n0_:=am (je (g:=w.heap.size) (o:=.cells #[.slice A0_0 l0_0.length c0_0] 37 (0,0)) (Y79) hb2);have n1_:=am (je (g:=w.heap.size+1) (o:=.cells #[.slice A1_0 l1_0.length c1_0] 32 (0,0)) (Y56) hb2);have n2_:=am (je (g:=w.heap.size+2) (o:=.cells #[.slice A2_0 l2_0.length c2_0] 32 (0,0)) (Y80) hb2);have n3_:=am (je (g:=w.heap.size+3) (o:=.cells #[.slice none 0 0] 32 (0,0)) (Y81) hb2);have n4_:=am (jl (Y82) hb2);clear BT BH BK BR HB;have BT:=n0_;have BH:=n1_;have BK:=n2_;have BR:=n3_;have HB:=n4_;clear n0_ n1_ n2_ n3_ n4_ hb2;have cT:=jc0 BT.out;have cH:=jc0 BH.out;have cK:=jc0 BK.out;have cR:=jc0 BR.out;have fR:=jf BR.out 0) |(go_at_call 63;refine (HV2.out _ HB.out).mono ?_;rintro e w2 ⟨rfl,hb2⟩;clear HV2;have n0_:=am (je (g:=w.heap.size) (o:=.cells #[.slice A0_0 l0_0.length c0_0] 37 (0,0)) (Y79) hb2);have n1_:=am (je (g:=w.heap.size+1) (o:=.cells #[.slice A1_0 l1_0.length c1_0] 32 (0,0)) (Y56) hb2);have n2_:=am (je (g:=w.heap.size+2) (o:=.cells #[.slice A2_0 l2_0.length c2_0] 32 (0,0)) (Y80) hb2);have n3_:=am (je (g:=w.heap.size+3) (o:=.cells #[.slice none 0 0] 32 (0,0)) (Y81) hb2);have n4_:=am (jl (Y82) hb2);clear BT BH BK BR HB;have BT:=n0_;have BH:=n1_;have BK:=n2_;have BR:=n3_;have HB:=n4_;clear n0_ n1_ n2_ n3_ n4_ hb2;have cT:=jc0 BT.out;have cH:=jc0 BH.out;have cK:=jc0 BK.out;have cR:=jc0 BR.out;have fR:=jf BR.out 0))
   refine bodyPost_ret (jsb rfl _ _ (w.heap.size+3) 32 #[.slice none 0 0] (0,0) _ rfl (Y123) Try.underlying32 rfl (by kernel_rfl)) rfl ?_
   exact ⟨.slice none 0 0,rfl,Kd.R_nil _ _ _ _ _,Y124⟩
  | true =>
   rw [if_pos rfl] at h
   have HL2:=am (jh_valid hv2)
   rw [if_pos (by have:=HL1.out;have:=HL2.out;omega)] at h
   have HCL:=am (fun W (hb:Below w.heap.size w W)=>jib.calls A1_0 c1_0 l1_0 l1_0 W (Kd.jea hr1_0 hb) hc1_0 (by unfold jib.f;rw [if_pos (by have:=HL1.out;omega)]))
   have H':=am h
   clear hv hv2 hr0_0 hr1_0 hr2_0 h
   go_enter Try.func36,Try.ntmps36
   go_wp2_with (first |(go_at_call 63;refine (HV1.out _ HB.out).mono ?_;rintro e w2 ⟨rfl,hb2⟩;clear HV1;have n0_:=am (je (g:=w.heap.size) (o:=.cells #[.slice A0_0 l0_0.length c0_0] 37 (0,0)) (Y79) hb2);have n1_:=am (je (g:=w.heap.size+1) (o:=.cells #[.slice A1_0 l1_0.length c1_0] 32 (0,0)) (Y56) hb2);have n2_:=am (je (g:=w.heap.size+2) (o:=.cells #[.slice A2_0 l2_0.length c2_0] 32 (0,0)) (Y80) hb2);have n3_:=am (je (g:=w.heap.size+3) (o:=.cells #[.slice none 0 0] 32 (0,0)) (Y81) hb2);have n4_:=am (jl (Y82) hb2);clear BT BH BK BR HB;have BT:=n0_;have BH:=n1_;have BK:=n2_;have BR:=n3_;have HB:=n4_;clear n0_ n1_ n2_ n3_ n4_ hb2;have cT:=jc0 BT.out;have cH:=jc0 BH.out;have cK:=jc0 BK.out;have cR:=jc0 BR.out;have fR:=jf BR.out 0) |(go_at_call 63;refine (HV2.out _ HB.out).mono ?_;rintro e w2 ⟨rfl,hb2⟩;clear HV2;have n0_:=am (je (g:=w.heap.size) (o:=.cells #[.slice A0_0 l0_0.length c0_0] 37 (0,0)) (Y79) hb2);have n1_:=am (je (g:=w.heap.size+1) (o:=.cells #[.slice A1_0 l1_0.length c1_0] 32 (0,0)) (Y56) hb2);have n2_:=am (je (g:=w.heap.size+2) (o:=.cells #[.slice A2_0 l2_0.length c2_0] 32 (0,0)) (Y80) hb2);have n3_:=am (je (g:=w.heap.size+3) (o:=.cells #[.slice none 0 0] 32 (0,0)) (Y81) hb2);have n4_:=am (jl (Y82) hb2);clear BT BH BK BR HB;have BT:=n0_;have BH:=n1_;have BK:=n2_;have BR:=n3_;have HB:=n4_;clear n0_ n1_ n2_ n3_ n4_ hb2;have cT:=jc0 BT.out;have cH:=jc0 BH.out;have cK:=jc0 BK.out;have cR:=jc0 BR.out;have fR:=jf BR.out 0) |(go_at_call 64;refine (HCL.out _ HB.out).mono ?_;rintro e w2 ⟨v8,rfl,ho,hb2⟩;have HO:=am (Kd.jla ho (jQ HB.out));clear HCL ho;have n0_:=am (je (g:=w.heap.size) (o:=.cells #[.slice A0_0 l0_0.length c0_0] 37 (0,0)) (Y79) hb2);have n1_:=am (je (g:=w.heap.size+1) (o:=.cells #[.slice A1_0 l1_0.length c1_0] 32 (0,0)) (Y56) hb2);have n2_:=am (je (g:=w.heap.size+2) (o:=.cells #[.slice A2_0 l2_0.length c2_0] 32 (0,0)) (Y80) hb2);have n3_:=am (je (g:=w.heap.size+3) (o:=.cells #[.slice none 0 0] 32 (0,0)) (Y81) hb2);have n4_:=am (jl (Y82) hb2);clear BT BH BK BR HB;have BT:=n0_;have BH:=n1_;have BK:=n2_;have BR:=n3_;have HB:=n4_;clear n0_ n1_ n2_ n3_ n4_ hb2;have cT:=jc0 BT.out;have cH:=jc0 BH.out;have cK:=jc0 BK.out;have cR:=jc0 BR.out;have fR:=jf BR.out 0))
   go_loopw [8,30] (fun v8 v30 wr=>∃ i:Nat,i≤l2_0.length∧v30=.int .i64 i∧jw (Kd.R k54 54 wr w.heap.size (fun _=>True) v8 (l1_0 ++ (l2_0.take i).map (jhF (l1_0.length:Int))))∧jw (wr.heap[w.heap.size]?=some (.cells #[.slice A0_0 l0_0.length c0_0] 37 (0,0)))∧jw (wr.heap[w.heap.size+1]?=some (.cells #[.slice A1_0 l1_0.length c1_0] 32 (0,0)))∧jw (wr.heap[w.heap.size+2]?=some (.cells #[.slice A2_0 l2_0.length c2_0] 32 (0,0)))∧jw (wr.heap[w.heap.size+3]?=some (.cells #[.slice none 0 0] 32 (0,0)))∧jw (Below w.heap.size w wr)) (fun _ v30 _=>l2_0.length - (intOf v30).toNat)
   case atStart=>exact ⟨0,Nat.zero_le _,rfl,⟨by simpa using HO.out⟩,BT,BH,BK,BR,HB⟩
   case round =>
    clear HO BT BH BK BR HB cT cH cK cR fR
    obtain ⟨i,hi,rfl,HO,BT,BH,BK,BR,HB⟩:=hrel
    by_cases hlt:i<l2_0.length
    ·obtain ⟨ad,rfl,x0,x1,x2,x3,x4⟩:=jfb (Kd.jea HR2.out HB.out) (i:Int) (by omega) (by omega)
     rw [Int.toNat_natCast] at x0 x1 x2 x3 x4
     have HT:=am (show (l2_0.take (i+1)).map (jhF (l1_0.length:Int))=(l2_0.take i).map (jhF (l1_0.length:Int)) ++ [jhF (l1_0.length:Int) (ja l2_0 (i:Int))] by
      have e:ja l2_0 (i:Int)=l2_0[i]:=by simp [ja,List.getD_eq_getElem?_getD,hlt]
      rw [e,List.take_succ_eq_append_getElem hlt,List.map_append];rfl)
     generalize ja l2_0 (i:Int)=x at x0 x1 x2 x3 x4 HT
     have hlb:=ezT (show (i:Int)<(l2_0.length:Int) by omega)
     obtain ⟨W1,rfl⟩:∃ W1,W1=wr:=⟨_,rfl⟩
     have BX:=am (heap_alloc_new W1 (.cells #[.int .i64 x.f0, .int .i64 x.f1, .int .i64 x.f2, .int .i64 x.f3, .bool x.f4] 54))
     have HB1:=am (Below.refl W1.heap.size W1)
     have BX1:=am (jc BX.out (.cells #[.pointer (some ⟨W1.heap.size,2,none⟩), .pointer (some ⟨W1.heap.size,3,none⟩)] 87))
     have BL1:=am (show ((W1.alloc (.cells #[.int .i64 x.f0, .int .i64 x.f1, .int .i64 x.f2, .int .i64 x.f3, .bool x.f4] 54)).alloc (.cells #[.pointer (some ⟨W1.heap.size,2,none⟩), .pointer (some ⟨W1.heap.size,3,none⟩)] 87)).heap[W1.heap.size+1]?=some (.cells #[.pointer (some ⟨W1.heap.size,2,none⟩), .pointer (some ⟨W1.heap.size,3,none⟩)] 87 (0,0)) by have h:=heap_alloc_new (W1.alloc (.cells #[.int .i64 x.f0, .int .i64 x.f1, .int .i64 x.f2, .int .i64 x.f3, .bool x.f4] 54)) (.cells #[.pointer (some ⟨W1.heap.size,2,none⟩), .pointer (some ⟨W1.heap.size,3,none⟩)] 87);simpa only [World.size_alloc] using h)
     have HB2:=am (show Below W1.heap.size W1 ((W1.alloc (.cells #[.int .i64 x.f0, .int .i64 x.f1, .int .i64 x.f2, .int .i64 x.f3, .bool x.f4] 54)).alloc (.cells #[.pointer (some ⟨W1.heap.size,2,none⟩), .pointer (some ⟨W1.heap.size,3,none⟩)] 87)) from ((Below.refl _ W1).alloc (Nat.le_refl _) _).alloc (by simp) _)
     clear BX HB1
     go_wp2
     go_loopw [38] (fun v38 w3=>∃ (j:Nat) (y:S54),j≤2∧v38=.int .i64 j∧jw ((j=0∧y=x)∨(j=1∧y=jh1 (l1_0.length:Int) x)∨(j=2∧y=jhF (l1_0.length:Int) x))∧jw (w3.heap[W1.heap.size]?=some (.cells #[.int .i64 y.f0, .int .i64 y.f1, .int .i64 y.f2, .int .i64 y.f3, .bool y.f4] 54 (0,0)))∧jw (w3.heap[W1.heap.size+1]?=some (.cells #[.pointer (some ⟨W1.heap.size,2,none⟩), .pointer (some ⟨W1.heap.size,3,none⟩)] 87 (0,0)))∧jw (Below W1.heap.size W1 w3)) (fun v38 _=>2 - (intOf v38).toNat)
     case atStart=>exact ⟨0,x,by omega,rfl,⟨.inl ⟨rfl,rfl⟩⟩,BX1,BL1,HB2⟩
     case round =>
      clear BX1 BL1 HB2 x0 x1 x2 x3 x4
      obtain ⟨j,y,hj,rfl,HY,BX,BL,HB1⟩:=hrel
      have y2:=jc2 BX.out
      have y3:=jc3 BX.out
      have p0:=jc0 BL.out
      have p1:=jc1 BL.out
      have cH:=jDa HB1.out (jc0 BH.out)
      by_cases hj2:j<2
      ·rcases (by omega:j=0∨j=1) with rfl | rfl
       ·have hy:y=x:=by rcases HY.out with h | h | h <;> simp_all
        have HY2:=am hy
        clear hy HY
        by_cases hz:y.f2≥0
        ·have hzb:decide (0≤y.f2)=true:=dzT hz
         have HQ:=am (show jhL (l1_0.length:Int) y.f2=wrap64 (y.f2+(l1_0.length:Int)) by unfold jhL;rw [if_pos hz])
         clear hz
         go_wp2
         have HB5:=am (jr HB1.out)
         have BX5:=am (jd BX.out)
         have BL5:=am (jd BL.out)
         have g2:wr.drew.cell? ⟨W1.heap.size,2,none⟩=some (.int .i64 y.f2):=y2
         have g3:wr.drew.cell? ⟨w.heap.size+1,0,none⟩=some (.slice A1_0 l1_0.length c1_0):=cH
         have g4:=jf BX5.out 2
         go_region
         all_goals (
          have BX6:=am (jd (blk_stored BX.out 2 (.int .i64 (wrap64 (y.f2+(l1_0.length:Int))))))
          have BL6:=am (jd ((Below.heap_setCell wr ⟨W1.heap.size,2,none⟩ (.int .i64 (wrap64 (y.f2+(l1_0.length:Int)))) (W1.heap.size+1) (by simp)).trans BL.out))
          have HB6:=am (jr (jk HB1.out (Nat.le_refl W1.heap.size)):Below W1.heap.size W1 (wr.setCell ⟨W1.heap.size,2,none⟩ (.int .i64 (wrap64 (y.f2+(l1_0.length:Int))))).drew)
          clear g2 g3 g4 BX BL HB1 BX5 BL5 HB5 y2 y3 p0 p1 cH
          go_wp2
          go_roundw
          case rel=>exact ⟨1,jh1 (l1_0.length:Int) x,by omega,by go_num,⟨.inr (.inl ⟨rfl,rfl⟩)⟩,⟨by rw [BX6.out];have hq:=HQ.out;have hy:=HY2.out;subst hy;simp only [jh1,jhF,List.setIfInBounds_toArray,List.set_cons_zero,List.set_cons_succ] at hq ⊢;rw [hq]⟩,BL6,HB6⟩
          case measure=>simp [intOf])
        ·have hzb:decide (0≤y.f2)=false:=dzF hz
         have HQ:=am (show jhL (l1_0.length:Int) y.f2=y.f2 by unfold jhL;rw [if_neg hz])
         clear hz
         go_wp2
         go_roundw
         case rel=>exact ⟨1,jh1 (l1_0.length:Int) x,by omega,by go_num,⟨.inr (.inl ⟨rfl,rfl⟩)⟩,⟨by rw [BX.out];have hq:=HQ.out;have hy:=HY2.out;subst hy;simp only [jh1,jhF] at hq ⊢;rw [hq]⟩,BL,HB1⟩
         case measure=>simp [intOf]
       ·have hy:y=jh1 (l1_0.length:Int) x:=by rcases HY.out with h | h | h <;> simp_all
        have HY2:=am hy
        clear hy HY
        by_cases hz:y.f3≥0
        ·have hzb:decide (0≤y.f3)=true:=dzT hz
         have HQ:=am (show jhL (l1_0.length:Int) y.f3=wrap64 (y.f3+(l1_0.length:Int)) by unfold jhL;rw [if_pos hz])
         clear hz
         go_wp2
         have HB5:=am (jr HB1.out)
         have BX5:=am (jd BX.out)
         have BL5:=am (jd BL.out)
         have g2:wr.drew.cell? ⟨W1.heap.size,3,none⟩=some (.int .i64 y.f3):=y3
         have g3:wr.drew.cell? ⟨w.heap.size+1,0,none⟩=some (.slice A1_0 l1_0.length c1_0):=cH
         have g4:=jf BX5.out 3
         go_region
         all_goals (
          have BX6:=am (jd (blk_stored BX.out 3 (.int .i64 (wrap64 (y.f3+(l1_0.length:Int))))))
          have BL6:=am (jd ((Below.heap_setCell wr ⟨W1.heap.size,3,none⟩ (.int .i64 (wrap64 (y.f3+(l1_0.length:Int)))) (W1.heap.size+1) (by simp)).trans BL.out))
          have HB6:=am (jr (jk HB1.out (Nat.le_refl W1.heap.size)):Below W1.heap.size W1 (wr.setCell ⟨W1.heap.size,3,none⟩ (.int .i64 (wrap64 (y.f3+(l1_0.length:Int))))).drew)
          clear g2 g3 g4 BX BL HB1 BX5 BL5 HB5 y2 y3 p0 p1 cH
          go_wp2
          go_roundw
          case rel=>exact ⟨2,jhF (l1_0.length:Int) x,by omega,by go_num,⟨.inr (.inr ⟨rfl,rfl⟩)⟩,⟨by rw [BX6.out];have hq:=HQ.out;have hy:=HY2.out;subst hy;simp only [jh1,jhF,List.setIfInBounds_toArray,List.set_cons_zero,List.set_cons_succ] at hq ⊢;rw [hq]⟩,BL6,HB6⟩
          case measure=>simp [intOf])
        ·have hzb:decide (0≤y.f3)=false:=dzF hz
         have HQ:=am (show jhL (l1_0.length:Int) y.f3=y.f3 by unfold jhL;rw [if_neg hz])
         clear hz
         go_wp2
         go_roundw
         case rel=>exact ⟨2,jhF (l1_0.length:Int) x,by omega,by go_num,⟨.inr (.inr ⟨rfl,rfl⟩)⟩,⟨by rw [BX.out];have hq:=HQ.out;have hy:=HY2.out;subst hy;simp only [jh1,jhF] at hq ⊢;rw [hq]⟩,BL,HB1⟩
         case measure=>simp [intOf]
      ·obtain rfl:j=2:=by omega
       have HY2:=am (show y=jhF (l1_0.length:Int) x by rcases HY.out with h | h | h <;> simp_all)
       clear HY
       have HO3:=am (Kd.jP (Kd.jD (Kd.jdc HO.out) (ok':=fun k=>k≠W1.heap.size) (fun k hk=>Nat.ne_of_lt hk.2.2.1)) HB1.out)
       have HLN:=am (show (l1_0 ++ (l2_0.take i).map (jhF (l1_0.length:Int))).length≤48 by have:=HL1.out;have:=HL2.out;rw [List.length_append,List.length_map,List.length_take];omega)
       clear HO
       generalize hoo:l1_0 ++ (l2_0.take i).map (jhF (l1_0.length:Int))=oo at HO3 HLN
       have HOO:=am hoo
       clear hoo
       obtain ⟨Ao,co,eo⟩:=Kd.jaa HO3.out
       subst eo
       have y0:=jc0 BX.out
       have y1:=jc1 BX.out
       have y4:=jc4 BX.out
       have BT3:=am ((HB1.out.block _ (jV BT.out)).trans BT.out)
       have BH3:=am ((HB1.out.block _ (jV BH.out)).trans BH.out)
       have BK3:=am ((HB1.out.block _ (jV BK.out)).trans BK.out)
       have BR3:=am ((HB1.out.block _ (jV BR.out)).trans BR.out)
       have HB3:=am (Below.trans HB.out (HB1.out.mono HB.out.size))
       have BX3:=BX
       clear BT BH BK BR HB BX HB1
       have BT:=BT3
       have BH:=BH3
       have BK:=BK3
       have BR:=BR3
       have HB:=HB3
       clear BT3 BH3 BK3 BR3 HB3 cH p0 p1
       go_wp2_with ((with_reducible refine jkb (b:=.append) (xs:=#[.tmp 55, .tmp 57]) rfl ?_);at_builtin;refine Kd.jbc k54 (w0:=w) w.heap.size rfl (.tmp 55) (.tmp 57) 30 54 (.agg #[(.int .i64 0),(.int .i64 0),(.int .i64 0),(.int .i64 0),(.bool false)]) 40 rfl Try.underlying30 info54 rfl (by decide) (by omega) _ oo y [.int .i64 y.f0, .int .i64 y.f1, .int .i64 y.f2, .int .i64 y.f3, .bool y.f4] (fun k=>k≠W1.heap.size) (fun _=>False) rfl rfl ?aP (fun _ hk=>hk.elim) ?aF ?aO ?aB ?aS ?aL ?_;(case aP=>exact jGb _ _ _ y);(case aB=>exact (bq));(case aF=>intro q hq hqe;have h1:=jV BX3.out;omega);(case aO=>exact (rq HO3.out));(case aS=>exact (jQ (bq)));(case aL=>have:=HLN.out;omega);intro v115 w14 ho hb hg hat;have n0_:=am (jia BT.out hg (Kd.R_ne HO3.out BT.out (by decide)));have n1_:=am (jia BH.out hg (Kd.R_ne HO3.out BH.out (by decide)));have n2_:=am (jia BK.out hg (Kd.R_ne HO3.out BK.out (by decide)));have n3_:=am (jia BR.out hg (Kd.R_ne HO3.out BR.out (by decide)));have n5_:=am hb;have n6_:=am ho;clear BT BH BK BR HB HO3;have BT:=n0_;have BH:=n1_;have BK:=n2_;have BR:=n3_;have HB:=n5_;have HO3:=n6_;clear n0_ n1_ n2_ n3_ n5_ n6_ ho hb hg hat)
       have hL2_:=HL2.out
       have hwi:wrap64 ((i:Int)+1)=(i:Int)+1:=by unfold wrap64;omega
       go_roundw
       case rel=>exact ⟨i+1,hlt,by rw [hwi];rfl,⟨by rw [HT.out,← List.append_assoc,HOO.out,← HY2.out];exact Kd.jD HO3.out (fun _ _=>trivial)⟩,BT,BH,BK,BR,HB⟩
       case measure=>rw [hwi];simp [intOf];omega
    ·obtain rfl:i=l2_0.length:=by omega
     obtain ⟨Ao,co,eo⟩:=Kd.jaa HO.out
     subst eo
     rw [List.take_length] at HO
     have cK:=jc0 BK.out
     have cR:=jc0 BR.out
     have fR:=jf BR.out 0
     have h:=H'.out
     have HLN:=am (show (l1_0 ++ (l2_0.take l2_0.length).map (jhF (l1_0.length:Int))).length=(l1_0 ++ l2_0.map (jhF (l1_0.length:Int))).length by rw [List.take_length])
     by_cases hb:((l1_0 ++ l2_0.map (jhF (l1_0.length:Int))).length:Int) > 24
     ·rw [if_pos hb] at h
      simp only [Option.some.injEq,Prod.mk.injEq] at h
      obtain ⟨rfl,rfl⟩:=h
      rw [HLN.out]
      have hbb:=dzT hb
      generalize (l1_0 ++ l2_0.map (jhF (l1_0.length:Int))).length=m at hbb ⊢
      clear H' hb HLN HO
      go_wp2
      refine bodyPost_ret (jsb rfl _ _ (w.heap.size+3) 32 #[.slice none 0 0] (0,0) _ rfl (Y123) Try.underlying32 rfl (by kernel_rfl)) rfl ?_
      exact ⟨.slice none 0 0,rfl,Kd.R_nil _ _ _ _ _,Y124⟩
     ·rw [if_neg hb] at h
      simp only [Option.some.injEq,Prod.mk.injEq] at h
      obtain ⟨rfl,rfl⟩:=h
      rw [HLN.out]
      obtain ⟨i016,hi016,_,hsz16,_⟩:=info_parts info54
      have ho2:=HO.out
      have hcut16:=cut_clip (P:=Try.prog) 30 54 Try.underlying30 hi016 Ao _ co _ (Kd.jB ho2).2.1 rfl
      have hr16:=Kd.R_clip ho2 (rfl:(l1_0 ++ l2_0.map (jhF (l1_0.length:Int)))=(l1_0 ++ l2_0.map (jhF (l1_0.length:Int))))
      have hbb:=dzF hb
      have HZ:=am hr16
      clear H' hb HLN HO ho2 hr16 hi016 hsz16
      generalize hm9:(l1_0 ++ l2_0.map (jhF (l1_0.length:Int)))=zz at hbb hcut16 HZ ⊢
      have HM:=am hm9
      clear hm9
      go_wp2
      refine bodyPost_ret (jsb rfl _ _ (w.heap.size+3) 32 #[.slice Ao zz.length zz.length] (0,0) _ rfl (Y123) Try.underlying32 rfl (by kernel_rfl)) rfl ?_
      have hm9:=HM.out
      subst hm9
      exact ⟨.slice Ao _ _,rfl,Kd.jD (Kd.jX (Kd.jJ (rq HZ.out) (kq BR.out) (by decide)) (fun k hk=>hk.2) _) (fun _ _=>trivial),Y124⟩
mutual
def jO.j0 : Nat → Bool → List (S94) → List (S54) → List (S54) → Option ((List (S54)) × Bool)
 | 0,_,_,_,_=>none
 | k+1,x21,x670000,x671000,x672000=>if x21=true then (some (([]:List (S54)),false)) else ((jIa.f x671000).bind fun t675=>(jO.l0 k (x671000.length:Int) 0 x670000 x672000 t675))
def jO.l0 : Nat → Int → Int → List (S94) → List (S54) → List (S54) → Option ((List (S54)) × Bool)
 | 0,_,_,_,_,_=>none
 | k+1,x9,x10,x670000,x672000,x679000=>if x10<(x672000.length:Int) then (if 0≤x10 then (if ((ja x672000 x10).f2)≥0 then (jO.j2 k x9 x10 x670000 x672000 x679000 ((ja x672000 x10).f0) ((ja x672000 x10).f1) (wrap64 (((ja x672000 x10).f2)+x9)) ((ja x672000 x10).f3) ((ja x672000 x10).f4)) else (jO.j2 k x9 x10 x670000 x672000 x679000 ((ja x672000 x10).f0) ((ja x672000 x10).f1) ((ja x672000 x10).f2) ((ja x672000 x10).f3) ((ja x672000 x10).f4))) else (none)) else ((jG.f k x670000 x679000).bind fun t687=>(if t687=true then (some (x679000,true)) else (some (([]:List (S54)),false))))
def jO.j2 : Nat → Int → Int → List (S94) → List (S54) → List (S54) → Int → Int → Int → Int → Bool → Option ((List (S54)) × Bool)
 | 0,_,_,_,_,_,_,_,_,_,_=>none
 | k+1,x9,x10,x670000,x672000,x679000,x681000,x681001,x681002,x681003,x681004=>if x681003≥0 then (if x679000.length<3518437208883 then (jO.l0 k x9 (wrap64 (x10+1)) x670000 x672000 (x679000 ++ [(⟨x681000,x681001,x681002,wrap64 (x681003+x9),x681004⟩:S54)])) else (none)) else (if x679000.length<3518437208883 then (jO.l0 k x9 (wrap64 (x10+1)) x670000 x672000 (x679000 ++ [(⟨x681000,x681001,x681002,x681003,x681004⟩:S54)])) else (none))
end
def jO.f (k : Nat) (l0_0 : List (S94)) (l1_0 : List (S54)) (l2_0 : List (S54)) : Option ((List (S54)) × Bool) := (jG.f k l0_0 l1_0).bind fun t673 => (if t673 = true then ((jG.f k l0_0 l2_0).bind fun t674 => (jO.j0 k (!t674) l0_0 l1_0 l2_0)) else (jO.j0 k true l0_0 l1_0 l2_0))
set_option maxHeartbeats 8000000 in
set_option maxRecDepth 100000 in
theorem jO.calls (k : Nat) (A0_0 : Option Addr) (c0_0 : Nat) (l0_0 : List (S94)) (A1_0 : Option Addr) (c1_0 : Nat) (l1_0 : List (S54)) (A2_0 : Option Addr) (c2_0 : Nat) (l2_0 : List (S54)) (r1 : List (S54)) (r2 : Bool) (w : World) (hr0_0 : Kd.C k94 w A0_0 l0_0.length l0_0) (hc0_0 : l0_0.length ≤ c0_0) (hr1_0 : Kd.C k54 w A1_0 l1_0.length l1_0) (hc1_0 : l1_0.length ≤ c1_0) (hr2_0 : Kd.C k54 w A2_0 l2_0.length l2_0) (hc2_0 : l2_0.length ≤ c2_0) (h : jO.f k l0_0 l1_0 l2_0 = some (r1, r2)) :
  Calls Try.prog 37 #[.agg #[.slice A0_0 l0_0.length c0_0], .agg #[.slice A1_0 l1_0.length c1_0], .agg #[.slice A2_0 l2_0.length c2_0]] w fun e w'=>∃ v0_:Value,e=.returned (.tuple #[.agg #[v0_], .bool r2])∧Kd.R k54 54 w' w.heap.size (fun _=>True) v0_ r1∧Below w.heap.size w w':=by
 have hu37:=Try.underlying37
 have hu32:=Try.underlying32
 have hu54:=Try.underlying54
 have HR0_0:=am hr0_0
 have HC0_0:=am hc0_0
 clear hr0_0 hc0_0
 have HR1_0:=am hr1_0
 have HC1_0:=am hc1_0
 clear hr1_0 hc1_0
 have HR2_0:=am hr2_0
 have HC2_0:=am hc2_0
 clear hr2_0 hc2_0
 have HB:=am (Below.refl w.heap.size w)
 have H:((jG.f k l0_0 l1_0).bind fun t673=>(if t673=true then ((jG.f k l0_0 l2_0).bind fun t674=>(jO.j0 k (!t674) l0_0 l1_0 l2_0)) else (jO.j0 k true l0_0 l1_0 l2_0)))=some (r1,r2):=h
 clear h
 have HC4:=am H
 clear H
 go_enter Try.func37,Try.ntmps37
 go_upto_region 1 with (first |((with_reducible refine jI (N:=3) rfl ?_);refine bE (N:=3) (cs:=#[.slice A0_0 l0_0.length c0_0]) (t:=37) ?_;intro gb669 hg w5 hbox hb;have BK669:=am (hbox);have GW669:=am ((Y1:w.heap.size≤gb669));have GE669:=am ((Y1:w.heap.size≤gb669));replace HB:=am (jl (bq) hb);clear hb hbox hg) |((with_reducible refine jI (N:=4) rfl ?_);refine bE (N:=4) (cs:=#[.slice A1_0 l1_0.length c1_0]) (t:=32) ?_;intro gb670 hg w6 hbox hb;have BK670:=am (hbox);have GW670:=am ((Y203:w.heap.size≤gb670));have GE670:=am ((Y203:w.heap.size≤gb670));have NB669_670:=am ((Y98:gb669≠gb670));have NB670_669:=am ((Y99:gb670≠gb669));replace BK669:=am (je (g:=gb669) (o:=.cells #[.slice A0_0 l0_0.length c0_0] 37 (0,0)) (kq BK669.out) hb);replace HB:=am (jl (by repeat (first |(with_reducible first | exact HB.out | apply jy | apply jo | apply jr | refine jk ?_ GE669.out) | exact HB.out)) hb);clear hb hbox hg) |((with_reducible refine jI (N:=5) rfl ?_);refine bE (N:=5) (cs:=#[.slice A2_0 l2_0.length c2_0]) (t:=32) ?_;intro gb671 hg w7 hbox hb;have BK671:=am (hbox);have GW671:=am ((Y204:w.heap.size≤gb671));have GE671:=am ((Y204:w.heap.size≤gb671));have NB669_671:=am ((Y98:gb669≠gb671));have NB671_669:=am ((Y99:gb671≠gb669));have NB670_671:=am ((Y125:gb670≠gb671));have NB671_670:=am ((Y126:gb671≠gb670));replace BK669:=am (je (g:=gb669) (o:=.cells #[.slice A0_0 l0_0.length c0_0] 37 (0,0)) (kq BK669.out) hb);replace BK670:=am (je (g:=gb670) (o:=.cells #[.slice A1_0 l1_0.length c1_0] 32 (0,0)) (kq BK670.out) hb);replace HB:=am (jl (by repeat (first |(with_reducible first | exact HB.out | apply jy | apply jo | apply jr | refine jk ?_ GE669.out | refine jk ?_ GE670.out) | exact HB.out)) hb);clear hb hbox hg) |((with_reducible refine jI (N:=6) rfl ?_);refine bE (N:=6) (cs:=#[.slice none 0 0]) (t:=32) ?_;intro gb672 hg w8 hbox hb;have BK672:=am (hbox);have GW672:=am ((Y205:w.heap.size≤gb672));have GE672:=am ((Y205:w.heap.size≤gb672));have NB669_672:=am ((Y98:gb669≠gb672));have NB672_669:=am ((Y99:gb672≠gb669));have NB670_672:=am ((Y125:gb670≠gb672));have NB672_670:=am ((Y126:gb672≠gb670));have NB671_672:=am ((by rw [hg];exact Nat.ne_of_lt (jV (g:=gb671) (o:=.cells #[.slice A2_0 l2_0.length c2_0] 32 (0,0)) (kq BK671.out)):gb671≠gb672));have NB672_671:=am ((by rw [hg];exact Nat.ne_of_gt (jV (g:=gb671) (o:=.cells #[.slice A2_0 l2_0.length c2_0] 32 (0,0)) (kq BK671.out)):gb672≠gb671));replace BK669:=am (je (g:=gb669) (o:=.cells #[.slice A0_0 l0_0.length c0_0] 37 (0,0)) (kq BK669.out) hb);replace BK670:=am (je (g:=gb670) (o:=.cells #[.slice A1_0 l1_0.length c1_0] 32 (0,0)) (kq BK670.out) hb);replace BK671:=am (je (g:=gb671) (o:=.cells #[.slice A2_0 l2_0.length c2_0] 32 (0,0)) (kq BK671.out) hb);replace HB:=am (jl (by repeat (first |(with_reducible first | exact HB.out | apply jy | apply jo | apply jr | refine jk ?_ GE669.out | refine jk ?_ GE670.out | refine jk ?_ GE671.out) | exact HB.out)) hb);clear hb hbox hg))
 (try simp only [Act.put,List.setIfInBounds_toArray,List.set_cons_zero,List.set_cons_succ])
 go_cut [21] (fun v21 wc=>∃ (kq:Nat) (x21_3:Bool),v21=.bool x21_3∧jw (jO.j0 kq x21_3 l0_0 l1_0 l2_0=some (r1,r2))∧jw (kq≤k)∧jw (wc.heap[gb669]?=some (.cells #[(.slice A0_0 l0_0.length c0_0)] 37 (0,0)))∧jw (wc.heap[gb670]?=some (.cells #[(.slice A1_0 l1_0.length c1_0)] 32 (0,0)))∧jw (wc.heap[gb671]?=some (.cells #[(.slice A2_0 l2_0.length c2_0)] 32 (0,0)))∧jw (wc.heap[gb672]?=some (.cells #[(.slice none 0 0)] 32 (0,0)))∧jw (Below w.heap.size w wc))
 case first =>
  have H:=HC4.out
  clear HC4
  replace H:=bzS H
  obtain ⟨t673,A90,H⟩:=H
  replace H:(if t673=true then ((jG.f k l0_0 l2_0).bind fun t674=>(jO.j0 k (!t674) l0_0 l1_0 l2_0)) else (jO.j0 k true l0_0 l1_0 l2_0))=some (r1,r2):=H
  have A9:=am A90
  clear A90
  by_cases c10:t673=true
  ·subst c10
   have H1:((jG.f k l0_0 l2_0).bind fun t674=>(jO.j0 k (!t674) l0_0 l1_0 l2_0))=some (r1,r2):=by rw [if_pos rfl] at H;exact H
   clear H
   have H:=H1
   clear H1
   replace H:=bzS H
   obtain ⟨t674,A110,H⟩:=H
   replace H:(jO.j0 k (!t674) l0_0 l1_0 l2_0)=some (r1,r2):=H
   have A11:=am A110
   clear A110
   have H':=am H
   clear H
   have hnb12:=NB669_670.out
   have hnc12:=NB670_669.out
   have hnb13:=NB669_671.out
   have hnc13:=NB671_669.out
   have hnb14:=NB669_672.out
   have hnc14:=NB672_669.out
   have hcz15_0:=bc0 BK669.out
   have hfz15_0:=jf BK669.out 0
   have hnb16:=NB670_671.out
   have hnc16:=NB671_670.out
   have hnb17:=NB670_672.out
   have hnc17:=NB672_670.out
   have hcz18_0:=bc0 BK670.out
   have hfz18_0:=jf BK670.out 0
   go_wp2_with (first |((with_reducible refine jC (f:=66) rfl ?_);refine gL (some 14) Try.func66 #[.agg #[.slice A0_0 l0_0.length c0_0], .agg #[.slice A1_0 l1_0.length c1_0]] ?_;(with_reducible refine (jG.calls k _ _ l0_0 _ _ l1_0 true _ ?side1 ?side2 ?side3 ?side4 A9.out).mono ?_);(case side1=>exact cq (Kd.jea HR0_0.out HB.out));(case side2=>exact HC0_0.out);(case side3=>exact cq (Kd.jea HR1_0.out HB.out));(case side4=>exact HC1_0.out);rintro e w19 ⟨rfl,hb⟩;refine ⟨_,rfl,?_⟩;replace BK669:=am (je (g:=gb669) (o:=.cells #[.slice A0_0 l0_0.length c0_0] 37 (0,0)) (kq BK669.out) hb);replace BK670:=am (je (g:=gb670) (o:=.cells #[.slice A1_0 l1_0.length c1_0] 32 (0,0)) (kq BK670.out) hb);replace BK671:=am (je (g:=gb671) (o:=.cells #[.slice A2_0 l2_0.length c2_0] 32 (0,0)) (kq BK671.out) hb);replace BK672:=am (je (g:=gb672) (o:=.cells #[.slice none 0 0] 32 (0,0)) (kq BK672.out) hb);replace HB:=am (jl (Y47) hb);(try clear hb);(try clear hb2);(try clear hk);(try clear hi);have hcz20_0:=bc0 BK669.out;have hfz20_0:=jf BK669.out 0;have hnb21:=NB671_672.out;have hnc21:=NB672_671.out;have hcz22_0:=bc0 BK671.out;have hfz22_0:=jf BK671.out 0) |(go_at_call 66;(with_reducible refine (jG.calls k _ _ l0_0 _ _ l2_0 t674 _ ?side1 ?side2 ?side3 ?side4 A11.out).mono ?_);(case side1=>exact cq (Kd.jea HR0_0.out HB.out));(case side2=>exact HC0_0.out);(case side3=>exact cq (Kd.jea HR2_0.out HB.out));(case side4=>exact HC2_0.out);rintro e w23 ⟨rfl,hb⟩;replace BK669:=am (je (g:=gb669) (o:=.cells #[.slice A0_0 l0_0.length c0_0] 37 (0,0)) (kq BK669.out) hb);replace BK670:=am (je (g:=gb670) (o:=.cells #[.slice A1_0 l1_0.length c1_0] 32 (0,0)) (kq BK670.out) hb);replace BK671:=am (je (g:=gb671) (o:=.cells #[.slice A2_0 l2_0.length c2_0] 32 (0,0)) (kq BK671.out) hb);replace BK672:=am (je (g:=gb672) (o:=.cells #[.slice none 0 0] 32 (0,0)) (kq BK672.out) hb);replace HB:=am (jl (Y47) hb);(try clear hb);(try clear hb2);(try clear hk);(try clear hi)))
   go_meet
   case rel=>exact ⟨_,(!t674),(sq),H',⟨Y45⟩,⟨kq BK669.out⟩,⟨kq BK670.out⟩,⟨kq BK671.out⟩,⟨kq BK672.out⟩,⟨Y47⟩⟩
  ·replace c10:=Bool.eq_false_iff.mpr c10
   subst c10
   have H1:(jO.j0 k true l0_0 l1_0 l2_0)=some (r1,r2):=by rw [if_neg (show ¬ (false=true) by decide)] at H;exact H
   clear H
   have H:=H1
   clear H1
   have H':=am H
   clear H
   have hnb24:=NB669_670.out
   have hnc24:=NB670_669.out
   have hnb25:=NB669_671.out
   have hnc25:=NB671_669.out
   have hnb26:=NB669_672.out
   have hnc26:=NB672_669.out
   have hcz27_0:=bc0 BK669.out
   have hfz27_0:=jf BK669.out 0
   have hnb28:=NB670_671.out
   have hnc28:=NB671_670.out
   have hnb29:=NB670_672.out
   have hnc29:=NB672_670.out
   have hcz30_0:=bc0 BK670.out
   have hfz30_0:=jf BK670.out 0
   go_wp2_with (first |((with_reducible refine jC (f:=66) rfl ?_);refine gL (some 14) Try.func66 #[.agg #[.slice A0_0 l0_0.length c0_0], .agg #[.slice A1_0 l1_0.length c1_0]] ?_;(with_reducible refine (jG.calls k _ _ l0_0 _ _ l1_0 false _ ?side1 ?side2 ?side3 ?side4 A9.out).mono ?_);(case side1=>exact cq (Kd.jea HR0_0.out HB.out));(case side2=>exact HC0_0.out);(case side3=>exact cq (Kd.jea HR1_0.out HB.out));(case side4=>exact HC1_0.out);rintro e w31 ⟨rfl,hb⟩;refine ⟨_,rfl,?_⟩;replace BK669:=am (je (g:=gb669) (o:=.cells #[.slice A0_0 l0_0.length c0_0] 37 (0,0)) (kq BK669.out) hb);replace BK670:=am (je (g:=gb670) (o:=.cells #[.slice A1_0 l1_0.length c1_0] 32 (0,0)) (kq BK670.out) hb);replace BK671:=am (je (g:=gb671) (o:=.cells #[.slice A2_0 l2_0.length c2_0] 32 (0,0)) (kq BK671.out) hb);replace BK672:=am (je (g:=gb672) (o:=.cells #[.slice none 0 0] 32 (0,0)) (kq BK672.out) hb);replace HB:=am (jl (Y47) hb);(try clear hb);(try clear hb2);(try clear hk);(try clear hi)))
   go_meet
   case rel=>exact ⟨_,(true),(sq),H',⟨Y45⟩,⟨kq BK669.out⟩,⟨kq BK670.out⟩,⟨kq BK671.out⟩,⟨kq BK672.out⟩,⟨Y47⟩⟩
 case rest =>
  clear HC4
  try clear c1
  try clear c2
  try clear p2
  try clear c3
  try clear c6
  try clear c10
  try clear c12
  try clear c13
  try clear c14
  try clear c16
  try clear c17
  try clear c21
  try clear c24
  try clear c25
  try clear c26
  try clear c28
  try clear c29
  try clear hcz15_0
  try clear hcz18_0
  try clear hcz20_0
  try clear hcz22_0
  try clear hcz27_0
  try clear hcz30_0
  try clear hfz15_0
  try clear hfz18_0
  try clear hfz20_0
  try clear hfz22_0
  try clear hfz27_0
  try clear hfz30_0
  obtain ⟨kq,x21_3,rfl,HA,HJ3,BK669,BK670,BK671,BK672,HB⟩:=hcut
  cases kq with
  | zero=>exact absurd HA.out (by simp [jO.j0])
  | succ kj3 =>
   have H:=HA.out
   clear HA
   simp only [jO.j0] at H
   by_cases c32:x21_3=true
   ·subst c32
    have H1:(some (([]:List (S54)),false))=some (r1,r2):=by rw [if_pos rfl] at H;exact H
    clear H
    have H:=H1
    clear H1
    simp only [Option.some.injEq,Prod.mk.injEq] at H
    obtain ⟨rfl,rfl⟩:=H
    have hnb33:=NB672_669.out
    have hnc33:=NB669_672.out
    have hnb34:=NB672_670.out
    have hnc34:=NB670_672.out
    have hnb35:=NB672_671.out
    have hnc35:=NB671_672.out
    have hcz36_0:=bc0 BK672.out
    have hfz36_0:=jf BK672.out 0
    go_wp2
    refine bodyPost_ret (jsb rfl _ _ gb672 32 #[.slice none 0 0] (0,0) _ rfl (Y150) Try.underlying32 rfl (by kernel_rfl)) rfl ?_
    exact ⟨_,Y2,Y110,Y47⟩
   ·replace c32:=Bool.eq_false_iff.mpr c32
    subst c32
    have H1:((jIa.f l1_0).bind fun t675=>(jO.l0 kj3 (l1_0.length:Int) 0 l0_0 l2_0 t675))=some (r1,r2):=by rw [if_neg (show ¬ (false=true) by decide)] at H;exact H
    clear H
    have H:=H1
    clear H1
    replace H:=bzS H
    obtain ⟨t675,A370,H⟩:=H
    replace H:(jO.l0 kj3 (l1_0.length:Int) 0 l0_0 l2_0 t675)=some (r1,r2):=H
    have A37:=am A370
    clear A370
    have H':=am H
    clear H
    have hnb38:=NB670_669.out
    have hnc38:=NB669_670.out
    have hnb39:=NB670_671.out
    have hnc39:=NB671_670.out
    have hnb40:=NB670_672.out
    have hnc40:=NB672_670.out
    have hcz41_0:=bc0 BK670.out
    have hfz41_0:=jf BK670.out 0
    go_wp2_with (first |((with_reducible refine jC (f:=67) rfl ?_);refine gL (some 24) Try.func67 #[.agg #[.slice A1_0 l1_0.length c1_0]] ?_;(with_reducible refine (jIa.calls _ _ l1_0 t675 _ ?side1 ?side2 A37.out).mono ?_);(case side1=>exact cq (Kd.jea HR1_0.out HB.out));(case side2=>exact HC1_0.out);rintro e w42 ⟨v676,rfl,ho0,hb⟩;refine ⟨_,rfl,?_⟩;have HO677:=am (Kd.jla ho0 (jQ (Y47)));replace BK669:=am (je (g:=gb669) (o:=.cells #[.slice A0_0 l0_0.length c0_0] 37 (0,0)) (kq BK669.out) hb);replace BK670:=am (je (g:=gb670) (o:=.cells #[.slice A1_0 l1_0.length c1_0] 32 (0,0)) (kq BK670.out) hb);replace BK671:=am (je (g:=gb671) (o:=.cells #[.slice A2_0 l2_0.length c2_0] 32 (0,0)) (kq BK671.out) hb);replace BK672:=am (je (g:=gb672) (o:=.cells #[.slice none 0 0] 32 (0,0)) (kq BK672.out) hb);replace HB:=am (jl (Y47) hb);(try clear hb);(try clear hb2);(try clear hk);(try clear hi);(try clear ho0)) |((with_reducible refine jI (N:=8) rfl ?_);refine bE (N:=8) (cs:=#[.slice none 0 0]) (t:=32) ?_;intro gb678 hg w43 hbox hb;have BK678:=am (hbox);have GW678:=am ((Y206:w.heap.size≤gb678));have GE678:=am ((Y206:w.heap.size≤gb678));have NB669_678:=am ((Y98:gb669≠gb678));have NB678_669:=am ((Y99:gb678≠gb669));have NB670_678:=am ((Y125:gb670≠gb678));have NB678_670:=am ((Y126:gb678≠gb670));have NB671_678:=am ((by rw [hg];exact Nat.ne_of_lt (jV (g:=gb671) (o:=.cells #[.slice A2_0 l2_0.length c2_0] 32 (0,0)) (kq BK671.out)):gb671≠gb678));have NB678_671:=am ((by rw [hg];exact Nat.ne_of_gt (jV (g:=gb671) (o:=.cells #[.slice A2_0 l2_0.length c2_0] 32 (0,0)) (kq BK671.out)):gb678≠gb671));have NB672_678:=am ((by rw [hg];exact Nat.ne_of_lt (jV (g:=gb672) (o:=.cells #[.slice none 0 0] 32 (0,0)) (kq BK672.out)):gb672≠gb678));have NB678_672:=am ((by rw [hg];exact Nat.ne_of_gt (jV (g:=gb672) (o:=.cells #[.slice none 0 0] 32 (0,0)) (kq BK672.out)):gb678≠gb672));replace HO677:=am (Kd.jP (rq HO677.out) hb);replace BK669:=am (je (g:=gb669) (o:=.cells #[.slice A0_0 l0_0.length c0_0] 37 (0,0)) (kq BK669.out) hb);replace BK670:=am (je (g:=gb670) (o:=.cells #[.slice A1_0 l1_0.length c1_0] 32 (0,0)) (kq BK670.out) hb);replace BK671:=am (je (g:=gb671) (o:=.cells #[.slice A2_0 l2_0.length c2_0] 32 (0,0)) (kq BK671.out) hb);replace BK672:=am (je (g:=gb672) (o:=.cells #[.slice none 0 0] 32 (0,0)) (kq BK672.out) hb);replace HB:=am (jl (Y47) hb);clear hb hbox hg;obtain ⟨Ao44,co44,eo44⟩:=Kd.jaa HO677.out;subst eo44;have hnb45:=NB678_669.out;have hnc45:=NB669_678.out;have hnb46:=NB678_670.out;have hnc46:=NB670_678.out;have hnb47:=NB678_671.out;have hnc47:=NB671_678.out;have hnb48:=NB678_672.out;have hnc48:=NB672_678.out;have hcz49_0:=bc0 BK678.out;have hfz49_0:=jf BK678.out 0;have hcz50_0:=bc0 BK670.out;have hfz50_0:=jf BK670.out 0))
    go_loopg [10] kj3 (fun kq v10 w'=>∃ (x10_2:Int) (x679000_2:List (S54)) (u679000:Value),v10=.int .i64 x10_2∧jw (jO.l0 kq (l1_0.length:Int) x10_2 l0_0 l2_0 x679000_2=some (r1,r2))∧jw (kq≤kj3)∧jw (Kd.R k54 54 w' w.heap.size (fun _=>True) u679000 x679000_2)∧jw (w'.heap[gb669]?=some (.cells #[(.slice A0_0 l0_0.length c0_0)] 37 (0,0)))∧jw (w'.heap[gb670]?=some (.cells #[(.slice A1_0 l1_0.length c1_0)] 32 (0,0)))∧jw (w'.heap[gb671]?=some (.cells #[(.slice A2_0 l2_0.length c2_0)] 32 (0,0)))∧jw (w'.heap[gb672]?=some (.cells #[(.slice none 0 0)] 32 (0,0)))∧jw (w'.heap[gb678]?=some (.cells #[u679000] 32 (0,0)))∧jw (Below w.heap.size w w'))
    case atStart=>exact ⟨(0),(t675),(.slice Ao44 t675.length co44),(sq),H',⟨Nat.le_refl _⟩,⟨by (with_reducible repeat (first | apply Kd.jL | apply Kd.jM | apply Kd.jN));exact Kd.jD (Kd.jX (p:=⟨gb678,0,none⟩) (Kd.jJ HO677.out BK678.out (by decide)) (fun _ hk=>hk.2) (.slice Ao44 t675.length co44)) (fun _ hk=>trivial)⟩,⟨by (with_reducible repeat (first | refine jb ?_ _ | refine jd ?_ | refine jc ?_ _));refine jA ?_ NB669_678.out _;(with_reducible repeat (first | refine jb ?_ _ | refine jd ?_ | refine jc ?_ _));exact BK669.out⟩,⟨by (with_reducible repeat (first | refine jb ?_ _ | refine jd ?_ | refine jc ?_ _));refine jA ?_ NB670_678.out _;(with_reducible repeat (first | refine jb ?_ _ | refine jd ?_ | refine jc ?_ _));exact BK670.out⟩,⟨by (with_reducible repeat (first | refine jb ?_ _ | refine jd ?_ | refine jc ?_ _));refine jA ?_ NB671_678.out _;(with_reducible repeat (first | refine jb ?_ _ | refine jd ?_ | refine jc ?_ _));exact BK671.out⟩,⟨by (with_reducible repeat (first | refine jb ?_ _ | refine jd ?_ | refine jc ?_ _));refine jA ?_ NB672_678.out _;(with_reducible repeat (first | refine jb ?_ _ | refine jd ?_ | refine jc ?_ _));exact BK672.out⟩,⟨by (with_reducible repeat (first | refine jb ?_ _ | refine jd ?_ | refine jc ?_ _));refine jfa (cs:=#[.slice none 0 0]) ?_ 0 _ rfl;(with_reducible repeat (first | refine jb ?_ _ | refine jd ?_ | refine jc ?_ _));exact BK678.out⟩,⟨Y83⟩⟩
    case round =>
     clear H'
     try clear c1
     try clear c2
     try clear p2
     try clear c3
     try clear c4
     try clear c6
     try clear c10
     try clear c12
     try clear c13
     try clear c14
     try clear c16
     try clear c17
     try clear c21
     try clear c24
     try clear c25
     try clear c26
     try clear c28
     try clear c29
     try clear c32
     try clear c33
     try clear c34
     try clear c35
     try clear c37
     try clear c38
     try clear c39
     try clear c40
     try clear c45
     try clear c46
     try clear c47
     try clear c48
     try clear hcz15_0
     try clear hcz18_0
     try clear hcz20_0
     try clear hcz22_0
     try clear hcz27_0
     try clear hcz30_0
     try clear hcz36_0
     try clear hcz41_0
     try clear hcz49_0
     try clear hcz50_0
     try clear hfz15_0
     try clear hfz18_0
     try clear hfz20_0
     try clear hfz22_0
     try clear hfz27_0
     try clear hfz30_0
     try clear hfz36_0
     try clear hfz41_0
     try clear hfz49_0
     try clear hfz50_0
     try clear p2
     obtain ⟨x10_2,x679000_2,u679000,rfl,HA,HK2,HO_679000,BK669,BK670,BK671,BK672,BK678,HB⟩:=hrel
     cases gk with
     | zero=>exact absurd HA.out (by simp [jO.l0])
     | succ k2 =>
      have H:=HA.out
      clear HA
      simp only [jO.l0] at H
      by_cases c51:x10_2<(l2_0.length:Int)
      ·rw [if_pos c51] at H
       have c51b0:decide (x10_2<(l2_0.length:Int))=true:=dzT c51
       clear c51
       by_cases c52:0≤x10_2
       ·rw [if_pos c52] at H
        have c52b0:decide (0≤x10_2)=true:=dzT c52
        clear c52
        have HC53:=am H
        clear H
        have hnb54:=NB671_669.out
        have hnc54:=NB669_671.out
        have hnb55:=NB671_670.out
        have hnc55:=NB670_671.out
        have hnb56:=NB671_672.out
        have hnc56:=NB672_671.out
        have hnb57:=NB671_678.out
        have hnc57:=NB678_671.out
        have hcz58_0:=bc0 BK671.out
        have hfz58_0:=jf BK671.out 0
        have p679:0≤(x10_2:Int):=ozD (uq)
        have q679:x10_2<(l2_0.length:Int):=ozD (uq)
        obtain ⟨ad679,e679,hx679_0,hx679_1,hx679_2,hx679_3,hx679_4⟩:=jfb HR2_0.out x10_2 p679 q679
        cases e679
        replace hx679_0:=cb HB.out hx679_0
        replace hx679_1:=cb HB.out hx679_1
        replace hx679_2:=cb HB.out hx679_2
        replace hx679_3:=cb HB.out hx679_3
        replace hx679_4:=cb HB.out hx679_4
        replace p679:=ezT p679
        replace q679:=ezT q679
        go_upto_if 42 with (first |((with_reducible refine jI (N:=11) rfl ?_);refine bE (N:=11) (cs:=#[.int .i64 0, .int .i64 0, .int .i64 0, .int .i64 0, .bool false]) (t:=54) ?_;intro gb680 hg w59 hbox hb;have BK680:=am (hbox);have GW680:=am ((Y207:w.heap.size≤gb680));have GE680:=am ((Y207:w.heap.size≤gb680));have NB669_680:=am ((Y98:gb669≠gb680));have NB680_669:=am ((Y99:gb680≠gb669));have NB670_680:=am ((Y125:gb670≠gb680));have NB680_670:=am ((Y126:gb680≠gb670));have NB671_680:=am ((by rw [hg];exact Nat.ne_of_lt (jV (g:=gb671) (o:=.cells #[.slice (some ad679) l2_0.length c2_0] 32 (0,0)) (kq BK671.out)):gb671≠gb680));have NB680_671:=am ((by rw [hg];exact Nat.ne_of_gt (jV (g:=gb671) (o:=.cells #[.slice (some ad679) l2_0.length c2_0] 32 (0,0)) (kq BK671.out)):gb680≠gb671));have NB672_680:=am ((by rw [hg];exact Nat.ne_of_lt (jV (g:=gb672) (o:=.cells #[.slice none 0 0] 32 (0,0)) (kq BK672.out)):gb672≠gb680));have NB680_672:=am ((by rw [hg];exact Nat.ne_of_gt (jV (g:=gb672) (o:=.cells #[.slice none 0 0] 32 (0,0)) (kq BK672.out)):gb680≠gb672));have NB678_680:=am ((by rw [hg];exact Nat.ne_of_lt (jV (g:=gb678) (o:=.cells #[u679000] 32 (0,0)) (kq BK678.out)):gb678≠gb680));have NB680_678:=am ((by rw [hg];exact Nat.ne_of_gt (jV (g:=gb678) (o:=.cells #[u679000] 32 (0,0)) (kq BK678.out)):gb680≠gb678));replace HO_679000:=am (Kd.jP (Kd.R_elderB (rq HO_679000.out) gb680 (Nat.le_of_eq hg.symm)) hb);replace BK669:=am (je (g:=gb669) (o:=.cells #[.slice A0_0 l0_0.length c0_0] 37 (0,0)) (kq BK669.out) hb);replace BK670:=am (je (g:=gb670) (o:=.cells #[.slice A1_0 l1_0.length c1_0] 32 (0,0)) (kq BK670.out) hb);replace BK671:=am (je (g:=gb671) (o:=.cells #[.slice (some ad679) l2_0.length c2_0] 32 (0,0)) (kq BK671.out) hb);replace BK672:=am (je (g:=gb672) (o:=.cells #[.slice none 0 0] 32 (0,0)) (kq BK672.out) hb);replace BK678:=am (je (g:=gb678) (o:=.cells #[u679000] 32 (0,0)) (kq BK678.out) hb);replace HB:=am (jl (Y83) hb);clear hb hbox hg;have hnb60:=NB680_669.out;have hnc60:=NB669_680.out;have hnb61:=NB680_670.out;have hnc61:=NB670_680.out;have hnb62:=NB680_671.out;have hnc62:=NB671_680.out;have hnb63:=NB680_672.out;have hnc63:=NB672_680.out;have hnb64:=NB680_678.out;have hnc64:=NB678_680.out;have hcz65_0:=bc0 BK680.out;have hcz65_1:=bc1 BK680.out;have hcz65_2:=bc2 BK680.out;have hcz65_3:=bc3 BK680.out;have hcz65_4:w59.cell? ⟨gb680,4,none⟩=some (.bool false):=(jH BK680.out 4).trans rfl;have hfz65_0:=jf BK680.out 0;have hfz65_1:=jf BK680.out 1;have hfz65_2:=jf BK680.out 2;have hfz65_3:=jf BK680.out 3;have hfz65_4:=jf BK680.out 4))
        (try simp only [Act.put,List.setIfInBounds_toArray,List.set_cons_zero,List.set_cons_succ])
        go_cut [] (fun wc=>∃ (kq:Nat) (x681002_52:Int),jw (jO.j2 kq (l1_0.length:Int) x10_2 l0_0 l2_0 x679000_2 ((ja l2_0 x10_2).f0) ((ja l2_0 x10_2).f1) x681002_52 ((ja l2_0 x10_2).f3) ((ja l2_0 x10_2).f4)=some (r1,r2))∧jw (kq≤k2)∧jw (Kd.R k54 54 wc w.heap.size (fun k_=>k_≠gb680) u679000 x679000_2)∧jw (wc.heap[gb669]?=some (.cells #[(.slice A0_0 l0_0.length c0_0)] 37 (0,0)))∧jw (wc.heap[gb670]?=some (.cells #[(.slice A1_0 l1_0.length c1_0)] 32 (0,0)))∧jw (wc.heap[gb671]?=some (.cells #[(.slice (some ad679) l2_0.length c2_0)] 32 (0,0)))∧jw (wc.heap[gb672]?=some (.cells #[(.slice none 0 0)] 32 (0,0)))∧jw (wc.heap[gb678]?=some (.cells #[u679000] 32 (0,0)))∧jw (wc.heap[gb680]?=some (.cells #[.int .i64 ((ja l2_0 x10_2).f0), .int .i64 ((ja l2_0 x10_2).f1), .int .i64 x681002_52, .int .i64 ((ja l2_0 x10_2).f3), .bool ((ja l2_0 x10_2).f4)] 54 (0,0)))∧jw (Below w.heap.size w wc))
        case first =>
         have H:=HC53.out
         clear HC53
         by_cases c66:((ja l2_0 x10_2).f2)≥0
         ·rw [if_pos c66] at H
          have c66b0:decide (0≤((ja l2_0 x10_2).f2))=true:=dzT c66
          clear c66
          (first | rw [c66b0] |(simp only [jjb,job];rw [c66b0]) | skip)
          have H':=am H
          clear H
          have hnb67:=NB680_669.out
          have hnc67:=NB669_680.out
          have hnb68:=NB680_670.out
          have hnc68:=NB670_680.out
          have hnb69:=NB680_671.out
          have hnc69:=NB671_680.out
          have hnb70:=NB680_672.out
          have hnc70:=NB672_680.out
          have hnb71:=NB680_678.out
          have hnc71:=NB678_680.out
          have hcz72_0:=bc0 BK680.out
          have hcz72_1:=bc1 BK680.out
          have hcz72_2:=bc2 BK680.out
          have hcz72_3:=bc3 BK680.out
          have hcz72_4:w59.cell? ⟨gb680,4,none⟩=some (.bool false):=(jH BK680.out 4).trans rfl
          have hfz72_0:=jf BK680.out 0
          have hfz72_1:=jf BK680.out 1
          have hfz72_2:=jf BK680.out 2
          have hfz72_3:=jf BK680.out 3
          have hfz72_4:=jf BK680.out 4
          go_wp2
          go_meet
          case rel=>exact ⟨_,(wrap64 (((ja l2_0 x10_2).f2)+(l1_0.length:Int))),H',⟨by have:=HJ3.out;have:=HK2.out;first | omega | exact Nat.le_refl _⟩,⟨by (with_reducible repeat (first | apply Kd.jL | apply Kd.jM | apply Kd.jN));exact Kd.jD (Kd.jX (p:=⟨gb680,2,none⟩) (Kd.jX (p:=⟨gb680,4,none⟩) (Kd.jX (p:=⟨gb680,3,none⟩) (Kd.jX (p:=⟨gb680,2,none⟩) (Kd.jX (p:=⟨gb680,1,none⟩) (Kd.jX (p:=⟨gb680,0,none⟩) (Kd.jD HO_679000.out (fun k_ hk=>(⟨hk,hk.2⟩:_∧k_≠gb680))) (fun _ hk=>hk.2) (.int .i64 ((ja l2_0 x10_2).f0))) (fun _ hk=>hk.2) (.int .i64 ((ja l2_0 x10_2).f1))) (fun _ hk=>hk.2) (.int .i64 ((ja l2_0 x10_2).f2))) (fun _ hk=>hk.2) (.int .i64 ((ja l2_0 x10_2).f3))) (fun _ hk=>hk.2) (.bool ((ja l2_0 x10_2).f4))) (fun _ hk=>hk.2) (.int .i64 (wrap64 (((ja l2_0 x10_2).f2)+(l1_0.length:Int))))) (fun _ hk=>hk.1.2)⟩,⟨by (with_reducible repeat (first | refine jb ?_ _ | refine jd ?_ | refine jc ?_ _));refine jA ?_ NB669_680.out _;(with_reducible repeat (first | refine jb ?_ _ | refine jd ?_ | refine jc ?_ _));refine jA ?_ NB669_680.out _;(with_reducible repeat (first | refine jb ?_ _ | refine jd ?_ | refine jc ?_ _));refine jA ?_ NB669_680.out _;(with_reducible repeat (first | refine jb ?_ _ | refine jd ?_ | refine jc ?_ _));refine jA ?_ NB669_680.out _;(with_reducible repeat (first | refine jb ?_ _ | refine jd ?_ | refine jc ?_ _));refine jA ?_ NB669_680.out _;(with_reducible repeat (first | refine jb ?_ _ | refine jd ?_ | refine jc ?_ _));refine jA ?_ NB669_680.out _;(with_reducible repeat (first | refine jb ?_ _ | refine jd ?_ | refine jc ?_ _));exact BK669.out⟩,⟨by (with_reducible repeat (first | refine jb ?_ _ | refine jd ?_ | refine jc ?_ _));refine jA ?_ NB670_680.out _;(with_reducible repeat (first | refine jb ?_ _ | refine jd ?_ | refine jc ?_ _));refine jA ?_ NB670_680.out _;(with_reducible repeat (first | refine jb ?_ _ | refine jd ?_ | refine jc ?_ _));refine jA ?_ NB670_680.out _;(with_reducible repeat (first | refine jb ?_ _ | refine jd ?_ | refine jc ?_ _));refine jA ?_ NB670_680.out _;(with_reducible repeat (first | refine jb ?_ _ | refine jd ?_ | refine jc ?_ _));refine jA ?_ NB670_680.out _;(with_reducible repeat (first | refine jb ?_ _ | refine jd ?_ | refine jc ?_ _));refine jA ?_ NB670_680.out _;(with_reducible repeat (first | refine jb ?_ _ | refine jd ?_ | refine jc ?_ _));exact BK670.out⟩,⟨by (with_reducible repeat (first | refine jb ?_ _ | refine jd ?_ | refine jc ?_ _));refine jA ?_ NB671_680.out _;(with_reducible repeat (first | refine jb ?_ _ | refine jd ?_ | refine jc ?_ _));refine jA ?_ NB671_680.out _;(with_reducible repeat (first | refine jb ?_ _ | refine jd ?_ | refine jc ?_ _));refine jA ?_ NB671_680.out _;(with_reducible repeat (first | refine jb ?_ _ | refine jd ?_ | refine jc ?_ _));refine jA ?_ NB671_680.out _;(with_reducible repeat (first | refine jb ?_ _ | refine jd ?_ | refine jc ?_ _));refine jA ?_ NB671_680.out _;(with_reducible repeat (first | refine jb ?_ _ | refine jd ?_ | refine jc ?_ _));refine jA ?_ NB671_680.out _;(with_reducible repeat (first | refine jb ?_ _ | refine jd ?_ | refine jc ?_ _));exact BK671.out⟩,⟨by (with_reducible repeat (first | refine jb ?_ _ | refine jd ?_ | refine jc ?_ _));refine jA ?_ NB672_680.out _;(with_reducible repeat (first | refine jb ?_ _ | refine jd ?_ | refine jc ?_ _));refine jA ?_ NB672_680.out _;(with_reducible repeat (first | refine jb ?_ _ | refine jd ?_ | refine jc ?_ _));refine jA ?_ NB672_680.out _;(with_reducible repeat (first | refine jb ?_ _ | refine jd ?_ | refine jc ?_ _));refine jA ?_ NB672_680.out _;(with_reducible repeat (first | refine jb ?_ _ | refine jd ?_ | refine jc ?_ _));refine jA ?_ NB672_680.out _;(with_reducible repeat (first | refine jb ?_ _ | refine jd ?_ | refine jc ?_ _));refine jA ?_ NB672_680.out _;(with_reducible repeat (first | refine jb ?_ _ | refine jd ?_ | refine jc ?_ _));exact BK672.out⟩,⟨by (with_reducible repeat (first | refine jb ?_ _ | refine jd ?_ | refine jc ?_ _));refine jA ?_ NB678_680.out _;(with_reducible repeat (first | refine jb ?_ _ | refine jd ?_ | refine jc ?_ _));refine jA ?_ NB678_680.out _;(with_reducible repeat (first | refine jb ?_ _ | refine jd ?_ | refine jc ?_ _));refine jA ?_ NB678_680.out _;(with_reducible repeat (first | refine jb ?_ _ | refine jd ?_ | refine jc ?_ _));refine jA ?_ NB678_680.out _;(with_reducible repeat (first | refine jb ?_ _ | refine jd ?_ | refine jc ?_ _));refine jA ?_ NB678_680.out _;(with_reducible repeat (first | refine jb ?_ _ | refine jd ?_ | refine jc ?_ _));refine jA ?_ NB678_680.out _;(with_reducible repeat (first | refine jb ?_ _ | refine jd ?_ | refine jc ?_ _));exact BK678.out⟩,⟨by (with_reducible repeat (first | refine jb ?_ _ | refine jd ?_ | refine jc ?_ _));refine jfa (cs:=#[.int .i64 ((ja l2_0 x10_2).f0), .int .i64 ((ja l2_0 x10_2).f1), .int .i64 ((ja l2_0 x10_2).f2), .int .i64 ((ja l2_0 x10_2).f3), .bool ((ja l2_0 x10_2).f4)]) ?_ 2 _ rfl;(with_reducible repeat (first | refine jb ?_ _ | refine jd ?_ | refine jc ?_ _));refine jfa (cs:=#[.int .i64 ((ja l2_0 x10_2).f0), .int .i64 ((ja l2_0 x10_2).f1), .int .i64 ((ja l2_0 x10_2).f2), .int .i64 ((ja l2_0 x10_2).f3), .bool false]) ?_ 4 _ rfl;(with_reducible repeat (first | refine jb ?_ _ | refine jd ?_ | refine jc ?_ _));refine jfa (cs:=#[.int .i64 ((ja l2_0 x10_2).f0), .int .i64 ((ja l2_0 x10_2).f1), .int .i64 ((ja l2_0 x10_2).f2), .int .i64 0, .bool false]) ?_ 3 _ rfl;(with_reducible repeat (first | refine jb ?_ _ | refine jd ?_ | refine jc ?_ _));refine jfa (cs:=#[.int .i64 ((ja l2_0 x10_2).f0), .int .i64 ((ja l2_0 x10_2).f1), .int .i64 0, .int .i64 0, .bool false]) ?_ 2 _ rfl;(with_reducible repeat (first | refine jb ?_ _ | refine jd ?_ | refine jc ?_ _));refine jfa (cs:=#[.int .i64 ((ja l2_0 x10_2).f0), .int .i64 0, .int .i64 0, .int .i64 0, .bool false]) ?_ 1 _ rfl;(with_reducible repeat (first | refine jb ?_ _ | refine jd ?_ | refine jc ?_ _));refine jfa (cs:=#[.int .i64 0, .int .i64 0, .int .i64 0, .int .i64 0, .bool false]) ?_ 0 _ rfl;(with_reducible repeat (first | refine jb ?_ _ | refine jd ?_ | refine jc ?_ _));exact BK680.out⟩,⟨Y55⟩⟩
         ·rw [if_neg c66] at H
          have c66b0:decide (0≤((ja l2_0 x10_2).f2))=false:=dzF c66
          clear c66
          (first | rw [c66b0] |(simp only [jjb,job];rw [c66b0]) | skip)
          have H':=am H
          clear H
          go_wp2
          go_meet
          case rel=>exact ⟨_,((ja l2_0 x10_2).f2),H',⟨by have:=HJ3.out;have:=HK2.out;first | omega | exact Nat.le_refl _⟩,⟨by (with_reducible repeat (first | apply Kd.jL | apply Kd.jM | apply Kd.jN));exact Kd.jD (Kd.jX (p:=⟨gb680,4,none⟩) (Kd.jX (p:=⟨gb680,3,none⟩) (Kd.jX (p:=⟨gb680,2,none⟩) (Kd.jX (p:=⟨gb680,1,none⟩) (Kd.jX (p:=⟨gb680,0,none⟩) (Kd.jD HO_679000.out (fun k_ hk=>(⟨hk,hk.2⟩:_∧k_≠gb680))) (fun _ hk=>hk.2) (.int .i64 ((ja l2_0 x10_2).f0))) (fun _ hk=>hk.2) (.int .i64 ((ja l2_0 x10_2).f1))) (fun _ hk=>hk.2) (.int .i64 ((ja l2_0 x10_2).f2))) (fun _ hk=>hk.2) (.int .i64 ((ja l2_0 x10_2).f3))) (fun _ hk=>hk.2) (.bool ((ja l2_0 x10_2).f4))) (fun _ hk=>hk.1.2)⟩,⟨by (with_reducible repeat (first | refine jb ?_ _ | refine jd ?_ | refine jc ?_ _));refine jA ?_ NB669_680.out _;(with_reducible repeat (first | refine jb ?_ _ | refine jd ?_ | refine jc ?_ _));refine jA ?_ NB669_680.out _;(with_reducible repeat (first | refine jb ?_ _ | refine jd ?_ | refine jc ?_ _));refine jA ?_ NB669_680.out _;(with_reducible repeat (first | refine jb ?_ _ | refine jd ?_ | refine jc ?_ _));refine jA ?_ NB669_680.out _;(with_reducible repeat (first | refine jb ?_ _ | refine jd ?_ | refine jc ?_ _));refine jA ?_ NB669_680.out _;(with_reducible repeat (first | refine jb ?_ _ | refine jd ?_ | refine jc ?_ _));exact BK669.out⟩,⟨by (with_reducible repeat (first | refine jb ?_ _ | refine jd ?_ | refine jc ?_ _));refine jA ?_ NB670_680.out _;(with_reducible repeat (first | refine jb ?_ _ | refine jd ?_ | refine jc ?_ _));refine jA ?_ NB670_680.out _;(with_reducible repeat (first | refine jb ?_ _ | refine jd ?_ | refine jc ?_ _));refine jA ?_ NB670_680.out _;(with_reducible repeat (first | refine jb ?_ _ | refine jd ?_ | refine jc ?_ _));refine jA ?_ NB670_680.out _;(with_reducible repeat (first | refine jb ?_ _ | refine jd ?_ | refine jc ?_ _));refine jA ?_ NB670_680.out _;(with_reducible repeat (first | refine jb ?_ _ | refine jd ?_ | refine jc ?_ _));exact BK670.out⟩,⟨by (with_reducible repeat (first | refine jb ?_ _ | refine jd ?_ | refine jc ?_ _));refine jA ?_ NB671_680.out _;(with_reducible repeat (first | refine jb ?_ _ | refine jd ?_ | refine jc ?_ _));refine jA ?_ NB671_680.out _;(with_reducible repeat (first | refine jb ?_ _ | refine jd ?_ | refine jc ?_ _));refine jA ?_ NB671_680.out _;(with_reducible repeat (first | refine jb ?_ _ | refine jd ?_ | refine jc ?_ _));refine jA ?_ NB671_680.out _;(with_reducible repeat (first | refine jb ?_ _ | refine jd ?_ | refine jc ?_ _));refine jA ?_ NB671_680.out _;(with_reducible repeat (first | refine jb ?_ _ | refine jd ?_ | refine jc ?_ _));exact BK671.out⟩,⟨by (with_reducible repeat (first | refine jb ?_ _ | refine jd ?_ | refine jc ?_ _));refine jA ?_ NB672_680.out _;(with_reducible repeat (first | refine jb ?_ _ | refine jd ?_ | refine jc ?_ _));refine jA ?_ NB672_680.out _;(with_reducible repeat (first | refine jb ?_ _ | refine jd ?_ | refine jc ?_ _));refine jA ?_ NB672_680.out _;(with_reducible repeat (first | refine jb ?_ _ | refine jd ?_ | refine jc ?_ _));refine jA ?_ NB672_680.out _;(with_reducible repeat (first | refine jb ?_ _ | refine jd ?_ | refine jc ?_ _));refine jA ?_ NB672_680.out _;(with_reducible repeat (first | refine jb ?_ _ | refine jd ?_ | refine jc ?_ _));exact BK672.out⟩,⟨by (with_reducible repeat (first | refine jb ?_ _ | refine jd ?_ | refine jc ?_ _));refine jA ?_ NB678_680.out _;(with_reducible repeat (first | refine jb ?_ _ | refine jd ?_ | refine jc ?_ _));refine jA ?_ NB678_680.out _;(with_reducible repeat (first | refine jb ?_ _ | refine jd ?_ | refine jc ?_ _));refine jA ?_ NB678_680.out _;(with_reducible repeat (first | refine jb ?_ _ | refine jd ?_ | refine jc ?_ _));refine jA ?_ NB678_680.out _;(with_reducible repeat (first | refine jb ?_ _ | refine jd ?_ | refine jc ?_ _));refine jA ?_ NB678_680.out _;(with_reducible repeat (first | refine jb ?_ _ | refine jd ?_ | refine jc ?_ _));exact BK678.out⟩,⟨by (with_reducible repeat (first | refine jb ?_ _ | refine jd ?_ | refine jc ?_ _));refine jfa (cs:=#[.int .i64 ((ja l2_0 x10_2).f0), .int .i64 ((ja l2_0 x10_2).f1), .int .i64 ((ja l2_0 x10_2).f2), .int .i64 ((ja l2_0 x10_2).f3), .bool false]) ?_ 4 _ rfl;(with_reducible repeat (first | refine jb ?_ _ | refine jd ?_ | refine jc ?_ _));refine jfa (cs:=#[.int .i64 ((ja l2_0 x10_2).f0), .int .i64 ((ja l2_0 x10_2).f1), .int .i64 ((ja l2_0 x10_2).f2), .int .i64 0, .bool false]) ?_ 3 _ rfl;(with_reducible repeat (first | refine jb ?_ _ | refine jd ?_ | refine jc ?_ _));refine jfa (cs:=#[.int .i64 ((ja l2_0 x10_2).f0), .int .i64 ((ja l2_0 x10_2).f1), .int .i64 0, .int .i64 0, .bool false]) ?_ 2 _ rfl;(with_reducible repeat (first | refine jb ?_ _ | refine jd ?_ | refine jc ?_ _));refine jfa (cs:=#[.int .i64 ((ja l2_0 x10_2).f0), .int .i64 0, .int .i64 0, .int .i64 0, .bool false]) ?_ 1 _ rfl;(with_reducible repeat (first | refine jb ?_ _ | refine jd ?_ | refine jc ?_ _));refine jfa (cs:=#[.int .i64 0, .int .i64 0, .int .i64 0, .int .i64 0, .bool false]) ?_ 0 _ rfl;(with_reducible repeat (first | refine jb ?_ _ | refine jd ?_ | refine jc ?_ _));exact BK680.out⟩,⟨Y55⟩⟩
        case rest =>
         clear HC53
         try clear c1
         try clear c2
         try clear p2
         try clear c3
         try clear c4
         try clear c5
         try clear c6
         try clear p6
         try clear q6
         try clear hx6
         try clear c7
         try clear c10
         try clear c12
         try clear c13
         try clear c14
         try clear c16
         try clear c17
         try clear c21
         try clear c24
         try clear c25
         try clear c26
         try clear c28
         try clear c29
         try clear c32
         try clear c33
         try clear c34
         try clear c35
         try clear c37
         try clear c38
         try clear c39
         try clear c40
         try clear c45
         try clear c46
         try clear c47
         try clear c48
         try clear c51
         try clear c51b0
         try clear c52
         try clear c52b0
         try clear c54
         try clear c55
         try clear c56
         try clear c57
         try clear c60
         try clear c61
         try clear c62
         try clear c63
         try clear c64
         try clear p64
         try clear c66
         try clear c66b0
         try clear c67
         try clear p67
         try clear q67
         try clear hx67
         try clear c68
         try clear c69
         try clear c70
         try clear c71
         try clear hcz15_0
         try clear hcz18_0
         try clear hcz20_0
         try clear hcz22_0
         try clear hcz27_0
         try clear hcz30_0
         try clear hcz36_0
         try clear hcz41_0
         try clear hcz49_0
         try clear hcz50_0
         try clear hcz58_0
         try clear hcz65_0
         try clear hcz65_1
         try clear hcz65_2
         try clear hcz65_3
         try clear hcz65_4
         try clear hcz72_0
         try clear hcz72_1
         try clear hcz72_2
         try clear hcz72_3
         try clear hcz72_4
         try clear hfz15_0
         try clear hfz18_0
         try clear hfz20_0
         try clear hfz22_0
         try clear hfz27_0
         try clear hfz30_0
         try clear hfz36_0
         try clear hfz41_0
         try clear hfz49_0
         try clear hfz50_0
         try clear hfz58_0
         try clear hfz65_0
         try clear hfz65_1
         try clear hfz65_2
         try clear hfz65_3
         try clear hfz65_4
         try clear hfz72_0
         try clear hfz72_1
         try clear hfz72_2
         try clear hfz72_3
         try clear hfz72_4
         try clear hx679_0
         try clear hx679_1
         try clear hx679_2
         try clear hx679_3
         try clear hx679_4
         try clear p2
         try clear p679
         try clear q679
         obtain ⟨kq,x681002_52,HA,HJ52,HO_679000,BK669,BK670,BK671,BK672,BK678,BK680,HB⟩:=hcut
         cases kq with
         | zero=>exact absurd HA.out (by simp [jO.j2])
         | succ kj52 =>
          have H:=HA.out
          clear HA
          simp only [jO.j2] at H
          by_cases c73:((ja l2_0 x10_2).f3)≥0
          ·rw [if_pos c73] at H
           have c73b0:decide (0≤((ja l2_0 x10_2).f3))=true:=dzT c73
           clear c73
           by_cases c74:x679000_2.length<3518437208883
           ·rw [if_pos c74] at H
            have LMc74:=am c74
            clear c74
            obtain ⟨y681,hy681⟩:∃ y_:List (S54),y_=(x679000_2 ++ [(⟨((ja l2_0 x10_2).f0),((ja l2_0 x10_2).f1),x681002_52,wrap64 (((ja l2_0 x10_2).f3)+(l1_0.length:Int)),((ja l2_0 x10_2).f4)⟩:S54)]):=⟨_,rfl⟩
            replace H:(jO.l0 kj52 (l1_0.length:Int) (wrap64 (x10_2+1)) l0_0 l2_0 y681)=some (r1,r2):=by first |(rw [hy681];with_reducible exact H) |(have H2_:=(Option.bind_some _ _).symm.trans H;rw [hy681];with_reducible exact H2_) |(have H2_:=(Option.bind_some _ _).symm.trans H;with_reducible exact H2_) | with_reducible exact H |(rw [hy681];exact H) | exact H
            have Ny681:=am hy681
            clear hy681
            have H':=am H
            clear H
            have hnb75:=NB680_669.out
            have hnc75:=NB669_680.out
            have hnb76:=NB680_670.out
            have hnc76:=NB670_680.out
            have hnb77:=NB680_671.out
            have hnc77:=NB671_680.out
            have hnb78:=NB680_672.out
            have hnc78:=NB672_680.out
            have hnb79:=NB680_678.out
            have hnc79:=NB678_680.out
            have hcz80_0:=bc0 BK680.out
            have hcz80_1:=bc1 BK680.out
            have hcz80_2:=bc2 BK680.out
            have hcz80_3:=bc3 BK680.out
            have hcz80_4:wc.cell? ⟨gb680,4,none⟩=some (.bool ((ja l2_0 x10_2).f4)):=(jH BK680.out 4).trans rfl
            have hfz80_0:=jf BK680.out 0
            have hfz80_1:=jf BK680.out 1
            have hfz80_2:=jf BK680.out 2
            have hfz80_3:=jf BK680.out 3
            have hfz80_4:=jf BK680.out 4
            have hnb81:=NB678_669.out
            have hnc81:=NB669_678.out
            have hnb82:=NB678_670.out
            have hnc82:=NB670_678.out
            have hnb83:=NB678_671.out
            have hnc83:=NB671_678.out
            have hnb84:=NB678_672.out
            have hnc84:=NB672_678.out
            have hcz85_0:=bc0 BK678.out
            have hfz85_0:=jf BK678.out 0
            go_wp2_with (first |((with_reducible refine jkb (b:=.append) (xs:=#[.tmp 57, .tmp 59]) rfl ?_);at_builtin;refine Kd.jbc k54 (w0:=w) w.heap.size rfl (.tmp 57) (.tmp 59) 30 54 (.agg #[(.int .i64 0),(.int .i64 0),(.int .i64 0),(.int .i64 0),(.bool false)]) 40 rfl Try.underlying30 info54 rfl (by decide) (by omega) u679000 x679000_2 (⟨((ja l2_0 x10_2).f0),((ja l2_0 x10_2).f1),x681002_52,wrap64 (((ja l2_0 x10_2).f3)+(l1_0.length:Int)),((ja l2_0 x10_2).f4)⟩:S54) [.int .i64 ((ja l2_0 x10_2).f0), .int .i64 ((ja l2_0 x10_2).f1), .int .i64 x681002_52, .int .i64 (wrap64 (((ja l2_0 x10_2).f3)+(l1_0.length:Int))), .bool ((ja l2_0 x10_2).f4)] (fun k_=>k_≠gb680) (fun _=>False) rfl (Y4) ?aP (fun _ hk=>hk.elim) ?aF ?aO ?aB ?aS ?aL ?_;(case aP=>exact jGb _ _ _ (⟨((ja l2_0 x10_2).f0),((ja l2_0 x10_2).f1),x681002_52,wrap64 (((ja l2_0 x10_2).f3)+(l1_0.length:Int)),((ja l2_0 x10_2).f4)⟩:S54));(case aB=>exact (Y55));(case aF=>exact (fun k_ hk=>Kd.freshB (g:=gb680) (o:=.cells #[.int .i64 ((ja l2_0 x10_2).f0), .int .i64 ((ja l2_0 x10_2).f1), .int .i64 x681002_52, .int .i64 (wrap64 (((ja l2_0 x10_2).f3)+(l1_0.length:Int))), .bool ((ja l2_0 x10_2).f4)] 54 (0,0)) (Y208) k_ hk));(case aO=>exact (by (with_reducible repeat (first | apply Kd.jL | apply Kd.jM | apply Kd.jN));exact Kd.jD (Kd.jX (p:=⟨gb680,3,none⟩) (Kd.jD HO_679000.out (fun k_ hk=>(⟨hk,hk⟩:_∧k_≠gb680))) (fun _ hk=>hk.2) (.int .i64 (wrap64 (((ja l2_0 x10_2).f3)+(l1_0.length:Int))))) (fun _ hk=>hk.1)));(case aS=>exact (jQ (Y55)));(case aL=>have:=LMc74.out;omega);intro v682 w86 ho hb hg hat;rw [← Ny681.out] at ho;have n0_:=am (jia (g:=gb669) (o:=.cells #[.slice A0_0 l0_0.length c0_0] 37 (0,0)) (by (with_reducible repeat (first | refine jb ?_ _ | refine jd ?_ | refine jc ?_ _));refine jA ?_ NB669_680.out _;(with_reducible repeat (first | refine jb ?_ _ | refine jd ?_ | refine jc ?_ _));exact BK669.out) hg (Kd.R_ne HO_679000.out BK669.out (by decide)));have n1_:=am (jia (g:=gb670) (o:=.cells #[.slice A1_0 l1_0.length c1_0] 32 (0,0)) (by (with_reducible repeat (first | refine jb ?_ _ | refine jd ?_ | refine jc ?_ _));refine jA ?_ NB670_680.out _;(with_reducible repeat (first | refine jb ?_ _ | refine jd ?_ | refine jc ?_ _));exact BK670.out) hg (Kd.R_ne HO_679000.out BK670.out (by decide)));have n2_:=am (jia (g:=gb671) (o:=.cells #[.slice (some ad679) l2_0.length c2_0] 32 (0,0)) (by (with_reducible repeat (first | refine jb ?_ _ | refine jd ?_ | refine jc ?_ _));refine jA ?_ NB671_680.out _;(with_reducible repeat (first | refine jb ?_ _ | refine jd ?_ | refine jc ?_ _));exact BK671.out) hg (Kd.R_ne HO_679000.out BK671.out (by decide)));have n3_:=am (jia (g:=gb672) (o:=.cells #[.slice none 0 0] 32 (0,0)) (by (with_reducible repeat (first | refine jb ?_ _ | refine jd ?_ | refine jc ?_ _));refine jA ?_ NB672_680.out _;(with_reducible repeat (first | refine jb ?_ _ | refine jd ?_ | refine jc ?_ _));exact BK672.out) hg (Kd.R_ne HO_679000.out BK672.out (by decide)));have n4_:=am (jia (g:=gb678) (o:=.cells #[u679000] 32 (0,0)) (by (with_reducible repeat (first | refine jb ?_ _ | refine jd ?_ | refine jc ?_ _));refine jA ?_ NB678_680.out _;(with_reducible repeat (first | refine jb ?_ _ | refine jd ?_ | refine jc ?_ _));exact BK678.out) hg (Kd.R_ne HO_679000.out BK678.out (by decide)));have n5_:=am (jia (g:=gb680) (o:=.cells #[.int .i64 ((ja l2_0 x10_2).f0), .int .i64 ((ja l2_0 x10_2).f1), .int .i64 x681002_52, .int .i64 (wrap64 (((ja l2_0 x10_2).f3)+(l1_0.length:Int))), .bool ((ja l2_0 x10_2).f4)] 54 (0,0)) (Y208) hg (Kd.R_away HO_679000.out (fun _ hk=>hk)));have n6_:=am (hb);have n7_:=am (ho);clear BK669 BK670 BK671 BK672 BK678 BK680 HB HO_679000;have BK669:=n0_;have BK670:=n1_;have BK671:=n2_;have BK672:=n3_;have BK678:=n4_;have BK680:=n5_;have HB:=n6_;have HO683:=n7_;clear n0_ n1_ n2_ n3_ n4_ n5_ n6_ n7_ ho hb hg hat;obtain ⟨Ao87,co87,eo87⟩:=Kd.jaa HO683.out;subst eo87;have hcz88_0:=bc0 BK678.out;have hfz88_0:=jf BK678.out 0))
            go_roundg kj52
            case measure=>have:=HJ3.out;have:=HK2.out;have:=HJ52.out;omega
            case rel=>exact ⟨(wrap64 (x10_2+1)),(y681),(.slice Ao87 y681.length co87),(sq),H',⟨by have:=HJ3.out;have:=HK2.out;have:=HJ52.out;omega⟩,⟨by (with_reducible repeat (first | apply Kd.jL | apply Kd.jM | apply Kd.jN));exact Kd.jD (Kd.jX (p:=⟨gb678,0,none⟩) (Kd.jJ HO683.out BK678.out (by decide)) (fun _ hk=>hk.2) (.slice Ao87 y681.length co87)) (fun _ hk=>trivial)⟩,⟨by (with_reducible repeat (first | refine jb ?_ _ | refine jd ?_ | refine jc ?_ _));refine jA ?_ NB669_678.out _;(with_reducible repeat (first | refine jb ?_ _ | refine jd ?_ | refine jc ?_ _));exact BK669.out⟩,⟨by (with_reducible repeat (first | refine jb ?_ _ | refine jd ?_ | refine jc ?_ _));refine jA ?_ NB670_678.out _;(with_reducible repeat (first | refine jb ?_ _ | refine jd ?_ | refine jc ?_ _));exact BK670.out⟩,⟨by (with_reducible repeat (first | refine jb ?_ _ | refine jd ?_ | refine jc ?_ _));refine jA ?_ NB671_678.out _;(with_reducible repeat (first | refine jb ?_ _ | refine jd ?_ | refine jc ?_ _));exact BK671.out⟩,⟨by (with_reducible repeat (first | refine jb ?_ _ | refine jd ?_ | refine jc ?_ _));refine jA ?_ NB672_678.out _;(with_reducible repeat (first | refine jb ?_ _ | refine jd ?_ | refine jc ?_ _));exact BK672.out⟩,⟨by (with_reducible repeat (first | refine jb ?_ _ | refine jd ?_ | refine jc ?_ _));refine jfa (cs:=#[u679000]) ?_ 0 _ rfl;(with_reducible repeat (first | refine jb ?_ _ | refine jd ?_ | refine jc ?_ _));exact BK678.out⟩,⟨Y55⟩⟩
           ·rw [if_neg c74] at H
            exact absurd H (by simp)
          ·rw [if_neg c73] at H
           have c73b0:decide (0≤((ja l2_0 x10_2).f3))=false:=dzF c73
           clear c73
           by_cases c89:x679000_2.length<3518437208883
           ·rw [if_pos c89] at H
            have LMc89:=am c89
            clear c89
            obtain ⟨y684,hy684⟩:∃ y_:List (S54),y_=(x679000_2 ++ [(⟨((ja l2_0 x10_2).f0),((ja l2_0 x10_2).f1),x681002_52,((ja l2_0 x10_2).f3),((ja l2_0 x10_2).f4)⟩:S54)]):=⟨_,rfl⟩
            replace H:(jO.l0 kj52 (l1_0.length:Int) (wrap64 (x10_2+1)) l0_0 l2_0 y684)=some (r1,r2):=by first |(rw [hy684];with_reducible exact H) |(have H2_:=(Option.bind_some _ _).symm.trans H;rw [hy684];with_reducible exact H2_) |(have H2_:=(Option.bind_some _ _).symm.trans H;with_reducible exact H2_) | with_reducible exact H |(rw [hy684];exact H) | exact H
            have Ny684:=am hy684
            clear hy684
            have H':=am H
            clear H
            have hnb90:=NB680_669.out
            have hnc90:=NB669_680.out
            have hnb91:=NB680_670.out
            have hnc91:=NB670_680.out
            have hnb92:=NB680_671.out
            have hnc92:=NB671_680.out
            have hnb93:=NB680_672.out
            have hnc93:=NB672_680.out
            have hnb94:=NB680_678.out
            have hnc94:=NB678_680.out
            have hcz95_0:=bc0 BK680.out
            have hcz95_1:=bc1 BK680.out
            have hcz95_2:=bc2 BK680.out
            have hcz95_3:=bc3 BK680.out
            have hcz95_4:wc.cell? ⟨gb680,4,none⟩=some (.bool ((ja l2_0 x10_2).f4)):=(jH BK680.out 4).trans rfl
            have hfz95_0:=jf BK680.out 0
            have hfz95_1:=jf BK680.out 1
            have hfz95_2:=jf BK680.out 2
            have hfz95_3:=jf BK680.out 3
            have hfz95_4:=jf BK680.out 4
            have hnb96:=NB678_669.out
            have hnc96:=NB669_678.out
            have hnb97:=NB678_670.out
            have hnc97:=NB670_678.out
            have hnb98:=NB678_671.out
            have hnc98:=NB671_678.out
            have hnb99:=NB678_672.out
            have hnc99:=NB672_678.out
            have hcz100_0:=bc0 BK678.out
            have hfz100_0:=jf BK678.out 0
            go_wp2_with (first |((with_reducible refine jkb (b:=.append) (xs:=#[.tmp 57, .tmp 59]) rfl ?_);at_builtin;refine Kd.jbc k54 (w0:=w) w.heap.size rfl (.tmp 57) (.tmp 59) 30 54 (.agg #[(.int .i64 0),(.int .i64 0),(.int .i64 0),(.int .i64 0),(.bool false)]) 40 rfl Try.underlying30 info54 rfl (by decide) (by omega) u679000 x679000_2 (⟨((ja l2_0 x10_2).f0),((ja l2_0 x10_2).f1),x681002_52,((ja l2_0 x10_2).f3),((ja l2_0 x10_2).f4)⟩:S54) [.int .i64 ((ja l2_0 x10_2).f0), .int .i64 ((ja l2_0 x10_2).f1), .int .i64 x681002_52, .int .i64 ((ja l2_0 x10_2).f3), .bool ((ja l2_0 x10_2).f4)] (fun k_=>k_≠gb680) (fun _=>False) rfl rfl ?aP (fun _ hk=>hk.elim) ?aF ?aO ?aB ?aS ?aL ?_;(case aP=>exact jGb _ _ _ (⟨((ja l2_0 x10_2).f0),((ja l2_0 x10_2).f1),x681002_52,((ja l2_0 x10_2).f3),((ja l2_0 x10_2).f4)⟩:S54));(case aB=>exact (Y55));(case aF=>exact (fun k_ hk=>Kd.freshB (g:=gb680) (o:=.cells #[.int .i64 ((ja l2_0 x10_2).f0), .int .i64 ((ja l2_0 x10_2).f1), .int .i64 x681002_52, .int .i64 ((ja l2_0 x10_2).f3), .bool ((ja l2_0 x10_2).f4)] 54 (0,0)) (kq BK680.out) k_ hk));(case aO=>exact (rq HO_679000.out));(case aS=>exact (jQ (Y55)));(case aL=>have:=LMc89.out;omega);intro v685 w101 ho hb hg hat;rw [← Ny684.out] at ho;have n0_:=am (jia (g:=gb669) (o:=.cells #[.slice A0_0 l0_0.length c0_0] 37 (0,0)) (kq BK669.out) hg (Kd.R_ne HO_679000.out BK669.out (by decide)));have n1_:=am (jia (g:=gb670) (o:=.cells #[.slice A1_0 l1_0.length c1_0] 32 (0,0)) (kq BK670.out) hg (Kd.R_ne HO_679000.out BK670.out (by decide)));have n2_:=am (jia (g:=gb671) (o:=.cells #[.slice (some ad679) l2_0.length c2_0] 32 (0,0)) (kq BK671.out) hg (Kd.R_ne HO_679000.out BK671.out (by decide)));have n3_:=am (jia (g:=gb672) (o:=.cells #[.slice none 0 0] 32 (0,0)) (kq BK672.out) hg (Kd.R_ne HO_679000.out BK672.out (by decide)));have n4_:=am (jia (g:=gb678) (o:=.cells #[u679000] 32 (0,0)) (kq BK678.out) hg (Kd.R_ne HO_679000.out BK678.out (by decide)));have n5_:=am (jia (g:=gb680) (o:=.cells #[.int .i64 ((ja l2_0 x10_2).f0), .int .i64 ((ja l2_0 x10_2).f1), .int .i64 x681002_52, .int .i64 ((ja l2_0 x10_2).f3), .bool ((ja l2_0 x10_2).f4)] 54 (0,0)) (kq BK680.out) hg (Kd.R_away HO_679000.out (fun _ hk=>hk)));have n6_:=am (hb);have n7_:=am (ho);clear BK669 BK670 BK671 BK672 BK678 BK680 HB HO_679000;have BK669:=n0_;have BK670:=n1_;have BK671:=n2_;have BK672:=n3_;have BK678:=n4_;have BK680:=n5_;have HB:=n6_;have HO686:=n7_;clear n0_ n1_ n2_ n3_ n4_ n5_ n6_ n7_ ho hb hg hat;obtain ⟨Ao102,co102,eo102⟩:=Kd.jaa HO686.out;subst eo102;have hcz103_0:=bc0 BK678.out;have hfz103_0:=jf BK678.out 0))
            go_roundg kj52
            case measure=>have:=HJ3.out;have:=HK2.out;have:=HJ52.out;omega
            case rel=>exact ⟨(wrap64 (x10_2+1)),(y684),(.slice Ao102 y684.length co102),(sq),H',⟨by have:=HJ3.out;have:=HK2.out;have:=HJ52.out;omega⟩,⟨by (with_reducible repeat (first | apply Kd.jL | apply Kd.jM | apply Kd.jN));exact Kd.jD (Kd.jX (p:=⟨gb678,0,none⟩) (Kd.jJ HO686.out BK678.out (by decide)) (fun _ hk=>hk.2) (.slice Ao102 y684.length co102)) (fun _ hk=>trivial)⟩,⟨by (with_reducible repeat (first | refine jb ?_ _ | refine jd ?_ | refine jc ?_ _));refine jA ?_ NB669_678.out _;(with_reducible repeat (first | refine jb ?_ _ | refine jd ?_ | refine jc ?_ _));exact BK669.out⟩,⟨by (with_reducible repeat (first | refine jb ?_ _ | refine jd ?_ | refine jc ?_ _));refine jA ?_ NB670_678.out _;(with_reducible repeat (first | refine jb ?_ _ | refine jd ?_ | refine jc ?_ _));exact BK670.out⟩,⟨by (with_reducible repeat (first | refine jb ?_ _ | refine jd ?_ | refine jc ?_ _));refine jA ?_ NB671_678.out _;(with_reducible repeat (first | refine jb ?_ _ | refine jd ?_ | refine jc ?_ _));exact BK671.out⟩,⟨by (with_reducible repeat (first | refine jb ?_ _ | refine jd ?_ | refine jc ?_ _));refine jA ?_ NB672_678.out _;(with_reducible repeat (first | refine jb ?_ _ | refine jd ?_ | refine jc ?_ _));exact BK672.out⟩,⟨by (with_reducible repeat (first | refine jb ?_ _ | refine jd ?_ | refine jc ?_ _));refine jfa (cs:=#[u679000]) ?_ 0 _ rfl;(with_reducible repeat (first | refine jb ?_ _ | refine jd ?_ | refine jc ?_ _));exact BK678.out⟩,⟨Y55⟩⟩
           ·rw [if_neg c89] at H
            exact absurd H (by simp)
       ·rw [if_neg c52] at H
        exact absurd H (by simp)
      ·rw [if_neg c51] at H
       have c51b0:decide (x10_2<(l2_0.length:Int))=false:=dzF c51
       clear c51
       replace H:=bzS H
       obtain ⟨t687,A1040,H⟩:=H
       replace H:(if t687=true then (some (x679000_2,true)) else (some (([]:List (S54)),false)))=some (r1,r2):=H
       have A104:=am A1040
       clear A1040
       by_cases c105:t687=true
       ·subst c105
        have H1:(some (x679000_2,true))=some (r1,r2):=by rw [if_pos rfl] at H;exact H
        clear H
        have H:=H1
        clear H1
        simp only [Option.some.injEq,Prod.mk.injEq] at H
        obtain ⟨rfl,rfl⟩:=H
        have hnb106:=NB671_669.out
        have hnc106:=NB669_671.out
        have hnb107:=NB671_670.out
        have hnc107:=NB670_671.out
        have hnb108:=NB671_672.out
        have hnc108:=NB672_671.out
        have hnb109:=NB671_678.out
        have hnc109:=NB678_671.out
        have hcz110_0:=bc0 BK671.out
        have hfz110_0:=jf BK671.out 0
        have hnb111:=NB669_670.out
        have hnc111:=NB670_669.out
        have hnb112:=NB669_672.out
        have hnc112:=NB672_669.out
        have hnb113:=NB669_678.out
        have hnc113:=NB678_669.out
        have hcz114_0:=bc0 BK669.out
        have hfz114_0:=jf BK669.out 0
        have hnb115:=NB678_670.out
        have hnc115:=NB670_678.out
        have hnb116:=NB678_672.out
        have hnc116:=NB672_678.out
        have hcz117_0:=bc0 BK678.out
        have hfz117_0:=jf BK678.out 0
        obtain ⟨Ao118,co118,eo118⟩:=Kd.jaa HO_679000.out
        subst eo118
        go_wp2_with (first |((with_reducible refine jC (f:=66) rfl ?_);refine gL (some 64) Try.func66 #[.agg #[.slice A0_0 l0_0.length c0_0], .agg #[.slice Ao118 x679000_2.length co118]] ?_;(with_reducible refine (jG.calls k2 _ _ l0_0 _ _ x679000_2 true _ ?side1 ?side2 ?side3 ?side4 A104.out).mono ?_);(case side1=>exact cq (Kd.jea HR0_0.out HB.out));(case side2=>exact HC0_0.out);(case side3=>exact cq (Kd.jB HO_679000.out).2.2);(case side4=>exact (Kd.jB HO_679000.out).2.1);rintro e w119 ⟨rfl,hb⟩;refine ⟨_,rfl,?_⟩;replace HO_679000:=am (Kd.jP (rq HO_679000.out) hb);replace BK669:=am (je (g:=gb669) (o:=.cells #[.slice A0_0 l0_0.length c0_0] 37 (0,0)) (kq BK669.out) hb);replace BK670:=am (je (g:=gb670) (o:=.cells #[.slice A1_0 l1_0.length c1_0] 32 (0,0)) (kq BK670.out) hb);replace BK671:=am (je (g:=gb671) (o:=.cells #[.slice A2_0 l2_0.length c2_0] 32 (0,0)) (kq BK671.out) hb);replace BK672:=am (je (g:=gb672) (o:=.cells #[.slice none 0 0] 32 (0,0)) (kq BK672.out) hb);replace BK678:=am (je (g:=gb678) (o:=.cells #[.slice Ao118 x679000_2.length co118] 32 (0,0)) (kq BK678.out) hb);replace HB:=am (jl (Y83) hb);(try clear hb);(try clear hb2);(try clear hk);(try clear hi);have hcz120_0:=bc0 BK678.out;have hfz120_0:=jf BK678.out 0;have hnb121:=NB672_670.out;have hnc121:=NB670_672.out;have hcz122_0:=bc0 BK672.out;have hfz122_0:=jf BK672.out 0))
        refine bodyPost_ret (jsb rfl _ _ gb672 32 #[.slice Ao118 x679000_2.length co118] (0,0) _ rfl (Y150) Try.underlying32 rfl (by kernel_rfl)) rfl ?_
        exact ⟨_,Y2,by (with_reducible repeat (first | apply Kd.jL | apply Kd.jM | apply Kd.jN));exact Kd.jD (Kd.jX (p:=⟨gb672,0,none⟩) (Kd.jJ HO_679000.out BK672.out (by decide)) (fun _ hk=>hk.2) (.slice Ao118 x679000_2.length co118)) (fun _ hk=>trivial),Y83⟩
       ·replace c105:=Bool.eq_false_iff.mpr c105
        subst c105
        have H1:(some (([]:List (S54)),false))=some (r1,r2):=by rw [if_neg (show ¬ (false=true) by decide)] at H;exact H
        clear H
        have H:=H1
        clear H1
        simp only [Option.some.injEq,Prod.mk.injEq] at H
        obtain ⟨rfl,rfl⟩:=H
        have hnb123:=NB671_669.out
        have hnc123:=NB669_671.out
        have hnb124:=NB671_670.out
        have hnc124:=NB670_671.out
        have hnb125:=NB671_672.out
        have hnc125:=NB672_671.out
        have hnb126:=NB671_678.out
        have hnc126:=NB678_671.out
        have hcz127_0:=bc0 BK671.out
        have hfz127_0:=jf BK671.out 0
        have hnb128:=NB669_670.out
        have hnc128:=NB670_669.out
        have hnb129:=NB669_672.out
        have hnc129:=NB672_669.out
        have hnb130:=NB669_678.out
        have hnc130:=NB678_669.out
        have hcz131_0:=bc0 BK669.out
        have hfz131_0:=jf BK669.out 0
        have hnb132:=NB678_670.out
        have hnc132:=NB670_678.out
        have hnb133:=NB678_672.out
        have hnc133:=NB672_678.out
        have hcz134_0:=bc0 BK678.out
        have hfz134_0:=jf BK678.out 0
        obtain ⟨Ao135,co135,eo135⟩:=Kd.jaa HO_679000.out
        subst eo135
        go_wp2_with (first |((with_reducible refine jC (f:=66) rfl ?_);refine gL (some 64) Try.func66 #[.agg #[.slice A0_0 l0_0.length c0_0], .agg #[.slice Ao135 x679000_2.length co135]] ?_;(with_reducible refine (jG.calls k2 _ _ l0_0 _ _ x679000_2 false _ ?side1 ?side2 ?side3 ?side4 A104.out).mono ?_);(case side1=>exact cq (Kd.jea HR0_0.out HB.out));(case side2=>exact HC0_0.out);(case side3=>exact cq (Kd.jB HO_679000.out).2.2);(case side4=>exact (Kd.jB HO_679000.out).2.1);rintro e w136 ⟨rfl,hb⟩;refine ⟨_,rfl,?_⟩;replace HO_679000:=am (Kd.jP (rq HO_679000.out) hb);replace BK669:=am (je (g:=gb669) (o:=.cells #[.slice A0_0 l0_0.length c0_0] 37 (0,0)) (kq BK669.out) hb);replace BK670:=am (je (g:=gb670) (o:=.cells #[.slice A1_0 l1_0.length c1_0] 32 (0,0)) (kq BK670.out) hb);replace BK671:=am (je (g:=gb671) (o:=.cells #[.slice A2_0 l2_0.length c2_0] 32 (0,0)) (kq BK671.out) hb);replace BK672:=am (je (g:=gb672) (o:=.cells #[.slice none 0 0] 32 (0,0)) (kq BK672.out) hb);replace BK678:=am (je (g:=gb678) (o:=.cells #[.slice Ao135 x679000_2.length co135] 32 (0,0)) (kq BK678.out) hb);replace HB:=am (jl (Y83) hb);(try clear hb);(try clear hb2);(try clear hk);(try clear hi);have hnb137:=NB672_670.out;have hnc137:=NB670_672.out;have hcz138_0:=bc0 BK672.out;have hfz138_0:=jf BK672.out 0))
        refine bodyPost_ret (jsb rfl _ _ gb672 32 #[.slice none 0 0] (0,0) _ rfl (Y150) Try.underlying32 rfl (by kernel_rfl)) rfl ?_
        exact ⟨_,Y2,Y110,Y83⟩
theorem eqA54 (d : Nat) (w : World) (x0 y0 : Int) (x1 y1 : Int) (x2 y2 : Int) (x3 y3 : Int) (x4 y4 : Bool) :
  (Op.equalIn (d+2) 54 (.agg #[.int .i64 x0, .int .i64 x1, .int .i64 x2, .int .i64 x3, .bool x4]) (.agg #[.int .i64 y0, .int .i64 y1, .int .i64 y2, .int .i64 y3, .bool y4])).run Try.prog w=.ok (x0 == y0 && (x1 == y1 && (x2 == y2 && (x3 == y3 && (x4 == y4))))) w:=by
 refine eqA_of Try.underlying54 (by kernel_rfl) ?_
 refine eqf_cons (by rfl) (by go_simp;rfl) (by go_simp;rfl) (by go_simp) ?_
 refine eqf_cons (by rfl) (by go_simp;rfl) (by go_simp;rfl) (by go_simp) ?_
 refine eqf_cons (by rfl) (by go_simp;rfl) (by go_simp;rfl) (by go_simp) ?_
 refine eqf_cons (by rfl) (by go_simp;rfl) (by go_simp;rfl) (by go_simp) ?_
 exact eqf_last (by rfl) (by go_simp;rfl) (by go_simp;rfl) (by go_simp)
attribute [local go_sem high] eqA54
def jda.l0 : Nat → Int → List (S54) → List (S54) → Option (Bool)
 | 0,_,_,_=>none
 | k+1,x5,x689000,x690000=>if x5<(x689000.length:Int) then (if 0≤x5 then (if x5<(x690000.length:Int) then (if (!(((ja x689000 x5).f0) == ((ja x690000 x5).f0)) ||(!(((ja x689000 x5).f1) == ((ja x690000 x5).f1)) ||(!(((ja x689000 x5).f2) == ((ja x690000 x5).f2)) ||(!(((ja x689000 x5).f3) == ((ja x690000 x5).f3)) ||(!(((ja x689000 x5).f4) == ((ja x690000 x5).f4)))))))=true then (some false) else (jda.l0 k (wrap64 (x5+1)) x689000 x690000)) else (none)) else (none)) else (some true)
def jda.f (k : Nat) (l0_0 : List (S54)) (l1_0 : List (S54)) : Option (Bool) := if (l0_0.length : Int) = (l1_0.length : Int) then (jda.l0 k 0 l0_0 l1_0) else (some false)
set_option maxHeartbeats 8000000 in
set_option maxRecDepth 100000 in
theorem jda.calls (k : Nat) (A0_0 : Option Addr) (c0_0 : Nat) (l0_0 : List (S54)) (A1_0 : Option Addr) (c1_0 : Nat) (l1_0 : List (S54)) (r : Bool) (w : World) (hr0_0 : Kd.C k54 w A0_0 l0_0.length l0_0) (hc0_0 : l0_0.length ≤ c0_0) (hr1_0 : Kd.C k54 w A1_0 l1_0.length l1_0) (hc1_0 : l1_0.length ≤ c1_0) (h : jda.f k l0_0 l1_0 = some r) :
  Calls Try.prog 38 #[.agg #[.slice A0_0 l0_0.length c0_0], .agg #[.slice A1_0 l1_0.length c1_0]] w fun e w'=>e=.returned (.bool r)∧Below w.heap.size w w':=by
 have hu32:=Try.underlying32
 have hu54:=Try.underlying54
 have HR0_0:=am hr0_0
 have HC0_0:=am hc0_0
 clear hr0_0 hc0_0
 have HR1_0:=am hr1_0
 have HC1_0:=am hc1_0
 clear hr1_0 hc1_0
 have HB:=am (Below.refl w.heap.size w)
 have H:(if (l0_0.length:Int)=(l1_0.length:Int) then (jda.l0 k 0 l0_0 l1_0) else (some false))=some r:=h
 clear h
 by_cases c3:(l0_0.length:Int)=(l1_0.length:Int)
 ·rw [if_pos c3] at H
  have c3b0:((l0_0.length:Int) == (l1_0.length:Int))=true:=beq_iff_eq.mpr c3
  have c3b1:((l0_0.length:Int) != (l1_0.length:Int))=false:=bne_eq_false_iff_eq.mpr c3
  have c3b2:(l0_0.length == l1_0.length)=true:=by first | simpa using c3 |(simp at c3 ⊢;omega)
  clear c3
  have H':=am H
  clear H
  go_enter Try.func38,Try.ntmps38
  go_wp2_with (first |((with_reducible refine jI (N:=2) rfl ?_);refine bE (N:=2) (cs:=#[.slice A0_0 l0_0.length c0_0]) (t:=32) ?_;intro gb688 hg w4 hbox hb;have BK688:=am (hbox);have GW688:=am ((Y1:w.heap.size≤gb688));have GE688:=am ((Y1:w.heap.size≤gb688));replace HB:=am (jl (bq) hb);clear hb hbox hg) |((with_reducible refine jI (N:=3) rfl ?_);refine bE (N:=3) (cs:=#[.slice A1_0 l1_0.length c1_0]) (t:=32) ?_;intro gb689 hg w5 hbox hb;have BK689:=am (hbox);have GW689:=am ((Y40:w.heap.size≤gb689));have GE689:=am ((Y40:w.heap.size≤gb689));have NB688_689:=am ((Y84:gb688≠gb689));have NB689_688:=am ((Y85:gb689≠gb688));replace BK688:=am (je (g:=gb688) (o:=.cells #[.slice A0_0 l0_0.length c0_0] 32 (0,0)) (kq BK688.out) hb);replace HB:=am (jl (Y86) hb);clear hb hbox hg;have hnb6:=NB688_689.out;have hnc6:=NB689_688.out;have hcz7_0:=bc0 BK688.out;have hfz7_0:=jf BK688.out 0;have hcz8_0:=bc0 BK689.out;have hfz8_0:=jf BK689.out 0))
  repeat (go_quiet (first |((with_reducible refine jI (N:=2) rfl ?_);refine bE (N:=2) (cs:=#[.slice A0_0 l0_0.length c0_0]) (t:=32) ?_;intro gb688 hg w4 hbox hb;have BK688:=am (hbox);have GW688:=am ((Y1:w.heap.size≤gb688));have GE688:=am ((Y1:w.heap.size≤gb688));replace HB:=am (jl (bq) hb);clear hb hbox hg) |((with_reducible refine jI (N:=3) rfl ?_);refine bE (N:=3) (cs:=#[.slice A1_0 l1_0.length c1_0]) (t:=32) ?_;intro gb689 hg w5 hbox hb;have BK689:=am (hbox);have GW689:=am ((Y40:w.heap.size≤gb689));have GE689:=am ((Y40:w.heap.size≤gb689));have NB688_689:=am ((Y84:gb688≠gb689));have NB689_688:=am ((Y85:gb689≠gb688));replace BK688:=am (je (g:=gb688) (o:=.cells #[.slice A0_0 l0_0.length c0_0] 32 (0,0)) (kq BK688.out) hb);replace HB:=am (jl (Y86) hb);clear hb hbox hg;have hnb6:=NB688_689.out;have hnc6:=NB689_688.out;have hcz7_0:=bc0 BK688.out;have hfz7_0:=jf BK688.out 0;have hcz8_0:=bc0 BK689.out;have hfz8_0:=jf BK689.out 0));try go_wp2_with (first |((with_reducible refine jI (N:=2) rfl ?_);refine bE (N:=2) (cs:=#[.slice A0_0 l0_0.length c0_0]) (t:=32) ?_;intro gb688 hg w4 hbox hb;have BK688:=am (hbox);have GW688:=am ((Y1:w.heap.size≤gb688));have GE688:=am ((Y1:w.heap.size≤gb688));replace HB:=am (jl (bq) hb);clear hb hbox hg) |((with_reducible refine jI (N:=3) rfl ?_);refine bE (N:=3) (cs:=#[.slice A1_0 l1_0.length c1_0]) (t:=32) ?_;intro gb689 hg w5 hbox hb;have BK689:=am (hbox);have GW689:=am ((Y40:w.heap.size≤gb689));have GE689:=am ((Y40:w.heap.size≤gb689));have NB688_689:=am ((Y84:gb688≠gb689));have NB689_688:=am ((Y85:gb689≠gb688));replace BK688:=am (je (g:=gb688) (o:=.cells #[.slice A0_0 l0_0.length c0_0] 32 (0,0)) (kq BK688.out) hb);replace HB:=am (jl (Y86) hb);clear hb hbox hg;have hnb6:=NB688_689.out;have hnc6:=NB689_688.out;have hcz7_0:=bc0 BK688.out;have hfz7_0:=jf BK688.out 0;have hcz8_0:=bc0 BK689.out;have hfz8_0:=jf BK689.out 0)))
  go_loopg [5] k (fun kq v5 w'=>∃ (x5_1:Int),v5=.int .i64 x5_1∧jw (jda.l0 kq x5_1 l0_0 l1_0=some r)∧jw (kq≤k)∧jw (w'.heap[gb688]?=some (.cells #[(.slice A0_0 l0_0.length c0_0)] 32 (0,0)))∧jw (w'.heap[gb689]?=some (.cells #[(.slice A1_0 l1_0.length c1_0)] 32 (0,0)))∧jw (Below w.heap.size w w'))
  case atStart=>exact ⟨(0),(sq),H',⟨Nat.le_refl _⟩,⟨kq BK688.out⟩,⟨kq BK689.out⟩,⟨Y100⟩⟩
  case round =>
   clear H'
   try clear c1
   try clear p2
   try clear c3
   try clear c3b0
   try clear c3b1
   try clear c3b2
   try clear c6
   try clear hcz7_0
   try clear hcz8_0
   try clear hfz7_0
   try clear hfz8_0
   obtain ⟨x5_1,rfl,HA,HK1,BK688,BK689,HB⟩:=hrel
   cases gk with
   | zero=>exact absurd HA.out (by simp [jda.l0])
   | succ k1 =>
    have H:=HA.out
    clear HA
    simp only [jda.l0] at H
    by_cases c9:x5_1<(l0_0.length:Int)
    ·rw [if_pos c9] at H
     have c9b0:decide (x5_1<(l0_0.length:Int))=true:=dzT c9
     clear c9
     by_cases c10:0≤x5_1
     ·rw [if_pos c10] at H
      have c10b0:decide (0≤x5_1)=true:=dzT c10
      clear c10
      by_cases c11:x5_1<(l1_0.length:Int)
      ·rw [if_pos c11] at H
       have c11b0:decide (x5_1<(l1_0.length:Int))=true:=dzT c11
       clear c11
       by_cases c12:(!(((ja l0_0 x5_1).f0) == ((ja l1_0 x5_1).f0)) ||(!(((ja l0_0 x5_1).f1) == ((ja l1_0 x5_1).f1)) ||(!(((ja l0_0 x5_1).f2) == ((ja l1_0 x5_1).f2)) ||(!(((ja l0_0 x5_1).f3) == ((ja l1_0 x5_1).f3)) ||(!(((ja l0_0 x5_1).f4) == ((ja l1_0 x5_1).f4)))))))=true
       ·rw [if_pos c12] at H
        have c12b0:(!(((ja l0_0 x5_1).f0) == ((ja l1_0 x5_1).f0)) ||(!(((ja l0_0 x5_1).f1) == ((ja l1_0 x5_1).f1)) ||(!(((ja l0_0 x5_1).f2) == ((ja l1_0 x5_1).f2)) ||(!(((ja l0_0 x5_1).f3) == ((ja l1_0 x5_1).f3)) ||(!(((ja l0_0 x5_1).f4) == ((ja l1_0 x5_1).f4)))))))=true:=c12
        clear c12
        obtain rfl:=Option.some.inj H
        have hnb13:=NB688_689.out
        have hnc13:=NB689_688.out
        have hcz14_0:=bc0 BK688.out
        have hfz14_0:=jf BK688.out 0
        have p690:0≤(x5_1:Int):=ozD (uq)
        have q690:x5_1<(l0_0.length:Int):=ozD (uq)
        obtain ⟨ad690,e690,hx690_0,hx690_1,hx690_2,hx690_3,hx690_4⟩:=jfb HR0_0.out x5_1 p690 q690
        cases e690
        replace hx690_0:=cb HB.out hx690_0
        replace hx690_1:=cb HB.out hx690_1
        replace hx690_2:=cb HB.out hx690_2
        replace hx690_3:=cb HB.out hx690_3
        replace hx690_4:=cb HB.out hx690_4
        replace p690:=ezT p690
        replace q690:=ezT q690
        have hcz15_0:=bc0 BK689.out
        have hfz15_0:=jf BK689.out 0
        have p691:0≤(x5_1:Int):=ozD (uq)
        have q691:x5_1<(l1_0.length:Int):=ozD (uq)
        obtain ⟨ad691,e691,hx691_0,hx691_1,hx691_2,hx691_3,hx691_4⟩:=jfb HR1_0.out x5_1 p691 q691
        cases e691
        replace hx691_0:=cb HB.out hx691_0
        replace hx691_1:=cb HB.out hx691_1
        replace hx691_2:=cb HB.out hx691_2
        replace hx691_3:=cb HB.out hx691_3
        replace hx691_4:=cb HB.out hx691_4
        replace p691:=ezT p691
        replace q691:=ezT q691
        go_wp2
        repeat (go_quiet (fail);try go_wp2)
        go_ret
        exact ⟨Y2,Y100⟩
       ·rw [if_neg c12] at H
        have c12b0:(!(((ja l0_0 x5_1).f0) == ((ja l1_0 x5_1).f0)) ||(!(((ja l0_0 x5_1).f1) == ((ja l1_0 x5_1).f1)) ||(!(((ja l0_0 x5_1).f2) == ((ja l1_0 x5_1).f2)) ||(!(((ja l0_0 x5_1).f3) == ((ja l1_0 x5_1).f3)) ||(!(((ja l0_0 x5_1).f4) == ((ja l1_0 x5_1).f4)))))))=false:=by simpa using c12
        clear c12
        have H':=am H
        clear H
        have hnb16:=NB688_689.out
        have hnc16:=NB689_688.out
        have hcz17_0:=bc0 BK688.out
        have hfz17_0:=jf BK688.out 0
        have p690:0≤(x5_1:Int):=ozD (uq)
        have q690:x5_1<(l0_0.length:Int):=ozD (uq)
        obtain ⟨ad690,e690,hx690_0,hx690_1,hx690_2,hx690_3,hx690_4⟩:=jfb HR0_0.out x5_1 p690 q690
        cases e690
        replace hx690_0:=cb HB.out hx690_0
        replace hx690_1:=cb HB.out hx690_1
        replace hx690_2:=cb HB.out hx690_2
        replace hx690_3:=cb HB.out hx690_3
        replace hx690_4:=cb HB.out hx690_4
        replace p690:=ezT p690
        replace q690:=ezT q690
        have hcz18_0:=bc0 BK689.out
        have hfz18_0:=jf BK689.out 0
        have p691:0≤(x5_1:Int):=ozD (uq)
        have q691:x5_1<(l1_0.length:Int):=ozD (uq)
        obtain ⟨ad691,e691,hx691_0,hx691_1,hx691_2,hx691_3,hx691_4⟩:=jfb HR1_0.out x5_1 p691 q691
        cases e691
        replace hx691_0:=cb HB.out hx691_0
        replace hx691_1:=cb HB.out hx691_1
        replace hx691_2:=cb HB.out hx691_2
        replace hx691_3:=cb HB.out hx691_3
        replace hx691_4:=cb HB.out hx691_4
        replace p691:=ezT p691
        replace q691:=ezT q691
        go_wp2
        repeat (go_quiet (fail);try go_wp2)
        go_roundg k1
        case measure=>have:=HK1.out;omega
        case rel=>exact ⟨(wrap64 (x5_1+1)),(sq),H',⟨by have:=HK1.out;omega⟩,⟨kq BK688.out⟩,⟨kq BK689.out⟩,⟨Y100⟩⟩
      ·rw [if_neg c11] at H
       exact absurd H (by simp)
     ·rw [if_neg c10] at H
      exact absurd H (by simp)
    ·rw [if_neg c9] at H
     have c9b0:decide (x5_1<(l0_0.length:Int))=false:=dzF c9
     clear c9
     obtain rfl:=Option.some.inj H
     have hnb19:=NB688_689.out
     have hnc19:=NB689_688.out
     have hcz20_0:=bc0 BK688.out
     have hfz20_0:=jf BK688.out 0
     go_wp2
     repeat (go_quiet (fail);try go_wp2)
     go_ret
     exact ⟨Y2,Y100⟩
 ·rw [if_neg c3] at H
  have c3b0:((l0_0.length:Int) == (l1_0.length:Int))=false:=beq_eq_false_iff_ne.mpr c3
  have c3b1:((l0_0.length:Int) != (l1_0.length:Int))=true:=bne_iff_ne.mpr c3
  have c3b2:(l0_0.length == l1_0.length)=false:=by first | simpa using c3 |(simp at c3 ⊢;omega)
  obtain rfl:=Option.some.inj H
  go_enter Try.func38,Try.ntmps38
  go_wp2_with (first |((with_reducible refine jI (N:=2) rfl ?_);refine bE (N:=2) (cs:=#[.slice A0_0 l0_0.length c0_0]) (t:=32) ?_;intro gb688 hg w21 hbox hb;have BK688:=am (hbox);have GW688:=am ((Y1:w.heap.size≤gb688));have GE688:=am ((Y1:w.heap.size≤gb688));replace HB:=am (jl (bq) hb);clear hb hbox hg) |((with_reducible refine jI (N:=3) rfl ?_);refine bE (N:=3) (cs:=#[.slice A1_0 l1_0.length c1_0]) (t:=32) ?_;intro gb689 hg w22 hbox hb;have BK689:=am (hbox);have GW689:=am ((Y40:w.heap.size≤gb689));have GE689:=am ((Y40:w.heap.size≤gb689));have NB688_689:=am ((Y84:gb688≠gb689));have NB689_688:=am ((Y85:gb689≠gb688));replace BK688:=am (je (g:=gb688) (o:=.cells #[.slice A0_0 l0_0.length c0_0] 32 (0,0)) (kq BK688.out) hb);replace HB:=am (jl (Y86) hb);clear hb hbox hg;have hnb23:=NB688_689.out;have hnc23:=NB689_688.out;have hcz24_0:=bc0 BK688.out;have hfz24_0:=jf BK688.out 0;have hcz25_0:=bc0 BK689.out;have hfz25_0:=jf BK689.out 0))
  repeat (go_quiet (first |((with_reducible refine jI (N:=2) rfl ?_);refine bE (N:=2) (cs:=#[.slice A0_0 l0_0.length c0_0]) (t:=32) ?_;intro gb688 hg w21 hbox hb;have BK688:=am (hbox);have GW688:=am ((Y1:w.heap.size≤gb688));have GE688:=am ((Y1:w.heap.size≤gb688));replace HB:=am (jl (bq) hb);clear hb hbox hg) |((with_reducible refine jI (N:=3) rfl ?_);refine bE (N:=3) (cs:=#[.slice A1_0 l1_0.length c1_0]) (t:=32) ?_;intro gb689 hg w22 hbox hb;have BK689:=am (hbox);have GW689:=am ((Y40:w.heap.size≤gb689));have GE689:=am ((Y40:w.heap.size≤gb689));have NB688_689:=am ((Y84:gb688≠gb689));have NB689_688:=am ((Y85:gb689≠gb688));replace BK688:=am (je (g:=gb688) (o:=.cells #[.slice A0_0 l0_0.length c0_0] 32 (0,0)) (kq BK688.out) hb);replace HB:=am (jl (Y86) hb);clear hb hbox hg;have hnb23:=NB688_689.out;have hnc23:=NB689_688.out;have hcz24_0:=bc0 BK688.out;have hfz24_0:=jf BK688.out 0;have hcz25_0:=bc0 BK689.out;have hfz25_0:=jf BK689.out 0));try go_wp2_with (first |((with_reducible refine jI (N:=2) rfl ?_);refine bE (N:=2) (cs:=#[.slice A0_0 l0_0.length c0_0]) (t:=32) ?_;intro gb688 hg w21 hbox hb;have BK688:=am (hbox);have GW688:=am ((Y1:w.heap.size≤gb688));have GE688:=am ((Y1:w.heap.size≤gb688));replace HB:=am (jl (bq) hb);clear hb hbox hg) |((with_reducible refine jI (N:=3) rfl ?_);refine bE (N:=3) (cs:=#[.slice A1_0 l1_0.length c1_0]) (t:=32) ?_;intro gb689 hg w22 hbox hb;have BK689:=am (hbox);have GW689:=am ((Y40:w.heap.size≤gb689));have GE689:=am ((Y40:w.heap.size≤gb689));have NB688_689:=am ((Y84:gb688≠gb689));have NB689_688:=am ((Y85:gb689≠gb688));replace BK688:=am (je (g:=gb688) (o:=.cells #[.slice A0_0 l0_0.length c0_0] 32 (0,0)) (kq BK688.out) hb);replace HB:=am (jl (Y86) hb);clear hb hbox hg;have hnb23:=NB688_689.out;have hnc23:=NB689_688.out;have hcz24_0:=bc0 BK688.out;have hfz24_0:=jf BK688.out 0;have hcz25_0:=bc0 BK689.out;have hfz25_0:=jf BK689.out 0)))
  go_ret
  exact ⟨Y2,Y100⟩
end Go.Proofs.Ytecdfgejmbpclaa.P
end
