/- One part of the proofs on this program: functions of the program as plain functions, that the code comes to them, and facts on them. -/
import Derived.Lib.SliceRun
import Derived.Test.YtlhfcmbkjddgiaaYAll1
import Derived.Test.YtlhfcmbkjddgiaaYAll4
import Derived.Test.YtlhfcmbkjddgiaaYAll5
import Derived.Test.YtlhfcmbkjddgiaaYWAuto
section
namespace Go.Proofs.Ytlhfcmbkjddgiaa.P
open Go.RowKit Go.Proofs.YtlhfcmbkjddgiaaW.PrintWords Go.Proofs.YtlhfcmbkjddgiaaW.PrintLast Go.Proofs.YtlhfcmbkjddgiaaW.PrintMore
attribute [local go_sem] jda jba jla jka jO jN jca jaa jk
set_option linter.unusedVariables false
set_option linter.unusedSimpArgs false
def jPa.f (k : Nat) (l0 : List Int) : Option ((List (S106)) × (List (S44)) × Int × Int × Int) := (jeb.f l0).bind fun bt722 => ((jZa.f k bt722.1 bt722.2).bind fun bt725 => ((jva.f k bt722.1 bt725.2.2 bt725.1).bind fun bt733 => ((jm.f k bt722.1 bt733.2.2.2 12).bind fun bt738 => (if bt738.1 = 0 then (some (bt725.1, bt725.2.1, bt733.1, (-1), bt733.2.2.1)) else (some (bt725.1, bt725.2.1, bt733.1, bt733.2.1, bt733.2.2.1))))))
set_option maxHeartbeats 8000000 in
set_option maxRecDepth 100000 in
theorem jPa.calls (k : Nat) (A0 : Option Addr) (c0 : Nat) (l0 : List Int) (r1 : List (S106)) (r2 : List (S44)) (r3 : Int) (r4 : Int) (r5 : Int) (w : World) (hr0 : Kd.C (Kd.int .u8) w A0 l0.length l0) (hc0 : l0.length ≤ c0) (h : jPa.f k l0 = some (r1, r2, r3, r4, r5)) :
  Calls Try.prog 28 #[.slice A0 l0.length c0] w fun e w'=>∃ v0_ v1_:Value,e=.returned (.tuple #[.agg #[v0_],v1_, .agg #[.int .i64 r3, .int .i64 r4, .int .i64 r5]])∧Kd.R k106 106 w' w.heap.size (fun _=>True) v0_ r1∧Kd.R k44 44 w' w.heap.size (fun _=>True) v1_ r2∧Below w.heap.size w w':=by
 have hu31:=Try.underlying31
 have hu44:=Try.underlying44
 have HR0:=am hr0
 have HC0:=am hc0
 clear hr0 hc0
 have HB:=am (Below.refl w.heap.size w)
 have H:((jeb.f l0).bind fun bt722=>((jZa.f k bt722.1 bt722.2).bind fun bt725=>((jva.f k bt722.1 bt725.2.2 bt725.1).bind fun bt733=>((jm.f k bt722.1 bt733.2.2.2 12).bind fun bt738=>(if bt738.1=0 then (some (bt725.1,bt725.2.1,bt733.1,(-1),bt733.2.2.1)) else (some (bt725.1,bt725.2.1,bt733.1,bt733.2.1,bt733.2.2.1)))))))=some (r1,r2,r3,r4,r5):=h
 clear h
 replace H:=bzS H
 obtain ⟨⟨t722,t723⟩,A20,H⟩:=H
 replace H:((jZa.f k t722 t723).bind fun bt725=>((jva.f k t722 bt725.2.2 bt725.1).bind fun bt733=>((jm.f k t722 bt733.2.2.2 12).bind fun bt738=>(if bt738.1=0 then (some (bt725.1,bt725.2.1,bt733.1,(-1),bt733.2.2.1)) else (some (bt725.1,bt725.2.1,bt733.1,bt733.2.1,bt733.2.2.1))))))=some (r1,r2,r3,r4,r5):=H
 have A2:=am A20
 clear A20
 replace H:=bzS H
 obtain ⟨⟨t725,t728,t731⟩,A30,H⟩:=H
 replace H:((jva.f k t722 t731 t725).bind fun bt733=>((jm.f k t722 bt733.2.2.2 12).bind fun bt738=>(if bt738.1=0 then (some (t725,t728,bt733.1,(-1),bt733.2.2.1)) else (some (t725,t728,bt733.1,bt733.2.1,bt733.2.2.1)))))=some (r1,r2,r3,r4,r5):=H
 have A3:=am A30
 clear A30
 replace H:=bzS H
 obtain ⟨⟨t733,t734,t735,t736⟩,A40,H⟩:=H
 replace H:((jm.f k t722 t736 12).bind fun bt738=>(if bt738.1=0 then (some (t725,t728,t733,(-1),t735)) else (some (t725,t728,t733,t734,t735))))=some (r1,r2,r3,r4,r5):=H
 have A4:=am A40
 clear A40
 replace H:=bzS H
 obtain ⟨⟨t738,t739⟩,A50,H⟩:=H
 replace H:(if t738=0 then (some (t725,t728,t733,(-1),t735)) else (some (t725,t728,t733,t734,t735)))=some (r1,r2,r3,r4,r5):=H
 have A5:=am A50
 clear A50
 by_cases c6:t738=0
 ·rw [if_pos c6] at H
  have c6b0:(t738 == 0)=true:=beq_iff_eq.mpr c6
  have c6b1:(t738 != 0)=false:=bne_eq_false_iff_eq.mpr c6
  clear c6
  simp only [Option.some.injEq,Prod.mk.injEq] at H
  obtain ⟨rfl,rfl,rfl,rfl,rfl⟩:=H
  go_enter Try.func28,Try.ntmps28
  try go_wp2_with (first |((with_reducible refine jH (N:=2) rfl ?_);refine bE (N:=2) (cs:=#[.slice none 0 0]) (t:=31) ?_;intro gb720 hg w7 hbox hb;have BK720:=am (hbox);have GW720:=am ((Y2:w.heap.size≤gb720));have GE720:=am ((Y2:w.heap.size≤gb720));replace HB:=am (jg (bq) hb);clear hb hbox hg) |((with_reducible refine jH (N:=4) rfl ?_);refine bE (N:=4) (cs:=#[.int .i64 0, .int .i64 0, .int .i64 0]) (t:=44) ?_;intro gb721 hg w8 hbox hb;have BK721:=am (hbox);have GW721:=am ((Y98:w.heap.size≤gb721));have GE721:=am ((Y98:w.heap.size≤gb721));have NB720_721:=am ((Y57:gb720≠gb721));have NB721_720:=am ((Y58:gb721≠gb720));replace BK720:=am (jb (g:=gb720) (o:=.cells #[.slice none 0 0] 31 (0,0)) (kq BK720.out) hb);replace HB:=am (jg (Y176) hb);clear hb hbox hg) |((with_reducible refine jy (f:=45) rfl ?_);refine gL (some 10) Try.func45 #[.slice A0 l0.length c0] ?_;(with_reducible refine (jeb.calls _ _ l0 t722 t723 w _ ?side1 ?side2 ?side3 A2.out).mono ?_);(case side1=>exact Y177);(case side2=>exact HR0.out);(case side3=>exact HC0.out);rintro e w9 ⟨g724,rfl,hi,hb,hb2⟩;refine ⟨_,rfl,?_⟩;have HI724:=am (hi);have NB724_720:=am (jd.ne_blk hi (jb (g:=gb720) (o:=.cells #[.slice none 0 0] 31 (0,0)) (kq BK720.out) hb2) (by decide));have NB720_724:=am (Ne.symm (jd.ne_blk hi (jb (g:=gb720) (o:=.cells #[.slice none 0 0] 31 (0,0)) (kq BK720.out) hb2) (by decide)));have NB724_721:=am (jd.ne_blk hi (jb (g:=gb721) (o:=.cells #[.int .i64 0, .int .i64 0, .int .i64 0] 44 (0,0)) (kq BK721.out) hb2) (by decide));have NB721_724:=am (Ne.symm (jd.ne_blk hi (jb (g:=gb721) (o:=.cells #[.int .i64 0, .int .i64 0, .int .i64 0] 44 (0,0)) (kq BK721.out) hb2) (by decide)));replace BK720:=am (jb (g:=gb720) (o:=.cells #[.slice none 0 0] 31 (0,0)) (kq BK720.out) hb2);replace BK721:=am (jb (g:=gb721) (o:=.cells #[.int .i64 0, .int .i64 0, .int .i64 0] 44 (0,0)) (kq BK721.out) hb2);replace HB:=am (hb);(try clear hb);(try clear hb2);(try clear hk);(try clear hi)) |((with_reducible refine jy (f:=46) rfl ?_);refine gL (some 13) Try.func46 #[.pointer (some ⟨g724,0,none⟩)] ?_;(with_reducible refine (jZa.calls k g724 t722 t723 t725 t728 t731 w _ ?side1 ?side2 A3.out).mono ?_);(case side1=>exact Y99);(case side2=>exact Y50);rintro e w10 ⟨v726,v729,rfl,ho0,ho1,hi,hb,hk⟩;refine ⟨_,rfl,?_⟩;have HO727:=am (Kd.jV ho0 (jD (Y50)));have HO730:=am (Kd.jV (Kd.jvb ho1 (g:=gb721) (o:=.cells #[.int .i64 0, .int .i64 0, .int .i64 0] 44 (0,0)) (kq BK721.out)) (jD (Y50)));replace BK720:=am (ji.blk hk (g':=gb720) (o:=.cells #[.slice none 0 0] 31 (0,0)) (kq BK720.out) NB720_724.out (by simp));replace BK721:=am (ji.blk hk (g':=gb721) (o:=.cells #[.int .i64 0, .int .i64 0, .int .i64 0] 44 (0,0)) (kq BK721.out) NB721_724.out (by simp));replace HB:=am (hb);replace HI724:=am (hi);(try clear hb);(try clear hb2);(try clear hk);(try clear hi);(try clear ho0);(try clear ho1)) |((with_reducible refine jH (N:=6) rfl ?_);refine bE (N:=6) (cs:=#[.slice none 0 0]) (t:=31) ?_;intro gb732 hg w11 hbox hb;have BK732:=am (hbox);have GW732:=am ((Y100:w.heap.size≤gb732));have GE732:=am ((Y100:w.heap.size≤gb732));have NB720_732:=am ((Y57:gb720≠gb732));have NB732_720:=am ((Y58:gb732≠gb720));have NB721_732:=am ((Y101:gb721≠gb732));have NB732_721:=am ((Y102:gb732≠gb721));have NB724_732:=am ((Y178:g724≠gb732));have NB732_724:=am ((Y179:gb732≠g724));replace HO727:=am (Kd.jo (rq HO727.out) hb);replace HO730:=am (Kd.jo (rq HO730.out) hb);replace BK720:=am (jb (g:=gb720) (o:=.cells #[.slice none 0 0] 31 (0,0)) (kq BK720.out) hb);replace BK721:=am (jb (g:=gb721) (o:=.cells #[.int .i64 0, .int .i64 0, .int .i64 0] 44 (0,0)) (kq BK721.out) hb);replace HB:=am (jg (Y50) hb);replace HI724:=am (jd.below (Y99) hb);clear hb hbox hg;obtain ⟨Ao12,co12,eo12⟩:=Kd.jL HO727.out;subst eo12;have hnb13:=NB732_720.out;have hnc13:=NB720_732.out;have hnb14:=NB732_721.out;have hnc14:=NB721_732.out;have hnb15:=NB732_724.out;have hnc15:=NB724_732.out;have hcz16_0:=bc0 BK732.out;have hfz16_0:=ja BK732.out 0) |((with_reducible refine jy (f:=61) rfl ?_);refine gL (some 18) Try.func61 #[.pointer (some ⟨g724,0,none⟩), .agg #[.slice Ao12 t725.length co12]] ?_;(with_reducible refine (jva.calls k g724 t722 t731 _ _ t725 t733 t734 t735 t736 w _ ?side1 ?side2 ?side3 ?side4 A4.out).mono ?_);(case side1=>exact Y41);(case side2=>exact Y103);(case side3=>exact Kd.jMb (jd.apart (show jd w _ g724 t722 t731 from Y41) (Y180) (by decide)) (fun _ h_=>h_.2));(case side4=>exact (Kd.jl HO727.out).2.1);rintro e w17 ⟨rfl,hi,hb,hk⟩;refine ⟨_,rfl,?_⟩;replace BK720:=am (ji.blk hk (g':=gb720) (o:=.cells #[.slice none 0 0] 31 (0,0)) (Y181) NB720_724.out (by simp));replace BK721:=am (ji.blk hk (g':=gb721) (o:=.cells #[.int .i64 0, .int .i64 0, .int .i64 0] 44 (0,0)) (Y182) NB721_724.out (by simp));replace HO727:=am (Kd.jF (Kd.jBa (jd.apart (show jd w _ g724 t722 t731 from Y41) (Y180) (by decide)) hk (fun _ h=>h.2)) (fun _ h=>h.1));replace HO730:=am (Kd.jF (Kd.jBa (jd.apart (show jd w _ g724 t722 t731 from Y41) (by (with_reducible repeat (first | apply Kd.jR | apply Kd.jT | apply Kd.jfa));exact (Kd.jF (Kd.jea (p:=⟨gb732,0,none⟩) (Kd.jia HO730.out BK732.out (by decide)) (fun _ hk=>hk.2) (.slice Ao12 t725.length co12)) (fun _ h_=>h_.1))) (by decide)) hk (fun _ h=>h.2)) (fun _ h=>h.1));replace BK732:=am (ji.blk hk (g':=gb732) (o:=.cells #[.slice Ao12 t725.length co12] 31 (0,0)) (Y183) NB732_724.out (by simp));replace HB:=am (hb);replace HI724:=am (hi);(try clear hb);(try clear hb2);(try clear hk);(try clear hi)) |((with_reducible refine jH (N:=8) rfl ?_);refine bE (N:=8) (cs:=#[.int .i64 0, .int .i64 0, .int .i64 0]) (t:=44) ?_;intro gb737 hg w18 hbox hb;have BK737:=am (hbox);have GW737:=am ((Y104:w.heap.size≤gb737));have GE737:=am ((Y104:w.heap.size≤gb737));have NB720_737:=am ((Y57:gb720≠gb737));have NB737_720:=am ((Y58:gb737≠gb720));have NB721_737:=am ((Y101:gb721≠gb737));have NB737_721:=am ((Y102:gb737≠gb721));have NB732_737:=am ((by rw [hg];exact Nat.ne_of_lt (jpa (g:=gb732) (o:=.cells #[.slice Ao12 t725.length co12] 31 (0,0)) (kq BK732.out)):gb732≠gb737));have NB737_732:=am ((by rw [hg];exact Nat.ne_of_gt (jpa (g:=gb732) (o:=.cells #[.slice Ao12 t725.length co12] 31 (0,0)) (kq BK732.out)):gb737≠gb732));have NB724_737:=am ((Y184:g724≠gb737));have NB737_724:=am ((Y185:gb737≠g724));replace HO727:=am (Kd.jo (rq HO727.out) hb);replace HO730:=am (Kd.jo (Kd.R_elderB (rq HO730.out) gb737 (Nat.le_of_eq hg.symm)) hb);replace BK720:=am (jb (g:=gb720) (o:=.cells #[.slice none 0 0] 31 (0,0)) (kq BK720.out) hb);replace BK721:=am (jb (g:=gb721) (o:=.cells #[.int .i64 0, .int .i64 0, .int .i64 0] 44 (0,0)) (kq BK721.out) hb);replace BK732:=am (jb (g:=gb732) (o:=.cells #[.slice Ao12 t725.length co12] 31 (0,0)) (kq BK732.out) hb);replace HB:=am (jg (Y103) hb);replace HI724:=am (jd.below (Y41) hb);clear hb hbox hg;have hnb19:=NB737_720.out;have hnc19:=NB720_737.out;have hnb20:=NB737_721.out;have hnc20:=NB721_737.out;have hnb21:=NB737_732.out;have hnc21:=NB732_737.out;have hnb22:=NB737_724.out;have hnc22:=NB724_737.out;have hcz23_0:=bc0 BK737.out;have hcz23_1:=bc1 BK737.out;have hcz23_2:=bc2 BK737.out;have hfz23_0:=ja BK737.out 0;have hfz23_1:=ja BK737.out 1;have hfz23_2:=ja BK737.out 2) |((with_reducible refine jy (f:=47) rfl ?_);refine gL (some 20) Try.func47 #[.pointer (some ⟨g724,0,none⟩), .int .i64 12] ?_;(with_reducible refine (jm.calls k g724 t722 t736 12 t738 t739 w _ ?side1 ?side2 A5.out).mono ?_);(case side1=>exact Y52);(case side2=>exact Y84);rintro e w24 ⟨rfl,hi,hb,hk⟩;refine ⟨_,rfl,?_⟩;replace BK720:=am (ji.blk hk (g':=gb720) (o:=.cells #[.slice none 0 0] 31 (0,0)) (Y186) NB720_724.out (by simp));replace BK721:=am (ji.blk hk (g':=gb721) (o:=.cells #[.int .i64 0, .int .i64 0, .int .i64 0] 44 (0,0)) (Y187) NB721_724.out (by simp));replace HO727:=am (Kd.jF (Kd.jBa (jd.apart (show jd w _ g724 t722 t736 from Y52) (Y188) (by decide)) hk (fun _ h=>h.2)) (fun _ h=>h.1));replace HO730:=am (Kd.jF (Kd.jBa (jd.apart (show jd w _ g724 t722 t736 from Y52) (Y189) (by decide)) hk (fun _ h=>h.2)) (fun _ h=>h.1));replace BK732:=am (ji.blk hk (g':=gb732) (o:=.cells #[.slice Ao12 t725.length co12] 31 (0,0)) (Y190) NB732_724.out (by simp));replace BK737:=am (ji.blk hk (g':=gb737) (o:=.cells #[.int .i64 t733, .int .i64 t734, .int .i64 t735] 44 (0,0)) (Y191) NB737_724.out (by simp));replace HB:=am (hb);replace HI724:=am (hi);(try clear hb);(try clear hb2);(try clear hk);(try clear hi);have hcz25_0:=bc0 BK737.out;have hcz25_1:=bc1 BK737.out;have hcz25_2:=bc2 BK737.out;have hfz25_0:=ja BK737.out 0;have hfz25_1:=ja BK737.out 1;have hfz25_2:=ja BK737.out 2))
  have n0_:jC (Kd.R k106 106 (w24.setCell ⟨gb737,1,none⟩ (.int .i64 (-1))) w.heap.size (fun _=>True) (.slice Ao12 t725.length co12) t725):=⟨by (with_reducible repeat (first | apply Kd.jR | apply Kd.jT | apply Kd.jfa));exact Kd.jF (Kd.jea (p:=⟨gb737,1,none⟩) (Kd.jia HO727.out BK737.out (by decide)) (fun _ hk=>hk.2) (.int .i64 (-1))) (fun _ hk=>trivial)⟩
  have n1_:jC (Kd.R k44 44 (w24.setCell ⟨gb737,1,none⟩ (.int .i64 (-1))) w.heap.size (fun k_=>k_≠gb721∧k_≠gb737) v729 t728):=⟨by (with_reducible repeat (first | apply Kd.jR | apply Kd.jT | apply Kd.jfa));exact Kd.jF (Kd.jea (p:=⟨gb737,1,none⟩) (Kd.jF HO730.out (fun k_ hk=>(⟨hk,hk.2⟩:_∧k_≠gb737))) (fun _ hk=>hk.2) (.int .i64 (-1))) (fun _ hk=>⟨hk.1.1.2,hk.1.2⟩)⟩
  have n2_:jC ((w24.setCell ⟨gb737,1,none⟩ (.int .i64 (-1))).heap[gb720]?=some (.cells #[.slice none 0 0] 31 (0,0))):=⟨by (with_reducible repeat (first | refine je ?_ _ | refine jf ?_ | refine jc ?_ _));refine jZ ?_ NB720_737.out _;(with_reducible repeat (first | refine je ?_ _ | refine jf ?_ | refine jc ?_ _));exact BK720.out⟩
  have n3_:jC ((w24.setCell ⟨gb737,1,none⟩ (.int .i64 (-1))).heap[gb721]?=some (.cells #[.int .i64 0, .int .i64 0, .int .i64 0] 44 (0,0))):=⟨by (with_reducible repeat (first | refine je ?_ _ | refine jf ?_ | refine jc ?_ _));refine jZ ?_ NB721_737.out _;(with_reducible repeat (first | refine je ?_ _ | refine jf ?_ | refine jc ?_ _));exact BK721.out⟩
  have n4_:jC ((w24.setCell ⟨gb737,1,none⟩ (.int .i64 (-1))).heap[gb732]?=some (.cells #[.slice Ao12 t725.length co12] 31 (0,0))):=⟨by (with_reducible repeat (first | refine je ?_ _ | refine jf ?_ | refine jc ?_ _));refine jZ ?_ NB732_737.out _;(with_reducible repeat (first | refine je ?_ _ | refine jf ?_ | refine jc ?_ _));exact BK732.out⟩
  have n5_:jC ((w24.setCell ⟨gb737,1,none⟩ (.int .i64 (-1))).heap[gb737]?=some (.cells #[.int .i64 t733, .int .i64 (-1), .int .i64 t735] 44 (0,0))):=⟨by (with_reducible repeat (first | refine je ?_ _ | refine jf ?_ | refine jc ?_ _));refine jU (cs:=#[.int .i64 t733, .int .i64 t734, .int .i64 t735]) ?_ 1 _ rfl;(with_reducible repeat (first | refine je ?_ _ | refine jf ?_ | refine jc ?_ _));exact BK737.out⟩
  have n6_:jC (jd w (w24.setCell ⟨gb737,1,none⟩ (.int .i64 (-1))) g724 t722 t739):=⟨Y52⟩
  have n7_:jC (Below w.heap.size w (w24.setCell ⟨gb737,1,none⟩ (.int .i64 (-1)))):=⟨Y84⟩
  (try clear HO727)
  (try clear HO730)
  (try clear BK720)
  (try clear BK721)
  (try clear BK732)
  (try clear BK737)
  (try clear HI724)
  (try clear HB)
  generalize (w24.setCell ⟨gb737,1,none⟩ (.int .i64 (-1)))=w26 at n0_ n1_ n2_ n3_ n4_ n5_ n6_ n7_ ⊢
  have HO727:=n0_
  have HO730:=n1_
  have BK720:=n2_
  have BK721:=n3_
  have BK732:=n4_
  have BK737:=n5_
  have HI724:=n6_
  have HB:=n7_
  clear n0_ n1_ n2_ n3_ n4_ n5_ n6_ n7_
  replace HO727:=am (Kd.jfa HO727.out)
  replace HO730:=am (Kd.jfa HO730.out)
  replace BK720:=am (jf BK720.out)
  replace BK721:=am (jf BK721.out)
  replace BK732:=am (jf BK732.out)
  replace BK737:=am (jf BK737.out)
  replace HI724:=am (jd.drew HI724.out)
  replace HB:=am (jB HB.out)
  refine jjc (n:=6) (S:=fun w'=>w'.cell? ⟨gb732,0,none⟩=some (.slice Ao12 t725.length co12)∧w'.cell? ⟨gb737,0,none⟩=some (.int .i64 t733)∧w'.cell? ⟨gb737,1,none⟩=some (.int .i64 (-1))∧w'.cell? ⟨gb737,2,none⟩=some (.int .i64 t735)) (ds:=[]) #[false,false,false,false,false,false] (by kernel_rfl) rfl rfl ⟨(jh BK732.out 0).trans rfl,(jh BK737.out 0).trans rfl,(jh BK737.out 1).trans rfl,(jh BK737.out 2).trans rfl⟩ (fun hHeld=>?_)
  generalize w26.drew=w27 at HO727 HO730 BK720 BK721 BK732 BK737 HI724 HB hHeld ⊢
  refine jcc (i:=1) (N:=some 24) (v:=?_) (a':=?_) #[false,true,false,false,false,false] rfl rfl (by kernel_rfl) (fun _ _ _ h=>h) (Or.inl ⟨by rfl,?_⟩) ?_ ?_
  rotate_left
  ·exact sb
  rotate_left
  ·exact sa
  refine jYb (i:=0) (N:=some 23) (v:=?_) (a':=?_) #[true,true,false,false,false,false] rfl rfl (by kernel_rfl) (fun _ _ _ h=>h) (Or.inl ⟨by rfl,?_⟩) hHeld ?_ ?_
  rotate_left
  ·rintro w' ⟨s0,s1,s2,s3⟩
   go_simp
   with_reducible rfl
  rotate_left
  ·exact sa
  refine jYb (i:=2) (N:=some 25) (v:=?_) (a':=?_) #[true,true,true,false,false,false] rfl rfl (by kernel_rfl) (fun _ _ _ h=>h) (Or.inl ⟨by rfl,?_⟩) hHeld ?_ ?_
  rotate_left
  ·rintro w' ⟨s0,s1,s2,s3⟩
   go_simp
   with_reducible rfl
  rotate_left
  ·exact sa
  refine one_ (i:=3) (N:=none) #[true,true,true,true,false,false] rfl rfl (by kernel_rfl) (by decide) (fun K hK=>?_)
  have hs28:w27.cell? ⟨gb720,0,none⟩=some (.slice none 0 0):=(jh BK720.out 0).trans rfl
  have hfs28:=ja BK720.out 0
  have hns28_1:=NB721_720.out
  have hns28_2:=NB732_720.out
  have hns28_3:=NB737_720.out
  have hms28_1:=NB720_721.out
  have hms28_2:=NB720_732.out
  have hms28_3:=NB720_737.out
  refine skip_ (w1:=?_) (by rfl) rfl ?_ ?_
  rotate_left
  ·go_simp
   rfl
  refine hK.out _ _ ⟨((cell_far (p:=⟨gb720,_,none⟩) NB732_720.out _).trans (hHeld.1)),((cell_far (p:=⟨gb720,_,none⟩) NB737_720.out _).trans (hHeld.2.1)),((cell_far (p:=⟨gb720,_,none⟩) NB737_720.out _).trans (hHeld.2.2.1)),((cell_far (p:=⟨gb720,_,none⟩) NB737_720.out _).trans (hHeld.2.2.2))⟩ (fun hHeld=>?_)
  clear hK K
  refine jcc (i:=4) (N:=some 3) (v:=?_) (a':=?_) #[true,true,true,true,true,false] rfl rfl (by kernel_rfl) (fun _ _ _ h=>h) (Or.inl ⟨by rfl,?_⟩) ?_ ?_
  rotate_left
  ·exact sb
  rotate_left
  ·exact sa
  refine one_ (i:=5) (N:=none) #[true,true,true,true,true,true] rfl rfl (by kernel_rfl) (by decide) (fun K hK=>?_)
  have hs29:w27.cell? ⟨gb721,0,none⟩=some (.int .i64 0):=(jh BK721.out 0).trans rfl
  have hfs29:=ja BK721.out 0
  have hns29_0:=NB720_721.out
  have hns29_2:=NB732_721.out
  have hns29_3:=NB737_721.out
  have hms29_0:=NB721_720.out
  have hms29_2:=NB721_732.out
  have hms29_3:=NB721_737.out
  have hs30:w27.cell? ⟨gb721,1,none⟩=some (.int .i64 0):=(jh BK721.out 1).trans rfl
  have hfs30:=ja BK721.out 1
  have hns30_0:=NB720_721.out
  have hns30_2:=NB732_721.out
  have hns30_3:=NB737_721.out
  have hms30_0:=NB721_720.out
  have hms30_2:=NB721_732.out
  have hms30_3:=NB721_737.out
  have hs31:w27.cell? ⟨gb721,2,none⟩=some (.int .i64 0):=(jh BK721.out 2).trans rfl
  have hfs31:=ja BK721.out 2
  have hns31_0:=NB720_721.out
  have hns31_2:=NB732_721.out
  have hns31_3:=NB737_721.out
  have hms31_0:=NB721_720.out
  have hms31_2:=NB721_732.out
  have hms31_3:=NB721_737.out
  refine skip_ (w1:=?_) (by rfl) rfl ?_ ?_
  rotate_left
  ·go_simp
   rfl
  refine hK.out _ _ ⟨((cell_far (p:=⟨gb721,_,none⟩) NB732_721.out _).trans (((cell_far (p:=⟨gb721,_,none⟩) NB732_721.out _).trans (((cell_far (p:=⟨gb721,_,none⟩) NB732_721.out _).trans (hHeld.1)))))),((cell_far (p:=⟨gb721,_,none⟩) NB737_721.out _).trans (((cell_far (p:=⟨gb721,_,none⟩) NB737_721.out _).trans (((cell_far (p:=⟨gb721,_,none⟩) NB737_721.out _).trans (hHeld.2.1)))))),((cell_far (p:=⟨gb721,_,none⟩) NB737_721.out _).trans (((cell_far (p:=⟨gb721,_,none⟩) NB737_721.out _).trans (((cell_far (p:=⟨gb721,_,none⟩) NB737_721.out _).trans (hHeld.2.2.1)))))),((cell_far (p:=⟨gb721,_,none⟩) NB737_721.out _).trans (((cell_far (p:=⟨gb721,_,none⟩) NB737_721.out _).trans (((cell_far (p:=⟨gb721,_,none⟩) NB737_721.out _).trans (hHeld.2.2.2))))))⟩ (fun hHeld=>?_)
  clear hK K
  refine done_ (by kernel_rfl) ?_
  try go_wp2
  refine bodyPost_ret (results_list (rs:=[.cell 2 31, .tmp 3, .cell 4 44]) rfl (by simp) (.cell gb720 31 #[.slice Ao12 t725.length co12] (0,0) _ rfl (Y192) Try.underlying31 rfl (by kernel_rfl) (.tmp (.cell gb721 44 #[.int .i64 t733, .int .i64 (-1), .int .i64 t735] (0,0) _ rfl (by (with_reducible repeat (first | refine je ?_ _ | refine jf ?_ | refine jc ?_ _));refine jU (cs:=#[.int .i64 t733, .int .i64 (-1), .int .i64 0]) ?_ 2 _ rfl;(with_reducible repeat (first | refine je ?_ _ | refine jf ?_ | refine jc ?_ _));refine jU (cs:=#[.int .i64 t733, .int .i64 0, .int .i64 0]) ?_ 1 _ rfl;(with_reducible repeat (first | refine je ?_ _ | refine jf ?_ | refine jc ?_ _));refine jU (cs:=#[.int .i64 0, .int .i64 0, .int .i64 0]) ?_ 0 _ rfl;(with_reducible repeat (first | refine je ?_ _ | refine jf ?_ | refine jc ?_ _));refine jZ ?_ NB721_720.out _;(with_reducible repeat (first | refine je ?_ _ | refine jf ?_ | refine jc ?_ _));exact BK721.out) Try.underlying44 rfl (by kernel_rfl) .nil)))) rfl ?_
  exact ⟨_,_,Y1,by (with_reducible repeat (first | apply Kd.jR | apply Kd.jT | apply Kd.jfa));exact Kd.jF (Kd.jea (p:=⟨gb721,2,none⟩) (Kd.jea (p:=⟨gb721,1,none⟩) (Kd.jea (p:=⟨gb721,0,none⟩) (Kd.jea (p:=⟨gb720,0,none⟩) (Kd.jia (Kd.jia HO727.out BK720.out (by decide)) BK721.out (by decide)) (fun _ hk=>hk.1.2) (.slice Ao12 t725.length co12)) (fun _ hk=>hk.2) (.int .i64 t733)) (fun _ hk=>hk.2) (.int .i64 (-1))) (fun _ hk=>hk.2) (.int .i64 t735)) (fun _ hk=>trivial),by (with_reducible repeat (first | apply Kd.jR | apply Kd.jT | apply Kd.jfa));exact Kd.jF (Kd.jea (p:=⟨gb721,2,none⟩) (Kd.jea (p:=⟨gb721,1,none⟩) (Kd.jea (p:=⟨gb721,0,none⟩) (Kd.jea (p:=⟨gb720,0,none⟩) (Kd.jF (Kd.jia HO730.out BK720.out (by decide)) (fun k_ hk=>(⟨hk,hk.1.1⟩:_∧k_≠gb721))) (fun _ hk=>hk.1.2) (.slice Ao12 t725.length co12)) (fun _ hk=>hk.2) (.int .i64 t733)) (fun _ hk=>hk.2) (.int .i64 (-1))) (fun _ hk=>hk.2) (.int .i64 t735)) (fun _ hk=>trivial),Y84⟩
 ·rw [if_neg c6] at H
  have c6b0:(t738 == 0)=false:=beq_eq_false_iff_ne.mpr c6
  have c6b1:(t738 != 0)=true:=bne_iff_ne.mpr c6
  simp only [Option.some.injEq,Prod.mk.injEq] at H
  obtain ⟨rfl,rfl,rfl,rfl,rfl⟩:=H
  go_enter Try.func28,Try.ntmps28
  try go_wp2_with (first |((with_reducible refine jH (N:=2) rfl ?_);refine bE (N:=2) (cs:=#[.slice none 0 0]) (t:=31) ?_;intro gb720 hg w32 hbox hb;have BK720:=am (hbox);have GW720:=am ((Y2:w.heap.size≤gb720));have GE720:=am ((Y2:w.heap.size≤gb720));replace HB:=am (jg (bq) hb);clear hb hbox hg) |((with_reducible refine jH (N:=4) rfl ?_);refine bE (N:=4) (cs:=#[.int .i64 0, .int .i64 0, .int .i64 0]) (t:=44) ?_;intro gb721 hg w33 hbox hb;have BK721:=am (hbox);have GW721:=am ((Y98:w.heap.size≤gb721));have GE721:=am ((Y98:w.heap.size≤gb721));have NB720_721:=am ((Y57:gb720≠gb721));have NB721_720:=am ((Y58:gb721≠gb720));replace BK720:=am (jb (g:=gb720) (o:=.cells #[.slice none 0 0] 31 (0,0)) (kq BK720.out) hb);replace HB:=am (jg (Y176) hb);clear hb hbox hg) |((with_reducible refine jy (f:=45) rfl ?_);refine gL (some 10) Try.func45 #[.slice A0 l0.length c0] ?_;(with_reducible refine (jeb.calls _ _ l0 t722 t723 w _ ?side1 ?side2 ?side3 A2.out).mono ?_);(case side1=>exact Y177);(case side2=>exact HR0.out);(case side3=>exact HC0.out);rintro e w34 ⟨g724,rfl,hi,hb,hb2⟩;refine ⟨_,rfl,?_⟩;have HI724:=am (hi);have NB724_720:=am (jd.ne_blk hi (jb (g:=gb720) (o:=.cells #[.slice none 0 0] 31 (0,0)) (kq BK720.out) hb2) (by decide));have NB720_724:=am (Ne.symm (jd.ne_blk hi (jb (g:=gb720) (o:=.cells #[.slice none 0 0] 31 (0,0)) (kq BK720.out) hb2) (by decide)));have NB724_721:=am (jd.ne_blk hi (jb (g:=gb721) (o:=.cells #[.int .i64 0, .int .i64 0, .int .i64 0] 44 (0,0)) (kq BK721.out) hb2) (by decide));have NB721_724:=am (Ne.symm (jd.ne_blk hi (jb (g:=gb721) (o:=.cells #[.int .i64 0, .int .i64 0, .int .i64 0] 44 (0,0)) (kq BK721.out) hb2) (by decide)));replace BK720:=am (jb (g:=gb720) (o:=.cells #[.slice none 0 0] 31 (0,0)) (kq BK720.out) hb2);replace BK721:=am (jb (g:=gb721) (o:=.cells #[.int .i64 0, .int .i64 0, .int .i64 0] 44 (0,0)) (kq BK721.out) hb2);replace HB:=am (hb);(try clear hb);(try clear hb2);(try clear hk);(try clear hi)) |((with_reducible refine jy (f:=46) rfl ?_);refine gL (some 13) Try.func46 #[.pointer (some ⟨g724,0,none⟩)] ?_;(with_reducible refine (jZa.calls k g724 t722 t723 t725 t728 t731 w _ ?side1 ?side2 A3.out).mono ?_);(case side1=>exact Y99);(case side2=>exact Y50);rintro e w35 ⟨v726,v729,rfl,ho0,ho1,hi,hb,hk⟩;refine ⟨_,rfl,?_⟩;have HO727:=am (Kd.jV ho0 (jD (Y50)));have HO730:=am (Kd.jV (Kd.jvb ho1 (g:=gb721) (o:=.cells #[.int .i64 0, .int .i64 0, .int .i64 0] 44 (0,0)) (kq BK721.out)) (jD (Y50)));replace BK720:=am (ji.blk hk (g':=gb720) (o:=.cells #[.slice none 0 0] 31 (0,0)) (kq BK720.out) NB720_724.out (by simp));replace BK721:=am (ji.blk hk (g':=gb721) (o:=.cells #[.int .i64 0, .int .i64 0, .int .i64 0] 44 (0,0)) (kq BK721.out) NB721_724.out (by simp));replace HB:=am (hb);replace HI724:=am (hi);(try clear hb);(try clear hb2);(try clear hk);(try clear hi);(try clear ho0);(try clear ho1)) |((with_reducible refine jH (N:=6) rfl ?_);refine bE (N:=6) (cs:=#[.slice none 0 0]) (t:=31) ?_;intro gb732 hg w36 hbox hb;have BK732:=am (hbox);have GW732:=am ((Y100:w.heap.size≤gb732));have GE732:=am ((Y100:w.heap.size≤gb732));have NB720_732:=am ((Y57:gb720≠gb732));have NB732_720:=am ((Y58:gb732≠gb720));have NB721_732:=am ((Y101:gb721≠gb732));have NB732_721:=am ((Y102:gb732≠gb721));have NB724_732:=am ((Y178:g724≠gb732));have NB732_724:=am ((Y179:gb732≠g724));replace HO727:=am (Kd.jo (rq HO727.out) hb);replace HO730:=am (Kd.jo (rq HO730.out) hb);replace BK720:=am (jb (g:=gb720) (o:=.cells #[.slice none 0 0] 31 (0,0)) (kq BK720.out) hb);replace BK721:=am (jb (g:=gb721) (o:=.cells #[.int .i64 0, .int .i64 0, .int .i64 0] 44 (0,0)) (kq BK721.out) hb);replace HB:=am (jg (Y50) hb);replace HI724:=am (jd.below (Y99) hb);clear hb hbox hg;obtain ⟨Ao37,co37,eo37⟩:=Kd.jL HO727.out;subst eo37;have hnb38:=NB732_720.out;have hnc38:=NB720_732.out;have hnb39:=NB732_721.out;have hnc39:=NB721_732.out;have hnb40:=NB732_724.out;have hnc40:=NB724_732.out;have hcz41_0:=bc0 BK732.out;have hfz41_0:=ja BK732.out 0) |((with_reducible refine jy (f:=61) rfl ?_);refine gL (some 18) Try.func61 #[.pointer (some ⟨g724,0,none⟩), .agg #[.slice Ao37 t725.length co37]] ?_;(with_reducible refine (jva.calls k g724 t722 t731 _ _ t725 t733 t734 t735 t736 w _ ?side1 ?side2 ?side3 ?side4 A4.out).mono ?_);(case side1=>exact Y41);(case side2=>exact Y103);(case side3=>exact Kd.jMb (jd.apart (show jd w _ g724 t722 t731 from Y41) (Y193) (by decide)) (fun _ h_=>h_.2));(case side4=>exact (Kd.jl HO727.out).2.1);rintro e w42 ⟨rfl,hi,hb,hk⟩;refine ⟨_,rfl,?_⟩;replace BK720:=am (ji.blk hk (g':=gb720) (o:=.cells #[.slice none 0 0] 31 (0,0)) (Y181) NB720_724.out (by simp));replace BK721:=am (ji.blk hk (g':=gb721) (o:=.cells #[.int .i64 0, .int .i64 0, .int .i64 0] 44 (0,0)) (Y182) NB721_724.out (by simp));replace HO727:=am (Kd.jF (Kd.jBa (jd.apart (show jd w _ g724 t722 t731 from Y41) (Y193) (by decide)) hk (fun _ h=>h.2)) (fun _ h=>h.1));replace HO730:=am (Kd.jF (Kd.jBa (jd.apart (show jd w _ g724 t722 t731 from Y41) (by (with_reducible repeat (first | apply Kd.jR | apply Kd.jT | apply Kd.jfa));exact (Kd.jF (Kd.jea (p:=⟨gb732,0,none⟩) (Kd.jia HO730.out BK732.out (by decide)) (fun _ hk=>hk.2) (.slice Ao37 t725.length co37)) (fun _ h_=>h_.1))) (by decide)) hk (fun _ h=>h.2)) (fun _ h=>h.1));replace BK732:=am (ji.blk hk (g':=gb732) (o:=.cells #[.slice Ao37 t725.length co37] 31 (0,0)) (Y183) NB732_724.out (by simp));replace HB:=am (hb);replace HI724:=am (hi);(try clear hb);(try clear hb2);(try clear hk);(try clear hi)) |((with_reducible refine jH (N:=8) rfl ?_);refine bE (N:=8) (cs:=#[.int .i64 0, .int .i64 0, .int .i64 0]) (t:=44) ?_;intro gb737 hg w43 hbox hb;have BK737:=am (hbox);have GW737:=am ((Y104:w.heap.size≤gb737));have GE737:=am ((Y104:w.heap.size≤gb737));have NB720_737:=am ((Y57:gb720≠gb737));have NB737_720:=am ((Y58:gb737≠gb720));have NB721_737:=am ((Y101:gb721≠gb737));have NB737_721:=am ((Y102:gb737≠gb721));have NB732_737:=am ((by rw [hg];exact Nat.ne_of_lt (jpa (g:=gb732) (o:=.cells #[.slice Ao37 t725.length co37] 31 (0,0)) (kq BK732.out)):gb732≠gb737));have NB737_732:=am ((by rw [hg];exact Nat.ne_of_gt (jpa (g:=gb732) (o:=.cells #[.slice Ao37 t725.length co37] 31 (0,0)) (kq BK732.out)):gb737≠gb732));have NB724_737:=am ((Y184:g724≠gb737));have NB737_724:=am ((Y185:gb737≠g724));replace HO727:=am (Kd.jo (rq HO727.out) hb);replace HO730:=am (Kd.jo (Kd.R_elderB (rq HO730.out) gb737 (Nat.le_of_eq hg.symm)) hb);replace BK720:=am (jb (g:=gb720) (o:=.cells #[.slice none 0 0] 31 (0,0)) (kq BK720.out) hb);replace BK721:=am (jb (g:=gb721) (o:=.cells #[.int .i64 0, .int .i64 0, .int .i64 0] 44 (0,0)) (kq BK721.out) hb);replace BK732:=am (jb (g:=gb732) (o:=.cells #[.slice Ao37 t725.length co37] 31 (0,0)) (kq BK732.out) hb);replace HB:=am (jg (Y103) hb);replace HI724:=am (jd.below (Y41) hb);clear hb hbox hg;have hnb44:=NB737_720.out;have hnc44:=NB720_737.out;have hnb45:=NB737_721.out;have hnc45:=NB721_737.out;have hnb46:=NB737_732.out;have hnc46:=NB732_737.out;have hnb47:=NB737_724.out;have hnc47:=NB724_737.out;have hcz48_0:=bc0 BK737.out;have hcz48_1:=bc1 BK737.out;have hcz48_2:=bc2 BK737.out;have hfz48_0:=ja BK737.out 0;have hfz48_1:=ja BK737.out 1;have hfz48_2:=ja BK737.out 2) |((with_reducible refine jy (f:=47) rfl ?_);refine gL (some 20) Try.func47 #[.pointer (some ⟨g724,0,none⟩), .int .i64 12] ?_;(with_reducible refine (jm.calls k g724 t722 t736 12 t738 t739 w _ ?side1 ?side2 A5.out).mono ?_);(case side1=>exact Y52);(case side2=>exact Y84);rintro e w49 ⟨rfl,hi,hb,hk⟩;refine ⟨_,rfl,?_⟩;replace BK720:=am (ji.blk hk (g':=gb720) (o:=.cells #[.slice none 0 0] 31 (0,0)) (Y186) NB720_724.out (by simp));replace BK721:=am (ji.blk hk (g':=gb721) (o:=.cells #[.int .i64 0, .int .i64 0, .int .i64 0] 44 (0,0)) (Y187) NB721_724.out (by simp));replace HO727:=am (Kd.jF (Kd.jBa (jd.apart (show jd w _ g724 t722 t736 from Y52) (Y188) (by decide)) hk (fun _ h=>h.2)) (fun _ h=>h.1));replace HO730:=am (Kd.jF (Kd.jBa (jd.apart (show jd w _ g724 t722 t736 from Y52) (Y189) (by decide)) hk (fun _ h=>h.2)) (fun _ h=>h.1));replace BK732:=am (ji.blk hk (g':=gb732) (o:=.cells #[.slice Ao37 t725.length co37] 31 (0,0)) (Y190) NB732_724.out (by simp));replace BK737:=am (ji.blk hk (g':=gb737) (o:=.cells #[.int .i64 t733, .int .i64 t734, .int .i64 t735] 44 (0,0)) (Y191) NB737_724.out (by simp));replace HB:=am (hb);replace HI724:=am (hi);(try clear hb);(try clear hb2);(try clear hk);(try clear hi)))
  replace HO727:=am (Kd.jfa HO727.out)
  replace HO730:=am (Kd.jfa HO730.out)
  replace BK720:=am (jf BK720.out)
  replace BK721:=am (jf BK721.out)
  replace BK732:=am (jf BK732.out)
  replace BK737:=am (jf BK737.out)
  replace HI724:=am (jd.drew HI724.out)
  replace HB:=am (jB HB.out)
  refine jjc (n:=6) (S:=fun w'=>w'.cell? ⟨gb732,0,none⟩=some (.slice Ao37 t725.length co37)∧w'.cell? ⟨gb737,0,none⟩=some (.int .i64 t733)∧w'.cell? ⟨gb737,1,none⟩=some (.int .i64 t734)∧w'.cell? ⟨gb737,2,none⟩=some (.int .i64 t735)) (ds:=[]) #[false,false,false,false,false,false] (by kernel_rfl) rfl rfl ⟨(jh BK732.out 0).trans rfl,(jh BK737.out 0).trans rfl,(jh BK737.out 1).trans rfl,(jh BK737.out 2).trans rfl⟩ (fun hHeld=>?_)
  generalize w49.drew=w50 at HO727 HO730 BK720 BK721 BK732 BK737 HI724 HB hHeld ⊢
  refine jcc (i:=1) (N:=some 24) (v:=?_) (a':=?_) #[false,true,false,false,false,false] rfl rfl (by kernel_rfl) (fun _ _ _ h=>h) (Or.inl ⟨by rfl,?_⟩) ?_ ?_
  rotate_left
  ·exact sb
  rotate_left
  ·exact sa
  refine jYb (i:=0) (N:=some 23) (v:=?_) (a':=?_) #[true,true,false,false,false,false] rfl rfl (by kernel_rfl) (fun _ _ _ h=>h) (Or.inl ⟨by rfl,?_⟩) hHeld ?_ ?_
  rotate_left
  ·rintro w' ⟨s0,s1,s2,s3⟩
   go_simp
   with_reducible rfl
  rotate_left
  ·exact sa
  refine jYb (i:=2) (N:=some 25) (v:=?_) (a':=?_) #[true,true,true,false,false,false] rfl rfl (by kernel_rfl) (fun _ _ _ h=>h) (Or.inl ⟨by rfl,?_⟩) hHeld ?_ ?_
  rotate_left
  ·rintro w' ⟨s0,s1,s2,s3⟩
   go_simp
   with_reducible rfl
  rotate_left
  ·exact sa
  refine one_ (i:=3) (N:=none) #[true,true,true,true,false,false] rfl rfl (by kernel_rfl) (by decide) (fun K hK=>?_)
  have hs51:w50.cell? ⟨gb720,0,none⟩=some (.slice none 0 0):=(jh BK720.out 0).trans rfl
  have hfs51:=ja BK720.out 0
  have hns51_1:=NB721_720.out
  have hns51_2:=NB732_720.out
  have hns51_3:=NB737_720.out
  have hms51_1:=NB720_721.out
  have hms51_2:=NB720_732.out
  have hms51_3:=NB720_737.out
  refine skip_ (w1:=?_) (by rfl) rfl ?_ ?_
  rotate_left
  ·go_simp
   rfl
  refine hK.out _ _ ⟨((cell_far (p:=⟨gb720,_,none⟩) NB732_720.out _).trans (hHeld.1)),((cell_far (p:=⟨gb720,_,none⟩) NB737_720.out _).trans (hHeld.2.1)),((cell_far (p:=⟨gb720,_,none⟩) NB737_720.out _).trans (hHeld.2.2.1)),((cell_far (p:=⟨gb720,_,none⟩) NB737_720.out _).trans (hHeld.2.2.2))⟩ (fun hHeld=>?_)
  clear hK K
  refine jcc (i:=4) (N:=some 3) (v:=?_) (a':=?_) #[true,true,true,true,true,false] rfl rfl (by kernel_rfl) (fun _ _ _ h=>h) (Or.inl ⟨by rfl,?_⟩) ?_ ?_
  rotate_left
  ·exact sb
  rotate_left
  ·exact sa
  refine one_ (i:=5) (N:=none) #[true,true,true,true,true,true] rfl rfl (by kernel_rfl) (by decide) (fun K hK=>?_)
  have hs52:w50.cell? ⟨gb721,0,none⟩=some (.int .i64 0):=(jh BK721.out 0).trans rfl
  have hfs52:=ja BK721.out 0
  have hns52_0:=NB720_721.out
  have hns52_2:=NB732_721.out
  have hns52_3:=NB737_721.out
  have hms52_0:=NB721_720.out
  have hms52_2:=NB721_732.out
  have hms52_3:=NB721_737.out
  have hs53:w50.cell? ⟨gb721,1,none⟩=some (.int .i64 0):=(jh BK721.out 1).trans rfl
  have hfs53:=ja BK721.out 1
  have hns53_0:=NB720_721.out
  have hns53_2:=NB732_721.out
  have hns53_3:=NB737_721.out
  have hms53_0:=NB721_720.out
  have hms53_2:=NB721_732.out
  have hms53_3:=NB721_737.out
  have hs54:w50.cell? ⟨gb721,2,none⟩=some (.int .i64 0):=(jh BK721.out 2).trans rfl
  have hfs54:=ja BK721.out 2
  have hns54_0:=NB720_721.out
  have hns54_2:=NB732_721.out
  have hns54_3:=NB737_721.out
  have hms54_0:=NB721_720.out
  have hms54_2:=NB721_732.out
  have hms54_3:=NB721_737.out
  refine skip_ (w1:=?_) (by rfl) rfl ?_ ?_
  rotate_left
  ·go_simp
   rfl
  refine hK.out _ _ ⟨((cell_far (p:=⟨gb721,_,none⟩) NB732_721.out _).trans (((cell_far (p:=⟨gb721,_,none⟩) NB732_721.out _).trans (((cell_far (p:=⟨gb721,_,none⟩) NB732_721.out _).trans (hHeld.1)))))),((cell_far (p:=⟨gb721,_,none⟩) NB737_721.out _).trans (((cell_far (p:=⟨gb721,_,none⟩) NB737_721.out _).trans (((cell_far (p:=⟨gb721,_,none⟩) NB737_721.out _).trans (hHeld.2.1)))))),((cell_far (p:=⟨gb721,_,none⟩) NB737_721.out _).trans (((cell_far (p:=⟨gb721,_,none⟩) NB737_721.out _).trans (((cell_far (p:=⟨gb721,_,none⟩) NB737_721.out _).trans (hHeld.2.2.1)))))),((cell_far (p:=⟨gb721,_,none⟩) NB737_721.out _).trans (((cell_far (p:=⟨gb721,_,none⟩) NB737_721.out _).trans (((cell_far (p:=⟨gb721,_,none⟩) NB737_721.out _).trans (hHeld.2.2.2))))))⟩ (fun hHeld=>?_)
  clear hK K
  refine done_ (by kernel_rfl) ?_
  try go_wp2
  refine bodyPost_ret (results_list (rs:=[.cell 2 31, .tmp 3, .cell 4 44]) rfl (by simp) (.cell gb720 31 #[.slice Ao37 t725.length co37] (0,0) _ rfl (Y192) Try.underlying31 rfl (by kernel_rfl) (.tmp (.cell gb721 44 #[.int .i64 t733, .int .i64 t734, .int .i64 t735] (0,0) _ rfl (by (with_reducible repeat (first | refine je ?_ _ | refine jf ?_ | refine jc ?_ _));refine jU (cs:=#[.int .i64 t733, .int .i64 t734, .int .i64 0]) ?_ 2 _ rfl;(with_reducible repeat (first | refine je ?_ _ | refine jf ?_ | refine jc ?_ _));refine jU (cs:=#[.int .i64 t733, .int .i64 0, .int .i64 0]) ?_ 1 _ rfl;(with_reducible repeat (first | refine je ?_ _ | refine jf ?_ | refine jc ?_ _));refine jU (cs:=#[.int .i64 0, .int .i64 0, .int .i64 0]) ?_ 0 _ rfl;(with_reducible repeat (first | refine je ?_ _ | refine jf ?_ | refine jc ?_ _));refine jZ ?_ NB721_720.out _;(with_reducible repeat (first | refine je ?_ _ | refine jf ?_ | refine jc ?_ _));exact BK721.out) Try.underlying44 rfl (by kernel_rfl) .nil)))) rfl ?_
  exact ⟨_,_,Y1,by (with_reducible repeat (first | apply Kd.jR | apply Kd.jT | apply Kd.jfa));exact Kd.jF (Kd.jea (p:=⟨gb721,2,none⟩) (Kd.jea (p:=⟨gb721,1,none⟩) (Kd.jea (p:=⟨gb721,0,none⟩) (Kd.jea (p:=⟨gb720,0,none⟩) (Kd.jia (Kd.jia HO727.out BK720.out (by decide)) BK721.out (by decide)) (fun _ hk=>hk.1.2) (.slice Ao37 t725.length co37)) (fun _ hk=>hk.2) (.int .i64 t733)) (fun _ hk=>hk.2) (.int .i64 t734)) (fun _ hk=>hk.2) (.int .i64 t735)) (fun _ hk=>trivial),by (with_reducible repeat (first | apply Kd.jR | apply Kd.jT | apply Kd.jfa));exact Kd.jF (Kd.jea (p:=⟨gb721,2,none⟩) (Kd.jea (p:=⟨gb721,1,none⟩) (Kd.jea (p:=⟨gb721,0,none⟩) (Kd.jea (p:=⟨gb720,0,none⟩) (Kd.jF (Kd.jia HO730.out BK720.out (by decide)) (fun k_ hk=>(⟨hk,hk.1.1.2⟩:_∧k_≠gb721))) (fun _ hk=>hk.1.2) (.slice Ao37 t725.length co37)) (fun _ hk=>hk.2) (.int .i64 t733)) (fun _ hk=>hk.2) (.int .i64 t734)) (fun _ hk=>hk.2) (.int .i64 t735)) (fun _ hk=>trivial),Y84⟩
def jzb.f (l0 : List (S44)) : Option ((List (S44))) := some (l0)
set_option maxHeartbeats 8000000 in
set_option maxRecDepth 100000 in
theorem jzb.calls (P0_ : Nat → Prop) (u9000_ : Value) (l0 : List (S44)) (r : List (S44)) (w0 w : World) (hB : Below w0.heap.size w0 w) (ho0 : Kd.R k44 44 w w0.heap.size P0_ u9000_ l0) (h : jzb.f l0 = some r) :
  Calls Try.prog 84 #[u9000_] w fun e w'=>∃ v0_:Value,e=.returned (v0_)∧Kd.R k44 44 w' w0.heap.size (fun k_=>(P0_ k_∨w.heap.size≤k_)) v0_ r∧Below w0.heap.size w0 w'∧Kept w w' (fun k_=>P0_ k_):=by
 have HO0:=am (show Kd.R k44 44 w w0.heap.size (fun k_=>(P0_ k_∨w.heap.size≤k_)) u9000_ l0 from Kd.jF ho0 (fun k_ hk=>(.inl hk)))
 have HK:=am (Kept.refl w (fun k_=>P0_ k_))
 have HW0:=am hB.size
 have HB:=am hB
 clear hB
 have H:(some (l0))=some r:=h
 clear h
 obtain ⟨y461,hy461⟩:∃ y_:List (S44),y_=(l0):=⟨_,rfl⟩
 replace H:(some y461)=some r:=by first |(rw [hy461];with_reducible exact H) |(have H2_:=(Option.bind_some _ _).symm.trans H;rw [hy461];with_reducible exact H2_) |(have H2_:=(Option.bind_some _ _).symm.trans H;with_reducible exact H2_) | with_reducible exact H |(rw [hy461];exact H) | exact H
 have Ny461:=am hy461
 clear hy461
 obtain rfl:=Option.some.inj H
 obtain ⟨Ao2,co2,eo2⟩:=Kd.jL HO0.out
 subst eo2
 obtain ⟨i03,hi03,_,hsz3,_⟩:=info_parts info44
 have hy3:y461.length=l0.length:=(by rw [Ny461.out])
 have hcut3:=cut_clip (P:=Try.prog) 33 44 Try.underlying33 hi03 Ao2 _ co2 _ (Kd.jl HO0.out).2.1 hy3
 have hr3:=Kd.R_clip HO0.out Ny461.out
 clear hy3 hi03 hsz3 HO0
 have HO463:=am hr3
 clear hr3
 go_enter Try.func84,Try.ntmps84
 go_wp2
 go_ret
 exact ⟨_,Y1,rq HO463.out,bq,Y88⟩
def jVa.f (k : Nat) (l0_0 : List (S106)) (l1 : List (S44)) : Option ((List (S44)) × Bool) := (jCa.f k l0_0 l1).bind fun t465 => (if t465 = true then ((jzb.f l1).bind fun t466 => (some (t466, true))) else (some (([] : List (S44)), false)))
set_option maxHeartbeats 8000000 in
set_option maxRecDepth 100000 in
theorem jVa.calls (k : Nat) (A0_0 : Option Addr) (c0_0 : Nat) (l0_0 : List (S106)) (P1_ : Nat → Prop) (u9000_ : Value) (l1 : List (S44)) (r1 : List (S44)) (r2 : Bool) (w0 w : World) (hB : Below w0.heap.size w0 w) (hr0_0 : ∀ W_, Kept w W_ (fun k_ => P1_ k_) → Kd.C k106 W_ A0_0 l0_0.length l0_0) (hc0_0 : l0_0.length ≤ c0_0) (ho1 : Kd.R k44 44 w w0.heap.size P1_ u9000_ l1) (h : jVa.f k l0_0 l1 = some (r1, r2)) :
  Calls Try.prog 52 #[.agg #[.slice A0_0 l0_0.length c0_0],u9000_] w fun e w'=>∃ v0_:Value,e=.returned (.tuple #[v0_, .bool r2])∧Kd.R k44 44 w' w0.heap.size (fun k_=>(P1_ k_∨w.heap.size≤k_)) v0_ r1∧Below w0.heap.size w0 w'∧Kept w w' (fun k_=>P1_ k_):=by
 have hu31:=Try.underlying31
 have HR0_0:=am hr0_0
 have HC0_0:=am hc0_0
 clear hr0_0 hc0_0
 have HO1:=am (show Kd.R k44 44 w w0.heap.size (fun k_=>(P1_ k_∨w.heap.size≤k_)) u9000_ l1 from Kd.jF ho1 (fun k_ hk=>(.inl hk)))
 have HK:=am (Kept.refl w (fun k_=>P1_ k_))
 have HW0:=am hB.size
 have HB:=am hB
 clear hB
 have H:((jCa.f k l0_0 l1).bind fun t465=>(if t465=true then ((jzb.f l1).bind fun t466=>(some (t466,true))) else (some (([]:List (S44)),false))))=some (r1,r2):=h
 clear h
 replace H:=bzS H
 obtain ⟨t465,A30,H⟩:=H
 replace H:(if t465=true then ((jzb.f l1).bind fun t466=>(some (t466,true))) else (some (([]:List (S44)),false)))=some (r1,r2):=H
 have A3:=am A30
 clear A30
 by_cases c4:t465=true
 ·subst c4
  have H1:((jzb.f l1).bind fun t466=>(some (t466,true)))=some (r1,r2):=by rw [if_pos rfl] at H;exact H
  clear H
  have H:=H1
  clear H1
  replace H:=bzS H
  obtain ⟨t466,A50,H⟩:=H
  replace H:(some (t466,true))=some (r1,r2):=H
  have A5:=am A50
  clear A50
  simp only [Option.some.injEq,Prod.mk.injEq] at H
  obtain ⟨rfl,rfl⟩:=H
  go_enter Try.func52,Try.ntmps52
  go_wp2_with (first |((with_reducible refine jH (N:=2) rfl ?_);refine bE (N:=2) (cs:=#[.slice A0_0 l0_0.length c0_0]) (t:=31) ?_;intro gb464 hg w6 hbox hb;have BK464:=am (hbox);have GW464:=am ((Y194:w.heap.size≤gb464));have GE464:=am ((Y2:w0.heap.size≤gb464));replace HO1:=am (Kd.jo (rq HO1.out) hb);replace HK:=am (Kept.below (S:=(fun k_=>P1_ k_)) (Y88) hb);replace HB:=am (jg (bq) hb);clear hb hbox hg;have hcz7_0:=bc0 BK464.out;have hfz7_0:=ja BK464.out 0;obtain ⟨Ao8,co8,eo8⟩:=Kd.jL HO1.out;subst eo8) |((with_reducible refine jy (f:=17) rfl ?_);refine gL (some 8) Try.func17 #[.agg #[.slice A0_0 l0_0.length c0_0], .slice Ao8 l1.length co8] ?_;(with_reducible refine (jCa.calls k _ _ l0_0 _ _ l1 true _ ?side1 ?side2 ?side3 ?side4 A3.out).mono ?_);(case side1=>exact Kd.C_kept_now HR0_0.out (Y53));(case side2=>exact HC0_0.out);(case side3=>exact cq (Kd.jl HO1.out).2.2);(case side4=>exact (Kd.jl HO1.out).2.1);rintro e w9 ⟨rfl,hb⟩;refine ⟨_,rfl,?_⟩;replace HO1:=am (Kd.jo (rq HO1.out) hb);replace BK464:=am (jb (g:=gb464) (o:=.cells #[.slice A0_0 l0_0.length c0_0] 31 (0,0)) (kq BK464.out) hb);replace HK:=am (Kept.below (S:=(fun k_=>P1_ k_)) (Y53) hb);replace HB:=am (jg (Y85) hb);(try clear hb);(try clear hb2);(try clear hk);(try clear hi)) |((with_reducible refine jy (f:=84) rfl ?_);refine gL (some 11) Try.func84 #[.slice Ao8 l1.length co8] ?_;(with_reducible refine (jzb.calls (fun k_=>some k_=(.slice Ao8 l1.length co8:Value).ownBlock) (.slice Ao8 l1.length co8) l1 t466 w0 _ ?side1 ?side2 A5.out).mono ?_);(case side1=>exact Y85);(case side2=>exact Kd.R_tight rfl HO1.out);rintro e w10 ⟨v467,rfl,ho0,hb,hkp⟩;refine ⟨_,rfl,?_⟩;have n0_:=am (jOb (kq BK464.out) hkp (fun hs_=>(fun e_=>(Kd.R_ne HO1.out BK464.out (by decide)) e_) hs_));have n1_:=am (Kd.jF (ok':=fun k_=>(P1_ k_∨w.heap.size≤k_)) ho0 (fun k_ hk_=>Or.elim hk_ (fun hs_=>(HO1.out.1 k_ (hs_).symm)) (fun hn_=>(.inr (Nat.le_trans (by first | exact HK.out.1 | exact (show Kept w _ (fun k_=>P1_ k_) from by repeat (first |(with_reducible first | exact HK.out | apply Kept.alloc | apply Kept.drewN | apply Kept.drew | refine Kept.setCell ?_ (.inr GW464.out) _) | exact HK.out)).1) hn_)))));have n2_:=am (Kept.then_ (S:=(fun k_=>P1_ k_)) (Y53) hkp (fun k_ hs_=>(fun e_=>(HO1.out.1 k_ e_.symm)) hs_));have n3_:=am (hb);clear BK464 HK HB HO1;have BK464:=n0_;have HO468:=n1_;have HK:=n2_;have HB:=n3_;clear n0_ n1_ n2_ n3_;(try clear hb);(try clear hkp);(try clear ho0)))
  go_ret2
  exact ⟨_,Y1,rq HO468.out,Y85,Y53⟩
 ·replace c4:=Bool.eq_false_iff.mpr c4
  subst c4
  have H1:(some (([]:List (S44)),false))=some (r1,r2):=by rw [if_neg (show ¬ (false=true) by decide)] at H;exact H
  clear H
  have H:=H1
  clear H1
  simp only [Option.some.injEq,Prod.mk.injEq] at H
  obtain ⟨rfl,rfl⟩:=H
  go_enter Try.func52,Try.ntmps52
  go_wp2_with (first |((with_reducible refine jH (N:=2) rfl ?_);refine bE (N:=2) (cs:=#[.slice A0_0 l0_0.length c0_0]) (t:=31) ?_;intro gb464 hg w11 hbox hb;have BK464:=am (hbox);have GW464:=am ((Y194:w.heap.size≤gb464));have GE464:=am ((Y2:w0.heap.size≤gb464));replace HO1:=am (Kd.jo (rq HO1.out) hb);replace HK:=am (Kept.below (S:=(fun k_=>P1_ k_)) (Y88) hb);replace HB:=am (jg (bq) hb);clear hb hbox hg;have hcz12_0:=bc0 BK464.out;have hfz12_0:=ja BK464.out 0;obtain ⟨Ao13,co13,eo13⟩:=Kd.jL HO1.out;subst eo13) |((with_reducible refine jy (f:=17) rfl ?_);refine gL (some 8) Try.func17 #[.agg #[.slice A0_0 l0_0.length c0_0], .slice Ao13 l1.length co13] ?_;(with_reducible refine (jCa.calls k _ _ l0_0 _ _ l1 false _ ?side1 ?side2 ?side3 ?side4 A3.out).mono ?_);(case side1=>exact Kd.C_kept_now HR0_0.out (Y53));(case side2=>exact HC0_0.out);(case side3=>exact cq (Kd.jl HO1.out).2.2);(case side4=>exact (Kd.jl HO1.out).2.1);rintro e w14 ⟨rfl,hb⟩;refine ⟨_,rfl,?_⟩;replace HO1:=am (Kd.jo (rq HO1.out) hb);replace BK464:=am (jb (g:=gb464) (o:=.cells #[.slice A0_0 l0_0.length c0_0] 31 (0,0)) (kq BK464.out) hb);replace HK:=am (Kept.below (S:=(fun k_=>P1_ k_)) (Y53) hb);replace HB:=am (jg (Y85) hb);(try clear hb);(try clear hb2);(try clear hk);(try clear hi)))
  go_ret2
  exact ⟨_,Y1,Y76,Y85,Y53⟩

def jGa.f (l0 : List S44) : Option (List S44) := if l0.length < 1099511627776 then some l0 else none
set_option maxHeartbeats 8000000 in
set_option maxRecDepth 100000 in
theorem jGa.calls (A0 : Option Addr) (c0 : Nat) (l0 : List S44) (r : List S44) (w : World) (hr0 : Kd.C k44 w A0 l0.length l0) (hc0 : l0.length ≤ c0) (h : jGa.f l0 = some r) :
  Calls Try.prog 62 #[.slice A0 l0.length c0] w fun e w'=>∃ v0_:Value,e=.returned (v0_)∧Kd.R k44 44 w' w.heap.size (fun _=>True) v0_ r∧Below w.heap.size w w':=by
 unfold jGa.f at h
 by_cases hlen:l0.length<1099511627776
 ·rw [if_pos hlen] at h
  obtain rfl:=Option.some.inj h
  have LM:=am hlen
  have q22:∀ (w:World) (a:Option Addr) (n c n' c':Nat),(binOp .eql 33 (.slice a n c) (.slice none n' c')).run Try.prog w=.ok (.bool a.isNone) w:=fun w a n c n' c'=>Lib.run_eql_slice_nil w _ _ a n c n' c' Try.underlying33
  clear h hlen
  cases A0 with
  | none =>
   have h0:l0=[]:=by
    rcases Nat.eq_zero_or_pos l0.length with h | h
    ·exact List.eq_nil_of_length_eq_zero h
    ·obtain ⟨ad,e,_⟩:=hr0.2.2 h;cases e
   subst h0
   clear hr0
   go_enter Try.func62,Try.ntmps62
   go_wp2
   go_ret
   exact ⟨_,rfl,Kd.R_nil _ _ _ _ _,Below.refl _ _⟩
  | some ad =>
   have HR:=am hr0
   have HB:=am (Below.refl w.heap.size w)
   clear hr0
   go_enter Try.func62,Try.ntmps62
   go_wp2_with (first |((with_reducible refine jH (N:=5) rfl ?_);refine Kd.R_lit k44 _ 44 ?hg (N:=5) ?hd (xs:=([]:List S44)) (inner:=[]) (ok:=fun _=>True) (okp:=fun _=>True) ?hr ?hp (fun _ hk=>hk) trivial (Below.refl _ _) (Nat.le_refl _) (by simp) ?_;(case hd=>rfl);(case hg=>rfl);(case hr=>exact Y7);(case hp=>exact (Reps.none _ _));intro v111 w4 ho5 hb hg_ hnew_;clear hg_ hnew_;have HO:=am ho5;have HB2:=am hb;clear HB ho5 hb;have HB:=HB2;clear HB2) |(at_builtin;refine Kd.R_append_rows k44 (w0:=w) w.heap.size rfl (.tmp 5) (.tmp 6) 33 44 (.agg #[(.int .i64 0),(.int .i64 0),(.int .i64 0)]) 24 rfl Try.underlying33 info44 rfl (by decide) (by omega) v111 ([]:List S44) l0 _ _ _ (fun _=>True) (fun _=>False) rfl rfl HO.out (Kd.joa HR.out HB.out) (fun _ _ h=>h) (fun _ h=>h.elim) (fun _ _=>trivial) HB.out (jD HB.out) (by have:=LM.out;simp only [List.length_nil];omega) ?_;intro v1 w2 ho hb hg hat;have HV2:=am ho;have HB2:=am hb;clear ho hb hg hat))
   go_ret
   exact ⟨_,rfl,by simpa using HV2.out,HB2.out⟩
 ·rw [if_neg hlen] at h;cases h
def jAa.f (k : Nat) (l0_0 : List (S106)) (l1 : List (S44)) (a2_0 : Int) (a2_1 : Int) (a2_2 : Int) : Option ((List (S44)) × Bool) := (jCa.f k l0_0 l1).bind fun t742 => (if t742 = true then ((jGa.f l1).bind fun t743 => ((some (([(⟨a2_0, a2_1, a2_2⟩ : S44)] : List (S44)) : List (S44))).bind fun y746 => (if t743.length + y746.length < 5864062014805 then ((jVa.f k l0_0 (t743 ++ y746)).bind fun bt752 => (some (bt752.1, bt752.2))) else (none)))) else (some (([] : List (S44)), false)))
def jAa.T3 : Bool × List (List Nat × List Nat) := (true, [([], []), ([], []), ([1], [1]), ([], []), ([3], [3]), ([2, 4, 2], [2, 4]), ([0, 5, 5], [0, 5]), ([6], [6]), ([6], [6]), ([7, 6, 0, 1, 2, 3, 4, 5, 6, 7, 8], [7]), ([8, 9, 0, 1, 2, 3, 4, 5, 6, 7, 8, 9], [8])])
def jAa.B3 : List Nat := [0, 0, 2, 0, 8, 30, 63, 127, 127, 511, 1023]
theorem jAa.tab3 : rtab .any (opsOf Try.f29 3) = jAa.T3 := by kernel_rfl
theorem jAa.bits3 : jnc jAa.T3.2 jAa.B3 = true := by kernel_rfl
set_option maxHeartbeats 8000000 in
set_option maxRecDepth 100000 in
theorem jAa.calls (k : Nat) (A0_0 : Option Addr) (c0_0 : Nat) (l0_0 : List (S106)) (A1 : Option Addr) (c1 : Nat) (l1 : List (S44)) (a2_0 : Int) (a2_1 : Int) (a2_2 : Int) (r1 : List (S44)) (r2 : Bool) (w : World) (hr0_0 : Kd.C k106 w A0_0 l0_0.length l0_0) (hc0_0 : l0_0.length ≤ c0_0) (hr1 : Kd.C k44 w A1 l1.length l1) (hc1 : l1.length ≤ c1) (h : jAa.f k l0_0 l1 a2_0 a2_1 a2_2 = some (r1, r2)) :
  Calls Try.prog 29 #[.agg #[.slice A0_0 l0_0.length c0_0], .slice A1 l1.length c1, .agg #[.int .i64 a2_0, .int .i64 a2_1, .int .i64 a2_2]] w fun e w'=>∃ v0_:Value,e=.returned (.tuple #[v0_, .bool r2])∧Kd.R k44 44 w' w.heap.size (fun _=>True) v0_ r1∧Below w.heap.size w w':=by
 have hu31:=Try.underlying31
 have hu44:=Try.underlying44
 have HR0_0:=am hr0_0
 have HC0_0:=am hc0_0
 clear hr0_0 hc0_0
 have HR1:=am hr1
 have HC1:=am hc1
 clear hr1 hc1
 have HB:=am (Below.refl w.heap.size w)
 have H:((jCa.f k l0_0 l1).bind fun t742=>(if t742=true then ((jGa.f l1).bind fun t743=>((some (([(⟨a2_0,a2_1,a2_2⟩:S44)]:List (S44)):List (S44))).bind fun y746=>(if t743.length+y746.length<5864062014805 then ((jVa.f k l0_0 (t743 ++ y746)).bind fun bt752=>(some (bt752.1,bt752.2))) else (none)))) else (some (([]:List (S44)),false))))=some (r1,r2):=h
 clear h
 replace H:=bzS H
 obtain ⟨t742,A40,H⟩:=H
 replace H:(if t742=true then ((jGa.f l1).bind fun t743=>((some (([(⟨a2_0,a2_1,a2_2⟩:S44)]:List (S44)):List (S44))).bind fun y746=>(if t743.length+y746.length<5864062014805 then ((jVa.f k l0_0 (t743 ++ y746)).bind fun bt752=>(some (bt752.1,bt752.2))) else (none)))) else (some (([]:List (S44)),false)))=some (r1,r2):=H
 have A4:=am A40
 clear A40
 by_cases c5:t742=true
 ·subst c5
  have H1:((jGa.f l1).bind fun t743=>((some (([(⟨a2_0,a2_1,a2_2⟩:S44)]:List (S44)):List (S44))).bind fun y746=>(if t743.length+y746.length<5864062014805 then ((jVa.f k l0_0 (t743 ++ y746)).bind fun bt752=>(some (bt752.1,bt752.2))) else (none))))=some (r1,r2):=by rw [if_pos rfl] at H;exact H
  clear H
  have H:=H1
  clear H1
  replace H:=bzS H
  obtain ⟨t743,A60,H⟩:=H
  replace H:((some (([(⟨a2_0,a2_1,a2_2⟩:S44)]:List (S44)):List (S44))).bind fun y746=>(if t743.length+y746.length<5864062014805 then ((jVa.f k l0_0 (t743 ++ y746)).bind fun bt752=>(some (bt752.1,bt752.2))) else (none)))=some (r1,r2):=H
  have A6:=am A60
  clear A60
  obtain ⟨y746,hy746⟩:∃ y_:List (S44),y_=(([(⟨a2_0,a2_1,a2_2⟩:S44)]:List (S44))):=⟨_,rfl⟩
  replace H:(if t743.length+y746.length<5864062014805 then ((jVa.f k l0_0 (t743 ++ y746)).bind fun bt752=>(some (bt752.1,bt752.2))) else (none))=some (r1,r2):=by first |(rw [hy746];with_reducible exact H) |(have H2_:=(Option.bind_some _ _).symm.trans H;rw [hy746];with_reducible exact H2_) |(have H2_:=(Option.bind_some _ _).symm.trans H;with_reducible exact H2_) | with_reducible exact H |(rw [hy746];exact H) | exact H
  have Ny746:=am hy746
  clear hy746
  by_cases c7:t743.length+y746.length<5864062014805
  ·rw [if_pos c7] at H
   have LMc7:=am c7
   clear c7
   obtain ⟨y749,hy749⟩:∃ y_:List (S44),y_=(t743 ++ y746):=⟨_,rfl⟩
   replace H:((jVa.f k l0_0 y749).bind fun bt752=>(some (bt752.1,bt752.2)))=some (r1,r2):=by first |(rw [hy749];with_reducible exact H) |(have H2_:=(Option.bind_some _ _).symm.trans H;rw [hy749];with_reducible exact H2_) |(have H2_:=(Option.bind_some _ _).symm.trans H;with_reducible exact H2_) | with_reducible exact H |(rw [hy749];exact H) | exact H
   have Ny749:=am hy749
   clear hy749
   replace H:=bzS H
   obtain ⟨⟨t752,t755⟩,A80,H⟩:=H
   replace H:(some (t752,t755))=some (r1,r2):=H
   have A8:=am A80
   clear A80
   simp only [Option.some.injEq,Prod.mk.injEq] at H
   obtain ⟨rfl,rfl⟩:=H
   go_enter Try.func29,Try.ntmps29
   try go_wp2_with (first |((with_reducible refine jH (N:=3) rfl ?_);refine bE (N:=3) (cs:=#[.slice A0_0 l0_0.length c0_0]) (t:=31) ?_;intro gb740 hg w9 hbox hb;have BK740:=am (hbox);have GW740:=am ((Y2:w.heap.size≤gb740));have GE740:=am ((Y2:w.heap.size≤gb740));replace HB:=am (jg (bq) hb);clear hb hbox hg) |((with_reducible refine jH (N:=5) rfl ?_);refine bE (N:=5) (cs:=#[.int .i64 a2_0, .int .i64 a2_1, .int .i64 a2_2]) (t:=44) ?_;intro gb741 hg w10 hbox hb;have BK741:=am (hbox);have GW741:=am ((Y105:w.heap.size≤gb741));have GE741:=am ((Y105:w.heap.size≤gb741));have NB740_741:=am ((by rw [hg];exact Nat.ne_of_lt (jpa (g:=gb740) (o:=.cells #[.slice A0_0 l0_0.length c0_0] 31 (0,0)) (kq BK740.out)):gb740≠gb741));have NB741_740:=am ((by rw [hg];exact Nat.ne_of_gt (jpa (g:=gb740) (o:=.cells #[.slice A0_0 l0_0.length c0_0] 31 (0,0)) (kq BK740.out)):gb741≠gb740));replace BK740:=am (jb (g:=gb740) (o:=.cells #[.slice A0_0 l0_0.length c0_0] 31 (0,0)) (kq BK740.out) hb);replace HB:=am (jg (Y195) hb);clear hb hbox hg;have hnb11:=NB740_741.out;have hnc11:=NB741_740.out;have hcz12_0:=bc0 BK740.out;have hfz12_0:=ja BK740.out 0) |((with_reducible refine jy (f:=17) rfl ?_);refine gL (some 10) Try.func17 #[.agg #[.slice A0_0 l0_0.length c0_0], .slice A1 l1.length c1] ?_;(with_reducible refine (jCa.calls k _ _ l0_0 _ _ l1 true _ ?side1 ?side2 ?side3 ?side4 A4.out).mono ?_);(case side1=>exact cq (Kd.joa HR0_0.out HB.out));(case side2=>exact HC0_0.out);(case side3=>exact cq (Kd.joa HR1.out HB.out));(case side4=>exact HC1.out);rintro e w13 ⟨rfl,hb⟩;refine ⟨_,rfl,?_⟩;replace BK740:=am (jb (g:=gb740) (o:=.cells #[.slice A0_0 l0_0.length c0_0] 31 (0,0)) (kq BK740.out) hb);replace BK741:=am (jb (g:=gb741) (o:=.cells #[.int .i64 a2_0, .int .i64 a2_1, .int .i64 a2_2] 44 (0,0)) (kq BK741.out) hb);replace HB:=am (jg (Y17) hb);(try clear hb);(try clear hb2);(try clear hk);(try clear hi)))
   replace BK740:=am (jf BK740.out)
   replace BK741:=am (jf BK741.out)
   replace HB:=am (jB HB.out)
   refine jjc (n:=11) (S:=fun w'=>w'.cell? ⟨gb740,0,none⟩=some (.slice A0_0 l0_0.length c0_0)∧w'.cell? ⟨gb741,0,none⟩=some (.int .i64 a2_0)∧w'.cell? ⟨gb741,1,none⟩=some (.int .i64 a2_1)∧w'.cell? ⟨gb741,2,none⟩=some (.int .i64 a2_2)) (ds:=[]) #[false,false,false,false,false,false,false,false,false,false,false] (by kernel_rfl) rfl rfl ⟨(jh BK740.out 0).trans rfl,(jh BK741.out 0).trans rfl,(jh BK741.out 1).trans rfl,(jh BK741.out 2).trans rfl⟩ (fun hHeld=>?_);refine with_tabW jAa.tab3 jAa.bits3 (fun HT_ HW_=>?_)
   generalize w13.drew=w14 at BK740 BK741 HB hHeld ⊢
   refine pq (i:=1) (N:=some 13) #[false,true,false,false,false,false,false,false,false,false,false] ?_
   refine jYb (i:=0) (N:=some 12) (v:=?_) (a':=?_) #[true,true,false,false,false,false,false,false,false,false,false] rfl rfl (jdc HT_.out HW_.out (by kernel_rfl)) (fun _ _ _ h=>h) (Or.inl ⟨by rfl,?_⟩) hHeld ?_ ?_
   rotate_left
   ·rintro w' ⟨s0,s1,s2,s3⟩
    go_simp
    with_reducible rfl
   rotate_left
   ·exact sa
   refine jYb (i:=3) (N:=some 15) (v:=?_) (a':=?_) #[true,true,false,true,false,false,false,false,false,false,false] rfl rfl (jdc HT_.out HW_.out (by kernel_rfl)) (fun _ _ _ h=>h) (Or.inl ⟨by rfl,?_⟩) hHeld ?_ ?_
   rotate_left
   ·rintro w' ⟨s0,s1,s2,s3⟩
    go_simp
    with_reducible rfl
   rotate_left
   ·exact sa
   refine join_ (σ:=Value × Value) 6 #[true,true,true,true,true,false,false,false,false,false,false] (fun s_=>[(14,s_.1),(16,s_.2)]) (fun s_ w'=>(w'.cell? ⟨gb740,0,none⟩=some (.slice A0_0 l0_0.length c0_0)∧w'.cell? ⟨gb741,0,none⟩=some (.int .i64 a2_0)∧w'.cell? ⟨gb741,1,none⟩=some (.int .i64 a2_1)∧w'.cell? ⟨gb741,2,none⟩=some (.int .i64 a2_2))∧(Kd.R k44 44 w' w.heap.size (fun k_=>some k_≠(s_.2:Value).ownBlock∧k_≠gb741) s_.1 t743)∧(Kd.R k44 44 w' w.heap.size (fun k_=>some k_≠(s_.1:Value).ownBlock∧k_≠gb741) s_.2 y746)∧(w'.heap[gb740]?=some (.cells #[.slice A0_0 l0_0.length c0_0] 31 (0,0)))∧(w'.heap[gb741]?=some (.cells #[.int .i64 a2_0, .int .i64 a2_1, .int .i64 a2_2] 44 (0,0)))∧(Below w.heap.size w w')) ?_ ?_
   rotate_left
   ·intro hCont
    refine two_ (i:=2) (j:=4) (Ni:=some 14) (Nj:=some 16) #[true,true,true,true,false,false,false,false,false,false,false] #[true,true,false,true,true,false,false,false,false,false,false] rfl rfl rfl rfl (two_of HT_.out (by kernel_rfl)) (by decide) (by decide) (fun K hK=>?_) (fun K hK=>?_)
    ·skip
     refine goes_ Try.func62 (by kernel_rfl) rfl #[.slice A1 l1.length c1] (by rfl) rfl rfl (aq) ?_
     with_reducible refine (jGa.calls _ _ l1 t743 _ ?side1 ?side2 A6.out).mono ?_
     (case side1=>exact cq (Kd.joa HR1.out HB.out))
     (case side2=>exact HC1.out)
     rintro e w15 ⟨v744,rfl,ho0,hb⟩
     refine ⟨_,rfl,?_⟩
     have HO745:=am (Kd.jV (Kd.jvb ho0 (g:=gb741) (o:=.cells #[.int .i64 a2_0, .int .i64 a2_1, .int .i64 a2_2] 44 (0,0)) (kq BK741.out)) (jD (Y17)))
     replace BK740:=am (jb (g:=gb740) (o:=.cells #[.slice A0_0 l0_0.length c0_0] 31 (0,0)) (kq BK740.out) hb)
     replace BK741:=am (jb (g:=gb741) (o:=.cells #[.int .i64 a2_0, .int .i64 a2_1, .int .i64 a2_2] 44 (0,0)) (kq BK741.out) hb)
     replace HB:=am (jg (Y17) hb)
     (try clear hb)
     (try clear hb2)
     (try clear hk)
     (try clear hi)
     (try clear ho0)
     refine hK.out _ _ ⟨(jh BK740.out 0).trans rfl,(jh BK741.out 0).trans rfl,(jh BK741.out 1).trans rfl,(jh BK741.out 2).trans rfl⟩ (fun hHeld=>?_)
     clear hK K
     refine jgb (a':=?_) ?_ ?_
     rotate_left
     ·show Act.put _ (some 14) _=_
      simp only [Act.put,List.setIfInBounds_toArray,List.set_cons_zero,List.set_cons_succ,jbb,jdb]
      rfl
     refine one_ (i:=4) (N:=some 16) #[true,true,true,true,true,false,false,false,false,false,false] rfl rfl (jHb HT_.out (by kernel_rfl)) (by decide) (fun K hK=>?_)
     refine Kd.jqb k44 _ 44 ?hg (N:=16) ?hd (xs:=([(⟨a2_0,a2_1,a2_2⟩:S44)]:List (S44))) (inner:=[.int .i64 a2_0, .int .i64 a2_1, .int .i64 a2_2]) (ok:=fun _=>True) (okp:=fun _=>True) ?hr ?hp (fun _ hk=>hk) trivial (Below.refl _ _) (Nat.le_refl _) (by simp) ?_;(case hd=>rfl);(case hg=>rfl);(case hr=>exact Y7);(case hp=>exact (Reps.c3 (show Kd.M k44 _ _ _ (⟨a2_0,a2_1,a2_2⟩:S44) [.int .i64 a2_0, .int .i64 a2_1, .int .i64 a2_2] from (jRb _ _ _ (⟨a2_0,a2_1,a2_2⟩:S44) )) (Reps.none _ _)))
     intro v747 w16 ho17 hb hg_ hnew_
     clear hg_ hnew_
     (first | rw [← Ny746.out] at ho17 |(simp only [Int.reduceToNat] at ho17;rw [← Ny746.out] at ho17))
     have HO748:=am (Kd.jV (Kd.jvb (Kd.jlb ho17 (Kd.R_lt (rq HO745.out))) (g:=gb741) (o:=.cells #[.int .i64 a2_0, .int .i64 a2_1, .int .i64 a2_2] 44 (0,0)) (kq BK741.out)) (jD (Y17)))
     replace HO745:=am (Kd.jKa (rq HO745.out) (Kd.jib ho17) hb)
     replace BK740:=am (jb (g:=gb740) (o:=.cells #[.slice A0_0 l0_0.length c0_0] 31 (0,0)) (kq BK740.out) hb)
     replace BK741:=am (jb (g:=gb741) (o:=.cells #[.int .i64 a2_0, .int .i64 a2_1, .int .i64 a2_2] 44 (0,0)) (kq BK741.out) hb)
     replace HB:=am (jg (Y17) hb)
     clear hb ho17
     refine hK.out _ _ ⟨(jh BK740.out 0).trans rfl,(jh BK741.out 0).trans rfl,(jh BK741.out 1).trans rfl,(jh BK741.out 2).trans rfl⟩ (fun hHeld=>?_)
     clear hK K
     refine jgb (a':=?_) ?_ ?_
     rotate_left
     ·show Act.put _ (some 16) _=_
      simp only [Act.put,List.setIfInBounds_toArray,List.set_cons_zero,List.set_cons_succ,jbb,jdb]
      rfl
     exact jgb (by simp only [jZb,Act.put,List.setIfInBounds_toArray,List.set_cons_zero,List.set_cons_succ]) (hCont (v744,v747) _ ⟨hHeld,(by (with_reducible repeat (first | apply Kd.jR | apply Kd.jT | apply Kd.jfa));exact Kd.jF HO745.out (fun _ hk=>⟨hk.2,hk.1.2⟩)),(by (with_reducible repeat (first | apply Kd.jR | apply Kd.jT | apply Kd.jfa));exact Kd.jF HO748.out (fun _ hk=>⟨hk.1.2,hk.2⟩)),(kq BK740.out),(kq BK741.out),(Y17)⟩)
    ·skip
     refine Kd.jqb k44 _ 44 ?hg (N:=16) ?hd (xs:=([(⟨a2_0,a2_1,a2_2⟩:S44)]:List (S44))) (inner:=[.int .i64 a2_0, .int .i64 a2_1, .int .i64 a2_2]) (ok:=fun _=>True) (okp:=fun _=>True) ?hr ?hp (fun _ hk=>hk) trivial (Below.refl _ _) (Nat.le_refl _) (by simp) ?_;(case hd=>rfl);(case hg=>rfl);(case hr=>exact Y7);(case hp=>exact (Reps.c3 (show Kd.M k44 _ _ _ (⟨a2_0,a2_1,a2_2⟩:S44) [.int .i64 a2_0, .int .i64 a2_1, .int .i64 a2_2] from (jRb _ _ _ (⟨a2_0,a2_1,a2_2⟩:S44) )) (Reps.none _ _)))
     intro v747 w15 ho16 hb hg_ hnew_
     clear hg_ hnew_
     (first | rw [← Ny746.out] at ho16 |(simp only [Int.reduceToNat] at ho16;rw [← Ny746.out] at ho16))
     have HO748:=am (Kd.jV (Kd.jvb ho16 (g:=gb741) (o:=.cells #[.int .i64 a2_0, .int .i64 a2_1, .int .i64 a2_2] 44 (0,0)) (kq BK741.out)) (jD (Y17)))
     replace BK740:=am (jb (g:=gb740) (o:=.cells #[.slice A0_0 l0_0.length c0_0] 31 (0,0)) (kq BK740.out) hb)
     replace BK741:=am (jb (g:=gb741) (o:=.cells #[.int .i64 a2_0, .int .i64 a2_1, .int .i64 a2_2] 44 (0,0)) (kq BK741.out) hb)
     replace HB:=am (jg (Y17) hb)
     clear hb ho16
     refine hK.out _ _ ⟨(jh BK740.out 0).trans rfl,(jh BK741.out 0).trans rfl,(jh BK741.out 1).trans rfl,(jh BK741.out 2).trans rfl⟩ (fun hHeld=>?_)
     clear hK K
     refine jgb (a':=?_) ?_ ?_
     rotate_left
     ·show Act.put _ (some 16) _=_
      simp only [Act.put,List.setIfInBounds_toArray,List.set_cons_zero,List.set_cons_succ,jbb,jdb]
      rfl
     refine one_ (i:=2) (N:=some 14) #[true,true,true,true,true,false,false,false,false,false,false] rfl rfl (jHb HT_.out (by kernel_rfl)) (by decide) (fun K hK=>?_)
     refine goes_ Try.func62 (by kernel_rfl) rfl #[.slice A1 l1.length c1] (by rfl) rfl rfl (aq) ?_
     with_reducible refine (jGa.calls _ _ l1 t743 _ ?side1 ?side2 A6.out).mono ?_
     (case side1=>exact cq (Kd.joa HR1.out HB.out))
     (case side2=>exact HC1.out)
     rintro e w17 ⟨v744,rfl,ho0,hb⟩
     refine ⟨_,rfl,?_⟩
     have HO745:=am (Kd.jV (Kd.jvb (Kd.jlb ho0 (Kd.R_lt (rq HO748.out))) (g:=gb741) (o:=.cells #[.int .i64 a2_0, .int .i64 a2_1, .int .i64 a2_2] 44 (0,0)) (kq BK741.out)) (jD (Y17)))
     replace HO748:=am (Kd.jKa (rq HO748.out) (Kd.jib ho0) hb)
     replace BK740:=am (jb (g:=gb740) (o:=.cells #[.slice A0_0 l0_0.length c0_0] 31 (0,0)) (kq BK740.out) hb)
     replace BK741:=am (jb (g:=gb741) (o:=.cells #[.int .i64 a2_0, .int .i64 a2_1, .int .i64 a2_2] 44 (0,0)) (kq BK741.out) hb)
     replace HB:=am (jg (Y17) hb)
     (try clear hb)
     (try clear hb2)
     (try clear hk)
     (try clear hi)
     (try clear ho0)
     refine hK.out _ _ ⟨(jh BK740.out 0).trans rfl,(jh BK741.out 0).trans rfl,(jh BK741.out 1).trans rfl,(jh BK741.out 2).trans rfl⟩ (fun hHeld=>?_)
     clear hK K
     refine jgb (a':=?_) ?_ ?_
     rotate_left
     ·show Act.put _ (some 14) _=_
      simp only [Act.put,List.setIfInBounds_toArray,List.set_cons_zero,List.set_cons_succ,jbb,jdb]
      rfl
     exact jgb (by simp only [jZb,Act.put,List.setIfInBounds_toArray,List.set_cons_zero,List.set_cons_succ]) (hCont (v744,v747) _ ⟨hHeld,(by (with_reducible repeat (first | apply Kd.jR | apply Kd.jT | apply Kd.jfa));exact Kd.jF HO745.out (fun _ hk=>⟨hk.1.2,hk.2⟩)),(by (with_reducible repeat (first | apply Kd.jR | apply Kd.jT | apply Kd.jfa));exact Kd.jF HO748.out (fun _ hk=>⟨hk.2,hk.1.2⟩)),(kq BK740.out),(kq BK741.out),(Y17)⟩)
   rintro ⟨v744,v747⟩ w18 ⟨hS_,h0_,h1_,h2_,h3_,h4_⟩
   have n0_:jC (Kd.R k44 44 w18 w.heap.size (fun k_=>some k_≠(v747:Value).ownBlock∧k_≠gb741) v744 t743):=⟨h0_⟩
   have n1_:jC (Kd.R k44 44 w18 w.heap.size (fun k_=>some k_≠(v744:Value).ownBlock∧k_≠gb741) v747 y746):=⟨h1_⟩
   have n2_:jC (w18.heap[gb740]?=some (.cells #[.slice A0_0 l0_0.length c0_0] 31 (0,0))):=⟨h2_⟩
   have n3_:jC (w18.heap[gb741]?=some (.cells #[.int .i64 a2_0, .int .i64 a2_1, .int .i64 a2_2] 44 (0,0))):=⟨h3_⟩
   have n4_:jC (Below w.heap.size w w18):=⟨h4_⟩
   clear BK740
   clear BK741
   clear HB
   clear h0_ h1_ h2_ h3_ h4_
   have HO745:=n0_
   have HO748:=n1_
   have BK740:=n2_
   have BK741:=n3_
   have HB:=n4_
   clear n0_ n1_ n2_ n3_ n4_
   have hHeld:w18.cell? ⟨gb740,0,none⟩=some (.slice A0_0 l0_0.length c0_0)∧w18.cell? ⟨gb741,0,none⟩=some (.int .i64 a2_0)∧w18.cell? ⟨gb741,1,none⟩=some (.int .i64 a2_1)∧w18.cell? ⟨gb741,2,none⟩=some (.int .i64 a2_2):=hS_
   obtain ⟨Ao20,co20,eo20⟩:=Kd.jL HO748.out
   (first | subst eo20 |(injection eo20 with f1_ f2_ f3_;have f4_:=f1_.symm;have f5_:=f3_.symm;clear f1_ f2_ f3_;subst f4_;subst f5_))
   refine jgb (a':=?_) ?_ ?_
   rotate_left
   ·simp only [jZb,Act.put,List.setIfInBounds_toArray,List.set_cons_zero,List.set_cons_succ]
    rfl
   refine one_ (i:=5) (N:=some 17) #[true,true,true,true,true,true,false,false,false,false,false] rfl rfl (jHb HT_.out (by kernel_rfl)) (by decide) (fun K hK=>?_)
   refine Kd.jwb k44 (w0:=w) w.heap.size (by rfl) (.tmp 14) (.tmp 16) 33 44 (.agg #[(.int .i64 0),(.int .i64 0),(.int .i64 0)]) 24 rfl Try.underlying33 info44 rfl (by decide) (by omega) v744 t743 y746 _ _ _ (fun k_=>some k_≠(.slice Ao20 y746.length co20:Value).ownBlock∧k_≠gb741) (fun _=>False) rfl rfl ?aO ?aR (fun _ _ h=>h) (fun _ h=>h.elim) ?aF ?aB ?aS ?aL ?_
   (case aR=>repeat (first | exact (Kd.jl HO748.out).2.2 |(with_reducible refine Kd.C_alloc ?_ _) |(with_reducible refine Kd.C_drewN ?_ _) |(with_reducible refine Kd.C_drew ?_)))
   (case aB=>exact (Y17))
   (case aF=>exact (fun k_ hk=>⟨Kd.fresh' (Kd.R_lt (rq HO748.out)) k_ hk,Kd.freshB (g:=gb741) (o:=.cells #[.int .i64 a2_0, .int .i64 a2_1, .int .i64 a2_2] 44 (0,0)) (kq BK741.out) k_ hk⟩))
   (case aO=>exact (rq HO745.out))
   (case aS=>exact (jD (Y17)))
   (case aL=>have:=LMc7.out;omega)
   intro v750 w19 ho hb hg hat
   rw [← Ny749.out] at ho
   have n0_:=am (jma (g:=gb740) (o:=.cells #[.slice A0_0 l0_0.length c0_0] 31 (0,0)) (kq BK740.out) hg (Kd.R_ne HO745.out BK740.out (by decide)))
   have n1_:=am (jma (g:=gb741) (o:=.cells #[.int .i64 a2_0, .int .i64 a2_1, .int .i64 a2_2] 44 (0,0)) (kq BK741.out) hg (Kd.R_away HO745.out (fun _ hk=>hk.2)))
   have n2_:=am (Kd.R_after (ok:=(fun k_=>k_≠gb741)) (by (with_reducible repeat (first | apply Kd.jR | apply Kd.jT | apply Kd.jfa));exact Kd.jF HO748.out (fun _ hk=>⟨hk.2,hk.1⟩)) hg hat)
   have n3_:=am (hb)
   have n4_:=am (ho)
   clear BK740
   clear BK741
   clear HO748
   clear HB
   clear HO745
   have BK740:=n0_
   have BK741:=n1_
   have HO748:=n2_
   have HB:=n3_
   have HO751:=n4_
   clear n0_ n1_ n2_ n3_ n4_
   clear ho hb hg hat
   obtain ⟨Ao21,co21,eo21⟩:=Kd.jL HO751.out
   (first | subst eo21 |(injection eo21 with f1_ f2_ f3_;have f4_:=f1_.symm;have f5_:=f3_.symm;clear f1_ f2_ f3_;subst f4_;subst f5_))
   refine hK.out _ _ ⟨(jh BK740.out 0).trans rfl,(jh BK741.out 0).trans rfl,(jh BK741.out 1).trans rfl,(jh BK741.out 2).trans rfl⟩ (fun hHeld=>?_)
   clear hK K
   refine jgb (a':=?_) ?_ ?_
   rotate_left
   ·show Act.put _ (some 17) _=_
    simp only [Act.put,List.setIfInBounds_toArray,List.set_cons_zero,List.set_cons_succ,jbb,jdb]
    rfl
   refine one_ (i:=6) (N:=some 18) #[true,true,true,true,true,true,true,false,false,false,false] rfl rfl (jHb HT_.out (by kernel_rfl)) (by decide) (fun K hK=>?_)
   refine goes_ Try.func52 (by kernel_rfl) rfl #[.agg #[.slice A0_0 l0_0.length c0_0], .slice Ao21 y749.length co21] (by rfl) rfl rfl (aq) ?_
   with_reducible refine (jVa.calls k _ _ l0_0 (fun k_=>some k_=(.slice Ao21 y749.length co21:Value).ownBlock) (.slice Ao21 y749.length co21) y749 t752 t755 w _ ?side1 ?side2 ?side3 ?side4 A8.out).mono ?_
   (case side1=>exact Y17)
   (case side2=>exact Kd.C_kept_came k106_heap HR0_0.out (Y17) (fun k_ hs_=>(fun e_=>Kd.jib HO751.out k_ e_.symm) hs_))
   (case side3=>exact HC0_0.out)
   (case side4=>exact Kd.R_tight rfl HO751.out)
   rintro e w22 ⟨v753,rfl,ho0,hb,hkp⟩
   refine ⟨_,rfl,?_⟩
   have n0_:=am (jOb (kq BK740.out) hkp (fun hs_=>(fun e_=>(Kd.R_ne HO751.out BK740.out (by decide)) e_) hs_))
   have n1_:=am (jOb (kq BK741.out) hkp (fun hs_=>(fun e_=>(Kd.R_away HO751.out (fun _ hk=>hk.2)) e_) hs_))
   have n2_:=am (Kd.jF (ok':=fun k_=>k_≠gb741∧some k_≠(v753:Value).ownBlock) (Kd.R_keptB (HO748.out) hkp (fun k_ hk_ hs_=>(hk_.2) hs_)) (fun k_ hk_=>⟨hk_.1.1,fun e_=>Or.elim (ho0.1 k_ e_.symm) (fun hs_=>hk_.2.1 hs_) (fun hn_=>Nat.not_le.2 hk_.2.2 hn_)⟩))
   have n3_:=am (Kd.jF (ok':=fun k_=>some k_≠(.slice Ao20 y746.length co20:Value).ownBlock∧k_≠gb741) ho0 (fun k_ hk_=>⟨Or.elim hk_ (fun hs_=>fun e_=>(((HO748.out).1 k_ e_.symm).2) hs_) (fun hn_=>(Kd.fresh' (Kd.R_lt (rq HO748.out)) k_ hn_)),Or.elim hk_ (fun hs_=>fun e_=>(Kd.R_away HO751.out (fun _ hk=>hk.2)) (by rw [← e_];exact hs_)) (fun hn_=>(Kd.freshB (g:=gb741) (o:=.cells #[.int .i64 a2_0, .int .i64 a2_1, .int .i64 a2_2] 44 (0,0)) (kq BK741.out) k_ hn_))⟩))
   have n4_:=am (hb)
   clear BK740
   clear BK741
   clear HO748
   clear HB
   clear HO751
   have BK740:=n0_
   have BK741:=n1_
   have HO748:=n2_
   have HO754:=n3_
   have HB:=n4_
   clear n0_ n1_ n2_ n3_ n4_
   (try clear hb)
   (try clear hkp)
   (try clear ho0)
   refine hK.out _ _ ⟨(jh BK740.out 0).trans rfl,(jh BK741.out 0).trans rfl,(jh BK741.out 1).trans rfl,(jh BK741.out 2).trans rfl⟩ (fun hHeld=>?_)
   clear hK K
   refine jgb (a':=?_) ?_ ?_
   rotate_left
   ·show Act.put _ (some 18) _=_
    simp only [Act.put,List.setIfInBounds_toArray,List.set_cons_zero,List.set_cons_succ,jbb,jdb]
    rfl
   refine pq (i:=7) (N:=some 19) #[true,true,true,true,true,true,true,true,false,false,false] ?_
   refine pq (i:=8) (N:=some 20) #[true,true,true,true,true,true,true,true,true,false,false] ?_
   refine pq (i:=9) (N:=some 6) #[true,true,true,true,true,true,true,true,true,true,false] ?_
   refine pq (i:=10) (N:=some 7) #[true,true,true,true,true,true,true,true,true,true,true] ?_
   refine done_ (done_of HT_.out (by kernel_rfl)) ?_
   try go_wp2
   go_ret2
   exact ⟨_,Y1,by (with_reducible repeat (first | apply Kd.jR | apply Kd.jT | apply Kd.jfa));exact Kd.jF HO754.out (fun _ hk=>trivial),Y17⟩
  ·rw [if_neg c7] at H
   exact absurd H (by simp)
 ·replace c5:=Bool.eq_false_iff.mpr c5
  subst c5
  have H1:(some (([]:List (S44)),false))=some (r1,r2):=by rw [if_neg (show ¬ (false=true) by decide)] at H;exact H
  clear H
  have H:=H1
  clear H1
  simp only [Option.some.injEq,Prod.mk.injEq] at H
  obtain ⟨rfl,rfl⟩:=H
  go_enter Try.func29,Try.ntmps29
  go_wp2_with (first |((with_reducible refine jH (N:=3) rfl ?_);refine bE (N:=3) (cs:=#[.slice A0_0 l0_0.length c0_0]) (t:=31) ?_;intro gb740 hg w23 hbox hb;have BK740:=am (hbox);have GW740:=am ((Y2:w.heap.size≤gb740));have GE740:=am ((Y2:w.heap.size≤gb740));replace HB:=am (jg (bq) hb);clear hb hbox hg) |((with_reducible refine jH (N:=5) rfl ?_);refine bE (N:=5) (cs:=#[.int .i64 a2_0, .int .i64 a2_1, .int .i64 a2_2]) (t:=44) ?_;intro gb741 hg w24 hbox hb;have BK741:=am (hbox);have GW741:=am ((Y105:w.heap.size≤gb741));have GE741:=am ((Y105:w.heap.size≤gb741));have NB740_741:=am ((by rw [hg];exact Nat.ne_of_lt (jpa (g:=gb740) (o:=.cells #[.slice A0_0 l0_0.length c0_0] 31 (0,0)) (kq BK740.out)):gb740≠gb741));have NB741_740:=am ((by rw [hg];exact Nat.ne_of_gt (jpa (g:=gb740) (o:=.cells #[.slice A0_0 l0_0.length c0_0] 31 (0,0)) (kq BK740.out)):gb741≠gb740));replace BK740:=am (jb (g:=gb740) (o:=.cells #[.slice A0_0 l0_0.length c0_0] 31 (0,0)) (kq BK740.out) hb);replace HB:=am (jg (Y195) hb);clear hb hbox hg;have hnb25:=NB740_741.out;have hnc25:=NB741_740.out;have hcz26_0:=bc0 BK740.out;have hfz26_0:=ja BK740.out 0) |((with_reducible refine jy (f:=17) rfl ?_);refine gL (some 10) Try.func17 #[.agg #[.slice A0_0 l0_0.length c0_0], .slice A1 l1.length c1] ?_;(with_reducible refine (jCa.calls k _ _ l0_0 _ _ l1 false _ ?side1 ?side2 ?side3 ?side4 A4.out).mono ?_);(case side1=>exact cq (Kd.joa HR0_0.out HB.out));(case side2=>exact HC0_0.out);(case side3=>exact cq (Kd.joa HR1.out HB.out));(case side4=>exact HC1.out);rintro e w27 ⟨rfl,hb⟩;refine ⟨_,rfl,?_⟩;replace BK740:=am (jb (g:=gb740) (o:=.cells #[.slice A0_0 l0_0.length c0_0] 31 (0,0)) (kq BK740.out) hb);replace BK741:=am (jb (g:=gb741) (o:=.cells #[.int .i64 a2_0, .int .i64 a2_1, .int .i64 a2_2] 44 (0,0)) (kq BK741.out) hb);replace HB:=am (jg (Y17) hb);(try clear hb);(try clear hb2);(try clear hk);(try clear hi)))
  go_ret2
  exact ⟨_,Y1,Y76,Y17⟩
def jsa.f (a0 : Int) (a1 : Int) (a2 : Int) : Option (Bool) := if a1 ≤ a0 then (some (decide (a0 ≤ a2))) else (some false)
set_option maxHeartbeats 8000000 in
set_option maxRecDepth 100000 in
theorem jsa.calls (a0 : Int) (a1 : Int) (a2 : Int) (r : Bool) (w : World) (h : jsa.f a0 a1 a2 = some r) :
  Calls Try.prog 92 #[.int .i64 a0, .int .i64 a1, .int .i64 a2] w fun e w'=>e=.returned (.bool r)∧jmb w w':=by
 have H:(if a1≤a0 then (some (decide (a0≤a2))) else (some false))=some r:=h
 clear h
 by_cases c4:a1≤a0
 ·rw [if_pos c4] at H
  have c4b0:decide (a1≤a0)=true:=dzT c4
  clear c4
  obtain rfl:=Option.some.inj H
  go_enter Try.func92,Try.ntmps92
  go_wp2
  go_ret
  exact ⟨sq,Y5⟩
 ·rw [if_neg c4] at H
  have c4b0:decide (a1≤a0)=false:=dzF c4
  clear c4
  obtain rfl:=Option.some.inj H
  go_enter Try.func92,Try.ntmps92
  go_wp2
  go_ret
  exact ⟨sq,Y5⟩
def jWa.f (l0_0 : List (S106)) (a1 : Int) : Option (Bool) := (jsa.f a1 0 (wrap64 ((l0_0.length : Int) - 1))).bind fun t107 => (some t107)
set_option maxHeartbeats 8000000 in
set_option maxRecDepth 100000 in
theorem jWa.calls (A0_0 : Option Addr) (c0_0 : Nat) (l0_0 : List (S106)) (a1 : Int) (r : Bool) (w : World) (hr0_0 : Kd.C k106 w A0_0 l0_0.length l0_0) (hc0_0 : l0_0.length ≤ c0_0) (h : jWa.f l0_0 a1 = some r) :
  Calls Try.prog 93 #[.agg #[.slice A0_0 l0_0.length c0_0], .int .i64 a1] w fun e w'=>e=.returned (.bool r)∧Below w.heap.size w w':=by
 have hu31:=Try.underlying31
 have HR0_0:=am hr0_0
 have HC0_0:=am hc0_0
 clear hr0_0 hc0_0
 have HB:=am (Below.refl w.heap.size w)
 have H:((jsa.f a1 0 (wrap64 ((l0_0.length:Int) - 1))).bind fun t107=>(some t107))=some r:=h
 clear h
 replace H:=bzS H
 obtain ⟨t107,A30,H⟩:=H
 replace H:(some t107)=some r:=H
 have A3:=am A30
 clear A30
 obtain rfl:=Option.some.inj H
 go_enter Try.func93,Try.ntmps93
 go_wp2_with (first |((with_reducible refine jH (N:=2) rfl ?_);refine bE (N:=2) (cs:=#[.slice A0_0 l0_0.length c0_0]) (t:=31) ?_;intro gb106 hg w4 hbox hb;have BK106:=am (hbox);have GW106:=am ((Y2:w.heap.size≤gb106));have GE106:=am ((Y2:w.heap.size≤gb106));replace HB:=am (jg (bq) hb);clear hb hbox hg;have hcz5_0:=bc0 BK106.out;have hfz5_0:=ja BK106.out 0) |((with_reducible refine jy (f:=92) rfl ?_);refine gL (some 10) Try.func92 #[.int .i64 a1, .int .i64 0, .int .i64 (wrap64 ((l0_0.length:Int) - 1))] ?_;(with_reducible refine (jsa.calls a1 0 (wrap64 ((l0_0.length:Int) - 1)) t107 _ A3.out).mono ?_);rintro e w' ⟨rfl,⟨nd,rfl⟩⟩;refine ⟨_,rfl,?_⟩))
 go_ret
 exact ⟨Y1,by repeat (first |(with_reducible first | exact HB.out | apply jE | apply jq | apply jB | refine jv ?_ GE106.out) | exact HB.out)⟩
def jxa.j0 : Nat → Int → Bool → List (S106) → Int → Int → Int → Option (Bool)
 | 0,_,_,_,_,_,_=>none
 | k+1,x6,x7,x109000,x110000,x110001,x110002=>if x7=true then ((jsa.f x110001 0 99).bind fun t110=>(if t110=true then (some (x110002 == 0)) else (some false))) else (if x6=2 then ((jWa.f x109000 x110001).bind fun t111=>(if t111=true then (some (x110002 == 0)) else (some false))) else (if x6=3 then ((jWa.f x109000 x110001).bind fun t112=>(if t112=true then ((jsa.f x110002 0 99).bind fun t113=>(some t113)) else (some false))) else (some false)))
def jxa.f (k : Nat) (l0_0 : List (S106)) (a1_0 : Int) (a1_1 : Int) (a1_2 : Int) : Option (Bool) := if a1_0 = 0 then (jxa.j0 k a1_0 (a1_0 == 0) l0_0 a1_0 a1_1 a1_2) else (jxa.j0 k a1_0 (a1_0 == 1) l0_0 a1_0 a1_1 a1_2)
set_option maxHeartbeats 8000000 in
set_option maxRecDepth 100000 in
theorem jxa.calls (k : Nat) (A0_0 : Option Addr) (c0_0 : Nat) (l0_0 : List (S106)) (a1_0 : Int) (a1_1 : Int) (a1_2 : Int) (r : Bool) (w : World) (hr0_0 : Kd.C k106 w A0_0 l0_0.length l0_0) (hc0_0 : l0_0.length ≤ c0_0) (h : jxa.f k l0_0 a1_0 a1_1 a1_2 = some r) :
  Calls Try.prog 66 #[.agg #[.slice A0_0 l0_0.length c0_0], .agg #[.int .i64 a1_0, .int .i64 a1_1, .int .i64 a1_2]] w fun e w'=>e=.returned (.bool r)∧Below w.heap.size w w':=by
 have hu31:=Try.underlying31
 have hu44:=Try.underlying44
 have HR0_0:=am hr0_0
 have HC0_0:=am hc0_0
 clear hr0_0 hc0_0
 have HB:=am (Below.refl w.heap.size w)
 have H:(if a1_0=0 then (jxa.j0 k a1_0 (a1_0 == 0) l0_0 a1_0 a1_1 a1_2) else (jxa.j0 k a1_0 (a1_0 == 1) l0_0 a1_0 a1_1 a1_2))=some r:=h
 clear h
 have HC3:=am H
 clear H
 go_enter Try.func66,Try.ntmps66
 go_upto_if 7 with (first |((with_reducible refine jH (N:=2) rfl ?_);refine bE (N:=2) (cs:=#[.slice A0_0 l0_0.length c0_0]) (t:=31) ?_;intro gb108 hg w4 hbox hb;have BK108:=am (hbox);have GW108:=am ((Y2:w.heap.size≤gb108));have GE108:=am ((Y2:w.heap.size≤gb108));replace HB:=am (jg (bq) hb);clear hb hbox hg) |((with_reducible refine jH (N:=3) rfl ?_);refine bE (N:=3) (cs:=#[.int .i64 a1_0, .int .i64 a1_1, .int .i64 a1_2]) (t:=44) ?_;intro gb109 hg w5 hbox hb;have BK109:=am (hbox);have GW109:=am ((Y196:w.heap.size≤gb109));have GE109:=am ((Y196:w.heap.size≤gb109));have NB108_109:=am ((by rw [hg];exact Nat.ne_of_lt (jpa (g:=gb108) (o:=.cells #[.slice A0_0 l0_0.length c0_0] 31 (0,0)) (kq BK108.out)):gb108≠gb109));have NB109_108:=am ((by rw [hg];exact Nat.ne_of_gt (jpa (g:=gb108) (o:=.cells #[.slice A0_0 l0_0.length c0_0] 31 (0,0)) (kq BK108.out)):gb109≠gb108));replace BK108:=am (jb (g:=gb108) (o:=.cells #[.slice A0_0 l0_0.length c0_0] 31 (0,0)) (kq BK108.out) hb);replace HB:=am (jg (by repeat (first |(with_reducible first | exact HB.out | apply jE | apply jq | apply jB | refine jv ?_ GE108.out) | exact HB.out)) hb);clear hb hbox hg;have hnb6:=NB109_108.out;have hnc6:=NB108_109.out;have hcz7_0:=bc0 BK109.out;have hcz7_1:=bc1 BK109.out;have hcz7_2:=bc2 BK109.out;have hfz7_0:=ja BK109.out 0;have hfz7_1:=ja BK109.out 1;have hfz7_2:=ja BK109.out 2))
 (try simp only [Act.put,List.setIfInBounds_toArray,List.set_cons_zero,List.set_cons_succ])
 go_cut [7] (fun v7 wc=>∃ (kq:Nat) (x7_2:Bool),v7=.bool x7_2∧jC (jxa.j0 kq a1_0 x7_2 l0_0 a1_0 a1_1 a1_2=some r)∧jC (kq≤k)∧jC (wc.heap[gb108]?=some (.cells #[(.slice A0_0 l0_0.length c0_0)] 31 (0,0)))∧jC (wc.heap[gb109]?=some (.cells #[.int .i64 a1_0, .int .i64 a1_1, .int .i64 a1_2] 44 (0,0)))∧jC (Below w.heap.size w wc))
 case first =>
  have H:=HC3.out
  clear HC3
  by_cases c8:a1_0=0
  ·rw [if_pos c8] at H
   have c8b0:(a1_0 == 0)=true:=beq_iff_eq.mpr c8
   have c8b1:(a1_0 != 0)=false:=bne_eq_false_iff_eq.mpr c8
   clear c8
   (first | rw [c8b0] |(simp only [jbb,jdb];rw [c8b0]) | skip)
   have H':=am H
   clear H
   go_wp2
   go_meet
   case rel=>exact ⟨_,((a1_0 == 0)),(sq),H',⟨Y34⟩,⟨kq BK108.out⟩,⟨kq BK109.out⟩,⟨Y22⟩⟩
  ·rw [if_neg c8] at H
   have c8b0:(a1_0 == 0)=false:=beq_eq_false_iff_ne.mpr c8
   have c8b1:(a1_0 != 0)=true:=bne_iff_ne.mpr c8
   (first | rw [c8b0] |(simp only [jbb,jdb];rw [c8b0]) | skip)
   have H':=am H
   clear H
   go_wp2
   go_meet
   case rel=>exact ⟨_,((a1_0 == 1)),(sq),H',⟨Y34⟩,⟨kq BK108.out⟩,⟨kq BK109.out⟩,⟨Y22⟩⟩
 case rest =>
  clear HC3
  try clear p2
  try clear c6
  try clear c8
  try clear c8b0
  try clear c8b1
  try clear hcz7_0
  try clear hcz7_1
  try clear hcz7_2
  try clear hfz7_0
  try clear hfz7_1
  try clear hfz7_2
  obtain ⟨kq,x7_2,rfl,HA,HJ2,BK108,BK109,HB⟩:=hcut
  cases kq with
  | zero=>exact absurd HA.out (by simp [jxa.j0])
  | succ kj2 =>
   have H:=HA.out
   clear HA
   simp only [jxa.j0] at H
   by_cases c9:x7_2=true
   ·subst c9
    have H1:((jsa.f a1_1 0 99).bind fun t110=>(if t110=true then (some (a1_2 == 0)) else (some false)))=some r:=by rw [if_pos rfl] at H;exact H
    clear H
    have H:=H1
    clear H1
    replace H:=bzS H
    obtain ⟨t110,A100,H⟩:=H
    replace H:(if t110=true then (some (a1_2 == 0)) else (some false))=some r:=H
    have A10:=am A100
    clear A100
    by_cases c11:t110=true
    ·subst c11
     have H1:(some (a1_2 == 0))=some r:=by rw [if_pos rfl] at H;exact H
     clear H
     have H:=H1
     clear H1
     obtain rfl:=Option.some.inj H
     have hnb12:=NB109_108.out
     have hnc12:=NB108_109.out
     have hcz13_0:=bc0 BK109.out
     have hcz13_1:=bc1 BK109.out
     have hcz13_2:=bc2 BK109.out
     have hfz13_0:=ja BK109.out 0
     have hfz13_1:=ja BK109.out 1
     have hfz13_2:=ja BK109.out 2
     go_wp2_with (first |((with_reducible refine jy (f:=92) rfl ?_);refine gL (some 12) Try.func92 #[.int .i64 a1_1, .int .i64 0, .int .i64 99] ?_;(with_reducible refine (jsa.calls a1_1 0 99 true _ A10.out).mono ?_);rintro e w' ⟨rfl,⟨nd,rfl⟩⟩;refine ⟨_,rfl,?_⟩))
     go_ret
     exact ⟨Y1,Y22⟩
    ·replace c11:=Bool.eq_false_iff.mpr c11
     subst c11
     have H1:(some false)=some r:=by rw [if_neg (show ¬ (false=true) by decide)] at H;exact H
     clear H
     have H:=H1
     clear H1
     obtain rfl:=Option.some.inj H
     have hnb14:=NB109_108.out
     have hnc14:=NB108_109.out
     have hcz15_0:=bc0 BK109.out
     have hcz15_1:=bc1 BK109.out
     have hcz15_2:=bc2 BK109.out
     have hfz15_0:=ja BK109.out 0
     have hfz15_1:=ja BK109.out 1
     have hfz15_2:=ja BK109.out 2
     go_wp2_with (first |((with_reducible refine jy (f:=92) rfl ?_);refine gL (some 12) Try.func92 #[.int .i64 a1_1, .int .i64 0, .int .i64 99] ?_;(with_reducible refine (jsa.calls a1_1 0 99 false _ A10.out).mono ?_);rintro e w' ⟨rfl,⟨nd,rfl⟩⟩;refine ⟨_,rfl,?_⟩))
     go_ret
     exact ⟨Y1,Y22⟩
   ·replace c9:=Bool.eq_false_iff.mpr c9
    subst c9
    have H1:(if a1_0=2 then ((jWa.f l0_0 a1_1).bind fun t111=>(if t111=true then (some (a1_2 == 0)) else (some false))) else (if a1_0=3 then ((jWa.f l0_0 a1_1).bind fun t112=>(if t112=true then ((jsa.f a1_2 0 99).bind fun t113=>(some t113)) else (some false))) else (some false)))=some r:=by rw [if_neg (show ¬ (false=true) by decide)] at H;exact H
    clear H
    have H:=H1
    clear H1
    by_cases c16:a1_0=2
    ·rw [if_pos c16] at H
     have c16b0:(a1_0 == 2)=true:=beq_iff_eq.mpr c16
     have c16b1:(a1_0 != 2)=false:=bne_eq_false_iff_eq.mpr c16
     clear c16
     replace H:=bzS H
     obtain ⟨t111,A170,H⟩:=H
     replace H:(if t111=true then (some (a1_2 == 0)) else (some false))=some r:=H
     have A17:=am A170
     clear A170
     by_cases c18:t111=true
     ·subst c18
      have H1:(some (a1_2 == 0))=some r:=by rw [if_pos rfl] at H;exact H
      clear H
      have H:=H1
      clear H1
      obtain rfl:=Option.some.inj H
      have hnb19:=NB108_109.out
      have hnc19:=NB109_108.out
      have hcz20_0:=bc0 BK108.out
      have hfz20_0:=ja BK108.out 0
      have hcz21_0:=bc0 BK109.out
      have hcz21_1:=bc1 BK109.out
      have hcz21_2:=bc2 BK109.out
      have hfz21_0:=ja BK109.out 0
      have hfz21_1:=ja BK109.out 1
      have hfz21_2:=ja BK109.out 2
      go_wp2_with (first |((with_reducible refine jy (f:=93) rfl ?_);refine gL (some 23) Try.func93 #[.agg #[.slice A0_0 l0_0.length c0_0], .int .i64 a1_1] ?_;(with_reducible refine (jWa.calls _ _ l0_0 a1_1 true _ ?side1 ?side2 A17.out).mono ?_);(case side1=>exact cq (Kd.joa HR0_0.out HB.out));(case side2=>exact HC0_0.out);rintro e w22 ⟨rfl,hb⟩;refine ⟨_,rfl,?_⟩;replace BK108:=am (jb (g:=gb108) (o:=.cells #[.slice A0_0 l0_0.length c0_0] 31 (0,0)) (kq BK108.out) hb);replace BK109:=am (jb (g:=gb109) (o:=.cells #[.int .i64 a1_0, .int .i64 a1_1, .int .i64 a1_2] 44 (0,0)) (kq BK109.out) hb);replace HB:=am (jg (Y22) hb);(try clear hb);(try clear hb2);(try clear hk);(try clear hi);have hcz23_0:=bc0 BK109.out;have hcz23_1:=bc1 BK109.out;have hcz23_2:=bc2 BK109.out;have hfz23_0:=ja BK109.out 0;have hfz23_1:=ja BK109.out 1;have hfz23_2:=ja BK109.out 2))
      go_ret
      exact ⟨Y1,Y22⟩
     ·replace c18:=Bool.eq_false_iff.mpr c18
      subst c18
      have H1:(some false)=some r:=by rw [if_neg (show ¬ (false=true) by decide)] at H;exact H
      clear H
      have H:=H1
      clear H1
      obtain rfl:=Option.some.inj H
      have hnb24:=NB108_109.out
      have hnc24:=NB109_108.out
      have hcz25_0:=bc0 BK108.out
      have hfz25_0:=ja BK108.out 0
      have hcz26_0:=bc0 BK109.out
      have hcz26_1:=bc1 BK109.out
      have hcz26_2:=bc2 BK109.out
      have hfz26_0:=ja BK109.out 0
      have hfz26_1:=ja BK109.out 1
      have hfz26_2:=ja BK109.out 2
      go_wp2_with (first |((with_reducible refine jy (f:=93) rfl ?_);refine gL (some 23) Try.func93 #[.agg #[.slice A0_0 l0_0.length c0_0], .int .i64 a1_1] ?_;(with_reducible refine (jWa.calls _ _ l0_0 a1_1 false _ ?side1 ?side2 A17.out).mono ?_);(case side1=>exact cq (Kd.joa HR0_0.out HB.out));(case side2=>exact HC0_0.out);rintro e w27 ⟨rfl,hb⟩;refine ⟨_,rfl,?_⟩;replace BK108:=am (jb (g:=gb108) (o:=.cells #[.slice A0_0 l0_0.length c0_0] 31 (0,0)) (kq BK108.out) hb);replace BK109:=am (jb (g:=gb109) (o:=.cells #[.int .i64 a1_0, .int .i64 a1_1, .int .i64 a1_2] 44 (0,0)) (kq BK109.out) hb);replace HB:=am (jg (Y22) hb);(try clear hb);(try clear hb2);(try clear hk);(try clear hi)))
      go_ret
      exact ⟨Y1,Y22⟩
    ·rw [if_neg c16] at H
     have c16b0:(a1_0 == 2)=false:=beq_eq_false_iff_ne.mpr c16
     have c16b1:(a1_0 != 2)=true:=bne_iff_ne.mpr c16
     by_cases c28:a1_0=3
     ·rw [if_pos c28] at H
      have c28b0:(a1_0 == 3)=true:=beq_iff_eq.mpr c28
      have c28b1:(a1_0 != 3)=false:=bne_eq_false_iff_eq.mpr c28
      clear c28
      replace H:=bzS H
      obtain ⟨t112,A290,H⟩:=H
      replace H:(if t112=true then ((jsa.f a1_2 0 99).bind fun t113=>(some t113)) else (some false))=some r:=H
      have A29:=am A290
      clear A290
      by_cases c30:t112=true
      ·subst c30
       have H1:((jsa.f a1_2 0 99).bind fun t113=>(some t113))=some r:=by rw [if_pos rfl] at H;exact H
       clear H
       have H:=H1
       clear H1
       replace H:=bzS H
       obtain ⟨t113,A310,H⟩:=H
       replace H:(some t113)=some r:=H
       have A31:=am A310
       clear A310
       obtain rfl:=Option.some.inj H
       have hnb32:=NB108_109.out
       have hnc32:=NB109_108.out
       have hcz33_0:=bc0 BK108.out
       have hfz33_0:=ja BK108.out 0
       have hcz34_0:=bc0 BK109.out
       have hcz34_1:=bc1 BK109.out
       have hcz34_2:=bc2 BK109.out
       have hfz34_0:=ja BK109.out 0
       have hfz34_1:=ja BK109.out 1
       have hfz34_2:=ja BK109.out 2
       go_wp2_with (first |((with_reducible refine jy (f:=93) rfl ?_);refine gL (some 34) Try.func93 #[.agg #[.slice A0_0 l0_0.length c0_0], .int .i64 a1_1] ?_;(with_reducible refine (jWa.calls _ _ l0_0 a1_1 true _ ?side1 ?side2 A29.out).mono ?_);(case side1=>exact cq (Kd.joa HR0_0.out HB.out));(case side2=>exact HC0_0.out);rintro e w35 ⟨rfl,hb⟩;refine ⟨_,rfl,?_⟩;replace BK108:=am (jb (g:=gb108) (o:=.cells #[.slice A0_0 l0_0.length c0_0] 31 (0,0)) (kq BK108.out) hb);replace BK109:=am (jb (g:=gb109) (o:=.cells #[.int .i64 a1_0, .int .i64 a1_1, .int .i64 a1_2] 44 (0,0)) (kq BK109.out) hb);replace HB:=am (jg (Y22) hb);(try clear hb);(try clear hb2);(try clear hk);(try clear hi);have hcz36_0:=bc0 BK109.out;have hcz36_1:=bc1 BK109.out;have hcz36_2:=bc2 BK109.out;have hfz36_0:=ja BK109.out 0;have hfz36_1:=ja BK109.out 1;have hfz36_2:=ja BK109.out 2) |(go_at_call 92;(with_reducible refine (jsa.calls a1_2 0 99 t113 _ A31.out).mono ?_);rintro e w' ⟨rfl,⟨nd,rfl⟩⟩))
       go_ret
       exact ⟨Y1,Y22⟩
      ·replace c30:=Bool.eq_false_iff.mpr c30
       subst c30
       have H1:(some false)=some r:=by rw [if_neg (show ¬ (false=true) by decide)] at H;exact H
       clear H
       have H:=H1
       clear H1
       obtain rfl:=Option.some.inj H
       have hnb37:=NB108_109.out
       have hnc37:=NB109_108.out
       have hcz38_0:=bc0 BK108.out
       have hfz38_0:=ja BK108.out 0
       have hcz39_0:=bc0 BK109.out
       have hcz39_1:=bc1 BK109.out
       have hcz39_2:=bc2 BK109.out
       have hfz39_0:=ja BK109.out 0
       have hfz39_1:=ja BK109.out 1
       have hfz39_2:=ja BK109.out 2
       go_wp2_with (first |((with_reducible refine jy (f:=93) rfl ?_);refine gL (some 34) Try.func93 #[.agg #[.slice A0_0 l0_0.length c0_0], .int .i64 a1_1] ?_;(with_reducible refine (jWa.calls _ _ l0_0 a1_1 false _ ?side1 ?side2 A29.out).mono ?_);(case side1=>exact cq (Kd.joa HR0_0.out HB.out));(case side2=>exact HC0_0.out);rintro e w40 ⟨rfl,hb⟩;refine ⟨_,rfl,?_⟩;replace BK108:=am (jb (g:=gb108) (o:=.cells #[.slice A0_0 l0_0.length c0_0] 31 (0,0)) (kq BK108.out) hb);replace BK109:=am (jb (g:=gb109) (o:=.cells #[.int .i64 a1_0, .int .i64 a1_1, .int .i64 a1_2] 44 (0,0)) (kq BK109.out) hb);replace HB:=am (jg (Y22) hb);(try clear hb);(try clear hb2);(try clear hk);(try clear hi)))
       go_ret
       exact ⟨Y1,Y22⟩
     ·rw [if_neg c28] at H
      have c28b0:(a1_0 == 3)=false:=beq_eq_false_iff_ne.mpr c28
      have c28b1:(a1_0 != 3)=true:=bne_iff_ne.mpr c28
      obtain rfl:=Option.some.inj H
      go_wp2
      go_ret
      exact ⟨Y1,Y22⟩
def jEa.l0 : Nat → ByteArray → Int → Option (Bool)
 | 0,_,_=>none
 | k+1,x0,x3=>if x3<(x0.size:Int) then (if 0≤x3 then (if (bt x0 x3)<97 then (some false) else (if (bt x0 x3) > 122 then (some false) else (jEa.l0 k x0 (wrap64 (x3+1))))) else (none)) else ((jsa.f (x0.size:Int) 1 6).bind fun t114=>(some t114))
def jEa.f (k : Nat) (a0 : ByteArray) : Option (Bool) := jEa.l0 k a0 0
set_option maxHeartbeats 8000000 in
set_option maxRecDepth 100000 in
theorem jEa.calls (k : Nat) (a0 : ByteArray) (r : Bool) (w : World) (h : jEa.f k a0 = some r) :
  Calls Try.prog 94 #[.string a0] w fun e w'=>e=.returned (.bool r)∧jmb w w':=by
 have H:(jEa.l0 k a0 0)=some r:=h
 clear h
 have H':=am H
 clear H
 go_enter Try.func94,Try.ntmps94
 go_wp2
 go_loopg [3] k (fun kq v3 w'=>∃ (x3_1:Int),v3=.int .i64 x3_1∧jC (jEa.l0 kq a0 x3_1=some r)∧jC (kq≤k)∧jmb w w')
 case atStart=>exact ⟨(0),(sq),H',⟨Nat.le_refl _⟩,Y5⟩
 case round =>
  clear H'
  obtain ⟨x3_1,rfl,HA,HK1,⟨m1,rfl⟩⟩:=hrel
  cases gk with
  | zero=>exact absurd HA.out (by simp [jEa.l0])
  | succ k1 =>
   have H:=HA.out
   clear HA
   simp only [jEa.l0] at H
   by_cases c2:x3_1<(a0.size:Int)
   ·rw [if_pos c2] at H
    have c2b0:decide (x3_1<(a0.size:Int))=true:=dzT c2
    clear c2
    by_cases c3:0≤x3_1
    ·rw [if_pos c3] at H
     have c3b0:decide (0≤x3_1)=true:=dzT c3
     clear c3
     by_cases c5:(bt a0 x3_1)<97
     ·rw [if_pos c5] at H
      have c5b0:decide ((bt a0 x3_1)<97)=true:=dzT c5
      clear c5
      obtain rfl:=Option.some.inj H
      have p4:0≤(x3_1:Int):=ozD (uq)
      have q4:x3_1<(a0.size:Int):=ozD (uq)
      have hx4:=bt_at a0 x3_1
      replace p4:=ezT p4
      replace q4:=ezT q4
      go_wp2
      go_ret
      exact ⟨sq,Y5⟩
     ·rw [if_neg c5] at H
      have c5b0:decide ((bt a0 x3_1)<97)=false:=dzF c5
      clear c5
      by_cases c7:(bt a0 x3_1) > 122
      ·rw [if_pos c7] at H
       have c7b0:decide (122<(bt a0 x3_1))=true:=dzT c7
       clear c7
       obtain rfl:=Option.some.inj H
       have p4:0≤(x3_1:Int):=ozD (uq)
       have q4:x3_1<(a0.size:Int):=ozD (uq)
       have hx4:=bt_at a0 x3_1
       replace p4:=ezT p4
       replace q4:=ezT q4
       have p6:0≤(x3_1:Int):=ozD (uq)
       have q6:x3_1<(a0.size:Int):=ozD (uq)
       have hx6:=bt_at a0 x3_1
       replace p6:=ezT p6
       replace q6:=ezT q6
       go_wp2
       go_ret
       exact ⟨sq,Y5⟩
      ·rw [if_neg c7] at H
       have c7b0:decide (122<(bt a0 x3_1))=false:=dzF c7
       clear c7
       have H':=am H
       clear H
       have p4:0≤(x3_1:Int):=ozD (uq)
       have q4:x3_1<(a0.size:Int):=ozD (uq)
       have hx4:=bt_at a0 x3_1
       replace p4:=ezT p4
       replace q4:=ezT q4
       have p6:0≤(x3_1:Int):=ozD (uq)
       have q6:x3_1<(a0.size:Int):=ozD (uq)
       have hx6:=bt_at a0 x3_1
       replace p6:=ezT p6
       replace q6:=ezT q6
       go_wp2
       go_roundg k1
       case measure=>have:=HK1.out;omega
       case rel=>exact ⟨(wrap64 (x3_1+1)),(sq),H',⟨by have:=HK1.out;omega⟩,Y5⟩
    ·rw [if_neg c3] at H
     exact absurd H (by simp)
   ·rw [if_neg c2] at H
    have c2b0:decide (x3_1<(a0.size:Int))=false:=dzF c2
    clear c2
    replace H:=bzS H
    obtain ⟨t114,A80,H⟩:=H
    replace H:(some t114)=some r:=H
    have A8:=am A80
    clear A80
    obtain rfl:=Option.some.inj H
    go_wp2_with (first |((with_reducible refine jy (f:=92) rfl ?_);refine gL (some 22) Try.func92 #[.int .i64 (a0.size:Int), .int .i64 1, .int .i64 6] ?_;(with_reducible refine (jsa.calls (a0.size:Int) 1 6 t114 _ A8.out).mono ?_);rintro e w' ⟨rfl,⟨nd,rfl⟩⟩;refine ⟨_,rfl,?_⟩))
    go_ret
    exact ⟨sq,Y5⟩
def jza.l0 : Nat → List (S106) → ByteArray → Int → Option (Int)
 | 0,_,_,_=>none
 | k+1,x0,x1,x5=>if x5<(x0.length:Int) then (if 0≤x5 then (if ((jI x0 x5).f0).toList=x1.toList then (some x5) else (jza.l0 k x0 x1 (wrap64 (x5+1)))) else (none)) else (some (-1))
def jza.f (k : Nat) (l0 : List (S106)) (a1 : ByteArray) : Option (Int) := jza.l0 k l0 a1 0
set_option maxHeartbeats 8000000 in
set_option maxRecDepth 100000 in
theorem jza.calls (k : Nat) (A0 : Option Addr) (c0 : Nat) (l0 : List (S106)) (a1 : ByteArray) (r : Int) (w : World) (hr0 : Kd.C k106 w A0 l0.length l0) (hc0 : l0.length ≤ c0) (h : jza.f k l0 a1 = some r) :
  Calls Try.prog 95 #[.slice A0 l0.length c0, .string a1] w fun e w'=>e=.returned (.int .i64 r)∧jmb w w':=by
 have HR0:=am hr0
 have HC0:=am hc0
 clear hr0 hc0
 have H:(jza.l0 k l0 a1 0)=some r:=h
 clear h
 have H':=am H
 clear H
 go_enter Try.func95,Try.ntmps95
 go_wp2
 go_loopg [5] k (fun kq v5 w'=>∃ (x5_1:Int),v5=.int .i64 x5_1∧jC (jza.l0 kq l0 a1 x5_1=some r)∧jC (kq≤k)∧jmb w w')
 case atStart=>exact ⟨(0),(sq),H',⟨Nat.le_refl _⟩,Y5⟩
 case round =>
  clear H'
  try clear p2
  obtain ⟨x5_1,rfl,HA,HK1,⟨m1,rfl⟩⟩:=hrel
  cases gk with
  | zero=>exact absurd HA.out (by simp [jza.l0])
  | succ k1 =>
   have H:=HA.out
   clear HA
   simp only [jza.l0] at H
   by_cases c3:x5_1<(l0.length:Int)
   ·rw [if_pos c3] at H
    have c3b0:decide (x5_1<(l0.length:Int))=true:=dzT c3
    clear c3
    by_cases c4:0≤x5_1
    ·rw [if_pos c4] at H
     have c4b0:decide (0≤x5_1)=true:=dzT c4
     clear c4
     by_cases c5:((jI l0 x5_1).f0).toList=a1.toList
     ·rw [if_pos c5] at H
      have c5b0:(((jI l0 x5_1).f0).toList == a1.toList)=true:=beq_iff_eq.mpr c5
      have c5b1:(((jI l0 x5_1).f0).toList != a1.toList)=false:=bne_eq_false_iff_eq.mpr c5
      clear c5
      obtain rfl:=Option.some.inj H
      have p115:0≤(x5_1:Int):=ozD (uq)
      have q115:x5_1<(l0.length:Int):=ozD (uq)
      obtain ⟨ad115,e115,hx115_0,hx115_1⟩:=at_T106 HR0.out x5_1 p115 q115
      cases e115
      replace p115:=ezT p115
      replace q115:=ezT q115
      go_wp2
      go_ret
      exact ⟨sq,Y5⟩
     ·rw [if_neg c5] at H
      have c5b0:(((jI l0 x5_1).f0).toList == a1.toList)=false:=beq_eq_false_iff_ne.mpr c5
      have c5b1:(((jI l0 x5_1).f0).toList != a1.toList)=true:=bne_iff_ne.mpr c5
      have H':=am H
      clear H
      have p115:0≤(x5_1:Int):=ozD (uq)
      have q115:x5_1<(l0.length:Int):=ozD (uq)
      obtain ⟨ad115,e115,hx115_0,hx115_1⟩:=at_T106 HR0.out x5_1 p115 q115
      cases e115
      replace p115:=ezT p115
      replace q115:=ezT q115
      go_wp2
      go_roundg k1
      case measure=>have:=HK1.out;omega
      case rel=>exact ⟨(wrap64 (x5_1+1)),(sq),H',⟨by have:=HK1.out;omega⟩,Y5⟩
    ·rw [if_neg c4] at H
     exact absurd H (by simp)
   ·rw [if_neg c3] at H
    have c3b0:decide (x5_1<(l0.length:Int))=false:=dzF c3
    clear c3
    obtain rfl:=Option.some.inj H
    go_wp2
    go_ret
    exact ⟨sq,Y5⟩
mutual
def jM.l0 : Nat → Int → List (S106) → Option (Bool)
 | 0,_,_=>none
 | k+1,x3,x155000=>if x3<(x155000.length:Int) then (if 0≤x3 then ((jEa.f k ((jI x155000 x3).f0)).bind fun t158=>(if t158=true then (if x3≤(x155000.length:Int) then ((jza.f k (x155000.take (x3:Int).toNat) ((jI x155000 x3).f0)).bind fun t163=>(if t163≥0 then (jM.j1 k x3 true x155000) else (if x3=0 then (if ((jI x155000 x3).f1)=(-1) then (if x3 > 0 then ((jsa.f ((jI x155000 x3).f1) 0 (wrap64 (x3 - 1))).bind fun t164=>(jM.j1 k x3 (!t164) x155000)) else (jM.j1 k x3 false x155000)) else (jM.j1 k x3 true x155000)) else (if x3 > 0 then ((jsa.f ((jI x155000 x3).f1) 0 (wrap64 (x3 - 1))).bind fun t165=>(jM.j1 k x3 (!t165) x155000)) else (jM.j1 k x3 false x155000))))) else (none)) else (jM.j1 k x3 true x155000))) else (none)) else ((jsa.f (x155000.length:Int) 1 8).bind fun t155=>(some t155))
def jM.j1 : Nat → Int → Bool → List (S106) → Option (Bool)
 | 0,_,_,_=>none
 | k+1,x3,x51,x155000=>if x51=true then (some false) else (jM.l0 k (wrap64 (x3+1)) x155000)
end
def jM.f (k : Nat) (l0_0 : List (S106)) : Option (Bool) := jM.l0 k 0 l0_0
set_option maxHeartbeats 8000000 in
set_option maxRecDepth 100000 in
theorem jM.calls (k : Nat) (A0_0 : Option Addr) (c0_0 : Nat) (l0_0 : List (S106)) (r : Bool) (w : World) (hr0_0 : Kd.C k106 w A0_0 l0_0.length l0_0) (hc0_0 : l0_0.length ≤ c0_0) (h : jM.f k l0_0 = some r) :
  Calls Try.prog 67 #[.agg #[.slice A0_0 l0_0.length c0_0]] w fun e w'=>e=.returned (.bool r)∧Below w.heap.size w w':=by
 have hu31:=Try.underlying31
 have hu106:=Try.underlying106
 have HR0_0:=am hr0_0
 have HC0_0:=am hc0_0
 clear hr0_0 hc0_0
 have HB:=am (Below.refl w.heap.size w)
 have H:(jM.l0 k 0 l0_0)=some r:=h
 clear h
 have H':=am H
 clear H
 go_enter Try.func67,Try.ntmps67
 go_wp2_with (first |((with_reducible refine jH (N:=1) rfl ?_);refine bE (N:=1) (cs:=#[.slice A0_0 l0_0.length c0_0]) (t:=31) ?_;intro gb154 hg w2 hbox hb;have BK154:=am (hbox);have GW154:=am ((Y2:w.heap.size≤gb154));have GE154:=am ((Y2:w.heap.size≤gb154));replace HB:=am (jg (bq) hb);clear hb hbox hg))
 go_loopg [3] k (fun kq v3 w'=>∃ (x3_1:Int),v3=.int .i64 x3_1∧jC (jM.l0 kq x3_1 l0_0=some r)∧jC (kq≤k)∧jC (w'.heap[gb154]?=some (.cells #[(.slice A0_0 l0_0.length c0_0)] 31 (0,0)))∧jC (Below w.heap.size w w'))
 case atStart=>exact ⟨(0),(sq),H',⟨Nat.le_refl _⟩,⟨kq BK154.out⟩,⟨Y112⟩⟩
 case round =>
  clear H'
  try clear c1
  try clear p2
  obtain ⟨x3_1,rfl,HA,HK1,BK154,HB⟩:=hrel
  cases gk with
  | zero=>exact absurd HA.out (by simp [jM.l0])
  | succ k1 =>
   have H:=HA.out
   clear HA
   simp only [jM.l0] at H
   by_cases c3:x3_1<(l0_0.length:Int)
   ·rw [if_pos c3] at H
    have c3b0:decide (x3_1<(l0_0.length:Int))=true:=dzT c3
    clear c3
    by_cases c4:0≤x3_1
    ·rw [if_pos c4] at H
     have c4b0:decide (0≤x3_1)=true:=dzT c4
     clear c4
     have HC5:=am H
     clear H
     have hcz6_0:=bc0 BK154.out
     have hfz6_0:=ja BK154.out 0
     have p156:0≤(x3_1:Int):=ozD (uq)
     have q156:x3_1<(l0_0.length:Int):=ozD (uq)
     obtain ⟨ad156,e156,hx156_0,hx156_1⟩:=at_T106 HR0_0.out x3_1 p156 q156
     cases e156
     replace hx156_0:=cb HB.out hx156_0
     replace hx156_1:=cb HB.out hx156_1
     replace p156:=ezT p156
     replace q156:=ezT q156
     go_upto_region 5 with (first |((with_reducible refine jH (N:=4) rfl ?_);refine bE (N:=4) (cs:=#[.string (⟨#[]⟩:ByteArray), .int .i64 0]) (t:=106) ?_;intro gb157 hg w7 hbox hb;have BK157:=am (hbox);have GW157:=am ((Y197:w.heap.size≤gb157));have GE157:=am ((Y197:w.heap.size≤gb157));have NB154_157:=am ((by rw [hg];exact Nat.ne_of_lt (jpa (g:=gb154) (o:=.cells #[.slice (some ad156) l0_0.length c0_0] 31 (0,0)) (kq BK154.out)):gb154≠gb157));have NB157_154:=am ((by rw [hg];exact Nat.ne_of_gt (jpa (g:=gb154) (o:=.cells #[.slice (some ad156) l0_0.length c0_0] 31 (0,0)) (kq BK154.out)):gb157≠gb154));replace BK154:=am (jb (g:=gb154) (o:=.cells #[.slice (some ad156) l0_0.length c0_0] 31 (0,0)) (kq BK154.out) hb);replace HB:=am (jg (Y112) hb);clear hb hbox hg;have hnb8:=NB157_154.out;have hnc8:=NB154_157.out;have hcz9_0:=bc0 BK157.out;have hcz9_1:=bc1 BK157.out;have hfz9_0:=ja BK157.out 0;have hfz9_1:=ja BK157.out 1))
     (try simp only [Act.put,List.setIfInBounds_toArray,List.set_cons_zero,List.set_cons_succ])
     go_cut [51] (fun v51 wc=>∃ (kq:Nat) (x51_4:Bool),v51=.bool x51_4∧jC (jM.j1 kq x3_1 x51_4 l0_0=some r)∧jC (kq≤k1)∧jC (wc.heap[gb154]?=some (.cells #[(.slice (some ad156) l0_0.length c0_0)] 31 (0,0)))∧jC (wc.heap[gb157]?=some (.cells #[.string ((jI l0_0 x3_1).f0), .int .i64 ((jI l0_0 x3_1).f1)] 106 (0,0)))∧jC (Below w.heap.size w wc))
     case first =>
      have n0_:jC (((w7.setCell ⟨gb157,0,none⟩ (.string ((jI l0_0 x3_1).f0))).setCell ⟨gb157,1,none⟩ (.int .i64 ((jI l0_0 x3_1).f1))).heap[gb154]?=some (.cells #[.slice (some ad156) l0_0.length c0_0] 31 (0,0))):=⟨by (with_reducible repeat (first | refine je ?_ _ | refine jf ?_ | refine jc ?_ _));refine jZ ?_ NB154_157.out _;(with_reducible repeat (first | refine je ?_ _ | refine jf ?_ | refine jc ?_ _));refine jZ ?_ NB154_157.out _;(with_reducible repeat (first | refine je ?_ _ | refine jf ?_ | refine jc ?_ _));exact BK154.out⟩
      have n1_:jC (((w7.setCell ⟨gb157,0,none⟩ (.string ((jI l0_0 x3_1).f0))).setCell ⟨gb157,1,none⟩ (.int .i64 ((jI l0_0 x3_1).f1))).heap[gb157]?=some (.cells #[.string ((jI l0_0 x3_1).f0), .int .i64 ((jI l0_0 x3_1).f1)] 106 (0,0))):=⟨by (with_reducible repeat (first | refine je ?_ _ | refine jf ?_ | refine jc ?_ _));refine jU (cs:=#[.string ((jI l0_0 x3_1).f0), .int .i64 0]) ?_ 1 _ rfl;(with_reducible repeat (first | refine je ?_ _ | refine jf ?_ | refine jc ?_ _));refine jU (cs:=#[.string (⟨#[]⟩:ByteArray), .int .i64 0]) ?_ 0 _ rfl;(with_reducible repeat (first | refine je ?_ _ | refine jf ?_ | refine jc ?_ _));exact BK157.out⟩
      have n2_:jC (Below w.heap.size w ((w7.setCell ⟨gb157,0,none⟩ (.string ((jI l0_0 x3_1).f0))).setCell ⟨gb157,1,none⟩ (.int .i64 ((jI l0_0 x3_1).f1)))):=⟨Y113⟩
      clear BK154 BK157 HB hcz9_0 hcz9_1 hfz9_0 hfz9_1
      generalize ((w7.setCell ⟨gb157,0,none⟩ (.string ((jI l0_0 x3_1).f0))).setCell ⟨gb157,1,none⟩ (.int .i64 ((jI l0_0 x3_1).f1)))=w16 at n0_ n1_ n2_ ⊢
      have BK154:=n0_
      have BK157:=n1_
      have HB:=n2_
      clear n0_ n1_ n2_
      have HRW:=am (Kd.joa HR0_0.out HB.out)
      have e0:w16.cell? ⟨gb157,0,none⟩=some (.string ((jI l0_0 x3_1).f0)):=(jh BK157.out 0).trans rfl
      have e1:w16.cell? ⟨gb157,1,none⟩=some (.int .i64 ((jI l0_0 x3_1).f1)):=(jh BK157.out 1).trans rfl
      have e2:w16.cell? ⟨gb154,0,none⟩=some (.slice (some ad156) l0_0.length c0_0):=(jh BK154.out 0).trans rfl
      have H:=HC5.out
      clear HC5
      obtain ⟨v,hv,H⟩:=bzS H
      have HN:=am (fun W=>(jEa.calls k1 _ v W hv).mono fun e w' h=>(⟨h.1,h.2.out⟩:e=.returned (.bool v)∧∃ m,w'=W.drewN m))
      clear hv hx156_0 hx156_1
      generalize hgx:jI l0_0 x3_1=x at H e0 e1 HN BK157
      have HGX:=am hgx
      clear hgx
      cases v with
      | false =>
       have H':=am (show jM.j1 k1 x3_1 true l0_0=some r from H)
       clear H
       go_big_quiet ((go_at_call 94;exact Calls.quiet_of (HN.out _)))
       go_wp2
       go_meet
       case rel=>exact ⟨_,_,rfl,H',⟨by have:=HK1.out;omega⟩,⟨je BK154.out _⟩,⟨by rw [HGX.out];exact je BK157.out _⟩,⟨jq HB.out _⟩⟩
      | true =>
       replace H:(if x3_1≤(l0_0.length:Int) then ((jza.f k1 (l0_0.take (x3_1:Int).toNat) x.f0).bind fun t163=>(if t163≥0 then (jM.j1 k1 x3_1 true l0_0) else (if x3_1=0 then (if x.f1=(-1) then (if x3_1 > 0 then ((jsa.f x.f1 0 (wrap64 (x3_1 - 1))).bind fun t164=>(jM.j1 k1 x3_1 (!t164) l0_0)) else (jM.j1 k1 x3_1 false l0_0)) else (jM.j1 k1 x3_1 true l0_0)) else (if x3_1 > 0 then ((jsa.f x.f1 0 (wrap64 (x3_1 - 1))).bind fun t165=>(jM.j1 k1 x3_1 (!t165) l0_0)) else (jM.j1 k1 x3_1 false l0_0))))) else (none))=some r:=H
       have hle:x3_1≤(l0_0.length:Int):=by have:=ozD c3b0;omega
       have h0:0≤x3_1:=ozD c4b0
       rw [if_pos hle] at H
       obtain ⟨c,hc,H⟩:=bzS H
       obtain ⟨i0,hi0,_,_,_⟩:=info_parts info106
       have hcut:=cut_to (P:=Try.prog) 29 106 .i64 Try.underlying29 hi0 (some ad156) l0_0.length c0_0 x3_1 h0 hle HC0_0.out
       have hr18:=Kd.C_take (m:=(x3_1:Int).toNat) HRW.out (by omega)
       obtain ⟨y,hy⟩:∃ y:List S106,y=l0_0.take (x3_1:Int).toNat:=⟨_,rfl⟩
       have hyl:y.length=(x3_1:Int).toNat:=by rw [hy,List.length_take];omega
       have hyc:y.length≤c0_0:=by have:=HC0_0.out;omega
       rw [← hy] at hr18
       rw [← hyl] at hcut
       rw [← hy] at hc
       have HCN:=am (fun m=>(jza.calls k1 _ _ y x.f0 c (w16.drewN m) (Kd.C_drewN hr18 m) hyc hc).mono fun e w' h=>(⟨h.1,h.2.out⟩:e=.returned (.int .i64 c)∧∃ m',w'=(w16.drewN m).drewN m'))
       clear hr18 hc hy hyl hyc
       have b0:=ezT h0
       have b1:=ezT hle
       by_cases hc0:c≥0
       ·rw [if_pos hc0] at H
        have b2:decide (0≤c)=true:=dzT hc0
        have H':=am H
        clear H hc0 h0 hle
        go_big_quiet (first |(go_at_call 94;exact Calls.quiet_of (HN.out _)) |(go_at_call 95;exact Calls.quiet_of (HCN.out _)))
        go_wp2
        go_meet
        case rel=>exact ⟨_,_,rfl,H',⟨by have:=HK1.out;omega⟩,⟨je BK154.out _⟩,⟨by rw [HGX.out];exact je BK157.out _⟩,⟨jq HB.out _⟩⟩
       ·rw [if_neg hc0] at H
        have b2:decide (0≤c)=false:=dzF hc0
        clear hc0
        by_cases hz:x3_1=0
        ·rw [if_pos hz] at H
         have b3:(x3_1 == 0)=true:=beq_iff_eq.2 hz
         have b4:decide (0<x3_1)=false:=dzF (by omega)
         by_cases hf:x.f1 = -1
         ·rw [if_pos hf,if_neg (by omega)] at H
          have b5:(x.f1 != -1)=false:=by simpa using hf
          have H':=am H
          clear H hf h0 hle hz
          go_big_quiet (first |(go_at_call 94;exact Calls.quiet_of (HN.out _)) |(go_at_call 95;exact Calls.quiet_of (HCN.out _)))
          go_wp2
          go_meet
          case rel=>exact ⟨_,_,rfl,H',⟨by have:=HK1.out;omega⟩,⟨je BK154.out _⟩,⟨by rw [HGX.out];exact je BK157.out _⟩,⟨jq HB.out _⟩⟩
         ·rw [if_neg hf] at H
          have b5:(x.f1 != -1)=true:=by simpa using hf
          have H':=am H
          clear H hf h0 hle hz
          go_big_quiet (first |(go_at_call 94;exact Calls.quiet_of (HN.out _)) |(go_at_call 95;exact Calls.quiet_of (HCN.out _)))
          go_wp2
          go_meet
          case rel=>exact ⟨_,_,rfl,H',⟨by have:=HK1.out;omega⟩,⟨je BK154.out _⟩,⟨by rw [HGX.out];exact je BK157.out _⟩,⟨jq HB.out _⟩⟩
        ·rw [if_neg hz,if_pos (by omega)] at H
         have b3:(x3_1 == 0)=false:=beq_eq_false_iff_ne.2 hz
         have b4:decide (0<x3_1)=true:=dzT (by omega)
         obtain ⟨t,ht,H⟩:=bzS H
         have H':=am H
         have HI:=am (fun W=>(jsa.calls _ _ _ t W ht).mono fun e w' h=>(⟨h.1,h.2.out⟩:e=.returned (.bool t)∧∃ m,w'=W.drewN m))
         clear H ht h0 hle hz
         go_big_quiet (first |(go_at_call 94;exact Calls.quiet_of (HN.out _)) |(go_at_call 95;exact Calls.quiet_of (HCN.out _)) |(go_at_call 92;exact Calls.quiet_of (HI.out _)))
         go_wp2
         go_meet
         case rel=>exact ⟨_,_,rfl,H',⟨by have:=HK1.out;omega⟩,⟨je BK154.out _⟩,⟨by rw [HGX.out];exact je BK157.out _⟩,⟨jq HB.out _⟩⟩
     case rest =>
      clear HC5
      try clear c1
      try clear c2
      try clear p2
      try clear c3
      try clear q3
      try clear p6
      try clear c11
      try clear c12
      try clear c13
      try clear c21
      try clear c32
      try clear c32b0
      try clear q39
      try clear q39
      obtain ⟨kq,x51_4,rfl,HA,HJ4,BK154,BK157,HB⟩:=hcut
      cases kq with
      | zero=>exact absurd HA.out (by simp [jM.j1])
      | succ kj4 =>
       have H:=HA.out
       clear HA
       simp only [jM.j1] at H
       by_cases c42:x51_4=true
       ·subst c42
        have H1:(some false)=some r:=by rw [if_pos rfl] at H;exact H
        clear H
        have H:=H1
        clear H1
        obtain rfl:=Option.some.inj H
        go_wp2
        go_ret
        exact ⟨Y1,Y113⟩
       ·replace c42:=Bool.eq_false_iff.mpr c42
        subst c42
        have H1:(jM.l0 kj4 (wrap64 (x3_1+1)) l0_0)=some r:=by rw [if_neg (show ¬ (false=true) by decide)] at H;exact H
        clear H
        have H:=H1
        clear H1
        have H':=am H
        clear H
        go_wp2
        go_roundg kj4
        case measure=>have:=HK1.out;have:=HJ4.out;omega
        case rel=>exact ⟨(wrap64 (x3_1+1)),(sq),H',⟨by have:=HK1.out;have:=HJ4.out;omega⟩,⟨kq BK154.out⟩,⟨Y113⟩⟩
    ·rw [if_neg c4] at H
     exact absurd H (by simp)
   ·rw [if_neg c3] at H
    have c3b0:decide (x3_1<(l0_0.length:Int))=false:=dzF c3
    clear c3
    replace H:=bzS H
    obtain ⟨t155,A430,H⟩:=H
    replace H:(some t155)=some r:=H
    have A43:=am A430
    clear A430
    obtain rfl:=Option.some.inj H
    have hcz44_0:=bc0 BK154.out
    have hfz44_0:=ja BK154.out 0
    go_wp2_with (first |((with_reducible refine jy (f:=92) rfl ?_);refine gL (some 55) Try.func92 #[.int .i64 (l0_0.length:Int), .int .i64 1, .int .i64 8] ?_;(with_reducible refine (jsa.calls (l0_0.length:Int) 1 8 t155 _ A43.out).mono ?_);rintro e w' ⟨rfl,⟨nd,rfl⟩⟩;refine ⟨_,rfl,?_⟩))
    go_ret
    exact ⟨Y1,Y112⟩
def jW.l0 : Nat → List (S44) → Int → List (S106) → Option (Bool)
 | 0,_,_,_=>none
 | k+1,x1,x5,x117000=>if x5<(x1.length:Int) then (if 0≤x5 then ((jxa.f k x117000 ((jQ x1 x5).f0) ((jQ x1 x5).f1) ((jQ x1 x5).f2)).bind fun t119=>(if t119=true then (jW.l0 k x1 (wrap64 (x5+1)) x117000) else (some false))) else (none)) else ((jM.f k x117000).bind fun t117=>(if t117=true then (some (decide ((x1.length:Int)≤8))) else (some false)))
def jW.f (k : Nat) (l0_0 : List (S106)) (l1 : List (S44)) : Option (Bool) := jW.l0 k l1 0 l0_0
set_option maxHeartbeats 8000000 in
set_option maxRecDepth 100000 in
theorem jW.calls (k : Nat) (A0_0 : Option Addr) (c0_0 : Nat) (l0_0 : List (S106)) (A1 : Option Addr) (c1 : Nat) (l1 : List (S44)) (r : Bool) (w : World) (hr0_0 : Kd.C k106 w A0_0 l0_0.length l0_0) (hc0_0 : l0_0.length ≤ c0_0) (hr1 : Kd.C k44 w A1 l1.length l1) (hc1 : l1.length ≤ c1) (h : jW.f k l0_0 l1 = some r) :
  Calls Try.prog 35 #[.agg #[.slice A0_0 l0_0.length c0_0], .slice A1 l1.length c1] w fun e w'=>e=.returned (.bool r)∧Below w.heap.size w w':=by
 have hu31:=Try.underlying31
 have hu44:=Try.underlying44
 have HR0_0:=am hr0_0
 have HC0_0:=am hc0_0
 clear hr0_0 hc0_0
 have HR1:=am hr1
 have HC1:=am hc1
 clear hr1 hc1
 have HB:=am (Below.refl w.heap.size w)
 have H:(jW.l0 k l1 0 l0_0)=some r:=h
 clear h
 have H':=am H
 clear H
 go_enter Try.func35,Try.ntmps35
 go_wp2_with (first |((with_reducible refine jH (N:=2) rfl ?_);(try (refine gate_guard (by rfl) ?_;dsimp only));refine box_event ?hg (N:=2) ?hd (cs:=#[.slice A0_0 l0_0.length c0_0]) (t:=31) ?hr ?_;(case hd=>rfl);(case hg=>rfl);(case hr=>exact Y7);intro gb116 hg w3 hbox hb;have BK116:=am (hbox);have GW116:=am ((Y2:w.heap.size≤gb116));have GE116:=am ((Y2:w.heap.size≤gb116));replace HB:=am (jg (bq) hb);clear hb hbox hg))
 go_loopg [5] k (fun kq v5 w'=>∃ (x5_1:Int),v5=.int .i64 x5_1∧jC (jW.l0 kq l1 x5_1 l0_0=some r)∧jC (kq≤k)∧jC (w'.heap[gb116]?=some (.cells #[(.slice A0_0 l0_0.length c0_0)] 31 (0,0)))∧jC (Below w.heap.size w w'))
 case atStart=>exact ⟨(0),(sq),H',⟨Nat.le_refl _⟩,⟨kq BK116.out⟩,⟨Y44⟩⟩
 case round =>
  clear H'
  try clear c1
  try clear p2
  try clear c3
  obtain ⟨x5_1,rfl,HA,HK1,BK116,HB⟩:=hrel
  cases gk with
  | zero=>exact absurd HA.out (by simp [jW.l0])
  | succ k1 =>
   have H:=HA.out
   clear HA
   simp only [jW.l0] at H
   by_cases c4:x5_1<(l1.length:Int)
   ·rw [if_pos c4] at H
    have c4b0:decide (x5_1<(l1.length:Int))=true:=dzT c4
    clear c4
    by_cases c5:0≤x5_1
    ·rw [if_pos c5] at H
     have c5b0:decide (0≤x5_1)=true:=dzT c5
     clear c5
     replace H:=bzS H
     obtain ⟨t119,A60,H⟩:=H
     replace H:(if t119=true then (jW.l0 k1 l1 (wrap64 (x5_1+1)) l0_0) else (some false))=some r:=H
     have A6:=am A60
     clear A60
     by_cases c7:t119=true
     ·subst c7
      have H1:(jW.l0 k1 l1 (wrap64 (x5_1+1)) l0_0)=some r:=by rw [if_pos rfl] at H;exact H
      clear H
      have H:=H1
      clear H1
      have H':=am H
      clear H
      try go_wp2
      replace BK116:=am (jf BK116.out)
      replace HB:=am (jB HB.out)
      have p118:0≤(x5_1:Int):=ozD (uq)
      have q118:x5_1<(l1.length:Int):=ozD (uq)
      obtain ⟨ad118,e118,hx118_0,hx118_1,hx118_2⟩:=at_T44 HR1.out x5_1 p118 q118
      have hw118_2:=hx118_2
      have hw118_1:=hx118_1
      have hw118_0:=hx118_0
      cases e118
      replace hx118_0:=cb HB.out hx118_0
      replace hx118_1:=cb HB.out hx118_1
      replace hx118_2:=cb HB.out hx118_2
      replace p118:=ezT p118
      replace q118:=ezT q118
      refine jjc (n:=7) (S:=fun w'=>w'.cell? ⟨gb116,0,none⟩=some (.slice A0_0 l0_0.length c0_0)∧w'.cell? (ad118.add ((x5_1).toNat * 3))=some (.int .i64 ((jQ l1 x5_1).f0))∧w'.cell? ⟨(ad118.add ((x5_1).toNat * 3)).block,(ad118.add ((x5_1).toNat * 3)).off+1,none⟩=some (.int .i64 ((jQ l1 x5_1).f1))∧w'.cell? ⟨(ad118.add ((x5_1).toNat * 3)).block,(ad118.add ((x5_1).toNat * 3)).off+2,none⟩=some (.int .i64 ((jQ l1 x5_1).f2))) (ds:=[]) #[false,false,false,false,false,false,false] (by kernel_rfl) rfl rfl ⟨(jh BK116.out 0).trans rfl,((HB.out.cell (World.block_lt_of_cell? w _ hw118_0)).trans hw118_0),((HB.out.cell (World.block_lt_of_cell? w _ hw118_1)).trans hw118_1),((HB.out.cell (World.block_lt_of_cell? w _ hw118_2)).trans hw118_2)⟩ (fun hHeld=>?_)
      generalize wr.drew=w8 at BK116 HB hx118_0 hx118_1 hx118_2 hHeld ⊢
      refine jcc (i:=1) (N:=some 13) (v:=?_) (a':=?_) #[false,true,false,false,false,false,false] rfl rfl (by kernel_rfl) (fun _ _ _ h=>h) (Or.inl ⟨by rfl,?_⟩) ?_ ?_
      rotate_left
      ·exact sb
      rotate_left
      ·exact sa
      refine jcc (i:=2) (N:=some 14) (v:=?_) (a':=?_) #[false,true,true,false,false,false,false] rfl rfl (by kernel_rfl) (fun _ _ _ h=>h) (Or.inl ⟨by rfl,?_⟩) ?_ ?_
      rotate_left
      ·exact sb
      rotate_left
      ·exact sa
      refine jcc (i:=3) (N:=some 15) (v:=?_) (a':=?_) #[false,true,true,true,false,false,false] rfl rfl (by kernel_rfl) (fun _ _ _ h=>h) (Or.inl ⟨by rfl,?_⟩) ?_ ?_
      rotate_left
      ·exact sb
      rotate_left
      ·exact sa
      refine jYb (i:=0) (N:=some 12) (v:=?_) (a':=?_) #[true,true,true,true,false,false,false] rfl rfl (by kernel_rfl) (fun _ _ _ h=>h) (Or.inl ⟨by rfl,?_⟩) hHeld ?_ ?_
      rotate_left
      ·rintro w' ⟨s0,s1,s2,s3⟩
       go_simp
       with_reducible rfl
      rotate_left
      ·exact sa
      refine jYb (i:=4) (N:=some 16) (v:=?_) (a':=?_) #[true,true,true,true,true,false,false] rfl rfl (by kernel_rfl) (fun _ _ _ h=>h) (Or.inl ⟨by rfl,?_⟩) hHeld ?_ ?_
      rotate_left
      ·rintro w' ⟨s0,s1,s2,s3⟩
       go_simp
       with_reducible rfl
      rotate_left
      ·exact sa
      refine one_ (i:=5) (N:=some 17) #[true,true,true,true,true,true,false] rfl rfl (by kernel_rfl) (by decide) (fun K hK=>?_)
      refine goes_ Try.func66 (by kernel_rfl) rfl #[.agg #[.slice A0_0 l0_0.length c0_0], .agg #[.int .i64 ((jQ l1 x5_1).f0), .int .i64 ((jQ l1 x5_1).f1), .int .i64 ((jQ l1 x5_1).f2)]] (by rfl) rfl rfl (aq) ?_
      with_reducible refine (jxa.calls k1 _ _ l0_0 ((jQ l1 x5_1).f0) ((jQ l1 x5_1).f1) ((jQ l1 x5_1).f2) true _ ?side1 ?side2 A6.out).mono ?_
      (case side1=>exact cq (Kd.joa HR0_0.out HB.out))
      (case side2=>exact HC0_0.out)
      rintro e w9 ⟨rfl,hb⟩
      refine ⟨_,rfl,?_⟩
      replace BK116:=am (jb (g:=gb116) (o:=.cells #[.slice A0_0 l0_0.length c0_0] 31 (0,0)) (kq BK116.out) hb)
      replace HB:=am (jg (Y44) hb)
      (try clear hb)
      (try clear hb2)
      (try clear hk)
      (try clear hi)
      refine hK.out _ _ ⟨(jh BK116.out 0).trans rfl,((HB.out.cell (World.block_lt_of_cell? w _ hw118_0)).trans hw118_0),((HB.out.cell (World.block_lt_of_cell? w _ hw118_1)).trans hw118_1),((HB.out.cell (World.block_lt_of_cell? w _ hw118_2)).trans hw118_2)⟩ (fun hHeld=>?_)
      clear hK K
      refine jgb (a':=?_) ?_ ?_
      rotate_left
      ·show Act.put _ (some 17) _=_
       simp only [Act.put,List.setIfInBounds_toArray,List.set_cons_zero,List.set_cons_succ,jbb,jdb]
       rfl
      refine jcc (i:=6) (N:=some 18) (v:=?_) (a':=?_) #[true,true,true,true,true,true,true] rfl rfl (by kernel_rfl) (fun _ _ _ h=>h) (Or.inl ⟨by rfl,?_⟩) ?_ ?_
      rotate_left
      ·exact sb
      rotate_left
      ·exact sa
      refine done_ (by kernel_rfl) ?_
      try go_wp2
      go_roundg k1
      case measure=>have:=HK1.out;omega
      case rel=>exact ⟨(wrap64 (x5_1+1)),(sq),H',⟨by have:=HK1.out;omega⟩,⟨kq BK116.out⟩,⟨Y44⟩⟩
     ·replace c7:=Bool.eq_false_iff.mpr c7
      subst c7
      have H1:(some false)=some r:=by rw [if_neg (show ¬ (false=true) by decide)] at H;exact H
      clear H
      have H:=H1
      clear H1
      obtain rfl:=Option.some.inj H
      try go_wp2
      replace BK116:=am (jf BK116.out)
      replace HB:=am (jB HB.out)
      have p118:0≤(x5_1:Int):=ozD (uq)
      have q118:x5_1<(l1.length:Int):=ozD (uq)
      obtain ⟨ad118,e118,hx118_0,hx118_1,hx118_2⟩:=at_T44 HR1.out x5_1 p118 q118
      have hw118_2:=hx118_2
      have hw118_1:=hx118_1
      have hw118_0:=hx118_0
      cases e118
      replace hx118_0:=cb HB.out hx118_0
      replace hx118_1:=cb HB.out hx118_1
      replace hx118_2:=cb HB.out hx118_2
      replace p118:=ezT p118
      replace q118:=ezT q118
      refine jjc (n:=7) (S:=fun w'=>w'.cell? ⟨gb116,0,none⟩=some (.slice A0_0 l0_0.length c0_0)∧w'.cell? (ad118.add ((x5_1).toNat * 3))=some (.int .i64 ((jQ l1 x5_1).f0))∧w'.cell? ⟨(ad118.add ((x5_1).toNat * 3)).block,(ad118.add ((x5_1).toNat * 3)).off+1,none⟩=some (.int .i64 ((jQ l1 x5_1).f1))∧w'.cell? ⟨(ad118.add ((x5_1).toNat * 3)).block,(ad118.add ((x5_1).toNat * 3)).off+2,none⟩=some (.int .i64 ((jQ l1 x5_1).f2))) (ds:=[]) #[false,false,false,false,false,false,false] (by kernel_rfl) rfl rfl ⟨(jh BK116.out 0).trans rfl,((HB.out.cell (World.block_lt_of_cell? w _ hw118_0)).trans hw118_0),((HB.out.cell (World.block_lt_of_cell? w _ hw118_1)).trans hw118_1),((HB.out.cell (World.block_lt_of_cell? w _ hw118_2)).trans hw118_2)⟩ (fun hHeld=>?_)
      generalize wr.drew=w10 at BK116 HB hx118_0 hx118_1 hx118_2 hHeld ⊢
      refine jcc (i:=1) (N:=some 13) (v:=?_) (a':=?_) #[false,true,false,false,false,false,false] rfl rfl (by kernel_rfl) (fun _ _ _ h=>h) (Or.inl ⟨by rfl,?_⟩) ?_ ?_
      rotate_left
      ·exact sb
      rotate_left
      ·exact sa
      refine jcc (i:=2) (N:=some 14) (v:=?_) (a':=?_) #[false,true,true,false,false,false,false] rfl rfl (by kernel_rfl) (fun _ _ _ h=>h) (Or.inl ⟨by rfl,?_⟩) ?_ ?_
      rotate_left
      ·exact sb
      rotate_left
      ·exact sa
      refine jcc (i:=3) (N:=some 15) (v:=?_) (a':=?_) #[false,true,true,true,false,false,false] rfl rfl (by kernel_rfl) (fun _ _ _ h=>h) (Or.inl ⟨by rfl,?_⟩) ?_ ?_
      rotate_left
      ·exact sb
      rotate_left
      ·exact sa
      refine jYb (i:=0) (N:=some 12) (v:=?_) (a':=?_) #[true,true,true,true,false,false,false] rfl rfl (by kernel_rfl) (fun _ _ _ h=>h) (Or.inl ⟨by rfl,?_⟩) hHeld ?_ ?_
      rotate_left
      ·rintro w' ⟨s0,s1,s2,s3⟩
       go_simp
       with_reducible rfl
      rotate_left
      ·exact sa
      refine jYb (i:=4) (N:=some 16) (v:=?_) (a':=?_) #[true,true,true,true,true,false,false] rfl rfl (by kernel_rfl) (fun _ _ _ h=>h) (Or.inl ⟨by rfl,?_⟩) hHeld ?_ ?_
      rotate_left
      ·rintro w' ⟨s0,s1,s2,s3⟩
       go_simp
       with_reducible rfl
      rotate_left
      ·exact sa
      refine one_ (i:=5) (N:=some 17) #[true,true,true,true,true,true,false] rfl rfl (by kernel_rfl) (by decide) (fun K hK=>?_)
      refine goes_ Try.func66 (by kernel_rfl) rfl #[.agg #[.slice A0_0 l0_0.length c0_0], .agg #[.int .i64 ((jQ l1 x5_1).f0), .int .i64 ((jQ l1 x5_1).f1), .int .i64 ((jQ l1 x5_1).f2)]] (by rfl) rfl rfl (aq) ?_
      with_reducible refine (jxa.calls k1 _ _ l0_0 ((jQ l1 x5_1).f0) ((jQ l1 x5_1).f1) ((jQ l1 x5_1).f2) false _ ?side1 ?side2 A6.out).mono ?_
      (case side1=>exact cq (Kd.joa HR0_0.out HB.out))
      (case side2=>exact HC0_0.out)
      rintro e w11 ⟨rfl,hb⟩
      refine ⟨_,rfl,?_⟩
      replace BK116:=am (jb (g:=gb116) (o:=.cells #[.slice A0_0 l0_0.length c0_0] 31 (0,0)) (kq BK116.out) hb)
      replace HB:=am (jg (Y44) hb)
      (try clear hb)
      (try clear hb2)
      (try clear hk)
      (try clear hi)
      refine hK.out _ _ ⟨(jh BK116.out 0).trans rfl,((HB.out.cell (World.block_lt_of_cell? w _ hw118_0)).trans hw118_0),((HB.out.cell (World.block_lt_of_cell? w _ hw118_1)).trans hw118_1),((HB.out.cell (World.block_lt_of_cell? w _ hw118_2)).trans hw118_2)⟩ (fun hHeld=>?_)
      clear hK K
      refine jgb (a':=?_) ?_ ?_
      rotate_left
      ·show Act.put _ (some 17) _=_
       simp only [Act.put,List.setIfInBounds_toArray,List.set_cons_zero,List.set_cons_succ,jbb,jdb]
       rfl
      refine jcc (i:=6) (N:=some 18) (v:=?_) (a':=?_) #[true,true,true,true,true,true,true] rfl rfl (by kernel_rfl) (fun _ _ _ h=>h) (Or.inl ⟨by rfl,?_⟩) ?_ ?_
      rotate_left
      ·exact sb
      rotate_left
      ·exact sa
      refine done_ (by kernel_rfl) ?_
      try go_wp2
      go_ret
      exact ⟨Y1,Y44⟩
    ·rw [if_neg c5] at H
     exact absurd H (by simp)
   ·rw [if_neg c4] at H
    have c4b0:decide (x5_1<(l1.length:Int))=false:=dzF c4
    clear c4
    replace H:=bzS H
    obtain ⟨t117,A120,H⟩:=H
    replace H:(if t117=true then (some (decide ((l1.length:Int)≤8))) else (some false))=some r:=H
    have A12:=am A120
    clear A120
    by_cases c13:t117=true
    ·subst c13
     have H1:(some (decide ((l1.length:Int)≤8)))=some r:=by rw [if_pos rfl] at H;exact H
     clear H
     have H:=H1
     clear H1
     obtain rfl:=Option.some.inj H
     have hcz14_0:=bc0 BK116.out
     have hfz14_0:=ja BK116.out 0
     go_wp2_with (first |((with_reducible refine jy (f:=67) rfl ?_);refine gL (some 20) Try.func67 #[.agg #[.slice A0_0 l0_0.length c0_0]] ?_;(with_reducible refine (jM.calls k1 _ _ l0_0 true _ ?side1 ?side2 A12.out).mono ?_);(case side1=>exact cq (Kd.joa HR0_0.out HB.out));(case side2=>exact HC0_0.out);rintro e w15 ⟨rfl,hb⟩;refine ⟨_,rfl,?_⟩;replace BK116:=am (jb (g:=gb116) (o:=.cells #[.slice A0_0 l0_0.length c0_0] 31 (0,0)) (kq BK116.out) hb);replace HB:=am (jg (Y44) hb);(try clear hb);(try clear hb2);(try clear hk);(try clear hi)))
     go_ret
     exact ⟨Y1,Y44⟩
    ·replace c13:=Bool.eq_false_iff.mpr c13
     subst c13
     have H1:(some false)=some r:=by rw [if_neg (show ¬ (false=true) by decide)] at H;exact H
     clear H
     have H:=H1
     clear H1
     obtain rfl:=Option.some.inj H
     have hcz16_0:=bc0 BK116.out
     have hfz16_0:=ja BK116.out 0
     go_wp2_with (first |((with_reducible refine jy (f:=67) rfl ?_);refine gL (some 20) Try.func67 #[.agg #[.slice A0_0 l0_0.length c0_0]] ?_;(with_reducible refine (jM.calls k1 _ _ l0_0 false _ ?side1 ?side2 A12.out).mono ?_);(case side1=>exact cq (Kd.joa HR0_0.out HB.out));(case side2=>exact HC0_0.out);rintro e w17 ⟨rfl,hb⟩;refine ⟨_,rfl,?_⟩;replace BK116:=am (jb (g:=gb116) (o:=.cells #[.slice A0_0 l0_0.length c0_0] 31 (0,0)) (kq BK116.out) hb);replace HB:=am (jg (Y44) hb);(try clear hb);(try clear hb2);(try clear hk);(try clear hi)))
     go_ret
     exact ⟨Y1,Y44⟩
def jOa.f (l0 : List (S44)) : Option ((List (S44))) := (some (([] : List (S44)) : List (S44))).bind fun y756 => (if y756.length + l0.length < 5864062014805 then (some (y756 ++ l0)) else (none))
set_option maxHeartbeats 8000000 in
set_option maxRecDepth 100000 in
theorem jOa.calls (A0 : Option Addr) (c0 : Nat) (l0 : List (S44)) (r : List (S44)) (w : World) (hr0 : Kd.C k44 w A0 l0.length l0) (hc0 : l0.length ≤ c0) (h : jOa.f l0 = some r) :
  Calls Try.prog 63 #[.slice A0 l0.length c0] w fun e w'=>∃ v0_:Value,e=.returned (v0_)∧Kd.R k44 44 w' w.heap.size (fun _=>True) v0_ r∧Below w.heap.size w w':=by
 have HR0:=am hr0
 have HC0:=am hc0
 clear hr0 hc0
 have HB:=am (Below.refl w.heap.size w)
 have H:((some (([]:List (S44)):List (S44))).bind fun y756=>(if y756.length+l0.length<5864062014805 then (some (y756 ++ l0)) else (none)))=some r:=h
 clear h
 obtain ⟨y756,hy756⟩:∃ y_:List (S44),y_=(([]:List (S44))):=⟨_,rfl⟩
 replace H:(if y756.length+l0.length<5864062014805 then (some (y756 ++ l0)) else (none))=some r:=by first |(rw [hy756];with_reducible exact H) |(have H2_:=(Option.bind_some _ _).symm.trans H;rw [hy756];with_reducible exact H2_) |(have H2_:=(Option.bind_some _ _).symm.trans H;with_reducible exact H2_) | with_reducible exact H |(rw [hy756];exact H) | exact H
 have Ny756:=am hy756
 clear hy756
 by_cases c2:y756.length+l0.length<5864062014805
 ·rw [if_pos c2] at H
  have LMc2:=am c2
  clear c2
  obtain ⟨y759,hy759⟩:∃ y_:List (S44),y_=(y756 ++ l0):=⟨_,rfl⟩
  replace H:(some y759)=some r:=by first |(rw [hy759];with_reducible exact H) |(have H2_:=(Option.bind_some _ _).symm.trans H;rw [hy759];with_reducible exact H2_) |(have H2_:=(Option.bind_some _ _).symm.trans H;with_reducible exact H2_) | with_reducible exact H |(rw [hy759];exact H) | exact H
  have Ny759:=am hy759
  clear hy759
  obtain rfl:=Option.some.inj H
  go_enter Try.func63,Try.ntmps63
  go_wp2_with (first |((with_reducible refine jH (N:=3) rfl ?_);refine Kd.R_lit k44 _ 44 ?hg (N:=3) ?hd (xs:=([]:List (S44))) (inner:=[]) (ok:=fun _=>True) (okp:=fun _=>True) ?hr ?hp (fun _ hk=>hk) trivial (Below.refl _ _) (Nat.le_refl _) (by simp) ?_;(case hd=>rfl);(case hg=>rfl);(case hr=>exact Y7);(case hp=>exact (Reps.none _ _));intro v757 w3 ho4 hb hg_ hnew_;clear hg_ hnew_;(first | rw [← Ny756.out] at ho4 |(simp only [Int.reduceToNat] at ho4;rw [← Ny756.out] at ho4));have HO758:=am (Kd.jV ho4 (jD (bq)));replace HB:=am (jg (bq) hb);clear hb ho4) |((with_reducible refine jAb (b:=.append) (xs:=#[.tmp 3, .tmp 4]) rfl ?_);at_builtin;refine Kd.R_append_rows k44 (w0:=w) w.heap.size rfl (.tmp 3) (.tmp 4) 33 44 (.agg #[(.int .i64 0),(.int .i64 0),(.int .i64 0)]) 24 rfl Try.underlying33 info44 rfl (by decide) (by omega) v757 y756 l0 _ _ _ (fun _=>True) (fun _=>False) rfl rfl ?aO ?aR (fun _ _ h=>h) (fun _ h=>h.elim) ?aF ?aB ?aS ?aL ?_;(case aR=>repeat (first | exact (Kd.joa HR0.out HB.out) |(with_reducible refine Kd.C_alloc ?_ _) |(with_reducible refine Kd.C_drewN ?_ _) |(with_reducible refine Kd.C_drew ?_)));(case aB=>exact (bq));(case aF=>exact (fun _ _=>trivial));(case aO=>exact (rq HO758.out));(case aS=>exact (jD (bq)));(case aL=>have:=LMc2.out;omega);intro v760 w5 ho hb hg hat;rw [← Ny759.out] at ho;have n0_:=am (hb);have n1_:=am (ho);clear HB HO758;have HB:=n0_;have HO761:=n1_;clear n0_ n1_ ho hb hg hat))
  go_ret
  exact ⟨_,Y1,rq HO761.out,bq⟩
 ·rw [if_neg c2] at H
  exact absurd H (by simp)
end Go.Proofs.Ytlhfcmbkjddgiaa.P
end
