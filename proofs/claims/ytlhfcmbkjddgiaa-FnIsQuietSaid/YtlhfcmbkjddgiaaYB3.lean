/- One part of the proofs on this program: functions of the program as plain functions, that the code comes to them, and facts on them. -/
import Derived.Test.YtlhfcmbkjddgiaaYAll1
import Derived.Test.YtlhfcmbkjddgiaaYAll4
import Derived.Test.YtlhfcmbkjddgiaaYAll5
import Derived.Test.YtlhfcmbkjddgiaaYAll6
import Derived.Test.YtlhfcmbkjddgiaaYB1
import Derived.Test.YtlhfcmbkjddgiaaYB2
import Derived.Test.YtlhfcmbkjddgiaaYWAuto
section
namespace Go.Proofs.Ytlhfcmbkjddgiaa.P
open Go.RowKit Go.Proofs.YtlhfcmbkjddgiaaW.PrintWords Go.Proofs.YtlhfcmbkjddgiaaW.PrintLast Go.Proofs.YtlhfcmbkjddgiaaW.PrintMore
attribute [local go_sem] jca jaa jsa jra jQ jP jba jZ jk
set_option linter.unusedVariables false
set_option linter.unusedSimpArgs false
def jrb.f (k : Nat) (l0 : List Int) : Option ((List (S106)) × (List (S44))) := (jsb.f l0).bind fun bt438 => ((job.f k bt438.1 bt438.2).bind fun bt441 => ((jr.f k bt438.1 bt441.2.2 2).bind fun bt449 => (if bt449.1 = 0 then ((some (([(⟨2, 0, 0⟩ : S44)] : List (S44)) : List (S44))).bind fun y451 => (if 0 ≤ (mn (bt441.2.1.length : Int) 7) then (if (mn (bt441.2.1.length : Int) 7) ≤ (bt441.2.1.length : Int) then ((some (bt441.2.1.take ((mn (bt441.2.1.length : Int) 7) : Int).toNat : List (S44))).bind fun y454 => (if y451.length + y454.length < 5864062014805 then (some (bt441.1, (y451 ++ y454))) else (none))) else (none)) else (none))) else (some (bt441.1, bt441.2.1)))))
set_option maxHeartbeats 8000000 in
set_option maxRecDepth 100000 in
theorem jrb.calls (k : Nat) (A0 : Option Addr) (c0 : Nat) (l0 : List Int) (r1 : List (S106)) (r2 : List (S44)) (w : World) (hr0 : Kd.C (Kd.int .u8) w A0 l0.length l0) (hc0 : l0.length ≤ c0) (h : jrb.f k l0 = some (r1, r2)) :
  Calls Try.prog 16 #[.slice A0 l0.length c0] w fun e w'=>∃ v0_ v1_:Value,e=.returned (.tuple #[.agg #[v0_],v1_])∧Kd.R k106 106 w' w.heap.size (fun _=>True) v0_ r1∧Kd.R k44 44 w' w.heap.size (fun _=>True) v1_ r2∧Below w.heap.size w w':=by
 have hu31:=Try.underlying31
 have hu44:=Try.underlying44
 have HR0:=am hr0
 have HC0:=am hc0
 clear hr0 hc0
 have HB:=am (Below.refl w.heap.size w)
 have H:((jsb.f l0).bind fun bt438=>((job.f k bt438.1 bt438.2).bind fun bt441=>((jr.f k bt438.1 bt441.2.2 2).bind fun bt449=>(if bt449.1=0 then ((some (([(⟨2,0,0⟩:S44)]:List (S44)):List (S44))).bind fun y451=>(if 0≤(mn (bt441.2.1.length:Int) 7) then (if (mn (bt441.2.1.length:Int) 7)≤(bt441.2.1.length:Int) then ((some (bt441.2.1.take ((mn (bt441.2.1.length:Int) 7):Int).toNat:List (S44))).bind fun y454=>(if y451.length+y454.length<5864062014805 then (some (bt441.1,(y451 ++ y454))) else (none))) else (none)) else (none))) else (some (bt441.1,bt441.2.1))))))=some (r1,r2):=h
 clear h
 replace H:=bzS H
 obtain ⟨⟨t438,t439⟩,A20,H⟩:=H
 replace H:((job.f k t438 t439).bind fun bt441=>((jr.f k t438 bt441.2.2 2).bind fun bt449=>(if bt449.1=0 then ((some (([(⟨2,0,0⟩:S44)]:List (S44)):List (S44))).bind fun y451=>(if 0≤(mn (bt441.2.1.length:Int) 7) then (if (mn (bt441.2.1.length:Int) 7)≤(bt441.2.1.length:Int) then ((some (bt441.2.1.take ((mn (bt441.2.1.length:Int) 7):Int).toNat:List (S44))).bind fun y454=>(if y451.length+y454.length<5864062014805 then (some (bt441.1,(y451 ++ y454))) else (none))) else (none)) else (none))) else (some (bt441.1,bt441.2.1)))))=some (r1,r2):=H
 have A2:=am A20
 clear A20
 replace H:=bzS H
 obtain ⟨⟨t441,t444,t447⟩,A30,H⟩:=H
 replace H:((jr.f k t438 t447 2).bind fun bt449=>(if bt449.1=0 then ((some (([(⟨2,0,0⟩:S44)]:List (S44)):List (S44))).bind fun y451=>(if 0≤(mn (t444.length:Int) 7) then (if (mn (t444.length:Int) 7)≤(t444.length:Int) then ((some (t444.take ((mn (t444.length:Int) 7):Int).toNat:List (S44))).bind fun y454=>(if y451.length+y454.length<5864062014805 then (some (t441,(y451 ++ y454))) else (none))) else (none)) else (none))) else (some (t441,t444))))=some (r1,r2):=H
 have A3:=am A30
 clear A30
 replace H:=bzS H
 obtain ⟨⟨t449,t450⟩,A40,H⟩:=H
 replace H:(if t449=0 then ((some (([(⟨2,0,0⟩:S44)]:List (S44)):List (S44))).bind fun y451=>(if 0≤(mn (t444.length:Int) 7) then (if (mn (t444.length:Int) 7)≤(t444.length:Int) then ((some (t444.take ((mn (t444.length:Int) 7):Int).toNat:List (S44))).bind fun y454=>(if y451.length+y454.length<5864062014805 then (some (t441,(y451 ++ y454))) else (none))) else (none)) else (none))) else (some (t441,t444)))=some (r1,r2):=H
 have A4:=am A40
 clear A40
 by_cases c5:t449=0
 ·rw [if_pos c5] at H
  have c5b0:(t449 == 0)=true:=beq_iff_eq.mpr c5
  have c5b1:(t449 != 0)=false:=bne_eq_false_iff_eq.mpr c5
  clear c5
  obtain ⟨y451,hy451⟩:∃ y_:List (S44),y_=(([(⟨2,0,0⟩:S44)]:List (S44))):=⟨_,rfl⟩
  replace H:(if 0≤(mn (t444.length:Int) 7) then (if (mn (t444.length:Int) 7)≤(t444.length:Int) then ((some (t444.take ((mn (t444.length:Int) 7):Int).toNat:List (S44))).bind fun y454=>(if y451.length+y454.length<5864062014805 then (some (t441,(y451 ++ y454))) else (none))) else (none)) else (none))=some (r1,r2):=by first |(rw [hy451];with_reducible exact H) |(have H2_:=(Option.bind_some _ _).symm.trans H;rw [hy451];with_reducible exact H2_) |(have H2_:=(Option.bind_some _ _).symm.trans H;with_reducible exact H2_) | with_reducible exact H |(rw [hy451];exact H) | exact H
  have Ny451:=am hy451
  clear hy451
  obtain ⟨ji6,hji6⟩:∃ j_:Int,(mn (t444.length:Int) 7)=j_:=⟨_,rfl⟩
  replace H:(if 0≤(ji6) then (if (ji6)≤(t444.length:Int) then ((some (t444.take ((ji6):Int).toNat:List (S44))).bind fun y454=>(if y451.length+y454.length<5864062014805 then (some (t441,(y451 ++ y454))) else (none))) else (none)) else (none))=some (r1,r2):=by first |(rw [hji6] at H;exact H) |(simp only [hji6] at H ⊢;exact H)
  (try rw [hji6] at A2)
  (try rw [hji6] at A3)
  (try rw [hji6] at A4)
  (try (have hji6h:ji6≤7:=by (rw [← hji6];unfold mn;(repeat' split) <;> omega)))
  (try (have hji6g:ji6≤64:=by omega))
  (try (have hji6l:0≤ji6:=by (rw [← hji6];unfold mn;(repeat' split) <;> omega)))
  (try (have hji6m:0≤ji6:=by omega))
  have hji6_:(if 7<(t444.length:Int) then 7 else (t444.length:Int))=ji6:=hji6
  by_cases c7:0≤(ji6)
  ·rw [if_pos c7] at H
   have c7b0:=ezT c7
   have c7b1:decide (0≤(ji6))=true:=dzT c7
   clear c7
   by_cases c8:(ji6)≤(t444.length:Int)
   ·rw [if_pos c8] at H
    have c8b0:=ezT c8
    have c8b1:decide ((ji6)≤(t444.length:Int))=true:=dzT c8
    clear c8
    obtain ⟨y454,hy454⟩:∃ y_:List (S44),y_=(t444.take ((ji6):Int).toNat):=⟨_,rfl⟩
    replace H:(if y451.length+y454.length<5864062014805 then (some (t441,(y451 ++ y454))) else (none))=some (r1,r2):=by first |(rw [hy454];with_reducible exact H) |(have H2_:=(Option.bind_some _ _).symm.trans H;rw [hy454];with_reducible exact H2_) |(have H2_:=(Option.bind_some _ _).symm.trans H;with_reducible exact H2_) | with_reducible exact H |(rw [hy454];exact H) | exact H
    have Ny454:=am hy454
    clear hy454
    by_cases c9:y451.length+y454.length<5864062014805
    ·rw [if_pos c9] at H
     have LMc9:=am c9
     clear c9
     obtain ⟨y458,hy458⟩:∃ y_:List (S44),y_=(y451 ++ y454):=⟨_,rfl⟩
     replace H:(some (t441,y458))=some (r1,r2):=by first |(rw [hy458];with_reducible exact H) |(have H2_:=(Option.bind_some _ _).symm.trans H;rw [hy458];with_reducible exact H2_) |(have H2_:=(Option.bind_some _ _).symm.trans H;with_reducible exact H2_) | with_reducible exact H |(rw [hy458];exact H) | exact H
     have Ny458:=am hy458
     clear hy458
     simp only [Option.some.injEq,Prod.mk.injEq] at H
     obtain ⟨rfl,rfl⟩:=H
     go_enter Try.func16,Try.ntmps16
     go_wp2_with (first |((with_reducible refine jB (N:=2) rfl ?_);refine bE (N:=2) (cs:=#[.slice none 0 0]) (t:=31) ?_;intro gb437 hg w10 hbox hb;have BK437:=am (hbox);have GW437:=am ((Y1:w.heap.size≤gb437));have GE437:=am ((Y1:w.heap.size≤gb437));replace HB:=am (jb (bq) hb);clear hb hbox hg) |((with_reducible refine jm (f:=45) rfl ?_);refine gL (some 8) Try.func45 #[.slice A0 l0.length c0] ?_;(with_reducible refine (jsb.calls _ _ l0 t438 t439 w _ ?side1 ?side2 ?side3 A2.out).mono ?_);(case side1=>exact Y159);(case side2=>exact HR0.out);(case side3=>exact HC0.out);rintro e w11 ⟨g440,rfl,hi,hb,hb2⟩;refine ⟨_,rfl,?_⟩;have HI440:=am (hi);have NB440_437:=am (jc.ne_blk hi (je (g:=gb437) (o:=.cells #[.slice none 0 0] 31 (0,0)) (kq BK437.out) hb2) (by decide));have NB437_440:=am (Ne.symm (jc.ne_blk hi (je (g:=gb437) (o:=.cells #[.slice none 0 0] 31 (0,0)) (kq BK437.out) hb2) (by decide)));replace BK437:=am (je (g:=gb437) (o:=.cells #[.slice none 0 0] 31 (0,0)) (kq BK437.out) hb2);replace HB:=am (hb);(try clear hb);(try clear hb2);(try clear hk);(try clear hi)) |((with_reducible refine jm (f:=46) rfl ?_);refine gL (some 11) Try.func46 #[.pointer (some ⟨g440,0,none⟩)] ?_;(with_reducible refine (job.calls k g440 t438 t439 t441 t444 t447 w _ ?side1 ?side2 A3.out).mono ?_);(case side1=>exact Y91);(case side2=>exact Y47);rintro e w12 ⟨v442,v445,rfl,ho0,ho1,hi,hb,hk⟩;refine ⟨_,rfl,?_⟩;have HO443:=am (Kd.jda ho0 (jD (Y47)));have HO446:=am (Kd.jda ho1 (jD (Y47)));replace BK437:=am (jh.blk hk (g':=gb437) (o:=.cells #[.slice none 0 0] 31 (0,0)) (kq BK437.out) NB437_440.out (by simp));replace HB:=am (hb);replace HI440:=am (hi);(try clear hb);(try clear hb2);(try clear hk);(try clear hi);(try clear ho0);(try clear ho1)) |((with_reducible refine jB (N:=5) rfl ?_);refine bE (N:=5) (cs:=#[.slice none 0 0]) (t:=31) ?_;intro gb448 hg w13 hbox hb;have BK448:=am (hbox);have GW448:=am ((Y92:w.heap.size≤gb448));have GE448:=am ((Y92:w.heap.size≤gb448));have NB437_448:=am ((by rw [hg];exact Nat.ne_of_lt (jX (g:=gb437) (o:=.cells #[.slice none 0 0] 31 (0,0)) (kq BK437.out)):gb437≠gb448));have NB448_437:=am ((by rw [hg];exact Nat.ne_of_gt (jX (g:=gb437) (o:=.cells #[.slice none 0 0] 31 (0,0)) (kq BK437.out)):gb448≠gb437));have NB440_448:=am ((Y160:g440≠gb448));have NB448_440:=am ((Y161:gb448≠g440));replace HO443:=am (Kd.jG (rq HO443.out) hb);replace HO446:=am (Kd.jG (rq HO446.out) hb);replace BK437:=am (je (g:=gb437) (o:=.cells #[.slice none 0 0] 31 (0,0)) (kq BK437.out) hb);replace HB:=am (jb (Y47) hb);replace HI440:=am (jc.below (Y91) hb);clear hb hbox hg;obtain ⟨Ao14,co14,eo14⟩:=Kd.jM HO443.out;subst eo14;have hnb15:=NB448_437.out;have hnc15:=NB437_448.out;have hnb16:=NB448_440.out;have hnc16:=NB440_448.out;have hcz17_0:=bc0 BK448.out;have hfz17_0:=ja BK448.out 0) |((with_reducible refine jm (f:=47) rfl ?_);refine gL (some 15) Try.func47 #[.pointer (some ⟨g440,0,none⟩), .int .i64 2] ?_;(with_reducible refine (jr.calls k g440 t438 t447 2 t449 t450 w _ ?side1 ?side2 A4.out).mono ?_);(case side1=>exact Y48);(case side2=>exact Y49);rintro e w18 ⟨rfl,hi,hb,hk⟩;refine ⟨_,rfl,?_⟩;replace BK437:=am (jh.blk hk (g':=gb437) (o:=.cells #[.slice none 0 0] 31 (0,0)) (Y162) NB437_440.out (by simp));replace HO443:=am (Kd.jH (Kd.jNa (jc.apart (show jc w _ g440 t438 t447 from Y48) (by (with_reducible repeat (first | apply Kd.jka | apply Kd.joa | apply Kd.jua));exact (Kd.jH (Kd.jEa (p:=⟨gb448,0,none⟩) (Kd.jha HO443.out BK448.out (by decide)) (fun _ hk=>hk.2) (.slice Ao14 t441.length co14)) (fun _ h_=>h_.1))) (by decide)) hk (fun _ h=>h.2)) (fun _ h=>h.1));replace HO446:=am (Kd.jH (Kd.jNa (jc.apart (show jc w _ g440 t438 t447 from Y48) (by (with_reducible repeat (first | apply Kd.jka | apply Kd.joa | apply Kd.jua));exact (Kd.jH (Kd.jEa (p:=⟨gb448,0,none⟩) (Kd.jha HO446.out BK448.out (by decide)) (fun _ hk=>hk.2) (.slice Ao14 t441.length co14)) (fun _ h_=>h_.1))) (by decide)) hk (fun _ h=>h.2)) (fun _ h=>h.1));replace BK448:=am (jh.blk hk (g':=gb448) (o:=.cells #[.slice Ao14 t441.length co14] 31 (0,0)) (Y163) NB448_440.out (by simp));replace HB:=am (hb);replace HI440:=am (hi);(try clear hb);(try clear hb2);(try clear hk);(try clear hi)) |((with_reducible refine jB (N:=18) rfl ?_);refine Kd.jNc k44 _ 44 ?hg (N:=18) ?hd (xs:=([(⟨2,0,0⟩:S44)]:List (S44))) (inner:=[.int .i64 2, .int .i64 0, .int .i64 0]) (ok:=fun _=>True) (okp:=fun _=>True) ?hr ?hp (fun _ hk=>hk) trivial (Below.refl _ _) (Nat.le_refl _) (by simp) ?_;(case hd=>rfl);(case hg=>rfl);(case hr=>exact Y3);(case hp=>exact (Reps.c3 (show Kd.M k44 _ _ _ (⟨2,0,0⟩:S44) [.int .i64 2, .int .i64 0, .int .i64 0] from (jyc _ _ _ (⟨2,0,0⟩:S44) )) (Reps.none _ _)));intro v452 w19 ho20 hb hg_ hnew_;clear hg_ hnew_;(first | rw [← Ny451.out] at ho20 |(simp only [Int.reduceToNat] at ho20;rw [← Ny451.out] at ho20));have HO453:=am (Kd.jda (Kd.jec ho20 (Kd.R_lt (rq HO446.out))) (jD (Y49)));replace HO443:=am (Kd.jG (rq HO443.out) hb);replace HO446:=am (Kd.jqb (rq HO446.out) (Kd.jAb ho20) hb);replace BK437:=am (je (g:=gb437) (o:=.cells #[.slice none 0 0] 31 (0,0)) (kq BK437.out) hb);replace BK448:=am (je (g:=gb448) (o:=.cells #[.slice Ao14 t441.length co14] 31 (0,0)) (kq BK448.out) hb);replace HB:=am (jb (Y49) hb);replace HI440:=am (jc.below (Y48) hb);clear hb ho20;obtain ⟨Ao21,co21,eo21⟩:=Kd.jM HO446.out;subst eo21;have q22:((ji6):Int)≤((t444.length:Int):Int):=ozD (uq);obtain ⟨i022,hi022,_,hsz22,_⟩:=info_parts info44;have hroom22:t444.length≤co21:=(Kd.jv HO446.out).2.1;have hC22:Kd.C k44 _ Ao21 t444.length t444:=(Kd.jv HO446.out).2.2;have hcut22:=cut_to (P:=Try.prog) 33 44 .i64 Try.underlying33 hi022 Ao21 t444.length co21 (ji6) (ozD (uq)) q22 hroom22;have hr22:=Kd.C_take (m:=((ji6):Int).toNat) hC22 (by omega);have hy22:y454.length=((ji6):Int).toNat:=(by rw [Ny454.out,List.length_take];omega);rw [← Ny454.out] at hr22;rw [← hy22] at hcut22;have HR457:=am hr22;have HC457:=am (show y454.length≤co21 from by omega);clear hr22 hC22 hroom22 hi022 hsz22;have KY22:=am hy22;clear hy22;have KL22:=am (show ((ji6):Int).toNat≤t444.length from by omega);replace q22:=ezT q22) |((with_reducible refine jib (b:=.append) (xs:=#[.tmp 18, .tmp 23]) rfl ?_);at_builtin;refine Kd.jkd k44 (w0:=w) w.heap.size rfl (.tmp 18) (.tmp 23) 33 44 (.agg #[(.int .i64 0),(.int .i64 0),(.int .i64 0)]) 24 rfl Try.underlying33 info44 rfl (by decide) (by omega) v452 y451 y454 _ _ _ (fun k_=>some k_≠(.slice Ao21 t444.length co21:Value).ownBlock) (fun _=>False) rfl rfl ?aO ?aR (fun _ _ h=>h) (fun _ h=>h.elim) ?aF ?aB ?aS ?aL ?_;(case aR=>repeat (first | exact (by repeat (first |(with_reducible exact HR457.out) |(with_reducible refine Kd.C_alloc ?_ _) |(with_reducible refine Kd.C_drewN ?_ _) |(with_reducible refine Kd.C_drew ?_) | exact HR457.out)) |(with_reducible refine Kd.C_alloc ?_ _) |(with_reducible refine Kd.C_drewN ?_ _) |(with_reducible refine Kd.C_drew ?_)));(case aB=>exact (Y49));(case aF=>exact (fun k_ hk=>Kd.fresh' (Kd.R_lt (rq HO446.out)) k_ hk));(case aO=>exact (by (with_reducible repeat (first | apply Kd.jka | apply Kd.joa | apply Kd.jua));exact Kd.jH HO453.out (fun _ hk=>hk.2)));(case aS=>exact (jD (Y49)));(case aL=>have:=LMc9.out;omega);intro v459 w23 ho hb hg hat;rw [← Ny458.out] at ho;have n0_:=am (jU (g:=gb437) (o:=.cells #[.slice none 0 0] 31 (0,0)) (kq BK437.out) hg (Kd.R_ne HO453.out BK437.out (by decide)));have n1_:=am (jc.grown (Y48) hg (jc.own_ne HI440.out HO453.out (by decide)));have n2_:=am (Kd.jYc (rq HO443.out) (Kd.jKb (rq HO453.out)) (by decide) hg);have n3_:=am (Kd.R_after (ok:=(fun _=>True)) (rq HO446.out) hg hat);have n4_:=am (jU (g:=gb448) (o:=.cells #[.slice Ao14 t441.length co14] 31 (0,0)) (kq BK448.out) hg (Kd.R_ne HO453.out BK448.out (by decide)));have n5_:=am (hb);have n6_:=am ((show Kd.C k44 w23 Ao21 y454.length y454 from by rw [Ny454.out];exact Kd.C_take (m:=((ji6):Int).toNat) ((Kd.jv (Kd.R_after (ok:=(fun _=>True)) (rq HO446.out) hg hat)).2.2) KL22.out));have n7_:=am (ho);clear BK437 HI440 HO443 HO446 BK448 HB HR457 HO453;have BK437:=n0_;have HI440:=n1_;have HO443:=n2_;have HO446:=n3_;have BK448:=n4_;have HB:=n5_;have HR457:=n6_;have HO460:=n7_;clear n0_ n1_ n2_ n3_ n4_ n5_ n6_ n7_ ho hb hg hat;have hcz24_0:=bc0 BK448.out;have hfz24_0:=ja BK448.out 0;have hnb25:=NB437_440.out;have hnc25:=NB440_437.out;have hcz26_0:=bc0 BK437.out;have hfz26_0:=ja BK437.out 0))
     refine bodyPost_ret (jfc rfl _ _ gb437 31 #[.slice Ao14 t441.length co14] (0,0) _ rfl (Y164) Try.underlying31 rfl (by kernel_rfl)) rfl ?_
     exact ⟨_,_,by first | rfl |(simp [jVb,jUb] <;> rfl) |(simp only [← hji6];first | rfl |(simp [jVb,jUb] <;> rfl)) |(simp [*,jVb,jUb] <;> rfl),by (with_reducible repeat (first | apply Kd.jka | apply Kd.joa | apply Kd.jua));exact Kd.jH (Kd.jEa (p:=⟨gb437,0,none⟩) (Kd.jha HO443.out BK437.out (by decide)) (fun _ hk=>hk.2) (.slice Ao14 t441.length co14)) (fun _ hk=>trivial),by (with_reducible repeat (first | apply Kd.jka | apply Kd.joa | apply Kd.jua));exact Kd.jH (Kd.jEa (p:=⟨gb437,0,none⟩) (Kd.jha HO460.out BK437.out (by decide)) (fun _ hk=>hk.2) (.slice Ao14 t441.length co14)) (fun _ hk=>trivial),Y49⟩
    ·rw [if_neg c9] at H
     exact absurd H (by simp)
   ·rw [if_neg c8] at H
    exact absurd H (by simp)
  ·rw [if_neg c7] at H
   exact absurd H (by simp)
 ·rw [if_neg c5] at H
  have c5b0:(t449 == 0)=false:=beq_eq_false_iff_ne.mpr c5
  have c5b1:(t449 != 0)=true:=bne_iff_ne.mpr c5
  simp only [Option.some.injEq,Prod.mk.injEq] at H
  obtain ⟨rfl,rfl⟩:=H
  go_enter Try.func16,Try.ntmps16
  go_wp2_with (first |((with_reducible refine jB (N:=2) rfl ?_);refine bE (N:=2) (cs:=#[.slice none 0 0]) (t:=31) ?_;intro gb437 hg w27 hbox hb;have BK437:=am (hbox);have GW437:=am ((Y1:w.heap.size≤gb437));have GE437:=am ((Y1:w.heap.size≤gb437));replace HB:=am (jb (bq) hb);clear hb hbox hg) |((with_reducible refine jm (f:=45) rfl ?_);refine gL (some 8) Try.func45 #[.slice A0 l0.length c0] ?_;(with_reducible refine (jsb.calls _ _ l0 t438 t439 w _ ?side1 ?side2 ?side3 A2.out).mono ?_);(case side1=>exact Y159);(case side2=>exact HR0.out);(case side3=>exact HC0.out);rintro e w28 ⟨g440,rfl,hi,hb,hb2⟩;refine ⟨_,rfl,?_⟩;have HI440:=am (hi);have NB440_437:=am (jc.ne_blk hi (je (g:=gb437) (o:=.cells #[.slice none 0 0] 31 (0,0)) (kq BK437.out) hb2) (by decide));have NB437_440:=am (Ne.symm (jc.ne_blk hi (je (g:=gb437) (o:=.cells #[.slice none 0 0] 31 (0,0)) (kq BK437.out) hb2) (by decide)));replace BK437:=am (je (g:=gb437) (o:=.cells #[.slice none 0 0] 31 (0,0)) (kq BK437.out) hb2);replace HB:=am (hb);(try clear hb);(try clear hb2);(try clear hk);(try clear hi)) |((with_reducible refine jm (f:=46) rfl ?_);refine gL (some 11) Try.func46 #[.pointer (some ⟨g440,0,none⟩)] ?_;(with_reducible refine (job.calls k g440 t438 t439 t441 t444 t447 w _ ?side1 ?side2 A3.out).mono ?_);(case side1=>exact Y91);(case side2=>exact Y47);rintro e w29 ⟨v442,v445,rfl,ho0,ho1,hi,hb,hk⟩;refine ⟨_,rfl,?_⟩;have HO443:=am (Kd.jda ho0 (jD (Y47)));have HO446:=am (Kd.jda ho1 (jD (Y47)));replace BK437:=am (jh.blk hk (g':=gb437) (o:=.cells #[.slice none 0 0] 31 (0,0)) (kq BK437.out) NB437_440.out (by simp));replace HB:=am (hb);replace HI440:=am (hi);(try clear hb);(try clear hb2);(try clear hk);(try clear hi);(try clear ho0);(try clear ho1)) |((with_reducible refine jB (N:=5) rfl ?_);refine bE (N:=5) (cs:=#[.slice none 0 0]) (t:=31) ?_;intro gb448 hg w30 hbox hb;have BK448:=am (hbox);have GW448:=am ((Y92:w.heap.size≤gb448));have GE448:=am ((Y92:w.heap.size≤gb448));have NB437_448:=am ((by rw [hg];exact Nat.ne_of_lt (jX (g:=gb437) (o:=.cells #[.slice none 0 0] 31 (0,0)) (kq BK437.out)):gb437≠gb448));have NB448_437:=am ((by rw [hg];exact Nat.ne_of_gt (jX (g:=gb437) (o:=.cells #[.slice none 0 0] 31 (0,0)) (kq BK437.out)):gb448≠gb437));have NB440_448:=am ((Y160:g440≠gb448));have NB448_440:=am ((Y161:gb448≠g440));replace HO443:=am (Kd.jG (rq HO443.out) hb);replace HO446:=am (Kd.jG (rq HO446.out) hb);replace BK437:=am (je (g:=gb437) (o:=.cells #[.slice none 0 0] 31 (0,0)) (kq BK437.out) hb);replace HB:=am (jb (Y47) hb);replace HI440:=am (jc.below (Y91) hb);clear hb hbox hg;obtain ⟨Ao31,co31,eo31⟩:=Kd.jM HO443.out;subst eo31;have hnb32:=NB448_437.out;have hnc32:=NB437_448.out;have hnb33:=NB448_440.out;have hnc33:=NB440_448.out;have hcz34_0:=bc0 BK448.out;have hfz34_0:=ja BK448.out 0) |((with_reducible refine jm (f:=47) rfl ?_);refine gL (some 15) Try.func47 #[.pointer (some ⟨g440,0,none⟩), .int .i64 2] ?_;(with_reducible refine (jr.calls k g440 t438 t447 2 t449 t450 w _ ?side1 ?side2 A4.out).mono ?_);(case side1=>exact Y48);(case side2=>exact Y49);rintro e w35 ⟨rfl,hi,hb,hk⟩;refine ⟨_,rfl,?_⟩;replace BK437:=am (jh.blk hk (g':=gb437) (o:=.cells #[.slice none 0 0] 31 (0,0)) (Y162) NB437_440.out (by simp));replace HO443:=am (Kd.jH (Kd.jNa (jc.apart (show jc w _ g440 t438 t447 from Y48) (by (with_reducible repeat (first | apply Kd.jka | apply Kd.joa | apply Kd.jua));exact (Kd.jH (Kd.jEa (p:=⟨gb448,0,none⟩) (Kd.jha HO443.out BK448.out (by decide)) (fun _ hk=>hk.2) (.slice Ao31 t441.length co31)) (fun _ h_=>h_.1))) (by decide)) hk (fun _ h=>h.2)) (fun _ h=>h.1));replace HO446:=am (Kd.jH (Kd.jNa (jc.apart (show jc w _ g440 t438 t447 from Y48) (by (with_reducible repeat (first | apply Kd.jka | apply Kd.joa | apply Kd.jua));exact (Kd.jH (Kd.jEa (p:=⟨gb448,0,none⟩) (Kd.jha HO446.out BK448.out (by decide)) (fun _ hk=>hk.2) (.slice Ao31 t441.length co31)) (fun _ h_=>h_.1))) (by decide)) hk (fun _ h=>h.2)) (fun _ h=>h.1));replace BK448:=am (jh.blk hk (g':=gb448) (o:=.cells #[.slice Ao31 t441.length co31] 31 (0,0)) (Y163) NB448_440.out (by simp));replace HB:=am (hb);replace HI440:=am (hi);(try clear hb);(try clear hb2);(try clear hk);(try clear hi);have hcz36_0:=bc0 BK448.out;have hfz36_0:=ja BK448.out 0;have hnb37:=NB437_440.out;have hnc37:=NB440_437.out;have hcz38_0:=bc0 BK437.out;have hfz38_0:=ja BK437.out 0))
  refine bodyPost_ret (jfc rfl _ _ gb437 31 #[.slice Ao31 t441.length co31] (0,0) _ rfl (Y164) Try.underlying31 rfl (by kernel_rfl)) rfl ?_
  exact ⟨_,_,Y0,by (with_reducible repeat (first | apply Kd.jka | apply Kd.joa | apply Kd.jua));exact Kd.jH (Kd.jEa (p:=⟨gb437,0,none⟩) (Kd.jha HO443.out BK437.out (by decide)) (fun _ hk=>hk.2) (.slice Ao31 t441.length co31)) (fun _ hk=>trivial),by (with_reducible repeat (first | apply Kd.jka | apply Kd.joa | apply Kd.jua));exact Kd.jH (Kd.jEa (p:=⟨gb437,0,none⟩) (Kd.jha HO446.out BK437.out (by decide)) (fun _ hk=>hk.2) (.slice Ao31 t441.length co31)) (fun _ hk=>trivial),Y49⟩
def jTb.f (l0 : List (S44)) : Option ((List (S44))) := some (l0)
set_option maxHeartbeats 8000000 in
set_option maxRecDepth 100000 in
theorem jTb.calls (P0_ : Nat → Prop) (u9000_ : Value) (l0 : List (S44)) (r : List (S44)) (w0 w : World) (hB : Below w0.heap.size w0 w) (ho0 : Kd.R k44 44 w w0.heap.size P0_ u9000_ l0) (h : jTb.f l0 = some r) :
  Calls Try.prog 84 #[u9000_] w fun e w'=>∃ v0_:Value,e=.returned (v0_)∧Kd.R k44 44 w' w0.heap.size (fun k_=>(P0_ k_∨w.heap.size≤k_)) v0_ r∧Below w0.heap.size w0 w'∧Kept w w' (fun k_=>P0_ k_):=by
 have HO0:=am (show Kd.R k44 44 w w0.heap.size (fun k_=>(P0_ k_∨w.heap.size≤k_)) u9000_ l0 from Kd.jH ho0 (fun k_ hk=>(.inl hk)))
 have HK:=am (Kept.refl w (fun k_=>P0_ k_))
 have HW0:=am hB.size
 have HB:=am hB
 clear hB
 have H:(some (l0))=some r:=h
 clear h
 obtain ⟨y461,hy461⟩:∃ y_:List (S44),y_=(l0):=⟨_,rfl⟩
 replace H:(some y461)=some r:=by first |(rw [hy461];with_reducible exact H) |(have H2_:=(Option.bind_some _ _).symm.trans H;rw [hy461];with_reducible exact H2_) |(have H2_:=(Option.bind_some _ _).symm.trans H;with_reducible exact H2_) | with_reducible exact H |(rw [hy461];exact H) | exact H
 have Ny461:=am hy461
 clear hy461
 obtain rfl:=Option.some.inj H
 obtain ⟨Ao2,co2,eo2⟩:=Kd.jM HO0.out
 subst eo2
 obtain ⟨i03,hi03,_,hsz3,_⟩:=info_parts info44
 have hy3:y461.length=l0.length:=(by rw [Ny461.out])
 have hcut3:=cut_clip (P:=Try.prog) 33 44 Try.underlying33 hi03 Ao2 _ co2 _ (Kd.jv HO0.out).2.1 hy3
 have hr3:=Kd.R_clip HO0.out Ny461.out
 clear hy3 hi03 hsz3 HO0
 have HO463:=am hr3
 clear hr3
 go_enter Try.func84,Try.ntmps84
 go_wp2
 go_ret
 exact ⟨_,Y0,rq HO463.out,bq,Y54⟩
def jtb.f (k : Nat) (l0_0 : List (S106)) (l1 : List (S44)) : Option ((List (S44)) × Bool) := (jW.f k l0_0 l1).bind fun t465 => (if t465 = true then ((jTb.f l1).bind fun t466 => (some (t466, true))) else (some (([] : List (S44)), false)))
set_option maxHeartbeats 8000000 in
set_option maxRecDepth 100000 in
theorem jtb.calls (k : Nat) (A0_0 : Option Addr) (c0_0 : Nat) (l0_0 : List (S106)) (P1_ : Nat → Prop) (u9000_ : Value) (l1 : List (S44)) (r1 : List (S44)) (r2 : Bool) (w0 w : World) (hB : Below w0.heap.size w0 w) (hr0_0 : ∀ W_, Kept w W_ (fun k_ => P1_ k_) → Kd.C k106 W_ A0_0 l0_0.length l0_0) (hc0_0 : l0_0.length ≤ c0_0) (ho1 : Kd.R k44 44 w w0.heap.size P1_ u9000_ l1) (h : jtb.f k l0_0 l1 = some (r1, r2)) :
  Calls Try.prog 52 #[.agg #[.slice A0_0 l0_0.length c0_0],u9000_] w fun e w'=>∃ v0_:Value,e=.returned (.tuple #[v0_, .bool r2])∧Kd.R k44 44 w' w0.heap.size (fun k_=>(P1_ k_∨w.heap.size≤k_)) v0_ r1∧Below w0.heap.size w0 w'∧Kept w w' (fun k_=>P1_ k_):=by
 have hu31:=Try.underlying31
 have HR0_0:=am hr0_0
 have HC0_0:=am hc0_0
 clear hr0_0 hc0_0
 have HO1:=am (show Kd.R k44 44 w w0.heap.size (fun k_=>(P1_ k_∨w.heap.size≤k_)) u9000_ l1 from Kd.jH ho1 (fun k_ hk=>(.inl hk)))
 have HK:=am (Kept.refl w (fun k_=>P1_ k_))
 have HW0:=am hB.size
 have HB:=am hB
 clear hB
 have H:((jW.f k l0_0 l1).bind fun t465=>(if t465=true then ((jTb.f l1).bind fun t466=>(some (t466,true))) else (some (([]:List (S44)),false))))=some (r1,r2):=h
 clear h
 replace H:=bzS H
 obtain ⟨t465,A30,H⟩:=H
 replace H:(if t465=true then ((jTb.f l1).bind fun t466=>(some (t466,true))) else (some (([]:List (S44)),false)))=some (r1,r2):=H
 have A3:=am A30
 clear A30
 by_cases c4:t465=true
 ·subst c4
  have H1:((jTb.f l1).bind fun t466=>(some (t466,true)))=some (r1,r2):=by rw [if_pos rfl] at H;exact H
  clear H
  have H:=H1
  clear H1
  replace H:=bzS H
  obtain ⟨t466,A50,H⟩:=H
  replace H:(some (t466,true))=some (r1,r2):=H
  have A5:=am A50
  clear A50
  simp only [Option.some.injEq,Prod.mk.injEq] at H
  obtain ⟨rfl,rfl⟩:=H
  go_enter Try.func52,Try.ntmps52
  go_wp2_with (first |((with_reducible refine jB (N:=2) rfl ?_);refine bE (N:=2) (cs:=#[.slice A0_0 l0_0.length c0_0]) (t:=31) ?_;intro gb464 hg w6 hbox hb;have BK464:=am (hbox);have GW464:=am ((Y165:w.heap.size≤gb464));have GE464:=am ((Y1:w0.heap.size≤gb464));replace HO1:=am (Kd.jG (rq HO1.out) hb);replace HK:=am (Kept.below (S:=(fun k_=>P1_ k_)) (Y54) hb);replace HB:=am (jb (bq) hb);clear hb hbox hg;have hcz7_0:=bc0 BK464.out;have hfz7_0:=ja BK464.out 0;obtain ⟨Ao8,co8,eo8⟩:=Kd.jM HO1.out;subst eo8) |((with_reducible refine jm (f:=17) rfl ?_);refine gL (some 8) Try.func17 #[.agg #[.slice A0_0 l0_0.length c0_0], .slice Ao8 l1.length co8] ?_;(with_reducible refine (jW.calls k _ _ l0_0 _ _ l1 true _ ?side1 ?side2 ?side3 ?side4 A3.out).mono ?_);(case side1=>exact Kd.jbd HR0_0.out (Y53));(case side2=>exact HC0_0.out);(case side3=>exact cq (Kd.jv HO1.out).2.2);(case side4=>exact (Kd.jv HO1.out).2.1);rintro e w9 ⟨rfl,hb⟩;refine ⟨_,rfl,?_⟩;replace HO1:=am (Kd.jG (rq HO1.out) hb);replace BK464:=am (je (g:=gb464) (o:=.cells #[.slice A0_0 l0_0.length c0_0] 31 (0,0)) (kq BK464.out) hb);replace HK:=am (Kept.below (S:=(fun k_=>P1_ k_)) (Y53) hb);replace HB:=am (jb (Y75) hb);(try clear hb);(try clear hb2);(try clear hk);(try clear hi)) |((with_reducible refine jm (f:=84) rfl ?_);refine gL (some 11) Try.func84 #[.slice Ao8 l1.length co8] ?_;(with_reducible refine (jTb.calls (fun k_=>some k_=(.slice Ao8 l1.length co8:Value).ownBlock) (.slice Ao8 l1.length co8) l1 t466 w0 _ ?side1 ?side2 A5.out).mono ?_);(case side1=>exact Y75);(case side2=>exact Kd.jlc rfl HO1.out);rintro e w10 ⟨v467,rfl,ho0,hb,hkp⟩;refine ⟨_,rfl,?_⟩;have n0_:=am (jub (kq BK464.out) hkp (fun hs_=>(fun e_=>(Kd.R_ne HO1.out BK464.out (by decide)) e_) hs_));have n1_:=am (Kd.jH (ok':=fun k_=>(P1_ k_∨w.heap.size≤k_)) ho0 (fun k_ hk_=>Or.elim hk_ (fun hs_=>(HO1.out.1 k_ (hs_).symm)) (fun hn_=>(.inr (Nat.le_trans (by first | exact HK.out.1 | exact (show Kept w _ (fun k_=>P1_ k_) from by repeat (first |(with_reducible first | exact HK.out | apply Kept.alloc | apply Kept.drewN | apply Kept.drew | refine Kept.setCell ?_ (.inr GW464.out) _) | exact HK.out)).1) hn_)))));have n2_:=am (Kept.then_ (S:=(fun k_=>P1_ k_)) (Y53) hkp (fun k_ hs_=>(fun e_=>(HO1.out.1 k_ e_.symm)) hs_));have n3_:=am (hb);clear BK464 HK HB HO1;have BK464:=n0_;have HO468:=n1_;have HK:=n2_;have HB:=n3_;clear n0_ n1_ n2_ n3_;(try clear hb);(try clear hkp);(try clear ho0)))
  go_ret2
  exact ⟨_,Y0,rq HO468.out,Y75,Y53⟩
 ·replace c4:=Bool.eq_false_iff.mpr c4
  subst c4
  have H1:(some (([]:List (S44)),false))=some (r1,r2):=by rw [if_neg (show ¬ (false=true) by decide)] at H;exact H
  clear H
  have H:=H1
  clear H1
  simp only [Option.some.injEq,Prod.mk.injEq] at H
  obtain ⟨rfl,rfl⟩:=H
  go_enter Try.func52,Try.ntmps52
  go_wp2_with (first |((with_reducible refine jB (N:=2) rfl ?_);refine bE (N:=2) (cs:=#[.slice A0_0 l0_0.length c0_0]) (t:=31) ?_;intro gb464 hg w11 hbox hb;have BK464:=am (hbox);have GW464:=am ((Y165:w.heap.size≤gb464));have GE464:=am ((Y1:w0.heap.size≤gb464));replace HO1:=am (Kd.jG (rq HO1.out) hb);replace HK:=am (Kept.below (S:=(fun k_=>P1_ k_)) (Y54) hb);replace HB:=am (jb (bq) hb);clear hb hbox hg;have hcz12_0:=bc0 BK464.out;have hfz12_0:=ja BK464.out 0;obtain ⟨Ao13,co13,eo13⟩:=Kd.jM HO1.out;subst eo13) |((with_reducible refine jm (f:=17) rfl ?_);refine gL (some 8) Try.func17 #[.agg #[.slice A0_0 l0_0.length c0_0], .slice Ao13 l1.length co13] ?_;(with_reducible refine (jW.calls k _ _ l0_0 _ _ l1 false _ ?side1 ?side2 ?side3 ?side4 A3.out).mono ?_);(case side1=>exact Kd.jbd HR0_0.out (Y53));(case side2=>exact HC0_0.out);(case side3=>exact cq (Kd.jv HO1.out).2.2);(case side4=>exact (Kd.jv HO1.out).2.1);rintro e w14 ⟨rfl,hb⟩;refine ⟨_,rfl,?_⟩;replace HO1:=am (Kd.jG (rq HO1.out) hb);replace BK464:=am (je (g:=gb464) (o:=.cells #[.slice A0_0 l0_0.length c0_0] 31 (0,0)) (kq BK464.out) hb);replace HK:=am (Kept.below (S:=(fun k_=>P1_ k_)) (Y53) hb);replace HB:=am (jb (Y75) hb);(try clear hb);(try clear hb2);(try clear hk);(try clear hi)))
  go_ret2
  exact ⟨_,Y0,Y115,Y75,Y53⟩

set_option maxHeartbeats 8000000 in
set_option maxRecDepth 100000 in
theorem slices_Grow_Exit.calls (n : Nat) (w : World) (hn : n < 4398046511104) :
  Calls Try.prog 85 #[.slice none 0 0, .int .i64 n] w fun e w'=>∃ v,e=.returned v∧Kd.R k44 44 w' w.heap.size (fun _=>True) v []∧Below w.heap.size w w':=by
 have hn0:¬ ((n:Int)<0):=by omega
 have hn0b:=dzF hn0
 have hw:wrap64 ((n:Int) - 0)=n:=by unfold wrap64;omega
 by_cases h0:n=0
 ·subst h0
  go_enter Try.func85,Try.ntmps85
  go_wp2
  go_ret
  exact ⟨_,rfl,Kd.R_nil _ _ _ _ _,Below.refl _ _⟩
 ·have hp:(n:Int) > 0:=by omega
  have hpb:=dzT hp
  go_enter Try.func85,Try.ntmps85
  go_wp2_with (at_builtin;refine Kd.R_append_zeros k44 (w0:=w) w.heap.size rfl (.tmp 20) (.tmp 21) 33 3 44 (.agg #[(.int .i64 0),(.int .i64 0),(.int .i64 0)]) 24 rfl Try.underlying33 Try.underlying3 info44 rfl (by decide) (by omega) (.slice none 0 0) [] (⟨0,0,0⟩:S44) (kx:=.i64) (n:Int) (fun _=>True) rfl rfl (jyc _ _ _ (⟨0,0,0⟩:S44)) (fun _ _=>trivial) (Kd.R_nil _ _ _ _ _) (by omega) (Below.refl _ _) (Nat.le_refl _) (by simp;omega) ?_;intro v1 w1 ho hb hg hat;obtain ⟨ad,c,rfl⟩:=Kd.R_slice1 ho (by simp;omega);simp only [List.nil_append,List.length_replicate,Int.toNat_natCast] at ho ⊢;have hz:=Kd.R_take (m:=0) ho (by simp))
  go_ret
  exact ⟨_,rfl,by simpa using hz,hb⟩
theorem jCc {α : Type} {l : List (List α)} {i : Nat} (h : i < l.length) : (l.take (i + 1)).flatten = (l.take i).flatten ++ l[i] := by
 rw [List.take_succ_eq_append_getElem h,List.flatten_append];simp
theorem flat_leExit {α : Type} (l : List (List α)) (i : Nat) : (l.take i).flatten.length ≤ l.flatten.length := by
 conv=>rhs;rw [← List.take_append_drop i l,List.flatten_append]
 rw [List.length_append];omega
theorem at_rowsExit {α : Type} {e : Nat} {d : Kd α} {w : World} {A : Option Addr} {l : List (List α)} (h : Kd.C (Kd.slice e d) w A l.length l) {i : Nat} (hi : i < l.length) :
  ∃ ad,A=some ad∧∃ B c,w.cell? (ad.add i)=some (.slice B l[i].length c)∧l[i].length≤c∧Kd.C d w B l[i].length l[i]:=by
 obtain ⟨ad,e,hc⟩:=h.2.2 (by omega)
 obtain ⟨c,hs,⟨B,c2,rfl,h1,h2⟩,hcell⟩:=hc i _ (List.getElem?_eq_getElem hi)
 refine ⟨ad,e,B,c2,?_,h1,h2⟩
 have:=hcell 0 _ rfl
 simpa [Kd.slice] using this
def jTa.f (l0 : List (List S44)) : Option (List S44) := if l0.flatten.length < 4398046511104 then some l0.flatten else none
set_option maxHeartbeats 8000000 in
set_option maxRecDepth 100000 in
theorem jTa.calls (A0 : Option Addr) (c0 : Nat) (l0 : List (List S44)) (r : List S44) (w : World) (hr0 : Kd.C (Kd.slice 44 k44) w A0 l0.length l0) (hc0 : l0.length ≤ c0) (h : jTa.f l0 = some r) :
  Calls Try.prog 53 #[.slice A0 l0.length c0] w fun e w'=>∃ v0_:Value,e=.returned v0_∧Kd.R k44 44 w' w.heap.size (fun _=>True) v0_ r∧Below w.heap.size w w':=by
 unfold jTa.f at h
 by_cases hlen:l0.flatten.length<4398046511104
 case neg=>rw [if_neg hlen] at h;cases h
 rw [if_pos hlen] at h
 obtain rfl:=Option.some.inj h
 clear h
 have hm:l0.length≤9223372036854775807:=Kd.C_max hr0
 have HR:=am hr0
 have HL:=am hlen
 clear hr0 hlen
 go_enter Try.func53,Try.ntmps53
 go_wp2
 go_loopw [3,11] (fun v3 v11 wr=>∃ i s:Nat,i≤l0.length∧v11=.int .i64 i∧v3=.int .i64 (s:Nat)∧w=wr∧jF ((l0.take i).flatten.length=s)) (fun _ v11 _=>l0.length - (intOf v11).toNat)
 case atStart=>exact ⟨0,0,Nat.zero_le _,rfl,rfl,rfl,⟨rfl⟩⟩
 case round =>
  obtain ⟨i,s,hi,rfl,rfl,rfl,HS⟩:=hrel
  by_cases hlt:i<l0.length
  ·obtain ⟨ad,rfl,B,cB,hcell,hcl,hC⟩:=at_rowsExit HR.out hlt
   have hb1:s+l0[i].length<4398046511104:=by
    have h1:=flat_leExit l0 (i+1)
    have h2:=HL.out
    have h3:=HS.out
    rw [jCc hlt,List.length_append] at h1
    omega
   have HS2:=am (show (l0.take (i+1)).flatten.length=s+l0[i].length by rw [jCc hlt,List.length_append,HS.out])
   clear hC HS
   obtain ⟨m,hmm⟩:∃ m,l0[i].length=m:=⟨_,rfl⟩
   rw [hmm] at hcell hb1 HS2 hcl
   clear hmm hcl
   have e1:wrap64 ((s:Int)+(m:Int))=(s:Int)+(m:Int):=by unfold wrap64;omega
   have n1:¬ ((s:Int)+(m:Int)<0):=by omega
   have n1b:=dzF n1
   go_wp2
   go_roundw
   case rel=>exact ⟨i+1,s+m,hlt,by go_num,by go_num,by first | trivial | rfl,HS2⟩
   case measure=>simp [intOf];omega
  ·obtain rfl:i=l0.length:=by omega
   have e0:l0.flatten.length=s:=by rw [← HS.out,List.take_of_length_le (Nat.le_refl _)]
   have HG:=am (slices_Grow_Exit.calls s w (by rw [← e0];exact HL.out))
   have HE:=am e0
   clear e0 HS
   go_wp2_with (go_at_call 85;refine HG.out.mono ?_;rintro e w1 ⟨vg,rfl,hR,hB⟩;have HV:=am hR;have HB:=am hB;clear hR hB)
   go_loopw [6,27] (fun v6 v27 wr=>∃ i:Nat,i≤l0.length∧v27=.int .i64 i∧jF (Kd.R k44 44 wr w.heap.size (fun _=>True) v6 (l0.take i).flatten)∧jF (Below w.heap.size w wr)) (fun _ v27 _=>l0.length - (intOf v27).toNat)
   case atStart=>exact ⟨0,Nat.zero_le _,rfl,⟨HV.out⟩,HB⟩
   case round =>
    clear HV HB
    obtain ⟨i,hi,rfl,HV,HB⟩:=hrel
    by_cases hlt:i<l0.length
    ·obtain ⟨ad,rfl,B,cB,hcell,hcl,hC⟩:=at_rowsExit HR.out hlt
     have HC:=am (Kd.jea hC HB.out)
     replace hcell:=(HB.out.cell (World.block_lt_of_cell? w _ hcell)).trans hcell
     have hl:(l0.take i).flatten.length+l0[i].length≤4398046511104:=by
      have h1:=flat_leExit l0 (i+1)
      have h2:=HL.out
      rw [jCc hlt,List.length_append] at h1
      omega
     have HLE:=am hl
     have HF:=am (jCc hlt)
     obtain ⟨x,hx⟩:∃ x,l0[i]=x:=⟨_,rfl⟩
     obtain ⟨y,hy⟩:∃ y,(l0.take i).flatten=y:=⟨_,rfl⟩
     rw [hx] at hcell HC HLE HF
     rw [hy] at HV HLE HF
     clear hC hcl hl hx hy
     go_wp2_with (at_builtin;refine Kd.jkd k44 (w0:=w) w.heap.size rfl (.tmp 31) (.tmp 32) 33 44 (.agg #[(.int .i64 0),(.int .i64 0),(.int .i64 0)]) 24 rfl Try.underlying33 info44 rfl (by decide) (by omega) _ y x _ _ _ (fun _=>True) (fun _=>False) rfl rfl HV.out HC.out (fun _ _ h=>h) (fun _ h=>h.elim) (fun _ _=>trivial) HB.out (jD HB.out) (by have:=HLE.out;omega) ?_;intro v1 w2 ho hb hg hat;have HV2:=am ho;have HB2:=am hb;clear ho hb hg hat)
     go_roundw
     case rel=>exact ⟨i+1,hlt,by go_num,⟨by rw [HF.out];exact HV2.out⟩,HB2⟩
     case measure=>simp [intOf];omega
    ·obtain rfl:i=l0.length:=by omega
     have HV2:=am (show Kd.R k44 44 wr w.heap.size (fun _=>True) _ l0.flatten by have:=HV.out;rw [List.take_of_length_le (Nat.le_refl _)] at this;exact this)
     clear HV
     go_wp2
     go_ret
     exact ⟨_,rfl,HV2.out,HB.out⟩
def jO.j0 : Nat → List (S44) → List (S44) → Bool → List (S106) → Option ((List (S44)) × Bool)
 | 0,_,_,_,_=>none
 | k+1,x1,x2,x17,x470000=>if x17=true then (some (([]:List (S44)),false)) else ((jTa.f (([x1,x2]:List (List (S44))))).bind fun t475=>((jtb.f k x470000 t475).bind fun bt478=>(some (bt478.1,bt478.2))))
def jO.f (k : Nat) (l0_0 : List (S106)) (l1 : List (S44)) (l2 : List (S44)) : Option ((List (S44)) × Bool) := (jW.f k l0_0 l1).bind fun t470 => (if t470 = true then ((jW.f k l0_0 l2).bind fun t471 => (jO.j0 k l1 l2 (!t471) l0_0)) else (jO.j0 k l1 l2 true l0_0))
def jO.T3 : Bool × List (List Nat × List Nat) := (true, [([], []), ([], []), ([], []), ([1, 2], [1, 2]), ([3], [3]), ([0, 4, 4], [0, 4]), ([5], [5]), ([5], [5]), ([6, 5, 0, 1, 2, 3, 4, 5, 6, 7], [6]), ([7, 8, 0, 1, 2, 3, 4, 5, 6, 7, 8], [7])])
def jO.B3 : List Nat := [0, 0, 0, 6, 14, 31, 63, 63, 255, 511]
theorem jO.tab3 : rtab .any (opsOf Try.f18 3) = jO.T3 := by kernel_rfl
theorem jO.bits3 : joc jO.T3.2 jO.B3 = true := by kernel_rfl
set_option maxHeartbeats 8000000 in
set_option maxRecDepth 100000 in
theorem jO.calls (k : Nat) (A0_0 : Option Addr) (c0_0 : Nat) (l0_0 : List (S106)) (P1_ : Nat → Prop) (A1 : Option Addr) (c1 : Nat) (l1 : List (S44)) (P2_ : Nat → Prop) (A2 : Option Addr) (c2 : Nat) (l2 : List (S44)) (r1 : List (S44)) (r2 : Bool) (w : World) (hr0_0 : Kd.C k106 w A0_0 l0_0.length l0_0) (hc0_0 : l0_0.length ≤ c0_0) (hs1 : Kd.V k44 44 w w.heap.size (fun k_ => P1_ k_) (.slice A1 l1.length c1) l1) (hs2 : Kd.V k44 44 w w.heap.size (fun k_ => P2_ k_) (.slice A2 l2.length c2) l2) (h : jO.f k l0_0 l1 l2 = some (r1, r2)) :
  Calls Try.prog 18 #[.agg #[.slice A0_0 l0_0.length c0_0], .slice A1 l1.length c1, .slice A2 l2.length c2] w fun e w'=>∃ v0_:Value,e=.returned (.tuple #[v0_, .bool r2])∧Kd.R k44 44 w' w.heap.size (fun k_=>(w.heap.size≤k_)) v0_ r1∧Below w.heap.size w w':=by
 have hu31:=Try.underlying31
 have HR0_0:=am hr0_0
 have HC0_0:=am hc0_0
 clear hr0_0 hc0_0
 have HO1:=am (show Kd.V k44 44 w w.heap.size (fun k_=>((P1_ k_∨P2_ k_)∨w.heap.size≤k_)) (.slice A1 l1.length c1) l1 from Kd.V_mono hs1 (fun k_ hk=>.inl (.inl hk)))
 have HO2:=am (show Kd.V k44 44 w w.heap.size (fun k_=>((P1_ k_∨P2_ k_)∨w.heap.size≤k_)) (.slice A2 l2.length c2) l2 from Kd.V_mono hs2 (fun k_ hk=>.inl (.inr hk)))
 have HB:=am (Below.refl w.heap.size w)
 have H:((jW.f k l0_0 l1).bind fun t470=>(if t470=true then ((jW.f k l0_0 l2).bind fun t471=>(jO.j0 k l1 l2 (!t471) l0_0)) else (jO.j0 k l1 l2 true l0_0)))=some (r1,r2):=h
 clear h
 have HC4:=am H
 clear H
 go_enter Try.func18,Try.ntmps18
 go_upto_region 1 with (first |((with_reducible refine jB (N:=3) rfl ?_);refine bE (N:=3) (cs:=#[.slice A0_0 l0_0.length c0_0]) (t:=31) ?_;intro gb469 hg w5 hbox hb;have BK469:=am (hbox);have GW469:=am ((Y1:w.heap.size≤gb469));have GE469:=am ((Y1:w.heap.size≤gb469));replace HO1:=am (Kd.V_below (Kd.V_elderB (Y93) gb469 (Nat.le_of_eq hg.symm)) hb);replace HO2:=am (Kd.V_below (Kd.V_elderB (Y94) gb469 (Nat.le_of_eq hg.symm)) hb);replace HB:=am (jb (bq) hb);clear hb hbox hg))
 (try simp only [Act.put,List.setIfInBounds_toArray,List.set_cons_zero,List.set_cons_succ])
 go_cut [17] (fun v17 wc=>∃ (kq:Nat) (x17_3:Bool),v17=.bool x17_3∧jF (jO.j0 kq l1 l2 x17_3 l0_0=some (r1,r2))∧jF (kq≤k)∧jF (Kd.V k44 44 wc w.heap.size (fun k_=>((P1_ k_∨P2_ k_)∨w.heap.size≤k_)∧k_≠gb469) (.slice A1 l1.length c1) l1)∧jF (Kd.V k44 44 wc w.heap.size (fun k_=>((P1_ k_∨P2_ k_)∨w.heap.size≤k_)∧k_≠gb469) (.slice A2 l2.length c2) l2)∧jF (wc.heap[gb469]?=some (.cells #[(.slice A0_0 l0_0.length c0_0)] 31 (0,0)))∧jF (Below w.heap.size w wc))
 case first =>
  have H:=HC4.out
  clear HC4
  replace H:=bzS H
  obtain ⟨t470,A60,H⟩:=H
  replace H:(if t470=true then ((jW.f k l0_0 l2).bind fun t471=>(jO.j0 k l1 l2 (!t471) l0_0)) else (jO.j0 k l1 l2 true l0_0))=some (r1,r2):=H
  have A6:=am A60
  clear A60
  by_cases c7:t470=true
  ·subst c7
   have H1:((jW.f k l0_0 l2).bind fun t471=>(jO.j0 k l1 l2 (!t471) l0_0))=some (r1,r2):=by rw [if_pos rfl] at H;exact H
   clear H
   have H:=H1
   clear H1
   replace H:=bzS H
   obtain ⟨t471,A80,H⟩:=H
   replace H:(jO.j0 k l1 l2 (!t471) l0_0)=some (r1,r2):=H
   have A8:=am A80
   clear A80
   have H':=am H
   clear H
   have hcz9_0:=bc0 BK469.out
   have hfz9_0:=ja BK469.out 0
   go_wp2_with (first |((with_reducible refine jm (f:=17) rfl ?_);refine gL (some 10) Try.func17 #[.agg #[.slice A0_0 l0_0.length c0_0], .slice A1 l1.length c1] ?_;(with_reducible refine (jW.calls k _ _ l0_0 _ _ l1 true _ ?side1 ?side2 ?side3 ?side4 A6.out).mono ?_);(case side1=>exact cq (Kd.jea HR0_0.out HB.out));(case side2=>exact HC0_0.out);(case side3=>exact cq (Kd.jTc HO1.out).2.2);(case side4=>exact (Kd.jTc HO1.out).2.1);rintro e w10 ⟨rfl,hb⟩;refine ⟨_,rfl,?_⟩;replace HO1:=am (Kd.V_below (Y93) hb);replace HO2:=am (Kd.V_below (Y94) hb);replace BK469:=am (je (g:=gb469) (o:=.cells #[.slice A0_0 l0_0.length c0_0] 31 (0,0)) (kq BK469.out) hb);replace HB:=am (jb (Y19) hb);(try clear hb);(try clear hb2);(try clear hk);(try clear hi);have hcz11_0:=bc0 BK469.out;have hfz11_0:=ja BK469.out 0) |(go_at_call 17;(with_reducible refine (jW.calls k _ _ l0_0 _ _ l2 t471 _ ?side1 ?side2 ?side3 ?side4 A8.out).mono ?_);(case side1=>exact cq (Kd.jea HR0_0.out HB.out));(case side2=>exact HC0_0.out);(case side3=>exact cq (Kd.jTc HO2.out).2.2);(case side4=>exact (Kd.jTc HO2.out).2.1);rintro e w12 ⟨rfl,hb⟩;replace HO1:=am (Kd.V_below (Y93) hb);replace HO2:=am (Kd.V_below (Y94) hb);replace BK469:=am (je (g:=gb469) (o:=.cells #[.slice A0_0 l0_0.length c0_0] 31 (0,0)) (kq BK469.out) hb);replace HB:=am (jb (Y19) hb);(try clear hb);(try clear hb2);(try clear hk);(try clear hi)))
   go_meet
   case rel=>exact ⟨_,(!t471),(sq),H',⟨Y17⟩,⟨by (with_reducible repeat (first | apply Kd.jXc | apply Kd.jWc | apply Kd.V_drew));exact HO1.out⟩,⟨by (with_reducible repeat (first | apply Kd.jXc | apply Kd.jWc | apply Kd.V_drew));exact HO2.out⟩,⟨kq BK469.out⟩,⟨Y19⟩⟩
  ·replace c7:=Bool.eq_false_iff.mpr c7
   subst c7
   have H1:(jO.j0 k l1 l2 true l0_0)=some (r1,r2):=by rw [if_neg (show ¬ (false=true) by decide)] at H;exact H
   clear H
   have H:=H1
   clear H1
   have H':=am H
   clear H
   have hcz13_0:=bc0 BK469.out
   have hfz13_0:=ja BK469.out 0
   go_wp2_with (first |((with_reducible refine jm (f:=17) rfl ?_);refine gL (some 10) Try.func17 #[.agg #[.slice A0_0 l0_0.length c0_0], .slice A1 l1.length c1] ?_;(with_reducible refine (jW.calls k _ _ l0_0 _ _ l1 false _ ?side1 ?side2 ?side3 ?side4 A6.out).mono ?_);(case side1=>exact cq (Kd.jea HR0_0.out HB.out));(case side2=>exact HC0_0.out);(case side3=>exact cq (Kd.jTc HO1.out).2.2);(case side4=>exact (Kd.jTc HO1.out).2.1);rintro e w14 ⟨rfl,hb⟩;refine ⟨_,rfl,?_⟩;replace HO1:=am (Kd.V_below (Y93) hb);replace HO2:=am (Kd.V_below (Y94) hb);replace BK469:=am (je (g:=gb469) (o:=.cells #[.slice A0_0 l0_0.length c0_0] 31 (0,0)) (kq BK469.out) hb);replace HB:=am (jb (Y19) hb);(try clear hb);(try clear hb2);(try clear hk);(try clear hi)))
   go_meet
   case rel=>exact ⟨_,(true),(sq),H',⟨Y17⟩,⟨by (with_reducible repeat (first | apply Kd.jXc | apply Kd.jWc | apply Kd.V_drew));exact HO1.out⟩,⟨by (with_reducible repeat (first | apply Kd.jXc | apply Kd.jWc | apply Kd.V_drew));exact HO2.out⟩,⟨kq BK469.out⟩,⟨Y19⟩⟩
 case rest =>
  clear HC4
  try clear c1
  try clear c2
  try clear p2
  try clear c7
  try clear hcz11_0
  try clear hcz13_0
  try clear hcz9_0
  try clear hfz11_0
  try clear hfz13_0
  try clear hfz9_0
  obtain ⟨kq,x17_3,rfl,HA,HJ3,HO_1,HO_2,BK469,HB⟩:=hcut
  cases kq with
  | zero=>exact absurd HA.out (by simp [jO.j0])
  | succ kj3 =>
   have H:=HA.out
   clear HA
   simp only [jO.j0] at H
   by_cases c15:x17_3=true
   ·subst c15
    have H1:(some (([]:List (S44)),false))=some (r1,r2):=by rw [if_pos rfl] at H;exact H
    clear H
    have H:=H1
    clear H1
    simp only [Option.some.injEq,Prod.mk.injEq] at H
    obtain ⟨rfl,rfl⟩:=H
    go_wp2
    go_ret2
    exact ⟨_,Y0,Y115,Y19⟩
   ·replace c15:=Bool.eq_false_iff.mpr c15
    subst c15
    have H1:((jTa.f (([l1,l2]:List (List (S44))))).bind fun t475=>((jtb.f kj3 l0_0 t475).bind fun bt478=>(some (bt478.1,bt478.2))))=some (r1,r2):=by rw [if_neg (show ¬ (false=true) by decide)] at H;exact H
    clear H
    have H:=H1
    clear H1
    obtain ⟨y472,hy472⟩:∃ y_:List (List (S44)),y_=(([l1,l2]:List (List (S44)))):=⟨_,rfl⟩
    replace H:((jTa.f y472).bind fun t475=>((jtb.f kj3 l0_0 t475).bind fun bt478=>(some (bt478.1,bt478.2))))=some (r1,r2):=by first |(rw [hy472];with_reducible exact H) |(have H2_:=(Option.bind_some _ _).symm.trans H;rw [hy472];with_reducible exact H2_) |(have H2_:=(Option.bind_some _ _).symm.trans H;with_reducible exact H2_) | with_reducible exact H |(rw [hy472];exact H) | exact H
    have Ny472:=am hy472
    clear hy472
    replace H:=bzS H
    obtain ⟨t475,A160,H⟩:=H
    replace H:((jtb.f kj3 l0_0 t475).bind fun bt478=>(some (bt478.1,bt478.2)))=some (r1,r2):=H
    have A16:=am A160
    clear A160
    replace H:=bzS H
    obtain ⟨⟨t478,t481⟩,A170,H⟩:=H
    replace H:(some (t478,t481))=some (r1,r2):=H
    have A17:=am A170
    clear A170
    simp only [Option.some.injEq,Prod.mk.injEq] at H
    obtain ⟨rfl,rfl⟩:=H
    try go_wp2
    replace HO_1:=am (Kd.V_drew HO_1.out)
    replace HO_2:=am (Kd.V_drew HO_2.out)
    replace BK469:=am (ji BK469.out)
    replace HB:=am (jq HB.out)
    refine jFc (n:=10) (S:=fun w'=>w'.cell? ⟨gb469,0,none⟩=some (.slice A0_0 l0_0.length c0_0)) (ds:=[]) #[false,false,false,false,false,false,false,false,false,false] (by kernel_rfl) rfl rfl ((jma BK469.out 0).trans rfl) (fun hHeld=>?_);refine jOb jO.tab3 jO.bits3 (fun HT_ HW_=>?_)
    generalize wc.drew=w18 at HO_1 HO_2 BK469 HB hHeld ⊢
    refine pq (i:=1) (N:=some 19) #[false,true,false,false,false,false,false,false,false,false] ?_
    refine pq (i:=2) (N:=some 20) #[false,true,true,false,false,false,false,false,false,false] ?_
    refine jbc (i:=0) (N:=some 18) (v:=?_) (a':=?_) #[true,true,true,false,false,false,false,false,false,false] rfl rfl (jkb HT_.out HW_.out (by kernel_rfl)) (fun _ _ _ h=>h) (Or.inl ⟨by rfl,?_⟩) hHeld ?_ ?_
    rotate_left
    ·intro w' s0
     go_simp
     with_reducible rfl
    rotate_left
    ·exact sa
    refine one_ (i:=3) (N:=some 21) #[true,true,true,true,false,false,false,false,false,false] rfl rfl (jRb HT_.out (by kernel_rfl)) (by decide) (fun K hK=>?_)
    refine Kd.N_lit_step (Kd.slice 44 k44) _ 33 ?hg (N':=21) ?hd (xs:=([l1,l2]:List (List (S44)))) (inner:=[.slice A1 l1.length c1, .slice A2 l2.length c2]) (ok:=(fun k_=>((P1_ k_∨P2_ k_)∨w.heap.size≤k_)∧k_≠gb469)) (okp:=(fun k_=>((P1_ k_∨P2_ k_)∨w.heap.size≤k_)∧k_≠gb469)) ?hr ?hp (fun _ hk=>hk) ((show ∀ k_,w18.heap.size≤k_→(fun k_=>((P1_ k_∨P2_ k_)∨w.heap.size≤k_)∧k_≠gb469) k_ from fun k_ hk=>⟨(.inr (Nat.le_trans (jD (Y19)) hk)),Kd.freshB (g:=gb469) (o:=.cells #[.slice A0_0 l0_0.length c0_0] 31 (0,0)) (kq BK469.out) k_ hk⟩) _ (Nat.le_refl _)) (Below.refl _ _) (Nat.le_refl _) (by simp) ?_;(case hd=>rfl);(case hg=>rfl);(case hr=>exact Y3);(case hp=>exact (Reps.one (show Kd.FK (Kd.slice 44 k44) _ _ l1 [.slice A1 l1.length c1] from (Kd.FK_slice_mk (Kd.jTc (Kd.V_mono (ok':=(fun k_=>((P1_ k_∨P2_ k_)∨w.heap.size≤k_)∧k_≠gb469)) (HO_1.out) (fun k_ hk=>⟨hk.1,hk.2⟩))).2.1 (Kd.V_F (Kd.V_mono (ok':=(fun k_=>((P1_ k_∨P2_ k_)∨w.heap.size≤k_)∧k_≠gb469)) (HO_1.out) (fun k_ hk=>⟨hk.1,hk.2⟩))))) (Reps.one (show Kd.FK (Kd.slice 44 k44) _ _ l2 [.slice A2 l2.length c2] from (Kd.FK_slice_mk (Kd.jTc (Kd.V_mono (ok':=(fun k_=>((P1_ k_∨P2_ k_)∨w.heap.size≤k_)∧k_≠gb469)) (HO_2.out) (fun k_ hk=>⟨hk.1,hk.2⟩))).2.1 (Kd.V_F (Kd.V_mono (ok':=(fun k_=>((P1_ k_∨P2_ k_)∨w.heap.size≤k_)∧k_≠gb469)) (HO_2.out) (fun k_ hk=>⟨hk.1,hk.2⟩))))) (Reps.none _ _))))
    intro v473 w19 ho20 hb hg_ hnew_
    clear hg_ hnew_
    (first | rw [← Ny472.out] at ho20 |(simp only [Int.reduceToNat] at ho20;rw [← Ny472.out] at ho20))
    have HO474:=am (Kd.N_lower ho20 (jD (Y19)))
    replace HO_1:=am (Kd.V_elder' (by (with_reducible repeat (first | apply Kd.jXc | apply Kd.jWc | apply Kd.V_drew));exact HO_1.out) (Kd.N_base ho20) hb)
    replace HO_2:=am (Kd.V_elder' (by (with_reducible repeat (first | apply Kd.jXc | apply Kd.jWc | apply Kd.V_drew));exact HO_2.out) (Kd.N_base ho20) hb)
    replace BK469:=am (je (g:=gb469) (o:=.cells #[.slice A0_0 l0_0.length c0_0] 31 (0,0)) (kq BK469.out) hb)
    replace HB:=am (jb (Y19) hb)
    clear hb ho20
    obtain ⟨Ao21,co21,eo21⟩:=Kd.N_slice HO474.out
    (first | subst eo21 |(injection eo21 with f1_ f2_ f3_;have f4_:=f1_.symm;have f5_:=f3_.symm;clear f1_ f2_ f3_;subst f4_;subst f5_))
    refine hK.out _ _ ((jma BK469.out 0).trans rfl) (fun hHeld=>?_)
    clear hK K
    refine jBc (a':=?_) ?_ ?_
    rotate_left
    ·show Act.put _ (some 21) _=_
     simp only [Act.put,List.setIfInBounds_toArray,List.set_cons_zero,List.set_cons_succ,jzb,jCb]
     rfl
    refine one_ (i:=4) (N:=some 22) #[true,true,true,true,true,false,false,false,false,false] rfl rfl (jRb HT_.out (by kernel_rfl)) (by decide) (fun K hK=>?_)
    refine goes_ Try.func53 (by kernel_rfl) rfl #[.slice Ao21 y472.length co21] (by rfl) rfl rfl (aq) ?_
    with_reducible refine (jTa.calls _ _ y472 t475 _ ?side1 ?side2 A16.out).mono ?_
    (case side1=>exact cq (Kd.N_reads' HO474.out).2.2)
    (case side2=>exact (Kd.N_reads' HO474.out).2.1)
    rintro e w22 ⟨v476,rfl,ho0,hb⟩
    refine ⟨_,rfl,?_⟩
    have HO477:=am (Kd.jda (Kd.R_newM (M:=fun k_=>(w.heap.size≤k_)) ho0 (jD (Y19)) (fun k_ h_=>h_)) (jD (Y19)))
    replace HO_1:=am (Kd.V_elder' (by (with_reducible repeat (first | apply Kd.jXc | apply Kd.jWc | apply Kd.V_drew));exact HO_1.out) (Kd.jAb ho0) hb)
    replace HO_2:=am (Kd.V_elder' (by (with_reducible repeat (first | apply Kd.jXc | apply Kd.jWc | apply Kd.V_drew));exact HO_2.out) (Kd.jAb ho0) hb)
    replace HO474:=am (Kd.N_elder' (by (with_reducible repeat (first | apply Kd.N_alloc | apply Kd.N_drewN | apply Kd.N_drew));exact HO474.out) (Kd.jAb ho0) hb)
    replace BK469:=am (je (g:=gb469) (o:=.cells #[.slice A0_0 l0_0.length c0_0] 31 (0,0)) (kq BK469.out) hb)
    replace HB:=am (jb (Y19) hb)
    (try clear hb)
    (try clear hb2)
    (try clear hk)
    (try clear hi)
    (try clear ho0)
    obtain ⟨Ao23,co23,eo23⟩:=Kd.jM HO477.out
    (first | subst eo23 |(injection eo23 with f1_ f2_ f3_;have f4_:=f1_.symm;have f5_:=f3_.symm;clear f1_ f2_ f3_;subst f4_;subst f5_))
    refine hK.out _ _ ((jma BK469.out 0).trans rfl) (fun hHeld=>?_)
    clear hK K
    refine jBc (a':=?_) ?_ ?_
    rotate_left
    ·show Act.put _ (some 22) _=_
     simp only [Act.put,List.setIfInBounds_toArray,List.set_cons_zero,List.set_cons_succ,jzb,jCb]
     rfl
    refine one_ (i:=5) (N:=some 23) #[true,true,true,true,true,true,false,false,false,false] rfl rfl (jRb HT_.out (by kernel_rfl)) (by decide) (fun K hK=>?_)
    refine goes_ Try.func52 (by kernel_rfl) rfl #[.agg #[.slice A0_0 l0_0.length c0_0], .slice Ao23 t475.length co23] (by rfl) rfl rfl (aq) ?_
    with_reducible refine (jtb.calls kj3 _ _ l0_0 (fun k_=>some k_=(.slice Ao23 t475.length co23:Value).ownBlock) (.slice Ao23 t475.length co23) t475 t478 t481 w _ ?side1 ?side2 ?side3 ?side4 A17.out).mono ?_
    (case side1=>exact Y19)
    (case side2=>exact Kd.jXb k106_heap HR0_0.out (Y19) (fun k_ hs_=>(fun e_=>Kd.jAb HO477.out k_ e_.symm) hs_))
    (case side3=>exact HC0_0.out)
    (case side4=>exact Kd.jlc rfl HO477.out)
    rintro e w24 ⟨v479,rfl,ho0,hb,hkp⟩
    refine ⟨_,rfl,?_⟩
    have n0_:=am (Kd.V_mono (ok':=fun k_=>((P1_ k_∨P2_ k_)∨w.heap.size≤k_)∧some k_≠(.slice Ao21 y472.length co21:Value).ownBlock∧k_≠gb469∧some k_≠(v479:Value).ownBlock) (Kd.V_keptB (HO_1.out) hkp (fun k_ hk_ hs_=>(hk_.2) hs_)) (fun k_ hk_=>⟨hk_.1.1.1.1,hk_.1.1.2,hk_.1.1.1.2,fun e_=>Or.elim (ho0.1 k_ e_.symm) (fun hs_=>hk_.2.1 hs_) (fun hn_=>Nat.not_le.2 hk_.2.2 hn_)⟩))
    have n1_:=am (Kd.V_mono (ok':=fun k_=>((P1_ k_∨P2_ k_)∨w.heap.size≤k_)∧some k_≠(.slice Ao21 y472.length co21:Value).ownBlock∧k_≠gb469∧some k_≠(v479:Value).ownBlock) (Kd.V_keptB (HO_2.out) hkp (fun k_ hk_ hs_=>(hk_.2) hs_)) (fun k_ hk_=>⟨hk_.1.1.1.1,hk_.1.1.2,hk_.1.1.1.2,fun e_=>Or.elim (ho0.1 k_ e_.symm) (fun hs_=>hk_.2.1 hs_) (fun hn_=>Nat.not_le.2 hk_.2.2 hn_)⟩))
    have n2_:=am (jub (kq BK469.out) hkp (fun hs_=>(fun e_=>(Kd.R_ne HO477.out BK469.out (by decide)) e_) hs_))
    have n3_:=am (Kd.N_mono (ok':=fun k_=>((P1_ k_∨P2_ k_)∨w.heap.size≤k_)∧k_≠gb469∧some k_≠(v479:Value).ownBlock) (Kd.N_keptB (HO474.out) hkp (fun k_ hk_ hs_=>(hk_.2) hs_)) (fun k_ hk_=>⟨hk_.1.1.1,hk_.1.1.2,fun e_=>Or.elim (ho0.1 k_ e_.symm) (fun hs_=>hk_.2.1 hs_) (fun hn_=>Nat.not_le.2 hk_.2.2 hn_)⟩))
    have n4_:=am (Kd.jH (ok':=fun k_=>(w.heap.size≤k_)) ho0 (fun k_ hk_=>Or.elim hk_ (fun hs_=>(HO477.out.1 k_ (hs_).symm).1) (fun hn_=>(Nat.le_trans (jD (Y19)) hn_))))
    have n5_:=am (hb)
    clear HO_1
    clear HO_2
    clear BK469
    clear HO474
    clear HB
    clear HO477
    have HO_1:=n0_
    have HO_2:=n1_
    have BK469:=n2_
    have HO474:=n3_
    have HO480:=n4_
    have HB:=n5_
    clear n0_ n1_ n2_ n3_ n4_ n5_
    (try clear hb)
    (try clear hkp)
    (try clear ho0)
    refine hK.out _ _ ((jma BK469.out 0).trans rfl) (fun hHeld=>?_)
    clear hK K
    refine jBc (a':=?_) ?_ ?_
    rotate_left
    ·show Act.put _ (some 23) _=_
     simp only [Act.put,List.setIfInBounds_toArray,List.set_cons_zero,List.set_cons_succ,jzb,jCb]
     rfl
    refine pq (i:=6) (N:=some 24) #[true,true,true,true,true,true,true,false,false,false] ?_
    refine pq (i:=7) (N:=some 25) #[true,true,true,true,true,true,true,true,false,false] ?_
    refine pq (i:=8) (N:=some 6) #[true,true,true,true,true,true,true,true,true,false] ?_
    refine pq (i:=9) (N:=some 7) #[true,true,true,true,true,true,true,true,true,true] ?_
    refine done_ (jKc HT_.out (by kernel_rfl)) ?_
    try go_wp2
    go_ret2
    exact ⟨_,Y0,rq HO480.out,Y19⟩
def esv (k : Nat) (t : List S106) (l : List S44) (x : Int) : Option Bool := (jHa.f k t l true x 0).bind fun s => some (s.2.2 == 0)
set_option maxHeartbeats 8000000 in
set_option maxRecDepth 100000 in
theorem impl_EscapesOf1_calls (k : Nat) (At : Option Addr) (ct : Nat) (t : List S106) (A1 : Option Addr) (c1 : Nat) (l : List S44) (x : Int) (b : Bool) (B0 B1 : Nat) (w : World) (hr : Kd.C k106 w At t.length t) (hct : t.length ≤ ct) (hr1 : Kd.C k44 w A1 l.length l) (hc1 : l.length ≤ c1) (h0 : w.cell? ⟨B0, 0, none⟩ = some (.slice At t.length ct)) (h1 : w.cell? ⟨B1, 0, none⟩ = some (.slice A1 l.length c1)) (h : esv k t l x = some b) :
  Calls Try.prog 54 #[.int .i64 x, .pointer (some ⟨B0,0,none⟩), .pointer (some ⟨B1,0,none⟩)] w fun e w'=>e=.returned (.bool b)∧Below w.heap.size w w':=by
 obtain ⟨s,hs,hb⟩:=bzS h
 have hu31:=Try.underlying31
 have hu110:=Try.underlying110
 have hu50:=Try.underlying50
 have hmx:Try.prog.follows .mixedOrders=true:=by kernel_rfl
 have hbw:Below w.heap.size w (((World.drew w).alloc (.cells #[.slice At t.length ct] 31)).alloc (.cells #[.slice At t.length ct, .slice none 0 0, .slice none 0 0, .slice none 0 0, .int .i64 (-1)] 110)):=(((Below.refl w.heap.size w).drew).alloc (Nat.le_refl _) _).alloc (by simp) _
 have HC:=am (jHa.calls k At ct t A1 c1 l true x 0 (w.heap.size+1) (.slice none 0 0) (-1) s (((World.drew w).alloc (.cells #[.slice At t.length ct] 31)).alloc (.cells #[.slice At t.length ct, .slice none 0 0, .slice none 0 0, .slice none 0 0, .int .i64 (-1)] 110)) (by have h:=heap_alloc_new ((World.drew w).alloc (.cells #[.slice At t.length ct] 31)) (.cells #[.slice At t.length ct, .slice none 0 0, .slice none 0 0, .slice none 0 0, .int .i64 (-1)] 110);rw [World.size_alloc] at h;exact h) (Kd.jXb k106_heap hr hbw (fun k hk=>by omega)) hct (Kd.jXb k44_heap hr1 hbw (fun k hk=>by omega)) hc1 hs)
 have HB:=am hbw
 have HZ:=am (Option.some.inj hb)
 have hB0:B0<w.heap.size:=World.block_lt_of_cell? w ⟨B0,0,none⟩ h0
 have hB1:B1<w.heap.size:=World.block_lt_of_cell? w ⟨B1,0,none⟩ h1
 clear h hs hb hr hr1 hbw
 go_enter Try.func54,Try.ntmps54
 go_wp2
 refine wp_region_held (S:=(fun W':World=>W'.cell? ⟨B0,0,none⟩=some (.slice At t.length ct)∧W'.cell? ⟨B1,0,none⟩=some (.slice A1 l.length c1))) hmx ?_
 change wpAnyH _ _ _ _ _ _ _ _ (World.drew w)
 have hS0:(fun W':World=>W'.cell? ⟨B0,0,none⟩=some (.slice At t.length ct)∧W'.cell? ⟨B1,0,none⟩=some (.slice A1 l.length c1)) (World.drew w):=⟨h0,h1⟩
 refine wpAnyH_take (i:=0) (v:=?_) rfl (by kernel_rfl) (by kernel_rfl) (by kernel_rfl) (fun _ _ _ h=>h) (Or.inl ⟨by kernel_rfl,?_⟩) hS0 ?_
 rotate_left
 ·rintro W' ⟨s1,s2⟩
  go_simp
  with_reducible rfl
 refine wpAnyH_take (i:=2) (v:=?_) rfl (by kernel_rfl) (by kernel_rfl) (by kernel_rfl) (fun _ _ _ h=>h) (Or.inl ⟨by kernel_rfl,?_⟩) hS0 ?_
 rotate_left
 ·rintro W' ⟨s1,s2⟩
  go_simp
  with_reducible rfl
 refine wpAnyH_take (i:=3) (v:=?_) rfl (by kernel_rfl) (by kernel_rfl) (by kernel_rfl) (fun _ _ _ h=>h) (Or.inl ⟨by kernel_rfl,?_⟩) hS0 ?_
 rotate_left
 ·rintro W' ⟨s1,s2⟩
  go_simp
  with_reducible rfl
 refine wpAnyH_take (i:=4) (v:=?_) rfl (by kernel_rfl) (by kernel_rfl) (by kernel_rfl) (fun _ _ _ h=>h) (Or.inl ⟨by kernel_rfl,?_⟩) hS0 ?_
 rotate_left
 ·rintro W' ⟨s1,s2⟩
  go_simp
  with_reducible rfl
 refine wpAnyH_all (rs:=[1]) (by kernel_rfl) (by simp) ?_
 intro ii hii
 obtain rfl:ii=1:=by simpa using hii
 clear hii
 refine wpOp_step rfl (fun K hK=>?_)
 go_simp
 refine (mm_new At ct t none 0 0 (World.drew w)).mono ?_
 rintro e w2 ⟨rfl,rfl⟩
 have hS1:(fun W':World=>W'.cell? ⟨B0,0,none⟩=some (.slice At t.length ct)∧W'.cell? ⟨B1,0,none⟩=some (.slice A1 l.length c1)) (((World.drew w).alloc (.cells #[.slice At t.length ct] 31)).alloc (.cells #[.slice At t.length ct, .slice none 0 0, .slice none 0 0, .slice none 0 0, .int .i64 (-1)] 110)):=⟨jI HB.out h0,jI HB.out h1⟩
 refine hK _ _ ⟨hS1,?_⟩
 clear hK K
 refine wpAnyH_all (rs:=[5]) (by kernel_rfl) (by simp) ?_
 intro ii hii
 obtain rfl:ii=5:=by simpa using hii
 clear hii
 refine wpOp_step rfl (fun K hK=>?_)
 go_simp
 refine HC.out.mono ?_
 rintro e w3 ⟨rfl,hz3,hK3,hB3⟩;clear hz3
 have hS2:(fun W':World=>W'.cell? ⟨B0,0,none⟩=some (.slice At t.length ct)∧W'.cell? ⟨B1,0,none⟩=some (.slice A1 l.length c1)) w3:=⟨jgc hS1.1 hK3 (by show ¬ B0=w.heap.size+1;omega),jgc hS1.2 hK3 (by show ¬ B1=w.heap.size+1;omega)⟩
 have HB3:=am (show Below w.heap.size w w3 from HB.out.trans ⟨hB3.os,hB3.tape,hB3.output,hB3.size,fun k hk=>hK3.2 k (Nat.lt_of_lt_of_le hk HB.out.size) (by omega)⟩)
 clear hK3 hB3 HC
 refine hK _ _ ⟨hS2,?_⟩
 clear hK K
 refine wpAnyH_take (i:=6) (v:=?_) rfl (by kernel_rfl) (by kernel_rfl) (by kernel_rfl) (fun _ _ _ h=>h) (Or.inl ⟨by kernel_rfl,?_⟩) hS2 ?_
 rotate_left
 ·rintro W' ⟨s1,s2⟩
  go_simp
  with_reducible rfl
 refine wpAnyH_take (i:=7) (v:=?_) rfl (by kernel_rfl) (by kernel_rfl) (by kernel_rfl) (fun _ _ _ h=>h) (Or.inl ⟨by kernel_rfl,?_⟩) hS2 ?_
 rotate_left
 ·rintro W' ⟨s1,s2⟩
  go_simp
  with_reducible rfl
 refine wpAnyH_done (by kernel_rfl) ?_ _
 rename_i K9 hK9
 refine hK9 _ _ ?_
 clear hK9 hS0 hS1 hS2
 go_simp
 go_wp2
 go_ret
 exact ⟨by rw [← HZ.out];rfl,HB3.out⟩
set_option maxHeartbeats 8000000 in
set_option maxRecDepth 100000 in
theorem impl_EscapesOf_filt (A0_0 : Option Addr) (c0_0 : Nat) (l0_0 : List S106) (B0_ : Nat) (B1_ : Nat) (p : Int → Option Bool) (r : List Int) (w : World) (hr0_0 : Kd.C k106 w A0_0 l0_0.length l0_0) (hlen : l0_0.length ≤ 1000000000) (h : jxb p l0_0.length 0 = some r)
  (hp:∀ W,Below w.heap.size w W→∀ (x:Int) (b:Bool),p x=some b→Calls Try.prog 54 #[.int .i64 x, .pointer (some ⟨B0_,0,none⟩), .pointer (some ⟨B1_,0,none⟩)] W fun e w'=>e=.returned (.bool b)∧Below W.heap.size W w') :
  Calls Try.prog 41 #[.agg #[.slice A0_0 l0_0.length c0_0], .func (.func 54) #[] #[.pointer (some ⟨B0_,0,none⟩), .pointer (some ⟨B1_,0,none⟩)]] w fun e w'=>∃ v0_:Value,e=.returned v0_∧Kd.R (Kd.int .i64) 3 w' w.heap.size (fun _=>True) v0_ r∧Below w.heap.size w w':=by
 have hu31:=Try.underlying31
 have HP:=am hp
 have H0:=am h
 have HB:=am (Below.refl w.heap.size w)
 clear hr0_0 hp h
 go_enter Try.func41,Try.ntmps41
 go_wp2_with (first |((with_reducible refine jB (N:=2) rfl ?_);refine bE (N:=2) (cs:=#[.slice A0_0 l0_0.length c0_0]) (t:=31) ?_;intro gb hg w5 hbox hb;have n0_:=am (jb (bq) hb);have n1_:=am (hbox);have n3_:=am ((Y1:w.heap.size≤gb));clear HB;have HB:=n0_;have BK:=n1_;have GE:=n3_;clear n0_ n1_ n3_ hb hbox hg;have hcz6_0:=bc0 BK.out;have hfz6_0:=ja BK.out 0) |((with_reducible refine jB (N:=10) rfl ?_);refine Kd.R_mkcap (Kd.int .i64) _ 3 rfl (N:=10) rfl 45 _ _ rfl (l0_0.length:Int) rfl rfl Try.underlying45 (.int .i64 0) 8 info3 rfl (by decide) (by omega) (ok:=fun _=>True) trivial (by omega) (by simp only [Int.toNat_natCast];omega) (Below.refl _ _) (Nat.le_refl _) ?_;intro v787 w7 ho8 hb hg_ hnew_;clear hg_ hnew_;have HO:=am (Kd.jda ho8 (jD (Y8)));replace BK:=am (je (g:=gb) (o:=.cells #[.slice A0_0 l0_0.length c0_0] 31 (0,0)) (kq BK.out) hb);replace HB:=am (jb (Y8) hb);clear hb ho8;have hcz7_0:=bc0 BK.out;have hfz7_0:=ja BK.out 0))
 go_loopw [5,14] (fun v5 v14 w'=>∃ (i:Nat) (acc:List Int),i≤l0_0.length∧v14=.int .i64 i∧jF (∃ rest,jxb p (l0_0.length - i) i=some rest∧acc ++ rest=r)∧jF (acc.length≤i)∧jF (Kd.R (Kd.int .i64) 3 w' w.heap.size (fun _=>True) v5 acc)∧jF (w'.heap[gb]?=some (.cells #[.slice A0_0 l0_0.length c0_0] 31 (0,0)))∧jF (Below w.heap.size w w')) (fun _ v14 _=>l0_0.length - (intOf v14).toNat)
 case atStart=>exact ⟨0,[],Nat.zero_le _,rfl,⟨r,H0.out,rfl⟩,⟨Nat.le_refl _⟩,⟨rq HO.out⟩,⟨kq BK.out⟩,⟨(Y8)⟩⟩
 case round =>
  clear H0 HO BK HB
  try clear hcz6_0
  try clear hcz7_0
  try clear hfz6_0
  try clear hfz7_0
  obtain ⟨i,acc,hi,rfl,HA,HN,HO,BK,HB⟩:=hrel
  by_cases hlt:i<l0_0.length
  ·obtain ⟨rest,h1,h2⟩:=HA.out
   obtain ⟨b,hb1,rest2,h3,h4⟩:=filtFrom_step hlt h1 h2
   clear HA h1 h2
   have HQ:=am hb1
   clear hb1
   cases b with
   | true =>
    have HZ:=am (show ∃ rest,jxb p (l0_0.length - (i+1)) (i+1)=some rest∧(acc ++ [(i:Int)]) ++ rest=r from ⟨rest2,h3,by simpa using h4⟩)
    clear h3 h4
    go_wp2_with (first |(go_at_call 54;refine (HP.out _ (Y8) _ _ HQ.out).mono ?_;rintro e w2 ⟨rfl,hb2⟩;have n0_:=am (je (g:=gb) (o:=.cells #[.slice A0_0 l0_0.length c0_0] 31 (0,0)) (kq BK.out) hb2);have n1_:=am (Kd.jG (rq HO.out) hb2);have n2_:=am (jb (Y8) hb2);clear BK HO HB;have BK:=n0_;have HO:=n1_;have HB:=n2_;clear n0_ n1_ n2_ hb2) |((with_reducible refine jib (b:=.append) (xs:=#[.tmp 20, .tmp 22]) rfl ?_);at_builtin;refine Kd.jnc (Kd.int .i64) (w0:=w) w.heap.size rfl (.tmp 20) (.tmp 22) 45 3 (.int .i64 0) 8 rfl Try.underlying45 info3 rfl (by decide) (by omega) u5 acc (i:Int) [.int .i64 (i:Int)] (fun _=>True) (fun _=>False) rfl rfl ?aP (fun _ hk=>hk.elim) ?aF ?aO ?aB ?aS ?aL ?_;(case aP=>exact rfl);(case aB=>exact (Y8));(case aF=>exact (fun _ _=>trivial));(case aO=>exact (rq HO.out));(case aS=>exact (jD (Y8)));(case aL=>have:=HN.out;omega);intro v790 w13 ho hb hg hat;replace BK:=am (jU (g:=gb) (o:=.cells #[.slice A0_0 l0_0.length c0_0] 31 (0,0)) (kq BK.out) hg (Kd.R_ne HO.out BK.out (by decide)));replace HB:=am (hb);replace HO:=am (ho);clear ho hb hg hat))
    go_roundw
    case rel=>exact ⟨i+1,acc ++ [(i:Int)],hlt,by go_num,HZ,⟨by have:=HN.out;simp;omega⟩,⟨rq HO.out⟩,⟨kq BK.out⟩,⟨(Y8)⟩⟩
    case measure=>simp [intOf];omega
   | false =>
    have HZ:=am (show ∃ rest,jxb p (l0_0.length - (i+1)) (i+1)=some rest∧acc ++ rest=r from ⟨rest2,h3,by simpa using h4⟩)
    clear h3 h4
    go_wp2_with (go_at_call 54;refine (HP.out _ (Y8) _ _ HQ.out).mono ?_;rintro e w2 ⟨rfl,hb2⟩;have n0_:=am (je (g:=gb) (o:=.cells #[.slice A0_0 l0_0.length c0_0] 31 (0,0)) (kq BK.out) hb2);have n1_:=am (Kd.jG (rq HO.out) hb2);have n2_:=am (jb (Y8) hb2);clear BK HO HB;have BK:=n0_;have HO:=n1_;have HB:=n2_;clear n0_ n1_ n2_ hb2)
    go_roundw
    case rel=>exact ⟨i+1,acc,hlt,by go_num,HZ,⟨by have:=HN.out;omega⟩,⟨rq HO.out⟩,⟨kq BK.out⟩,⟨(Y8)⟩⟩
    case measure=>simp [intOf];omega
  ·obtain rfl:i=l0_0.length:=by omega
   obtain ⟨rest,h1,h2⟩:=HA.out
   have he:=filtFrom_end h1 h2
   clear HA h1 h2
   subst he
   obtain ⟨Ao15,co15,eo15⟩:=Kd.jM HO.out
   subst eo15
   obtain ⟨i016,hi016,_,hsz16,_⟩:=info_parts info3
   have hcut16:=cut_clip (P:=Try.prog) 45 3 Try.underlying45 hi016 Ao15 _ co15 _ (Kd.jv HO.out).2.1 rfl
   have hr16:=Kd.R_clip HO.out (rfl:acc=acc)
   clear hi016 hsz16 HO
   have HO795:=am hr16
   clear hr16
   go_wp2
   go_ret
   exact ⟨_,Y0,rq HO795.out,(Y8)⟩
def jeb.f (k : Nat) (l0_0 : List S106) (l1 : List S44) : Option (List Int) := (jW.f k l0_0 l1).bind fun v => if v = true then (if l0_0.length ≤ 1000000000 then jxb (esv k l0_0 l1) l0_0.length 0 else none) else some []
set_option maxHeartbeats 8000000 in
set_option maxRecDepth 100000 in
theorem jeb.calls (k : Nat) (A0_0 : Option Addr) (c0_0 : Nat) (l0_0 : List S106) (A1 : Option Addr) (c1 : Nat) (l1 : List S44) (r : List Int) (w : World) (hr0_0 : Kd.C k106 w A0_0 l0_0.length l0_0) (hc0_0 : l0_0.length ≤ c0_0) (hr1 : Kd.C k44 w A1 l1.length l1) (hc1 : l1.length ≤ c1) (h : jeb.f k l0_0 l1 = some r) :
  Calls Try.prog 19 #[.agg #[.slice A0_0 l0_0.length c0_0], .slice A1 l1.length c1] w fun e w'=>∃ v0_:Value,e=.returned v0_∧Kd.R (Kd.int .i64) 3 w' w.heap.size (fun _=>True) v0_ r∧Below w.heap.size w w':=by
 obtain ⟨v,hv,h⟩:=bzS h
 have hu31:=Try.underlying31
 have HB:=am (show Below w.heap.size w ((w.alloc (.cells #[.slice A0_0 l0_0.length c0_0] 31)).alloc (.cells #[.slice A1 l1.length c1] 33)) from ((Below.refl w.heap.size w).alloc (Nat.le_refl _) _).alloc (by simp) _)
 have CT:=am (show ((w.alloc (.cells #[.slice A0_0 l0_0.length c0_0] 31)).alloc (.cells #[.slice A1 l1.length c1] 33)).cell? ⟨w.heap.size,0,none⟩=some (.slice A0_0 l0_0.length c0_0) from mo0 (jd (heap_alloc_new w (.cells #[.slice A0_0 l0_0.length c0_0] 31)) (.cells #[.slice A1 l1.length c1] 33)))
 have CL:=am (show ((w.alloc (.cells #[.slice A0_0 l0_0.length c0_0] 31)).alloc (.cells #[.slice A1 l1.length c1] 33)).cell? ⟨w.heap.size+1,0,none⟩=some (.slice A1 l1.length c1) from mo0 (show ((w.alloc (.cells #[.slice A0_0 l0_0.length c0_0] 31)).alloc (.cells #[.slice A1 l1.length c1] 33)).heap[w.heap.size+1]?=some (.cells #[.slice A1 l1.length c1] 33 (0,0)) by have h:=heap_alloc_new (w.alloc (.cells #[.slice A0_0 l0_0.length c0_0] 31)) (.cells #[.slice A1 l1.length c1] 33);simpa only [World.size_alloc] using h))
 have HV:=am (fun W (hb:Below w.heap.size w W)=>jW.calls k A0_0 c0_0 l0_0 A1 c1 l1 v W (Kd.jea hr0_0 hb) hc0_0 (Kd.jea hr1 hb) hc1 hv)
 cases v with
 | false =>
  rw [if_neg (by simp)] at h
  obtain rfl:=Option.some.inj h
  clear hv hr0_0 hr1
  go_enter Try.func19,Try.ntmps19
  go_wp2_with (go_at_call 17;refine (HV.out _ HB.out).mono ?_;rintro e w1 ⟨rfl,hb2⟩)
  go_ret
  exact ⟨_,rfl,Kd.R_nil _ _ _ _ _,jb HB.out hb2⟩
 | true =>
  rw [if_pos rfl] at h
  by_cases hlen:l0_0.length≤1000000000
  case neg=>rw [if_neg hlen] at h;cases h
  rw [if_pos hlen] at h
  have HF:=am (fun W (hb:Below w.heap.size w W) (B0 B1:Nat) (h0:W.cell? ⟨B0,0,none⟩=some (.slice A0_0 l0_0.length c0_0)) (h1:W.cell? ⟨B1,0,none⟩=some (.slice A1 l1.length c1))=>impl_EscapesOf_filt A0_0 c0_0 l0_0 B0 B1 (esv k l0_0 l1) r W (Kd.jea hr0_0 hb) hlen h (fun W' hb' x b hx =>
   impl_EscapesOf1_calls k A0_0 c0_0 l0_0 A1 c1 l1 x b B0 B1 W' (Kd.jea (Kd.jea hr0_0 hb) hb') hc0_0 (Kd.jea (Kd.jea hr1 hb) hb') hc1 (jI hb' h0) (jI hb' h1) hx))
  clear hv h hr0_0 hr1 hlen
  go_enter Try.func19,Try.ntmps19
  go_wp2_with (first |(go_at_call 17;refine (HV.out _ HB.out).mono ?_;rintro e w1 ⟨rfl,hb2⟩;have hb1:=am (jb HB.out hb2);have c0:=jI hb2 CT.out;have c1':=jI hb2 CL.out;clear HV hb2) |(go_at_call 41;refine (HF.out _ hb1.out _ _ c0 c1').mono ?_;rintro e w2 ⟨v2,rfl,hr2,hb3⟩))
  go_ret
  exact ⟨_,rfl,Kd.jda hr2 hb1.out.size,jb hb1.out hb3⟩
def jja.j0 : Nat → List (S44) → Bool → Bool → List (S106) → Option (Bool)
 | 0,_,_,_,_=>none
 | k+1,x4,x5,x29,x489000=>if x29=true then ((jLa.f k x489000 x4).bind fun t492=>(some (x5 == t492))) else ((jO.f k x489000 (([(⟨2,0,0⟩:S44)]:List (S44))) x4).bind fun bt496=>(if x5=true then ((jeb.f k x489000 x4).bind fun t500=>(if (t500.length:Int)=0 then (if bt496.2=true then ((jga.f k x489000 bt496.1).bind fun t503=>(some t503)) else (some true)) else (some false))) else (if bt496.2=true then ((jga.f k x489000 bt496.1).bind fun t504=>(some t504)) else (some true))))
def jja.f (k : Nat) (l0 : List Int) : Option (Bool) := if (l0.length : Int) > 1048576 then (some true) else ((jrb.f k l0).bind fun bt482 => ((jga.f k bt482.1 bt482.2).bind fun t489 => ((jLa.f k bt482.1 bt482.2).bind fun t490 => (if (t489 != t490) = true then (jja.j0 k bt482.2 t489 true bt482.1) else ((jW.f k bt482.1 bt482.2).bind fun t491 => (jja.j0 k bt482.2 t489 (!t491) bt482.1))))))
set_option maxHeartbeats 8000000 in
set_option maxRecDepth 100000 in
theorem jja.calls (k : Nat) (A0 : Option Addr) (c0 : Nat) (l0 : List Int) (r : Bool) (w : World) (hr0 : Kd.C (Kd.int .u8) w A0 l0.length l0) (hc0 : l0.length ≤ c0) (hT : r = true) (h : jja.f k l0 = some r) :
  Calls Try.prog 4 #[.slice A0 l0.length c0] w fun e w'=>e=.returned (.bool r)∧Below w.heap.size w w':=by
 have hu31:=Try.underlying31
 have hu44:=Try.underlying44
 have HR0:=am hr0
 have HC0:=am hc0
 clear hr0 hc0
 have HB:=am (Below.refl w.heap.size w)
 have H:(if (l0.length:Int) > 1048576 then (some true) else ((jrb.f k l0).bind fun bt482=>((jga.f k bt482.1 bt482.2).bind fun t489=>((jLa.f k bt482.1 bt482.2).bind fun t490=>(if (t489 != t490)=true then (jja.j0 k bt482.2 t489 true bt482.1) else ((jW.f k bt482.1 bt482.2).bind fun t491=>(jja.j0 k bt482.2 t489 (!t491) bt482.1)))))))=some r:=h
 clear h
 by_cases c2:(l0.length:Int) > 1048576
 ·rw [if_pos c2] at H
  have c2b0:decide (1048576<(l0.length:Int))=true:=dzT c2
  have c2b1:decide (1048576<l0.length)=true:=dzT (by omega)
  clear c2
  obtain rfl:=Option.some.inj H
  go_enter Try.func4,Try.ntmps4
  go_wp2
  go_ret
  exact ⟨Y0,bq⟩
 ·rw [if_neg c2] at H
  have c2b0:decide (1048576<(l0.length:Int))=false:=dzF c2
  have c2b1:decide (1048576<l0.length)=false:=dzF (by omega)
  clear c2
  replace H:=bzS H
  obtain ⟨⟨t482,t485⟩,A30,H⟩:=H
  replace H:((jga.f k t482 t485).bind fun t489=>((jLa.f k t482 t485).bind fun t490=>(if (t489 != t490)=true then (jja.j0 k t485 t489 true t482) else ((jW.f k t482 t485).bind fun t491=>(jja.j0 k t485 t489 (!t491) t482)))))=some r:=H
  have A3:=am A30
  clear A30
  replace H:=bzS H
  obtain ⟨t489,A40,H⟩:=H
  replace H:((jLa.f k t482 t485).bind fun t490=>(if (t489 != t490)=true then (jja.j0 k t485 t489 true t482) else ((jW.f k t482 t485).bind fun t491=>(jja.j0 k t485 t489 (!t491) t482))))=some r:=H
  have A4:=am A40
  clear A40
  have HC5:=am H
  clear H
  go_enter Try.func4,Try.ntmps4
  go_upto_region 5 with (first |((with_reducible refine jm (f:=16) rfl ?_);refine gL (some 13) Try.func16 #[.slice A0 l0.length c0] ?_;(with_reducible refine (jrb.calls k _ _ l0 t482 t485 _ ?side1 ?side2 A3.out).mono ?_);(case side1=>exact Y139);(case side2=>exact HC0.out);rintro e w6 ⟨v483,v486,rfl,ho0,ho1,hb⟩;refine ⟨_,rfl,?_⟩;have HO484:=am (Kd.jda ho0 (jD (bq)));have HO487:=am (Kd.jda ho1 (jD (bq)));replace HB:=am (jb (bq) hb);(try clear hb);(try clear hb2);(try clear hk);(try clear hi);(try clear ho0);(try clear ho1)) |((with_reducible refine jB (N:=3) rfl ?_);(try (refine jEc (by rfl) ?_;dsimp only));refine box_event ?hg (N:=3) ?hd (cs:=#[.slice none 0 0]) (t:=31) ?hr ?_;(case hd=>rfl);(case hg=>rfl);(case hr=>exact Y3);intro gb488 hg w7 hbox hb;have BK488:=am (hbox);have GW488:=am ((Y1:w.heap.size≤gb488));have GE488:=am ((Y1:w.heap.size≤gb488));replace HO484:=am (Kd.jG (rq HO484.out) hb);replace HO487:=am (Kd.jG (rq HO487.out) hb);replace HB:=am (jb (bq) hb);clear hb hbox hg;obtain ⟨Ao8,co8,eo8⟩:=Kd.jM HO484.out;subst eo8;have hcz9_0:=bc0 BK488.out;have hfz9_0:=ja BK488.out 0;obtain ⟨Ao10,co10,eo10⟩:=Kd.jM HO487.out;subst eo10) |((with_reducible refine jm (f:=13) rfl ?_);refine gL (some 18) Try.func13 #[.agg #[.slice Ao8 t482.length co8], .slice Ao10 t485.length co10] ?_;(with_reducible refine (jga.calls k _ _ t482 _ _ t485 t489 _ ?side1 ?side2 ?side3 ?side4 A4.out).mono ?_);(case side1=>refine (Kd.jv (e:=106) (base:=w.heap.size) (ok:=fun k_=>True) (n:=t482.length) (c:=co8) ?_).2.2;exact (Y166));(case side2=>exact (Kd.jv HO484.out).2.1);(case side3=>refine (Kd.jv (e:=44) (base:=w.heap.size) (ok:=fun k_=>True) (n:=t485.length) (c:=co10) ?_).2.2;exact (Y167));(case side4=>exact (Kd.jv HO487.out).2.1);rintro e w11 ⟨rfl,hb⟩;refine ⟨_,rfl,?_⟩;replace HO484:=am (Kd.jG (Y166) hb);replace HO487:=am (Kd.jG (Y167) hb);replace BK488:=am (je (g:=gb488) (o:=.cells #[.slice Ao8 t482.length co8] 31 (0,0)) (by (with_reducible repeat (first | refine jf ?_ _ | refine ji ?_ | refine jd ?_ _));refine jna (cs:=#[.slice none 0 0]) ?_ 0 _ rfl;(with_reducible repeat (first | refine jf ?_ _ | refine ji ?_ | refine jd ?_ _));exact BK488.out) hb);replace HB:=am (jb (Y6) hb);(try clear hb);(try clear hb2);(try clear hk);(try clear hi)))
  (try simp only [Act.put,List.setIfInBounds_toArray,List.set_cons_zero,List.set_cons_succ])
  go_cut [29] (fun v29 wc=>∃ (kq:Nat) (x29_4:Bool),v29=.bool x29_4∧jF (jja.j0 kq t485 t489 x29_4 t482=some r)∧jF (kq≤k)∧jF (Kd.R k44 44 wc w.heap.size (fun _=>True) (.slice Ao10 t485.length co10) t485)∧jF (Kd.R k106 106 wc w.heap.size (fun _=>True) (.slice Ao8 t482.length co8) t482)∧jF (wc.heap[gb488]?=some (.cells #[(.slice Ao8 t482.length co8)] 31 (0,0)))∧jF (Below w.heap.size w wc))
  case first =>
   have H:=HC5.out
   clear HC5
   replace H:=bzS H
   obtain ⟨t490,A120,H⟩:=H
   replace H:(if (t489 != t490)=true then (jja.j0 k t485 t489 true t482) else ((jW.f k t482 t485).bind fun t491=>(jja.j0 k t485 t489 (!t491) t482)))=some r:=H
   have A12:=am A120
   clear A120
   by_cases c13:(t489 != t490)=true
   ·rw [if_pos c13] at H
    have c13b0:(t489 != t490)=true:=c13
    (try (have c13b1:decide (t489=t490)=false:=by simpa using c13))
    (try (have c13b2:(t489 == t490)=false:=by simpa using c13))
    (try (have c13b3:¬ (t489=t490):=by simpa using c13))
    clear c13
    (first | rw [c13b0] |(simp only [jzb,jCb];rw [c13b0]) | skip)
    have H':=am H
    clear H
    have hcz14_0:=bc0 BK488.out
    have hfz14_0:=ja BK488.out 0
    go_wp2_with (first |((with_reducible refine jm (f:=10) rfl ?_);refine gL (some 22) Try.func10 #[.agg #[.slice Ao8 t482.length co8], .slice Ao10 t485.length co10] ?_;(with_reducible refine (jLa.calls k _ _ t482 _ _ t485 t490 _ ?side1 ?side2 ?side3 ?side4 A12.out).mono ?_);(case side1=>exact cq (Kd.jv HO484.out).2.2);(case side2=>exact (Kd.jv HO484.out).2.1);(case side3=>exact cq (Kd.jv HO487.out).2.2);(case side4=>exact (Kd.jv HO487.out).2.1);rintro e w15 ⟨rfl,hb⟩;refine ⟨_,rfl,?_⟩;replace HO484:=am (Kd.jG (rq HO484.out) hb);replace HO487:=am (Kd.jG (rq HO487.out) hb);replace BK488:=am (je (g:=gb488) (o:=.cells #[.slice Ao8 t482.length co8] 31 (0,0)) (kq BK488.out) hb);replace HB:=am (jb (Y6) hb);(try clear hb);(try clear hb2);(try clear hk);(try clear hi)))
    go_meet
    case rel=>exact ⟨_,(true),(sq),H',⟨Y17⟩,⟨rq HO487.out⟩,⟨rq HO484.out⟩,⟨kq BK488.out⟩,⟨Y6⟩⟩
   ·rw [if_neg c13] at H
    have c13b0:(t489 != t490)=false:=by simpa using c13
    (try (have c13b1:decide (t489=t490)=true:=by simpa using c13))
    (try (have c13b2:(t489 == t490)=true:=by simpa using c13))
    clear c13
    (first | rw [c13b0] |(simp only [jzb,jCb];rw [c13b0]) | skip)
    replace H:=bzS H
    obtain ⟨t491,A160,H⟩:=H
    replace H:(jja.j0 k t485 t489 (!t491) t482)=some r:=H
    have A16:=am A160
    clear A160
    have H':=am H
    clear H
    have hcz17_0:=bc0 BK488.out
    have hfz17_0:=ja BK488.out 0
    go_wp2_with (first |((with_reducible refine jm (f:=10) rfl ?_);refine gL (some 22) Try.func10 #[.agg #[.slice Ao8 t482.length co8], .slice Ao10 t485.length co10] ?_;(with_reducible refine (jLa.calls k _ _ t482 _ _ t485 t490 _ ?side1 ?side2 ?side3 ?side4 A12.out).mono ?_);(case side1=>exact cq (Kd.jv HO484.out).2.2);(case side2=>exact (Kd.jv HO484.out).2.1);(case side3=>exact cq (Kd.jv HO487.out).2.2);(case side4=>exact (Kd.jv HO487.out).2.1);rintro e w18 ⟨rfl,hb⟩;refine ⟨_,rfl,?_⟩;replace HO484:=am (Kd.jG (rq HO484.out) hb);replace HO487:=am (Kd.jG (rq HO487.out) hb);replace BK488:=am (je (g:=gb488) (o:=.cells #[.slice Ao8 t482.length co8] 31 (0,0)) (kq BK488.out) hb);replace HB:=am (jb (Y6) hb);(try clear hb);(try clear hb2);(try clear hk);(try clear hi);have hcz19_0:=bc0 BK488.out;have hfz19_0:=ja BK488.out 0) |(go_at_call 17;(with_reducible refine (jW.calls k _ _ t482 _ _ t485 t491 _ ?side1 ?side2 ?side3 ?side4 A16.out).mono ?_);(case side1=>exact cq (Kd.jv HO484.out).2.2);(case side2=>exact (Kd.jv HO484.out).2.1);(case side3=>exact cq (Kd.jv HO487.out).2.2);(case side4=>exact (Kd.jv HO487.out).2.1);rintro e w20 ⟨rfl,hb⟩;replace HO484:=am (Kd.jG (rq HO484.out) hb);replace HO487:=am (Kd.jG (rq HO487.out) hb);replace BK488:=am (je (g:=gb488) (o:=.cells #[.slice Ao8 t482.length co8] 31 (0,0)) (kq BK488.out) hb);replace HB:=am (jb (Y6) hb);(try clear hb);(try clear hb2);(try clear hk);(try clear hi)))
    go_meet
    case rel=>exact ⟨_,(!t491),(sq),H',⟨Y17⟩,⟨rq HO487.out⟩,⟨rq HO484.out⟩,⟨kq BK488.out⟩,⟨Y6⟩⟩
  case rest =>
   clear HC5
   try clear c1
   try clear c2
   try clear c2b0
   try clear c2b1
   try clear p2
   try clear c4
   try clear c10
   try clear c13
   try clear c13b0
   try clear c13b1
   try clear c13b2
   try clear c16
   try clear hcz14_0
   try clear hcz17_0
   try clear hcz19_0
   try clear hcz9_0
   try clear hfz14_0
   try clear hfz17_0
   try clear hfz19_0
   try clear hfz9_0
   obtain ⟨kq,x29_4,rfl,HA,HJ4,HO_4,HO_489000,BK488,HB⟩:=hcut
   cases kq with
   | zero=>exact absurd HA.out (by simp [jja.j0])
   | succ kj4 =>
    have H:=HA.out
    clear HA
    simp only [jja.j0] at H
    by_cases c21:x29_4=true
    ·subst c21
     have H1:((jLa.f kj4 t482 t485).bind fun t492=>(some (t489 == t492)))=some r:=by rw [if_pos rfl] at H;exact H
     clear H
     have H:=H1
     clear H1
     replace H:=bzS H
     obtain ⟨t492,A220,H⟩:=H
     replace H:(some (t489 == t492))=some r:=H
     have A22:=am A220
     clear A220
     obtain rfl:=Option.some.inj H
     have hcz23_0:=bc0 BK488.out
     have hfz23_0:=ja BK488.out 0
     go_wp2_with (first |((with_reducible refine jm (f:=10) rfl ?_);refine gL (some 33) Try.func10 #[.agg #[.slice Ao8 t482.length co8], .slice Ao10 t485.length co10] ?_;(with_reducible refine (jLa.calls kj4 _ _ t482 _ _ t485 t492 _ ?side1 ?side2 ?side3 ?side4 A22.out).mono ?_);(case side1=>exact cq (Kd.jv HO_489000.out).2.2);(case side2=>exact (Kd.jv HO_489000.out).2.1);(case side3=>exact cq (Kd.jv HO_4.out).2.2);(case side4=>exact (Kd.jv HO_4.out).2.1);rintro e w24 ⟨rfl,hb⟩;refine ⟨_,rfl,?_⟩;replace HO_4:=am (Kd.jG (rq HO_4.out) hb);replace HO_489000:=am (Kd.jG (rq HO_489000.out) hb);replace BK488:=am (je (g:=gb488) (o:=.cells #[.slice Ao8 t482.length co8] 31 (0,0)) (kq BK488.out) hb);replace HB:=am (jb (Y6) hb);(try clear hb);(try clear hb2);(try clear hk);(try clear hi)))
     go_ret
     exact ⟨Y0,Y6⟩
    ·replace c21:=Bool.eq_false_iff.mpr c21
     subst c21
     have H1:((jO.f kj4 t482 (([(⟨2,0,0⟩:S44)]:List (S44))) t485).bind fun bt496=>(if t489=true then ((jeb.f kj4 t482 t485).bind fun t500=>(if (t500.length:Int)=0 then (if bt496.2=true then ((jga.f kj4 t482 bt496.1).bind fun t503=>(some t503)) else (some true)) else (some false))) else (if bt496.2=true then ((jga.f kj4 t482 bt496.1).bind fun t504=>(some t504)) else (some true))))=some r:=by rw [if_neg (show ¬ (false=true) by decide)] at H;exact H
     clear H
     have H:=H1
     clear H1
     obtain ⟨y493,hy493⟩:∃ y_:List (S44),y_=(([(⟨2,0,0⟩:S44)]:List (S44))):=⟨_,rfl⟩
     replace H:((jO.f kj4 t482 y493 t485).bind fun bt496=>(if t489=true then ((jeb.f kj4 t482 t485).bind fun t500=>(if (t500.length:Int)=0 then (if bt496.2=true then ((jga.f kj4 t482 bt496.1).bind fun t503=>(some t503)) else (some true)) else (some false))) else (if bt496.2=true then ((jga.f kj4 t482 bt496.1).bind fun t504=>(some t504)) else (some true))))=some r:=by first |(rw [hy493];with_reducible exact H) |(have H2_:=(Option.bind_some _ _).symm.trans H;rw [hy493];with_reducible exact H2_) |(have H2_:=(Option.bind_some _ _).symm.trans H;with_reducible exact H2_) | with_reducible exact H |(rw [hy493];exact H) | exact H
     have Ny493:=am hy493
     clear hy493
     replace H:=bzS H
     obtain ⟨⟨t496,t499⟩,A250,H⟩:=H
     replace H:(if t489=true then ((jeb.f kj4 t482 t485).bind fun t500=>(if (t500.length:Int)=0 then (if t499=true then ((jga.f kj4 t482 t496).bind fun t503=>(some t503)) else (some true)) else (some false))) else (if t499=true then ((jga.f kj4 t482 t496).bind fun t504=>(some t504)) else (some true)))=some r:=H
     have A25:=am A250
     clear A250
     by_cases c26:t489=true
     ·subst c26
      have H1:((jeb.f kj4 t482 t485).bind fun t500=>(if (t500.length:Int)=0 then (if t499=true then ((jga.f kj4 t482 t496).bind fun t503=>(some t503)) else (some true)) else (some false)))=some r:=by rw [if_pos rfl] at H;exact H
      clear H
      have H:=H1
      clear H1
      replace H:=bzS H
      obtain ⟨t500,A270,H⟩:=H
      replace H:(if (t500.length:Int)=0 then (if t499=true then ((jga.f kj4 t482 t496).bind fun t503=>(some t503)) else (some true)) else (some false))=some r:=H
      have A27:=am A270
      clear A270
      by_cases c28:(t500.length:Int)=0
      ·rw [if_pos c28] at H
       have c28b0:((t500.length:Int) == 0)=true:=beq_iff_eq.mpr c28
       have c28b1:((t500.length:Int) != 0)=false:=bne_eq_false_iff_eq.mpr c28
       clear c28
       by_cases c29:t499=true
       ·subst c29
        have H1:((jga.f kj4 t482 t496).bind fun t503=>(some t503))=some r:=by rw [if_pos rfl] at H;exact H
        clear H
        have H:=H1
        clear H1
        replace H:=bzS H
        obtain ⟨t503,A300,H⟩:=H
        replace H:(some t503)=some r:=H
        have A30:=am A300
        clear A300
        obtain rfl:=Option.some.inj H
        have hcz31_0:=bc0 BK488.out
        have hfz31_0:=ja BK488.out 0
        go_wp2_with (first |((with_reducible refine jB (N:=38) rfl ?_);(try (refine jEc (by rfl) ?_;dsimp only));refine Kd.jNc k44 _ 44 ?hg (N:=38) ?hd (xs:=([(⟨2,0,0⟩:S44)]:List (S44))) (inner:=[.int .i64 2, .int .i64 0, .int .i64 0]) (ok:=fun _=>True) (okp:=fun _=>True) ?hr ?hp (fun _ hk=>hk) trivial (Below.refl _ _) (Nat.le_refl _) (by simp) ?_;(case hd=>rfl);(case hg=>rfl);(case hr=>exact Y3);(case hp=>exact (Reps.c3 (show Kd.M k44 _ _ _ (⟨2,0,0⟩:S44) [.int .i64 2, .int .i64 0, .int .i64 0] from (jyc _ _ _ (⟨2,0,0⟩:S44) )) (Reps.none _ _)));intro v494 w32 ho33 hb hg_ hnew_;clear hg_ hnew_;(first | rw [← Ny493.out] at ho33 |(simp only [Int.reduceToNat] at ho33;rw [← Ny493.out] at ho33));have HO495:=am (Kd.jda (Kd.jec ho33 (Kd.R_lt (rq HO_4.out))) (jD (Y6)));replace HO_4:=am (Kd.jqb (rq HO_4.out) (Kd.jAb ho33) hb);replace HO_489000:=am (Kd.jG (rq HO_489000.out) hb);replace BK488:=am (je (g:=gb488) (o:=.cells #[.slice Ao8 t482.length co8] 31 (0,0)) (kq BK488.out) hb);replace HB:=am (jb (Y6) hb);clear hb ho33;obtain ⟨Ao34,co34,eo34⟩:=Kd.jM HO495.out;subst eo34) |((with_reducible refine jm (f:=18) rfl ?_);refine gL (some 40) Try.func18 #[.agg #[.slice Ao8 t482.length co8], .slice Ao34 y493.length co34, .slice Ao10 t485.length co10] ?_;(with_reducible refine (jO.calls kj4 _ _ t482 (fun k_=>some k_=(.slice Ao34 y493.length co34:Value).ownBlock) _ _ y493 (fun k_=>some k_=(.slice Ao10 t485.length co10:Value).ownBlock) _ _ t485 t496 true _ ?side1 ?side2 ?side3 ?side4 A25.out).mono ?_);(case side1=>exact cq (Kd.jv HO_489000.out).2.2);(case side2=>exact (Kd.jv HO_489000.out).2.1);(case side3=>exact Kd.R_V (Kd.jlc rfl (Kd.jha (Kd.jUc (HO495.out) (Kd.jKb HO_489000.out) (by decide)) BK488.out (by decide))));(case side4=>exact Kd.R_V (Kd.jlc rfl (Kd.jha (Kd.jUc (HO_4.out) (Kd.jKb HO_489000.out) (by decide)) BK488.out (by decide))));rintro e w35 ⟨v497,rfl,ho0,hb⟩;refine ⟨_,rfl,?_⟩;have HO498:=am (Kd.jda (Kd.jec (Kd.jec (Kd.jH (ok':=fun k_=>True) ho0 (fun _ hk_=>trivial)) (Kd.R_lt (rq HO_4.out))) (Kd.R_lt (rq HO495.out))) (jD (Y6)));replace HO_4:=am (Kd.jqb (rq HO_4.out) (Kd.jAb ho0) hb);replace HO_489000:=am (Kd.jG (rq HO_489000.out) hb);replace HO495:=am (Kd.jqb (rq HO495.out) (Kd.jAb ho0) hb);replace BK488:=am (je (g:=gb488) (o:=.cells #[.slice Ao8 t482.length co8] 31 (0,0)) (kq BK488.out) hb);replace HB:=am (jb (Y6) hb);(try clear hb);(try clear hb2);(try clear hk);(try clear hi);(try clear ho0);have hcz36_0:=bc0 BK488.out;have hfz36_0:=ja BK488.out 0) |(go_at_call 19;(with_reducible refine (jeb.calls kj4 _ _ t482 _ _ t485 t500 _ ?side1 ?side2 ?side3 ?side4 A27.out).mono ?_);(case side1=>exact cq (Kd.jv HO_489000.out).2.2);(case side2=>exact (Kd.jv HO_489000.out).2.1);(case side3=>exact cq (Kd.jv HO_4.out).2.2);(case side4=>exact (Kd.jv HO_4.out).2.1);rintro e w37 ⟨v501,rfl,ho0,hb⟩;have HO502:=am (Kd.jda ho0 (jD (Y6)));replace HO_4:=am (Kd.jG (rq HO_4.out) hb);replace HO_489000:=am (Kd.jG (rq HO_489000.out) hb);replace HO495:=am (Kd.jG (rq HO495.out) hb);replace HO498:=am (Kd.jG (rq HO498.out) hb);replace BK488:=am (je (g:=gb488) (o:=.cells #[.slice Ao8 t482.length co8] 31 (0,0)) (kq BK488.out) hb);replace HB:=am (jb (Y6) hb);(try clear hb);(try clear hb2);(try clear hk);(try clear hi);(try clear ho0);obtain ⟨Ao38,co38,eo38⟩:=Kd.jM HO502.out;subst eo38;have hcz39_0:=bc0 BK488.out;have hfz39_0:=ja BK488.out 0;obtain ⟨Ao40,co40,eo40⟩:=Kd.jM HO498.out;subst eo40) |(go_at_call 13;(with_reducible refine (jga.calls kj4 _ _ t482 _ _ t496 t503 _ ?side1 ?side2 ?side3 ?side4 A30.out).mono ?_);(case side1=>exact cq (Kd.jv HO_489000.out).2.2);(case side2=>exact (Kd.jv HO_489000.out).2.1);(case side3=>exact cq (Kd.jv HO498.out).2.2);(case side4=>exact (Kd.jv HO498.out).2.1);rintro e w41 ⟨rfl,hb⟩;replace HO_4:=am (Kd.jG (rq HO_4.out) hb);replace HO_489000:=am (Kd.jG (rq HO_489000.out) hb);replace HO495:=am (Kd.jG (rq HO495.out) hb);replace HO498:=am (Kd.jG (rq HO498.out) hb);replace HO502:=am (Kd.jG (rq HO502.out) hb);replace BK488:=am (je (g:=gb488) (o:=.cells #[.slice Ao8 t482.length co8] 31 (0,0)) (kq BK488.out) hb);replace HB:=am (jb (Y6) hb);(try clear hb);(try clear hb2);(try clear hk);(try clear hi)))
        go_ret
        exact ⟨Y0,Y6⟩
       ·replace c29:=Bool.eq_false_iff.mpr c29
        subst c29
        have H1:(some true)=some r:=by rw [if_neg (show ¬ (false=true) by decide)] at H;exact H
        clear H
        have H:=H1
        clear H1
        obtain rfl:=Option.some.inj H
        have hcz42_0:=bc0 BK488.out
        have hfz42_0:=ja BK488.out 0
        go_wp2_with (first |((with_reducible refine jB (N:=38) rfl ?_);(try (refine jEc (by rfl) ?_;dsimp only));refine Kd.jNc k44 _ 44 ?hg (N:=38) ?hd (xs:=([(⟨2,0,0⟩:S44)]:List (S44))) (inner:=[.int .i64 2, .int .i64 0, .int .i64 0]) (ok:=fun _=>True) (okp:=fun _=>True) ?hr ?hp (fun _ hk=>hk) trivial (Below.refl _ _) (Nat.le_refl _) (by simp) ?_;(case hd=>rfl);(case hg=>rfl);(case hr=>exact Y3);(case hp=>exact (Reps.c3 (show Kd.M k44 _ _ _ (⟨2,0,0⟩:S44) [.int .i64 2, .int .i64 0, .int .i64 0] from (jyc _ _ _ (⟨2,0,0⟩:S44) )) (Reps.none _ _)));intro v494 w43 ho44 hb hg_ hnew_;clear hg_ hnew_;(first | rw [← Ny493.out] at ho44 |(simp only [Int.reduceToNat] at ho44;rw [← Ny493.out] at ho44));have HO495:=am (Kd.jda (Kd.jec ho44 (Kd.R_lt (rq HO_4.out))) (jD (Y6)));replace HO_4:=am (Kd.jqb (rq HO_4.out) (Kd.jAb ho44) hb);replace HO_489000:=am (Kd.jG (rq HO_489000.out) hb);replace BK488:=am (je (g:=gb488) (o:=.cells #[.slice Ao8 t482.length co8] 31 (0,0)) (kq BK488.out) hb);replace HB:=am (jb (Y6) hb);clear hb ho44;obtain ⟨Ao45,co45,eo45⟩:=Kd.jM HO495.out;subst eo45) |((with_reducible refine jm (f:=18) rfl ?_);refine gL (some 40) Try.func18 #[.agg #[.slice Ao8 t482.length co8], .slice Ao45 y493.length co45, .slice Ao10 t485.length co10] ?_;(with_reducible refine (jO.calls kj4 _ _ t482 (fun k_=>some k_=(.slice Ao45 y493.length co45:Value).ownBlock) _ _ y493 (fun k_=>some k_=(.slice Ao10 t485.length co10:Value).ownBlock) _ _ t485 t496 false _ ?side1 ?side2 ?side3 ?side4 A25.out).mono ?_);(case side1=>exact cq (Kd.jv HO_489000.out).2.2);(case side2=>exact (Kd.jv HO_489000.out).2.1);(case side3=>exact Kd.R_V (Kd.jlc rfl (Kd.jha (Kd.jUc (HO495.out) (Kd.jKb HO_489000.out) (by decide)) BK488.out (by decide))));(case side4=>exact Kd.R_V (Kd.jlc rfl (Kd.jha (Kd.jUc (HO_4.out) (Kd.jKb HO_489000.out) (by decide)) BK488.out (by decide))));rintro e w46 ⟨v497,rfl,ho0,hb⟩;refine ⟨_,rfl,?_⟩;have HO498:=am (Kd.jda (Kd.jec (Kd.jec (Kd.jH (ok':=fun k_=>True) ho0 (fun _ hk_=>trivial)) (Kd.R_lt (rq HO_4.out))) (Kd.R_lt (rq HO495.out))) (jD (Y6)));replace HO_4:=am (Kd.jqb (rq HO_4.out) (Kd.jAb ho0) hb);replace HO_489000:=am (Kd.jG (rq HO_489000.out) hb);replace HO495:=am (Kd.jqb (rq HO495.out) (Kd.jAb ho0) hb);replace BK488:=am (je (g:=gb488) (o:=.cells #[.slice Ao8 t482.length co8] 31 (0,0)) (kq BK488.out) hb);replace HB:=am (jb (Y6) hb);(try clear hb);(try clear hb2);(try clear hk);(try clear hi);(try clear ho0);have hcz47_0:=bc0 BK488.out;have hfz47_0:=ja BK488.out 0) |(go_at_call 19;(with_reducible refine (jeb.calls kj4 _ _ t482 _ _ t485 t500 _ ?side1 ?side2 ?side3 ?side4 A27.out).mono ?_);(case side1=>exact cq (Kd.jv HO_489000.out).2.2);(case side2=>exact (Kd.jv HO_489000.out).2.1);(case side3=>exact cq (Kd.jv HO_4.out).2.2);(case side4=>exact (Kd.jv HO_4.out).2.1);rintro e w48 ⟨v501,rfl,ho0,hb⟩;have HO502:=am (Kd.jda ho0 (jD (Y6)));replace HO_4:=am (Kd.jG (rq HO_4.out) hb);replace HO_489000:=am (Kd.jG (rq HO_489000.out) hb);replace HO495:=am (Kd.jG (rq HO495.out) hb);replace HO498:=am (Kd.jG (rq HO498.out) hb);replace BK488:=am (je (g:=gb488) (o:=.cells #[.slice Ao8 t482.length co8] 31 (0,0)) (kq BK488.out) hb);replace HB:=am (jb (Y6) hb);(try clear hb);(try clear hb2);(try clear hk);(try clear hi);(try clear ho0);obtain ⟨Ao49,co49,eo49⟩:=Kd.jM HO502.out;subst eo49))
        go_ret
        exact ⟨Y0,Y6⟩
      ·rw [if_neg c28] at H
       have c28b0:((t500.length:Int) == 0)=false:=beq_eq_false_iff_ne.mpr c28
       have c28b1:((t500.length:Int) != 0)=true:=bne_iff_ne.mpr c28
       have c28b2:¬ (t500=[]):=fun h_=>c28 (by rw [h_];rfl)
       exact absurd ((Option.some.inj H).trans hT) Bool.false_ne_true
     ·replace c26:=Bool.eq_false_iff.mpr c26
      subst c26
      have H1:(if t499=true then ((jga.f kj4 t482 t496).bind fun t504=>(some t504)) else (some true))=some r:=by rw [if_neg (show ¬ (false=true) by decide)] at H;exact H
      clear H
      have H:=H1
      clear H1
      by_cases c50:t499=true
      ·subst c50
       have H1:((jga.f kj4 t482 t496).bind fun t504=>(some t504))=some r:=by rw [if_pos rfl] at H;exact H
       clear H
       have H:=H1
       clear H1
       replace H:=bzS H
       obtain ⟨t504,A510,H⟩:=H
       replace H:(some t504)=some r:=H
       have A51:=am A510
       clear A510
       obtain rfl:=Option.some.inj H
       have hcz52_0:=bc0 BK488.out
       have hfz52_0:=ja BK488.out 0
       go_wp2_with (first |((with_reducible refine jB (N:=38) rfl ?_);(try (refine jEc (by rfl) ?_;dsimp only));refine Kd.jNc k44 _ 44 ?hg (N:=38) ?hd (xs:=([(⟨2,0,0⟩:S44)]:List (S44))) (inner:=[.int .i64 2, .int .i64 0, .int .i64 0]) (ok:=fun _=>True) (okp:=fun _=>True) ?hr ?hp (fun _ hk=>hk) trivial (Below.refl _ _) (Nat.le_refl _) (by simp) ?_;(case hd=>rfl);(case hg=>rfl);(case hr=>exact Y3);(case hp=>exact (Reps.c3 (show Kd.M k44 _ _ _ (⟨2,0,0⟩:S44) [.int .i64 2, .int .i64 0, .int .i64 0] from (jyc _ _ _ (⟨2,0,0⟩:S44) )) (Reps.none _ _)));intro v494 w53 ho54 hb hg_ hnew_;clear hg_ hnew_;(first | rw [← Ny493.out] at ho54 |(simp only [Int.reduceToNat] at ho54;rw [← Ny493.out] at ho54));have HO495:=am (Kd.jda (Kd.jec ho54 (Kd.R_lt (rq HO_4.out))) (jD (Y6)));replace HO_4:=am (Kd.jqb (rq HO_4.out) (Kd.jAb ho54) hb);replace HO_489000:=am (Kd.jG (rq HO_489000.out) hb);replace BK488:=am (je (g:=gb488) (o:=.cells #[.slice Ao8 t482.length co8] 31 (0,0)) (kq BK488.out) hb);replace HB:=am (jb (Y6) hb);clear hb ho54;obtain ⟨Ao55,co55,eo55⟩:=Kd.jM HO495.out;subst eo55) |((with_reducible refine jm (f:=18) rfl ?_);refine gL (some 40) Try.func18 #[.agg #[.slice Ao8 t482.length co8], .slice Ao55 y493.length co55, .slice Ao10 t485.length co10] ?_;(with_reducible refine (jO.calls kj4 _ _ t482 (fun k_=>some k_=(.slice Ao55 y493.length co55:Value).ownBlock) _ _ y493 (fun k_=>some k_=(.slice Ao10 t485.length co10:Value).ownBlock) _ _ t485 t496 true _ ?side1 ?side2 ?side3 ?side4 A25.out).mono ?_);(case side1=>exact cq (Kd.jv HO_489000.out).2.2);(case side2=>exact (Kd.jv HO_489000.out).2.1);(case side3=>exact Kd.R_V (Kd.jlc rfl (Kd.jha (Kd.jUc (HO495.out) (Kd.jKb HO_489000.out) (by decide)) BK488.out (by decide))));(case side4=>exact Kd.R_V (Kd.jlc rfl (Kd.jha (Kd.jUc (HO_4.out) (Kd.jKb HO_489000.out) (by decide)) BK488.out (by decide))));rintro e w56 ⟨v497,rfl,ho0,hb⟩;refine ⟨_,rfl,?_⟩;have HO498:=am (Kd.jda (Kd.jec (Kd.jec (Kd.jH (ok':=fun k_=>True) ho0 (fun _ hk_=>trivial)) (Kd.R_lt (rq HO_4.out))) (Kd.R_lt (rq HO495.out))) (jD (Y6)));replace HO_4:=am (Kd.jqb (rq HO_4.out) (Kd.jAb ho0) hb);replace HO_489000:=am (Kd.jG (rq HO_489000.out) hb);replace HO495:=am (Kd.jqb (rq HO495.out) (Kd.jAb ho0) hb);replace BK488:=am (je (g:=gb488) (o:=.cells #[.slice Ao8 t482.length co8] 31 (0,0)) (kq BK488.out) hb);replace HB:=am (jb (Y6) hb);(try clear hb);(try clear hb2);(try clear hk);(try clear hi);(try clear ho0);have hcz57_0:=bc0 BK488.out;have hfz57_0:=ja BK488.out 0;obtain ⟨Ao58,co58,eo58⟩:=Kd.jM HO498.out;subst eo58) |(go_at_call 13;(with_reducible refine (jga.calls kj4 _ _ t482 _ _ t496 t504 _ ?side1 ?side2 ?side3 ?side4 A51.out).mono ?_);(case side1=>exact cq (Kd.jv HO_489000.out).2.2);(case side2=>exact (Kd.jv HO_489000.out).2.1);(case side3=>exact cq (Kd.jv HO498.out).2.2);(case side4=>exact (Kd.jv HO498.out).2.1);rintro e w59 ⟨rfl,hb⟩;replace HO_4:=am (Kd.jG (rq HO_4.out) hb);replace HO_489000:=am (Kd.jG (rq HO_489000.out) hb);replace HO495:=am (Kd.jG (rq HO495.out) hb);replace HO498:=am (Kd.jG (rq HO498.out) hb);replace BK488:=am (je (g:=gb488) (o:=.cells #[.slice Ao8 t482.length co8] 31 (0,0)) (kq BK488.out) hb);replace HB:=am (jb (Y6) hb);(try clear hb);(try clear hb2);(try clear hk);(try clear hi)))
       go_ret
       exact ⟨Y0,Y6⟩
      ·replace c50:=Bool.eq_false_iff.mpr c50
       subst c50
       have H1:(some true)=some r:=by rw [if_neg (show ¬ (false=true) by decide)] at H;exact H
       clear H
       have H:=H1
       clear H1
       obtain rfl:=Option.some.inj H
       have hcz60_0:=bc0 BK488.out
       have hfz60_0:=ja BK488.out 0
       go_wp2_with (first |((with_reducible refine jB (N:=38) rfl ?_);(try (refine jEc (by rfl) ?_;dsimp only));refine Kd.jNc k44 _ 44 ?hg (N:=38) ?hd (xs:=([(⟨2,0,0⟩:S44)]:List (S44))) (inner:=[.int .i64 2, .int .i64 0, .int .i64 0]) (ok:=fun _=>True) (okp:=fun _=>True) ?hr ?hp (fun _ hk=>hk) trivial (Below.refl _ _) (Nat.le_refl _) (by simp) ?_;(case hd=>rfl);(case hg=>rfl);(case hr=>exact Y3);(case hp=>exact (Reps.c3 (show Kd.M k44 _ _ _ (⟨2,0,0⟩:S44) [.int .i64 2, .int .i64 0, .int .i64 0] from (jyc _ _ _ (⟨2,0,0⟩:S44) )) (Reps.none _ _)));intro v494 w61 ho62 hb hg_ hnew_;clear hg_ hnew_;(first | rw [← Ny493.out] at ho62 |(simp only [Int.reduceToNat] at ho62;rw [← Ny493.out] at ho62));have HO495:=am (Kd.jda (Kd.jec ho62 (Kd.R_lt (rq HO_4.out))) (jD (Y6)));replace HO_4:=am (Kd.jqb (rq HO_4.out) (Kd.jAb ho62) hb);replace HO_489000:=am (Kd.jG (rq HO_489000.out) hb);replace BK488:=am (je (g:=gb488) (o:=.cells #[.slice Ao8 t482.length co8] 31 (0,0)) (kq BK488.out) hb);replace HB:=am (jb (Y6) hb);clear hb ho62;obtain ⟨Ao63,co63,eo63⟩:=Kd.jM HO495.out;subst eo63) |((with_reducible refine jm (f:=18) rfl ?_);refine gL (some 40) Try.func18 #[.agg #[.slice Ao8 t482.length co8], .slice Ao63 y493.length co63, .slice Ao10 t485.length co10] ?_;(with_reducible refine (jO.calls kj4 _ _ t482 (fun k_=>some k_=(.slice Ao63 y493.length co63:Value).ownBlock) _ _ y493 (fun k_=>some k_=(.slice Ao10 t485.length co10:Value).ownBlock) _ _ t485 t496 false _ ?side1 ?side2 ?side3 ?side4 A25.out).mono ?_);(case side1=>exact cq (Kd.jv HO_489000.out).2.2);(case side2=>exact (Kd.jv HO_489000.out).2.1);(case side3=>exact Kd.R_V (Kd.jlc rfl (Kd.jha (Kd.jUc (HO495.out) (Kd.jKb HO_489000.out) (by decide)) BK488.out (by decide))));(case side4=>exact Kd.R_V (Kd.jlc rfl (Kd.jha (Kd.jUc (HO_4.out) (Kd.jKb HO_489000.out) (by decide)) BK488.out (by decide))));rintro e w64 ⟨v497,rfl,ho0,hb⟩;refine ⟨_,rfl,?_⟩;have HO498:=am (Kd.jda (Kd.jec (Kd.jec (Kd.jH (ok':=fun k_=>True) ho0 (fun _ hk_=>trivial)) (Kd.R_lt (rq HO_4.out))) (Kd.R_lt (rq HO495.out))) (jD (Y6)));replace HO_4:=am (Kd.jqb (rq HO_4.out) (Kd.jAb ho0) hb);replace HO_489000:=am (Kd.jG (rq HO_489000.out) hb);replace HO495:=am (Kd.jqb (rq HO495.out) (Kd.jAb ho0) hb);replace BK488:=am (je (g:=gb488) (o:=.cells #[.slice Ao8 t482.length co8] 31 (0,0)) (kq BK488.out) hb);replace HB:=am (jb (Y6) hb);(try clear hb);(try clear hb2);(try clear hk);(try clear hi);(try clear ho0)))
       go_ret
       exact ⟨Y0,Y6⟩
def jja.Pure : Prop := ∀ (l0 : List Int), l0.length ≤ maxLen → l0.length * 1 ≤ 140737488351232 → (∀ x ∈ l0, (Lit.int .u8 x).wf = true) → ∃ k, jja.f k l0 = some true
theorem jja.walk (P : jja.Pure) (a0 : Option Addr) (len0 cap0 : Nat) (z0 : List Int) (w : World) (w0 : (a0 = none ∧ len0 = 0 ∧ cap0 = 0 ∧ z0 = []) ∨ ∃ x, a0 = some x ∧ len0 ≤ cap0 ∧ cap0 ≤ maxLen ∧ z0.length = cap0 ∧ (∀ i, i < z0.length → w.cell? (x.add i) = some (.int .u8 (z0.getD i 0))) ∧ ∀ n ∈ z0, (Lit.int .u8 n).wf = true) (y0 : len0 * 1 ≤ 140737488351232) :
  Calls Try.prog 4 #[.slice a0 len0 cap0] w fun e w'=>e=.returned (.bool true)∧Below w.heap.size w w':=by
 obtain ⟨l0,rfl,hr0,hm0,hw0,hc0⟩:=jUa.ofRowC w0
 obtain ⟨k,h⟩:=P l0 hm0 y0 hw0
 refine (jja.calls k _ _ l0 true w (Kd.jtc (d:=(0:Int)) (h1:=fun _=>rfl) hr0) hc0 rfl h).mono ?_
 rintro e w' ⟨rfl,hd⟩
 exact ⟨rfl,hd⟩
end Go.Proofs.Ytlhfcmbkjddgiaa.P
end
