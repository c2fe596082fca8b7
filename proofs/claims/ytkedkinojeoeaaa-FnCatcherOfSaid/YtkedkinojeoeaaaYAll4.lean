/- One part of the proofs on this program: functions of the program as plain functions, that the code comes to them, and facts on them. -/
import Derived.Test.YtkedkinojeoeaaaYAll1
import Derived.Test.YtkedkinojeoeaaaYAll3
import Derived.Test.YtkedkinojeoeaaaYWAuto
section
namespace Go.Proofs.Ytkedkinojeoeaaa.P
open Go.RowKit Go.Proofs.YtkedkinojeoeaaaW.PrintWords Go.Proofs.YtkedkinojeoeaaaW.PrintLast Go.Proofs.YtkedkinojeoeaaaW.PrintMore
attribute [local go_sem] jta jra jBa jAa jca jba jsa jqa jl
set_option linter.unusedVariables false
set_option linter.unusedSimpArgs false
def jbb.f (k : Nat) (s0_0 : List Int) (s0_1 : Int) : Option ((List (S75)) × (List (S36)) × Int) := (joa.f k s0_0 s0_1).bind fun bt342 => (if (bt342.1.length : Int) = 0 then (some (bt342.1, (([(⟨0, 0, 0, 0⟩ : S36)] : List (S36))), bt342.2)) else ((jD.f k s0_0 bt342.2 bt342.1).bind fun bt350 => ((jg.f k s0_0 bt350.2 (bt350.1.length : Int)).bind fun bt354 => ((jg.f k s0_0 bt354.2 24).bind fun bt356 => (if bt356.1 = 0 then ((jh.f k s0_0 bt356.2 (([(-1), 6, 0, 1] : List Int))).bind fun bt361 => (if 0 ≤ bt354.1 then (if bt354.1 < (bt350.1.length : Int) then (some (bt342.1, (bt350.1.set (bt354.1 : Int).toNat (⟨bt361.1, (jc bt350.1 bt354.1).f1, (jc bt350.1 bt354.1).f2, (jc bt350.1 bt354.1).f3⟩ : S36)), bt361.2)) else (none)) else (none))) else (if bt356.1 = 1 then ((jh.f k s0_0 bt356.2 (([(-1), 13, 5, 9, 0] : List Int))).bind fun bt367 => (if 0 ≤ bt354.1 then (if bt354.1 < (bt350.1.length : Int) then (some (bt342.1, (bt350.1.set (bt354.1 : Int).toNat (⟨(jc bt350.1 bt354.1).f0, bt367.1, (jc bt350.1 bt354.1).f2, (jc bt350.1 bt354.1).f3⟩ : S36)), bt367.2)) else (none)) else (none))) else (if bt356.1 = 2 then ((jh.f k s0_0 bt356.2 (([(-1), 100, 8] : List Int))).bind fun bt373 => (if 0 ≤ bt354.1 then (if bt354.1 < (bt350.1.length : Int) then (some (bt342.1, (bt350.1.set (bt354.1 : Int).toNat (⟨(jc bt350.1 bt354.1).f0, (jc bt350.1 bt354.1).f1, bt373.1, (jc bt350.1 bt354.1).f3⟩ : S36)), bt373.2)) else (none)) else (none))) else (if bt356.1 = 3 then (if 1 ≤ (bt350.1.length : Int) then (some (bt342.1, (bt350.1.drop (1 : Int).toNat), bt356.2)) else (none)) else (some (bt342.1, bt350.1, bt356.2))))))))))
set_option maxHeartbeats 8000000 in
set_option maxRecDepth 100000 in
theorem jbb.calls (k : Nat) (g : Nat) (s0_0 : List Int) (s0_1 : Int) (r1 : List (S75)) (r2 : List (S36)) (r3 : Int) (w0 w : World) (hI : jf w0 w g s0_0 s0_1) (hB : Below w0.heap.size w0 w) (h : jbb.f k s0_0 s0_1 = some (r1, r2, r3)) :
  Calls Try.prog 57 #[.pointer (some ⟨g,0,none⟩)] w fun e w'=>∃ v0_ v1_:Value,e=.returned (.tuple #[.agg #[v0_],v1_])∧Kd.R k75 75 w' w.heap.size (fun _=>True) v0_ r1∧Kd.Q k36 36 w' w.heap.size (fun _=>True) v1_ r2∧jf w0 w' g s0_0 r3∧Below w0.heap.size w0 w'∧jb w w' g none:=by
 have hu25:=Try.underlying25
 have hu36:=Try.underlying36
 have HI0:=am hI
 have HK:=am (jb.refl w g none)
 have HL:=am hB.size
 clear hI
 have HW0:=am hB.size
 have HB:=am hB
 clear hB
 have H:((joa.f k s0_0 s0_1).bind fun bt342=>(if (bt342.1.length:Int)=0 then (some (bt342.1,(([(⟨0,0,0,0⟩:S36)]:List (S36))),bt342.2)) else ((jD.f k s0_0 bt342.2 bt342.1).bind fun bt350=>((jg.f k s0_0 bt350.2 (bt350.1.length:Int)).bind fun bt354=>((jg.f k s0_0 bt354.2 24).bind fun bt356=>(if bt356.1=0 then ((jh.f k s0_0 bt356.2 (([(-1),6,0,1]:List Int))).bind fun bt361=>(if 0≤bt354.1 then (if bt354.1<(bt350.1.length:Int) then (some (bt342.1,(bt350.1.set (bt354.1:Int).toNat (⟨bt361.1,(jc bt350.1 bt354.1).f1,(jc bt350.1 bt354.1).f2,(jc bt350.1 bt354.1).f3⟩:S36)),bt361.2)) else (none)) else (none))) else (if bt356.1=1 then ((jh.f k s0_0 bt356.2 (([(-1),13,5,9,0]:List Int))).bind fun bt367=>(if 0≤bt354.1 then (if bt354.1<(bt350.1.length:Int) then (some (bt342.1,(bt350.1.set (bt354.1:Int).toNat (⟨(jc bt350.1 bt354.1).f0,bt367.1,(jc bt350.1 bt354.1).f2,(jc bt350.1 bt354.1).f3⟩:S36)),bt367.2)) else (none)) else (none))) else (if bt356.1=2 then ((jh.f k s0_0 bt356.2 (([(-1),100,8]:List Int))).bind fun bt373=>(if 0≤bt354.1 then (if bt354.1<(bt350.1.length:Int) then (some (bt342.1,(bt350.1.set (bt354.1:Int).toNat (⟨(jc bt350.1 bt354.1).f0,(jc bt350.1 bt354.1).f1,bt373.1,(jc bt350.1 bt354.1).f3⟩:S36)),bt373.2)) else (none)) else (none))) else (if bt356.1=3 then (if 1≤(bt350.1.length:Int) then (some (bt342.1,(bt350.1.drop (1:Int).toNat),bt356.2)) else (none)) else (some (bt342.1,bt350.1,bt356.2)))))))))))=some (r1,r2,r3):=h
 clear h
 replace H:=bzS H
 obtain ⟨⟨t342,t345⟩,A20,H⟩:=H
 replace H:(if (t342.length:Int)=0 then (some (t342,(([(⟨0,0,0,0⟩:S36)]:List (S36))),t345)) else ((jD.f k s0_0 t345 t342).bind fun bt350=>((jg.f k s0_0 bt350.2 (bt350.1.length:Int)).bind fun bt354=>((jg.f k s0_0 bt354.2 24).bind fun bt356=>(if bt356.1=0 then ((jh.f k s0_0 bt356.2 (([(-1),6,0,1]:List Int))).bind fun bt361=>(if 0≤bt354.1 then (if bt354.1<(bt350.1.length:Int) then (some (t342,(bt350.1.set (bt354.1:Int).toNat (⟨bt361.1,(jc bt350.1 bt354.1).f1,(jc bt350.1 bt354.1).f2,(jc bt350.1 bt354.1).f3⟩:S36)),bt361.2)) else (none)) else (none))) else (if bt356.1=1 then ((jh.f k s0_0 bt356.2 (([(-1),13,5,9,0]:List Int))).bind fun bt367=>(if 0≤bt354.1 then (if bt354.1<(bt350.1.length:Int) then (some (t342,(bt350.1.set (bt354.1:Int).toNat (⟨(jc bt350.1 bt354.1).f0,bt367.1,(jc bt350.1 bt354.1).f2,(jc bt350.1 bt354.1).f3⟩:S36)),bt367.2)) else (none)) else (none))) else (if bt356.1=2 then ((jh.f k s0_0 bt356.2 (([(-1),100,8]:List Int))).bind fun bt373=>(if 0≤bt354.1 then (if bt354.1<(bt350.1.length:Int) then (some (t342,(bt350.1.set (bt354.1:Int).toNat (⟨(jc bt350.1 bt354.1).f0,(jc bt350.1 bt354.1).f1,bt373.1,(jc bt350.1 bt354.1).f3⟩:S36)),bt373.2)) else (none)) else (none))) else (if bt356.1=3 then (if 1≤(bt350.1.length:Int) then (some (t342,(bt350.1.drop (1:Int).toNat),bt356.2)) else (none)) else (some (t342,bt350.1,bt356.2))))))))))=some (r1,r2,r3):=H
 have A2:=am A20
 clear A20
 by_cases c3:(t342.length:Int)=0
 ·rw [if_pos c3] at H
  have c3b0:((t342.length:Int) == 0)=true:=beq_iff_eq.mpr c3
  have c3b1:((t342.length:Int) != 0)=false:=bne_eq_false_iff_eq.mpr c3
  clear c3
  obtain ⟨y347,hy347⟩:∃ y_:List (S36),y_=(([(⟨0,0,0,0⟩:S36)]:List (S36))):=⟨_,rfl⟩
  replace H:(some (t342,y347,t345))=some (r1,r2,r3):=by first |(rw [hy347];with_reducible exact H) |(have H2_:=(Option.bind_some _ _).symm.trans H;rw [hy347];with_reducible exact H2_) |(have H2_:=(Option.bind_some _ _).symm.trans H;with_reducible exact H2_) | with_reducible exact H |(rw [hy347];exact H) | exact H
  have Ny347:=am hy347
  clear hy347
  simp only [Option.some.injEq,Prod.mk.injEq] at H
  obtain ⟨rfl,rfl,rfl⟩:=H
  go_enter Try.func57,Try.ntmps57
  go_wp2_with (first |((with_reducible refine jJ (N:=2) rfl ?_);refine bE (N:=2) (cs:=#[.slice none 0 0]) (t:=25) ?_;intro gb341 hg w4 hbox hb;have BK341:=am (hbox);have GW341:=am ((Y11:w.heap.size≤gb341));have GE341:=am ((Nat.le_trans HW0.out (Y11:w.heap.size≤gb341):w0.heap.size≤gb341));have NB0_341:=am ((Y21:g≠gb341));have NB341_0:=am ((Y22:gb341≠g));replace HK:=am (jb.trans (Y15) (jb.of_below hb g none) (.inl rfl));replace HB:=am (je (Y16) hb);replace HI0:=am (jf.below (Y14) hb);clear hb hbox hg) |((with_reducible refine jd (f:=77) rfl ?_);refine gL (some 8) Try.func77 #[.pointer (some ⟨g,0,none⟩)] ?_;(with_reducible refine (joa.calls k g s0_0 s0_1 t342 t345 w0 _ ?side1 ?side2 A2.out).mono ?_);(case side1=>exact Y39);(case side2=>exact Y40);rintro e w5 ⟨v343,rfl,ho0,hi,hb,hk⟩;refine ⟨_,rfl,?_⟩;have HO344:=am (Kd.jaa ho0 (jN (w:=w) (g:=g) (row:=none) (Y27)));replace BK341:=am (jb.blk hk (g':=gb341) (o:=.cells #[.slice none 0 0] 25 (0,0)) (kq BK341.out) NB341_0.out (by simp));replace HK:=am (jb.trans (Y27) hk (.inl rfl));replace HB:=am (hb);replace HI0:=am (hi);(try clear hb);(try clear hb2);(try clear hk);(try clear hi);(try clear ho0)) |((with_reducible refine jJ (N:=4) rfl ?_);refine bE (N:=4) (cs:=#[.slice none 0 0]) (t:=25) ?_;intro gb346 hg w6 hbox hb;have BK346:=am (hbox);have GW346:=am ((Y41:w.heap.size≤gb346));have GE346:=am ((Nat.le_trans HW0.out (Y41:w.heap.size≤gb346):w0.heap.size≤gb346));have NB341_346:=am ((Y69:gb341≠gb346));have NB346_341:=am ((Y70:gb346≠gb341));have NB0_346:=am ((Y71:g≠gb346));have NB346_0:=am ((Y72:gb346≠g));replace HO344:=am (Kd.jZ (rq HO344.out) hb);replace BK341:=am (jk (g:=gb341) (o:=.cells #[.slice none 0 0] 25 (0,0)) (kq BK341.out) hb);replace HK:=am (jb.trans (Y27) (jb.of_below hb g none) (.inl rfl));replace HB:=am (je (Y40) hb);replace HI0:=am (jf.below (Y39) hb);clear hb hbox hg;obtain ⟨Ao7,co7,eo7⟩:=Kd.jka HO344.out;subst eo7;have hnb8:=NB346_341.out;have hnc8:=NB341_346.out;have hnb9:=NB346_0.out;have hnc9:=NB0_346.out;have hcz10_0:=bc0 BK346.out;have hfz10_0:=ja BK346.out 0) |((with_reducible refine jJ (N:=15) rfl ?_);refine Kd.jfc k36 _ 36 ?hg (N:=15) ?hd (xs:=([(⟨0,0,0,0⟩:S36)]:List (S36))) (inner:=[.int .i64 0, .int .i64 0, .int .i64 0, .int .i64 0]) (ok:=fun _=>True) (okp:=fun _=>True) ?hr ?hp (fun _ hk=>hk) trivial (Below.refl _ _) (Nat.le_refl _) (by simp) ?_;(case hd=>rfl);(case hg=>rfl);(case hr=>exact Y5);(case hp=>exact (Reps.c4 (show Kd.M k36 _ _ _ (⟨0,0,0,0⟩:S36) [.int .i64 0, .int .i64 0, .int .i64 0, .int .i64 0] from (jNb _ _ _ (⟨0,0,0,0⟩:S36) )) (Reps.none _ _)));intro v348 w11 ho12 hb hg_ hnew_;clear hg_ hnew_;(first | rw [← Ny347.out] at ho12 |(simp only [Int.reduceToNat] at ho12;rw [← Ny347.out] at ho12));have HO349:=am (Kd.jaa ho12 (jN (w:=w) (g:=g) (row:=none) (Y10)));replace HO344:=am (Kd.jZ (by (with_reducible repeat (first | apply Kd.jga | apply Kd.jfa | apply Kd.jea));exact (Kd.jI (Kd.jQb (p:=⟨gb346,0,none⟩) (Kd.jQa HO344.out BK346.out (by decide)) (fun _ hk=>hk.2) (.slice Ao7 t342.length co7)) (fun _ h_=>h_.1))) hb);replace BK341:=am (jk (g:=gb341) (o:=.cells #[.slice none 0 0] 25 (0,0)) (Y73) hb);replace BK346:=am (jk (g:=gb346) (o:=.cells #[.slice Ao7 t342.length co7] 25 (0,0)) (Y74) hb);replace HK:=am (jb.trans (Y10) (jb.of_below hb g none) (.inl rfl));replace HB:=am (je (Y18) hb);replace HI0:=am (jf.below (show jf w0 (w6.setCell ⟨gb346,0,none⟩ (.slice Ao7 t342.length co7)) g s0_0 t345 from Y2) hb);clear hb ho12;have hnb13:=NB341_0.out;have hnc13:=NB0_341.out;have hcz14_0:=bc0 BK341.out;have hfz14_0:=ja BK341.out 0))
  refine bodyPost_ret (jzc rfl _ _ gb341 25 #[.slice Ao7 t342.length co7] (0,0) _ rfl (Y75) Try.underlying25 rfl (by kernel_rfl)) rfl ?_
  exact ⟨_,_,Y0,by (with_reducible repeat (first | apply Kd.jga | apply Kd.jfa | apply Kd.jea));exact Kd.jI (Kd.jQb (p:=⟨gb341,0,none⟩) (Kd.jQa HO344.out BK341.out (by decide)) (fun _ hk=>hk.2) (.slice Ao7 t342.length co7)) (fun _ hk=>trivial),Kd.Q_of_R (by (with_reducible repeat (first | apply Kd.jga | apply Kd.jfa | apply Kd.jea));exact Kd.jI (Kd.jQb (p:=⟨gb341,0,none⟩) (Kd.jQa HO349.out BK341.out (by decide)) (fun _ hk=>hk.2) (.slice Ao7 t342.length co7)) (fun _ hk=>trivial)),Y2,Y18,Y10⟩
 ·rw [if_neg c3] at H
  have c3b0:((t342.length:Int) == 0)=false:=beq_eq_false_iff_ne.mpr c3
  have c3b1:((t342.length:Int) != 0)=true:=bne_iff_ne.mpr c3
  have c3b2:¬ (t342=[]):=fun h_=>c3 (by rw [h_];rfl)
  replace H:=bzS H
  obtain ⟨⟨t350,t353⟩,A150,H⟩:=H
  replace H:((jg.f k s0_0 t353 (t350.length:Int)).bind fun bt354=>((jg.f k s0_0 bt354.2 24).bind fun bt356=>(if bt356.1=0 then ((jh.f k s0_0 bt356.2 (([(-1),6,0,1]:List Int))).bind fun bt361=>(if 0≤bt354.1 then (if bt354.1<(t350.length:Int) then (some (t342,(t350.set (bt354.1:Int).toNat (⟨bt361.1,(jc t350 bt354.1).f1,(jc t350 bt354.1).f2,(jc t350 bt354.1).f3⟩:S36)),bt361.2)) else (none)) else (none))) else (if bt356.1=1 then ((jh.f k s0_0 bt356.2 (([(-1),13,5,9,0]:List Int))).bind fun bt367=>(if 0≤bt354.1 then (if bt354.1<(t350.length:Int) then (some (t342,(t350.set (bt354.1:Int).toNat (⟨(jc t350 bt354.1).f0,bt367.1,(jc t350 bt354.1).f2,(jc t350 bt354.1).f3⟩:S36)),bt367.2)) else (none)) else (none))) else (if bt356.1=2 then ((jh.f k s0_0 bt356.2 (([(-1),100,8]:List Int))).bind fun bt373=>(if 0≤bt354.1 then (if bt354.1<(t350.length:Int) then (some (t342,(t350.set (bt354.1:Int).toNat (⟨(jc t350 bt354.1).f0,(jc t350 bt354.1).f1,bt373.1,(jc t350 bt354.1).f3⟩:S36)),bt373.2)) else (none)) else (none))) else (if bt356.1=3 then (if 1≤(t350.length:Int) then (some (t342,(t350.drop (1:Int).toNat),bt356.2)) else (none)) else (some (t342,t350,bt356.2))))))))=some (r1,r2,r3):=H
  have A15:=am A150
  clear A150
  replace H:=bzS H
  obtain ⟨⟨t354,t355⟩,A160,H⟩:=H
  replace H:((jg.f k s0_0 t355 24).bind fun bt356=>(if bt356.1=0 then ((jh.f k s0_0 bt356.2 (([(-1),6,0,1]:List Int))).bind fun bt361=>(if 0≤t354 then (if t354<(t350.length:Int) then (some (t342,(t350.set (t354:Int).toNat (⟨bt361.1,(jc t350 t354).f1,(jc t350 t354).f2,(jc t350 t354).f3⟩:S36)),bt361.2)) else (none)) else (none))) else (if bt356.1=1 then ((jh.f k s0_0 bt356.2 (([(-1),13,5,9,0]:List Int))).bind fun bt367=>(if 0≤t354 then (if t354<(t350.length:Int) then (some (t342,(t350.set (t354:Int).toNat (⟨(jc t350 t354).f0,bt367.1,(jc t350 t354).f2,(jc t350 t354).f3⟩:S36)),bt367.2)) else (none)) else (none))) else (if bt356.1=2 then ((jh.f k s0_0 bt356.2 (([(-1),100,8]:List Int))).bind fun bt373=>(if 0≤t354 then (if t354<(t350.length:Int) then (some (t342,(t350.set (t354:Int).toNat (⟨(jc t350 t354).f0,(jc t350 t354).f1,bt373.1,(jc t350 t354).f3⟩:S36)),bt373.2)) else (none)) else (none))) else (if bt356.1=3 then (if 1≤(t350.length:Int) then (some (t342,(t350.drop (1:Int).toNat),bt356.2)) else (none)) else (some (t342,t350,bt356.2)))))))=some (r1,r2,r3):=H
  have A16:=am A160
  clear A160
  replace H:=bzS H
  obtain ⟨⟨t356,t357⟩,A170,H⟩:=H
  replace H:(if t356=0 then ((jh.f k s0_0 t357 (([(-1),6,0,1]:List Int))).bind fun bt361=>(if 0≤t354 then (if t354<(t350.length:Int) then (some (t342,(t350.set (t354:Int).toNat (⟨bt361.1,(jc t350 t354).f1,(jc t350 t354).f2,(jc t350 t354).f3⟩:S36)),bt361.2)) else (none)) else (none))) else (if t356=1 then ((jh.f k s0_0 t357 (([(-1),13,5,9,0]:List Int))).bind fun bt367=>(if 0≤t354 then (if t354<(t350.length:Int) then (some (t342,(t350.set (t354:Int).toNat (⟨(jc t350 t354).f0,bt367.1,(jc t350 t354).f2,(jc t350 t354).f3⟩:S36)),bt367.2)) else (none)) else (none))) else (if t356=2 then ((jh.f k s0_0 t357 (([(-1),100,8]:List Int))).bind fun bt373=>(if 0≤t354 then (if t354<(t350.length:Int) then (some (t342,(t350.set (t354:Int).toNat (⟨(jc t350 t354).f0,(jc t350 t354).f1,bt373.1,(jc t350 t354).f3⟩:S36)),bt373.2)) else (none)) else (none))) else (if t356=3 then (if 1≤(t350.length:Int) then (some (t342,(t350.drop (1:Int).toNat),t357)) else (none)) else (some (t342,t350,t357))))))=some (r1,r2,r3):=H
  have A17:=am A170
  clear A170
  by_cases c18:t356=0
  ·rw [if_pos c18] at H
   have c18b0:(t356 == 0)=true:=beq_iff_eq.mpr c18
   have c18b1:(t356 != 0)=false:=bne_eq_false_iff_eq.mpr c18
   clear c18
   obtain ⟨y358,hy358⟩:∃ y_:List Int,y_=(([(-1),6,0,1]:List Int)):=⟨_,rfl⟩
   replace H:((jh.f k s0_0 t357 y358).bind fun bt361=>(if 0≤t354 then (if t354<(t350.length:Int) then (some (t342,(t350.set (t354:Int).toNat (⟨bt361.1,(jc t350 t354).f1,(jc t350 t354).f2,(jc t350 t354).f3⟩:S36)),bt361.2)) else (none)) else (none)))=some (r1,r2,r3):=by first |(rw [hy358];with_reducible exact H) |(have H2_:=(Option.bind_some _ _).symm.trans H;rw [hy358];with_reducible exact H2_) |(have H2_:=(Option.bind_some _ _).symm.trans H;with_reducible exact H2_) | with_reducible exact H |(rw [hy358];exact H) | exact H
   have Ny358:=am hy358
   clear hy358
   replace H:=bzS H
   obtain ⟨⟨t361,t362⟩,A190,H⟩:=H
   replace H:(if 0≤t354 then (if t354<(t350.length:Int) then (some (t342,(t350.set (t354:Int).toNat (⟨t361,(jc t350 t354).f1,(jc t350 t354).f2,(jc t350 t354).f3⟩:S36)),t362)) else (none)) else (none))=some (r1,r2,r3):=H
   have A19:=am A190
   clear A190
   by_cases c20:0≤t354
   ·rw [if_pos c20] at H
    have c20b0:decide (0≤t354)=true:=dzT c20
    clear c20
    by_cases c21:t354<(t350.length:Int)
    ·rw [if_pos c21] at H
     have c21b0:decide (t354<(t350.length:Int))=true:=dzT c21
     clear c21
     obtain ⟨y363,hy363⟩:∃ y_:List (S36),y_=(t350.set (t354:Int).toNat (⟨t361,(jc t350 t354).f1,(jc t350 t354).f2,(jc t350 t354).f3⟩:S36)):=⟨_,rfl⟩
     replace H:(some (t342,y363,t362))=some (r1,r2,r3):=by first |(rw [hy363];with_reducible exact H) |(have H2_:=(Option.bind_some _ _).symm.trans H;rw [hy363];with_reducible exact H2_) |(have H2_:=(Option.bind_some _ _).symm.trans H;with_reducible exact H2_) | with_reducible exact H |(rw [hy363];exact H) | exact H
     have Ny363:=am hy363
     clear hy363
     simp only [Option.some.injEq,Prod.mk.injEq] at H
     obtain ⟨rfl,rfl,rfl⟩:=H
     go_enter Try.func57,Try.ntmps57
     go_wp2_with (first |((with_reducible refine jJ (N:=2) rfl ?_);refine bE (N:=2) (cs:=#[.slice none 0 0]) (t:=25) ?_;intro gb341 hg w23 hbox hb;have BK341:=am (hbox);have GW341:=am ((Y11:w.heap.size≤gb341));have GE341:=am ((Nat.le_trans HW0.out (Y11:w.heap.size≤gb341):w0.heap.size≤gb341));have NB0_341:=am ((Y21:g≠gb341));have NB341_0:=am ((Y22:gb341≠g));replace HK:=am (jb.trans (Y15) (jb.of_below hb g none) (.inl rfl));replace HB:=am (je (Y16) hb);replace HI0:=am (jf.below (Y14) hb);clear hb hbox hg) |((with_reducible refine jd (f:=77) rfl ?_);refine gL (some 8) Try.func77 #[.pointer (some ⟨g,0,none⟩)] ?_;(with_reducible refine (joa.calls k g s0_0 s0_1 t342 t345 w0 _ ?side1 ?side2 A2.out).mono ?_);(case side1=>exact Y39);(case side2=>exact Y40);rintro e w24 ⟨v343,rfl,ho0,hi,hb,hk⟩;refine ⟨_,rfl,?_⟩;have HO344:=am (Kd.jaa ho0 (jN (w:=w) (g:=g) (row:=none) (Y27)));replace BK341:=am (jb.blk hk (g':=gb341) (o:=.cells #[.slice none 0 0] 25 (0,0)) (kq BK341.out) NB341_0.out (by simp));replace HK:=am (jb.trans (Y27) hk (.inl rfl));replace HB:=am (hb);replace HI0:=am (hi);(try clear hb);(try clear hb2);(try clear hk);(try clear hi);(try clear ho0)) |((with_reducible refine jJ (N:=4) rfl ?_);refine bE (N:=4) (cs:=#[.slice none 0 0]) (t:=25) ?_;intro gb346 hg w25 hbox hb;have BK346:=am (hbox);have GW346:=am ((Y41:w.heap.size≤gb346));have GE346:=am ((Nat.le_trans HW0.out (Y41:w.heap.size≤gb346):w0.heap.size≤gb346));have NB341_346:=am ((Y69:gb341≠gb346));have NB346_341:=am ((Y70:gb346≠gb341));have NB0_346:=am ((Y71:g≠gb346));have NB346_0:=am ((Y72:gb346≠g));replace HO344:=am (Kd.jZ (rq HO344.out) hb);replace BK341:=am (jk (g:=gb341) (o:=.cells #[.slice none 0 0] 25 (0,0)) (kq BK341.out) hb);replace HK:=am (jb.trans (Y27) (jb.of_below hb g none) (.inl rfl));replace HB:=am (je (Y40) hb);replace HI0:=am (jf.below (Y39) hb);clear hb hbox hg;obtain ⟨Ao26,co26,eo26⟩:=Kd.jka HO344.out;subst eo26;have hnb27:=NB346_341.out;have hnc27:=NB341_346.out;have hnb28:=NB346_0.out;have hnc28:=NB0_346.out;have hcz29_0:=bc0 BK346.out;have hfz29_0:=ja BK346.out 0) |((with_reducible refine jd (f:=78) rfl ?_);refine gL (some 18) Try.func78 #[.pointer (some ⟨g,0,none⟩), .agg #[.slice Ao26 t342.length co26]] ?_;(with_reducible refine (jD.calls k g s0_0 t345 _ _ t342 t350 t353 w0 _ ?side1 ?side2 ?side3 ?side4 A15.out).mono ?_);(case side1=>exact Y2);(case side2=>exact Y18);(case side3=>exact Kd.jAc (jf.apart (show jf w0 _ g s0_0 t345 from Y2) (Y115) (by decide)) (fun _ h_=>h_.2));(case side4=>exact (Kd.jy HO344.out).2.1);rintro e w30 ⟨v351,rfl,ho0,hi,hb,hk⟩;refine ⟨_,rfl,?_⟩;have HO352:=am (Kd.jaa ho0 (jN (w:=w) (g:=g) (row:=none) (Y10)));replace BK341:=am (jb.blk hk (g':=gb341) (o:=.cells #[.slice none 0 0] 25 (0,0)) (Y73) NB341_0.out (by simp));replace HO344:=am (Kd.jI (Kd.jxa (jf.apart (show jf w0 _ g s0_0 t345 from Y2) (Y115) (by decide)) hk (fun _ h=>h.2)) (fun _ h=>h.1));replace BK346:=am (jb.blk hk (g':=gb346) (o:=.cells #[.slice Ao26 t342.length co26] 25 (0,0)) (Y74) NB346_0.out (by simp));replace HK:=am (jb.trans (Y10) hk (.inl rfl));replace HB:=am (hb);replace HI0:=am (hi);(try clear hb);(try clear hb2);(try clear hk);(try clear hi);(try clear ho0);obtain ⟨Ao31,co31,eo31⟩:=Kd.jka HO352.out;subst eo31) |((with_reducible refine jd (f:=42) rfl ?_);refine gL (some 22) Try.func42 #[.pointer (some ⟨g,0,none⟩), .int .i64 (t350.length:Int)] ?_;(with_reducible refine (jg.calls k g s0_0 t353 (t350.length:Int) t354 t355 w0 _ ?side1 ?side2 A16.out).mono ?_);(case side1=>exact Y2);(case side2=>exact Y18);rintro e w32 ⟨rfl,hi,hb,hk⟩;refine ⟨_,rfl,?_⟩;replace BK341:=am (jb.blk hk (g':=gb341) (o:=.cells #[.slice none 0 0] 25 (0,0)) (kq BK341.out) NB341_0.out (by simp));replace HO344:=am (Kd.jI (Kd.jxa (jf.apart (show jf w0 _ g s0_0 t353 from Y2) (rq HO344.out) (by decide)) hk (fun _ h=>h.2)) (fun _ h=>h.1));replace BK346:=am (jb.blk hk (g':=gb346) (o:=.cells #[.slice Ao26 t342.length co26] 25 (0,0)) (kq BK346.out) NB346_0.out (by simp));replace HO352:=am (Kd.jI (Kd.jxa (jf.apart (show jf w0 _ g s0_0 t353 from Y2) (rq HO352.out) (by decide)) hk (fun _ h=>h.2)) (fun _ h=>h.1));replace HK:=am (jb.trans (Y10) hk (.inl rfl));replace HB:=am (hb);replace HI0:=am (hi);(try clear hb);(try clear hb2);(try clear hk);(try clear hi)) |((with_reducible refine jd (f:=42) rfl ?_);refine gL (some 24) Try.func42 #[.pointer (some ⟨g,0,none⟩), .int .i64 24] ?_;(with_reducible refine (jg.calls k g s0_0 t355 24 t356 t357 w0 _ ?side1 ?side2 A17.out).mono ?_);(case side1=>exact Y2);(case side2=>exact Y18);rintro e w33 ⟨rfl,hi,hb,hk⟩;refine ⟨_,rfl,?_⟩;replace BK341:=am (jb.blk hk (g':=gb341) (o:=.cells #[.slice none 0 0] 25 (0,0)) (kq BK341.out) NB341_0.out (by simp));replace HO344:=am (Kd.jI (Kd.jxa (jf.apart (show jf w0 _ g s0_0 t355 from Y2) (rq HO344.out) (by decide)) hk (fun _ h=>h.2)) (fun _ h=>h.1));replace BK346:=am (jb.blk hk (g':=gb346) (o:=.cells #[.slice Ao26 t342.length co26] 25 (0,0)) (kq BK346.out) NB346_0.out (by simp));replace HO352:=am (Kd.jI (Kd.jxa (jf.apart (show jf w0 _ g s0_0 t355 from Y2) (rq HO352.out) (by decide)) hk (fun _ h=>h.2)) (fun _ h=>h.1));replace HK:=am (jb.trans (Y10) hk (.inl rfl));replace HB:=am (hb);replace HI0:=am (hi);(try clear hb);(try clear hb2);(try clear hk);(try clear hi)) |((with_reducible refine jJ (N:=30) rfl ?_);refine Kd.jfc (Kd.int .i64) _ 3 ?hg (N:=30) ?hd (xs:=([(-1),6,0,1]:List Int)) (inner:=[.int .i64 (-1), .int .i64 6, .int .i64 0, .int .i64 1]) (ok:=fun _=>True) (okp:=fun _=>True) ?hr ?hp (fun _ hk=>hk) trivial (Below.refl _ _) (Nat.le_refl _) (by simp) ?_;(case hd=>rfl);(case hg=>rfl);(case hr=>exact Y5);(case hp=>exact (Reps.one (show Kd.M (Kd.int .i64) _ _ _ (-1) [.int .i64 (-1)] from rfl) (Reps.one (show Kd.M (Kd.int .i64) _ _ _ 6 [.int .i64 6] from rfl) (Reps.one (show Kd.M (Kd.int .i64) _ _ _ 0 [.int .i64 0] from rfl) (Reps.one (show Kd.M (Kd.int .i64) _ _ _ 1 [.int .i64 1] from rfl) (Reps.none _ _))))));intro v359 w34 ho35 hb hg_ hnew_;clear hg_ hnew_;(first | rw [← Ny358.out] at ho35 |(simp only [Int.reduceToNat] at ho35;rw [← Ny358.out] at ho35));have HO360:=am (Kd.jaa ho35 (jN (w:=w) (g:=g) (row:=none) (Y10)));replace HO344:=am (Kd.jZ (rq HO344.out) hb);replace HO352:=am (Kd.jZ (rq HO352.out) hb);replace BK341:=am (jk (g:=gb341) (o:=.cells #[.slice none 0 0] 25 (0,0)) (kq BK341.out) hb);replace BK346:=am (jk (g:=gb346) (o:=.cells #[.slice Ao26 t342.length co26] 25 (0,0)) (kq BK346.out) hb);replace HK:=am (jb.trans (Y10) (jb.of_below hb g none) (.inl rfl));replace HB:=am (je (Y18) hb);replace HI0:=am (jf.below (Y2) hb);clear hb ho35;obtain ⟨Ao36,co36,eo36⟩:=Kd.jka HO360.out;subst eo36) |((with_reducible refine jd (f:=58) rfl ?_);refine gL (some 31) Try.func58 #[.pointer (some ⟨g,0,none⟩), .slice Ao36 y358.length co36] ?_;(with_reducible refine (jh.calls k g s0_0 t357 _ _ y358 t361 t362 w0 _ ?side1 ?side2 ?side3 ?side4 ?side5 A19.out).mono ?_);(case side1=>exact Y2);(case side2=>exact Y18);(case side3=>exact cq (Kd.jy HO360.out).2.2);(case side4=>exact (Kd.jy HO360.out).2.1);(case side5=>exact jzb (jf.own_ne HI0.out HO360.out (by decide)));rintro e w37 ⟨rfl,hi,hb,hk⟩;refine ⟨_,rfl,?_⟩;replace BK341:=am (jb.blk hk (g':=gb341) (o:=.cells #[.slice none 0 0] 25 (0,0)) (kq BK341.out) NB341_0.out (by simp));replace HO344:=am (Kd.jI (Kd.jxa (jf.apart (show jf w0 _ g s0_0 t357 from Y2) (rq HO344.out) (by decide)) hk (fun _ h=>h.2)) (fun _ h=>h.1));replace BK346:=am (jb.blk hk (g':=gb346) (o:=.cells #[.slice Ao26 t342.length co26] 25 (0,0)) (kq BK346.out) NB346_0.out (by simp));replace HO352:=am (Kd.jI (Kd.jxa (jf.apart (show jf w0 _ g s0_0 t357 from Y2) (rq HO352.out) (by decide)) hk (fun _ h=>h.2)) (fun _ h=>h.1));replace HO360:=am (Kd.jI (Kd.jxa (jf.apart (show jf w0 _ g s0_0 t357 from Y2) (rq HO360.out) (by decide)) hk (fun _ h=>h.2)) (fun _ h=>h.1));replace HK:=am (jb.trans (Y10) hk (.inl rfl));replace HB:=am (hb);replace HI0:=am (hi);(try clear hb);(try clear hb2);(try clear hk);(try clear hi);have p22:0≤(t354:Int):=ozD (uq);have q22:(t354:Int)<((t350.length:Int):Int):=ozD (uq);obtain ⟨go22,co22,eo22,gb22,gl22,cl22,HG22⟩:=Kd.R_form HO352.out (by omega);(first | cases eo22 |(injection eo22 with ea_ en_ ec_;(first | subst ea_ |(injection ea_ with ea_;subst ea_));subst ec_;clear en_));have GB22:=am gb22;have GG22:=am HG22;clear gb22 gl22 HG22;obtain ⟨ce22,hcl22,hM22,hcc22,hfr22⟩:=Kd.R_elem HO352.out z36 (t354:Int) p22 q22;obtain rfl:=jTc hM22;have hx22_0:w37.cell? ⟨go22,(t354:Int).toNat * 4,none⟩=some (.int .i64 ((jc t350 t354).f0)):=hcc22 0 _ rfl;have hx22_1:w37.cell? ⟨go22,(t354:Int).toNat * 4+1,none⟩=some (.int .i64 ((jc t350 t354).f1)):=hcc22 1 _ rfl;have hx22_2:w37.cell? ⟨go22,(t354:Int).toNat * 4+2,none⟩=some (.int .i64 ((jc t350 t354).f2)):=hcc22 2 _ rfl;have hx22_3:w37.cell? ⟨go22,(t354:Int).toNat * 4+3,none⟩=some (.int .i64 ((jc t350 t354).f3)):=hcc22 3 _ rfl;have hf22_0:w37.frozen? ⟨go22,(t354:Int).toNat * 4,none⟩=false:=hfr22 0;have hf22_1:w37.frozen? ⟨go22,(t354:Int).toNat * 4+1,none⟩=false:=hfr22 1;have hf22_2:w37.frozen? ⟨go22,(t354:Int).toNat * 4+2,none⟩=false:=hfr22 2;have hf22_3:w37.frozen? ⟨go22,(t354:Int).toNat * 4+3,none⟩=false:=hfr22 3;clear hcl22 hcc22 hfr22 hM22;replace p22:=ezT p22;replace q22:=ezT q22;have HX38:=am (show Kd.R k36 36 w37 w.heap.size (fun _=>True) (.slice (some ⟨go22,0,none⟩) t350.length co31) t350 from (rq HO352.out));obtain ⟨ce38,hcl38,hM38,hcc38,hfr38⟩:=Kd.R_elem HX38.out z36 (t354:Int) (ozD (uq)) (by have h_:(t354:Int)<((t350.length:Int):Int):=ozD (uq);first | exact h_ |(have e_:=(Kd.jy HO352.out).1;omega) | simpa using h_);obtain rfl:=jTc hM38;have HP38:=Kd.R_seg HX38.out (t354:Int) (ozD (uq)) (by have h_:(t354:Int)<((t350.length:Int):Int):=ozD (uq);first | exact h_ |(have e_:=(Kd.jy HO352.out).1;omega) | simpa using h_) (seg:=[.int .i64 t361]) (j:=0) hcl38 hcc38 (show 1≤4 from by decide) (x':=(⟨t361,(jc t350 t354).f1,(jc t350 t354).f2,(jc t350 t354).f3⟩:S36)) (jNb _ _ _ (⟨t361,(jc t350 t354).f1,(jc t350 t354).f2,(jc t350 t354).f3⟩:S36) ) (fun _ hk=>hk);have hx38_0:=hcc38 0 _ rfl;(try simp only [show (k36).sz=4 from rfl,Nat.mul_one,Nat.add_zero] at hx38_0);have hf38_0:=hfr38 0;(try simp only [show (k36).sz=4 from rfl,Nat.mul_one,Nat.add_zero] at hf38_0);clear hcl38 hcc38 hfr38 hM38) |((with_reducible refine gate_store (t:=3) (p:=33) rfl ?_);refine store_event (t:=3) (p:=33) (v:=?vo_w39) (w1:=(w37.setCell ⟨go22,(t354:Int).toNat * 4,none⟩ (.int .i64 t361))) ?hg ?ho ?hn ?hr ?_;(case ho=>rfl);(case hg=>rfl);(case hn=>rfl);(case hr=>exact Y5);intro w39 hw;have hg:w37.grownBy w39 (some go22):=(by rw [hw];exact HP38.2);have hp_:Kd.R k36 36 w39 w.heap.size (fun _=>True) (.slice (some ⟨go22,0,none⟩) t350.length co31) y363:=(by rw [hw,Ny363.out];exact HP38.1);clear HP38;replace HI0:=am (jf.grown (Y2) hg (jf.own_ne HI0.out HO352.out (by decide)));replace BK341:=am (jXa (g:=gb341) (o:=.cells #[.slice none 0 0] 25 (0,0)) (kq BK341.out) hg (Kd.R_ne HO352.out BK341.out (by decide)));replace HO344:=am (Kd.jDc (v:=(.slice (some ⟨go22,0,none⟩) t350.length co31)) (rq HO344.out) (Kd.jCc HO352.out) (by decide) hg);replace BK346:=am (jXa (g:=gb346) (o:=.cells #[.slice Ao26 t342.length co26] 25 (0,0)) (kq BK346.out) hg (Kd.R_ne HO352.out BK346.out (by decide)));replace HO360:=am (Kd.jDc (v:=(.slice (some ⟨go22,0,none⟩) t350.length co31)) (rq HO360.out) (Kd.jCc HO352.out) (by decide) hg);replace HB:=am ((by rw [hw];exact jK (HB.out) (Nat.le_trans HL.out GB22.out):Below w0.heap.size w0 w39));replace HK:=am (jb.trans (Y10) (jb.jHb hg g) (Kd.jgc HO352.out));replace HO352:=am (hp_);clear hg hw hp_;have hcz40_0:=bc0 BK346.out;have hfz40_0:=ja BK346.out 0;have hnb41:=NB341_0.out;have hnc41:=NB0_341.out;have hcz42_0:=bc0 BK341.out;have hfz42_0:=ja BK341.out 0))
     refine bodyPost_ret (jzc rfl _ _ gb341 25 #[.slice Ao26 t342.length co26] (0,0) _ rfl (Y75) Try.underlying25 rfl (by kernel_rfl)) rfl ?_
     exact ⟨_,_,Y0,by (with_reducible repeat (first | apply Kd.jga | apply Kd.jfa | apply Kd.jea));exact Kd.jI (Kd.jQb (p:=⟨gb341,0,none⟩) (Kd.jQa HO344.out BK341.out (by decide)) (fun _ hk=>hk.2) (.slice Ao26 t342.length co26)) (fun _ hk=>trivial),Kd.Q_of_R (by (with_reducible repeat (first | apply Kd.jga | apply Kd.jfa | apply Kd.jea));exact Kd.jI (Kd.jQb (p:=⟨gb341,0,none⟩) (Kd.jQa HO352.out BK341.out (by decide)) (fun _ hk=>hk.2) (.slice Ao26 t342.length co26)) (fun _ hk=>trivial)),Y2,Y18,Y10⟩
    ·rw [if_neg c21] at H
     exact absurd H (by simp)
   ·rw [if_neg c20] at H
    exact absurd H (by simp)
  ·rw [if_neg c18] at H
   have c18b0:(t356 == 0)=false:=beq_eq_false_iff_ne.mpr c18
   have c18b1:(t356 != 0)=true:=bne_iff_ne.mpr c18
   by_cases c43:t356=1
   ·rw [if_pos c43] at H
    have c43b0:(t356 == 1)=true:=beq_iff_eq.mpr c43
    have c43b1:(t356 != 1)=false:=bne_eq_false_iff_eq.mpr c43
    clear c43
    obtain ⟨y364,hy364⟩:∃ y_:List Int,y_=(([(-1),13,5,9,0]:List Int)):=⟨_,rfl⟩
    replace H:((jh.f k s0_0 t357 y364).bind fun bt367=>(if 0≤t354 then (if t354<(t350.length:Int) then (some (t342,(t350.set (t354:Int).toNat (⟨(jc t350 t354).f0,bt367.1,(jc t350 t354).f2,(jc t350 t354).f3⟩:S36)),bt367.2)) else (none)) else (none)))=some (r1,r2,r3):=by first |(rw [hy364];with_reducible exact H) |(have H2_:=(Option.bind_some _ _).symm.trans H;rw [hy364];with_reducible exact H2_) |(have H2_:=(Option.bind_some _ _).symm.trans H;with_reducible exact H2_) | with_reducible exact H |(rw [hy364];exact H) | exact H
    have Ny364:=am hy364
    clear hy364
    replace H:=bzS H
    obtain ⟨⟨t367,t368⟩,A440,H⟩:=H
    replace H:(if 0≤t354 then (if t354<(t350.length:Int) then (some (t342,(t350.set (t354:Int).toNat (⟨(jc t350 t354).f0,t367,(jc t350 t354).f2,(jc t350 t354).f3⟩:S36)),t368)) else (none)) else (none))=some (r1,r2,r3):=H
    have A44:=am A440
    clear A440
    by_cases c45:0≤t354
    ·rw [if_pos c45] at H
     have c45b0:decide (0≤t354)=true:=dzT c45
     clear c45
     by_cases c46:t354<(t350.length:Int)
     ·rw [if_pos c46] at H
      have c46b0:decide (t354<(t350.length:Int))=true:=dzT c46
      clear c46
      obtain ⟨y369,hy369⟩:∃ y_:List (S36),y_=(t350.set (t354:Int).toNat (⟨(jc t350 t354).f0,t367,(jc t350 t354).f2,(jc t350 t354).f3⟩:S36)):=⟨_,rfl⟩
      replace H:(some (t342,y369,t368))=some (r1,r2,r3):=by first |(rw [hy369];with_reducible exact H) |(have H2_:=(Option.bind_some _ _).symm.trans H;rw [hy369];with_reducible exact H2_) |(have H2_:=(Option.bind_some _ _).symm.trans H;with_reducible exact H2_) | with_reducible exact H |(rw [hy369];exact H) | exact H
      have Ny369:=am hy369
      clear hy369
      simp only [Option.some.injEq,Prod.mk.injEq] at H
      obtain ⟨rfl,rfl,rfl⟩:=H
      go_enter Try.func57,Try.ntmps57
      go_wp2_with (first |((with_reducible refine jJ (N:=2) rfl ?_);refine bE (N:=2) (cs:=#[.slice none 0 0]) (t:=25) ?_;intro gb341 hg w48 hbox hb;have BK341:=am (hbox);have GW341:=am ((Y11:w.heap.size≤gb341));have GE341:=am ((Nat.le_trans HW0.out (Y11:w.heap.size≤gb341):w0.heap.size≤gb341));have NB0_341:=am ((Y21:g≠gb341));have NB341_0:=am ((Y22:gb341≠g));replace HK:=am (jb.trans (Y15) (jb.of_below hb g none) (.inl rfl));replace HB:=am (je (Y16) hb);replace HI0:=am (jf.below (Y14) hb);clear hb hbox hg) |((with_reducible refine jd (f:=77) rfl ?_);refine gL (some 8) Try.func77 #[.pointer (some ⟨g,0,none⟩)] ?_;(with_reducible refine (joa.calls k g s0_0 s0_1 t342 t345 w0 _ ?side1 ?side2 A2.out).mono ?_);(case side1=>exact Y39);(case side2=>exact Y40);rintro e w49 ⟨v343,rfl,ho0,hi,hb,hk⟩;refine ⟨_,rfl,?_⟩;have HO344:=am (Kd.jaa ho0 (jN (w:=w) (g:=g) (row:=none) (Y27)));replace BK341:=am (jb.blk hk (g':=gb341) (o:=.cells #[.slice none 0 0] 25 (0,0)) (kq BK341.out) NB341_0.out (by simp));replace HK:=am (jb.trans (Y27) hk (.inl rfl));replace HB:=am (hb);replace HI0:=am (hi);(try clear hb);(try clear hb2);(try clear hk);(try clear hi);(try clear ho0)) |((with_reducible refine jJ (N:=4) rfl ?_);refine bE (N:=4) (cs:=#[.slice none 0 0]) (t:=25) ?_;intro gb346 hg w50 hbox hb;have BK346:=am (hbox);have GW346:=am ((Y41:w.heap.size≤gb346));have GE346:=am ((Nat.le_trans HW0.out (Y41:w.heap.size≤gb346):w0.heap.size≤gb346));have NB341_346:=am ((Y69:gb341≠gb346));have NB346_341:=am ((Y70:gb346≠gb341));have NB0_346:=am ((Y71:g≠gb346));have NB346_0:=am ((Y72:gb346≠g));replace HO344:=am (Kd.jZ (rq HO344.out) hb);replace BK341:=am (jk (g:=gb341) (o:=.cells #[.slice none 0 0] 25 (0,0)) (kq BK341.out) hb);replace HK:=am (jb.trans (Y27) (jb.of_below hb g none) (.inl rfl));replace HB:=am (je (Y40) hb);replace HI0:=am (jf.below (Y39) hb);clear hb hbox hg;obtain ⟨Ao51,co51,eo51⟩:=Kd.jka HO344.out;subst eo51;have hnb52:=NB346_341.out;have hnc52:=NB341_346.out;have hnb53:=NB346_0.out;have hnc53:=NB0_346.out;have hcz54_0:=bc0 BK346.out;have hfz54_0:=ja BK346.out 0) |((with_reducible refine jd (f:=78) rfl ?_);refine gL (some 18) Try.func78 #[.pointer (some ⟨g,0,none⟩), .agg #[.slice Ao51 t342.length co51]] ?_;(with_reducible refine (jD.calls k g s0_0 t345 _ _ t342 t350 t353 w0 _ ?side1 ?side2 ?side3 ?side4 A15.out).mono ?_);(case side1=>exact Y2);(case side2=>exact Y18);(case side3=>exact Kd.jAc (jf.apart (show jf w0 _ g s0_0 t345 from Y2) (Y116) (by decide)) (fun _ h_=>h_.2));(case side4=>exact (Kd.jy HO344.out).2.1);rintro e w55 ⟨v351,rfl,ho0,hi,hb,hk⟩;refine ⟨_,rfl,?_⟩;have HO352:=am (Kd.jaa ho0 (jN (w:=w) (g:=g) (row:=none) (Y10)));replace BK341:=am (jb.blk hk (g':=gb341) (o:=.cells #[.slice none 0 0] 25 (0,0)) (Y73) NB341_0.out (by simp));replace HO344:=am (Kd.jI (Kd.jxa (jf.apart (show jf w0 _ g s0_0 t345 from Y2) (Y116) (by decide)) hk (fun _ h=>h.2)) (fun _ h=>h.1));replace BK346:=am (jb.blk hk (g':=gb346) (o:=.cells #[.slice Ao51 t342.length co51] 25 (0,0)) (Y74) NB346_0.out (by simp));replace HK:=am (jb.trans (Y10) hk (.inl rfl));replace HB:=am (hb);replace HI0:=am (hi);(try clear hb);(try clear hb2);(try clear hk);(try clear hi);(try clear ho0);obtain ⟨Ao56,co56,eo56⟩:=Kd.jka HO352.out;subst eo56) |((with_reducible refine jd (f:=42) rfl ?_);refine gL (some 22) Try.func42 #[.pointer (some ⟨g,0,none⟩), .int .i64 (t350.length:Int)] ?_;(with_reducible refine (jg.calls k g s0_0 t353 (t350.length:Int) t354 t355 w0 _ ?side1 ?side2 A16.out).mono ?_);(case side1=>exact Y2);(case side2=>exact Y18);rintro e w57 ⟨rfl,hi,hb,hk⟩;refine ⟨_,rfl,?_⟩;replace BK341:=am (jb.blk hk (g':=gb341) (o:=.cells #[.slice none 0 0] 25 (0,0)) (kq BK341.out) NB341_0.out (by simp));replace HO344:=am (Kd.jI (Kd.jxa (jf.apart (show jf w0 _ g s0_0 t353 from Y2) (rq HO344.out) (by decide)) hk (fun _ h=>h.2)) (fun _ h=>h.1));replace BK346:=am (jb.blk hk (g':=gb346) (o:=.cells #[.slice Ao51 t342.length co51] 25 (0,0)) (kq BK346.out) NB346_0.out (by simp));replace HO352:=am (Kd.jI (Kd.jxa (jf.apart (show jf w0 _ g s0_0 t353 from Y2) (rq HO352.out) (by decide)) hk (fun _ h=>h.2)) (fun _ h=>h.1));replace HK:=am (jb.trans (Y10) hk (.inl rfl));replace HB:=am (hb);replace HI0:=am (hi);(try clear hb);(try clear hb2);(try clear hk);(try clear hi)) |((with_reducible refine jd (f:=42) rfl ?_);refine gL (some 24) Try.func42 #[.pointer (some ⟨g,0,none⟩), .int .i64 24] ?_;(with_reducible refine (jg.calls k g s0_0 t355 24 t356 t357 w0 _ ?side1 ?side2 A17.out).mono ?_);(case side1=>exact Y2);(case side2=>exact Y18);rintro e w58 ⟨rfl,hi,hb,hk⟩;refine ⟨_,rfl,?_⟩;replace BK341:=am (jb.blk hk (g':=gb341) (o:=.cells #[.slice none 0 0] 25 (0,0)) (kq BK341.out) NB341_0.out (by simp));replace HO344:=am (Kd.jI (Kd.jxa (jf.apart (show jf w0 _ g s0_0 t355 from Y2) (rq HO344.out) (by decide)) hk (fun _ h=>h.2)) (fun _ h=>h.1));replace BK346:=am (jb.blk hk (g':=gb346) (o:=.cells #[.slice Ao51 t342.length co51] 25 (0,0)) (kq BK346.out) NB346_0.out (by simp));replace HO352:=am (Kd.jI (Kd.jxa (jf.apart (show jf w0 _ g s0_0 t355 from Y2) (rq HO352.out) (by decide)) hk (fun _ h=>h.2)) (fun _ h=>h.1));replace HK:=am (jb.trans (Y10) hk (.inl rfl));replace HB:=am (hb);replace HI0:=am (hi);(try clear hb);(try clear hb2);(try clear hk);(try clear hi)) |((with_reducible refine jJ (N:=39) rfl ?_);refine Kd.jfc (Kd.int .i64) _ 3 ?hg (N:=39) ?hd (xs:=([(-1),13,5,9,0]:List Int)) (inner:=[.int .i64 (-1), .int .i64 13, .int .i64 5, .int .i64 9, .int .i64 0]) (ok:=fun _=>True) (okp:=fun _=>True) ?hr ?hp (fun _ hk=>hk) trivial (Below.refl _ _) (Nat.le_refl _) (by simp) ?_;(case hd=>rfl);(case hg=>rfl);(case hr=>exact Y5);(case hp=>exact (Reps.one (show Kd.M (Kd.int .i64) _ _ _ (-1) [.int .i64 (-1)] from rfl) (Reps.one (show Kd.M (Kd.int .i64) _ _ _ 13 [.int .i64 13] from rfl) (Reps.one (show Kd.M (Kd.int .i64) _ _ _ 5 [.int .i64 5] from rfl) (Reps.one (show Kd.M (Kd.int .i64) _ _ _ 9 [.int .i64 9] from rfl) (Reps.one (show Kd.M (Kd.int .i64) _ _ _ 0 [.int .i64 0] from rfl) (Reps.none _ _)))))));intro v365 w59 ho60 hb hg_ hnew_;clear hg_ hnew_;(first | rw [← Ny364.out] at ho60 |(simp only [Int.reduceToNat] at ho60;rw [← Ny364.out] at ho60));have HO366:=am (Kd.jaa ho60 (jN (w:=w) (g:=g) (row:=none) (Y10)));replace HO344:=am (Kd.jZ (rq HO344.out) hb);replace HO352:=am (Kd.jZ (rq HO352.out) hb);replace BK341:=am (jk (g:=gb341) (o:=.cells #[.slice none 0 0] 25 (0,0)) (kq BK341.out) hb);replace BK346:=am (jk (g:=gb346) (o:=.cells #[.slice Ao51 t342.length co51] 25 (0,0)) (kq BK346.out) hb);replace HK:=am (jb.trans (Y10) (jb.of_below hb g none) (.inl rfl));replace HB:=am (je (Y18) hb);replace HI0:=am (jf.below (Y2) hb);clear hb ho60;obtain ⟨Ao61,co61,eo61⟩:=Kd.jka HO366.out;subst eo61) |((with_reducible refine jd (f:=58) rfl ?_);refine gL (some 40) Try.func58 #[.pointer (some ⟨g,0,none⟩), .slice Ao61 y364.length co61] ?_;(with_reducible refine (jh.calls k g s0_0 t357 _ _ y364 t367 t368 w0 _ ?side1 ?side2 ?side3 ?side4 ?side5 A44.out).mono ?_);(case side1=>exact Y2);(case side2=>exact Y18);(case side3=>exact cq (Kd.jy HO366.out).2.2);(case side4=>exact (Kd.jy HO366.out).2.1);(case side5=>exact jzb (jf.own_ne HI0.out HO366.out (by decide)));rintro e w62 ⟨rfl,hi,hb,hk⟩;refine ⟨_,rfl,?_⟩;replace BK341:=am (jb.blk hk (g':=gb341) (o:=.cells #[.slice none 0 0] 25 (0,0)) (kq BK341.out) NB341_0.out (by simp));replace HO344:=am (Kd.jI (Kd.jxa (jf.apart (show jf w0 _ g s0_0 t357 from Y2) (rq HO344.out) (by decide)) hk (fun _ h=>h.2)) (fun _ h=>h.1));replace BK346:=am (jb.blk hk (g':=gb346) (o:=.cells #[.slice Ao51 t342.length co51] 25 (0,0)) (kq BK346.out) NB346_0.out (by simp));replace HO352:=am (Kd.jI (Kd.jxa (jf.apart (show jf w0 _ g s0_0 t357 from Y2) (rq HO352.out) (by decide)) hk (fun _ h=>h.2)) (fun _ h=>h.1));replace HO366:=am (Kd.jI (Kd.jxa (jf.apart (show jf w0 _ g s0_0 t357 from Y2) (rq HO366.out) (by decide)) hk (fun _ h=>h.2)) (fun _ h=>h.1));replace HK:=am (jb.trans (Y10) hk (.inl rfl));replace HB:=am (hb);replace HI0:=am (hi);(try clear hb);(try clear hb2);(try clear hk);(try clear hi);have p47:0≤(t354:Int):=ozD (uq);have q47:(t354:Int)<((t350.length:Int):Int):=ozD (uq);obtain ⟨go47,co47,eo47,gb47,gl47,cl47,HG47⟩:=Kd.R_form HO352.out (by omega);(first | cases eo47 |(injection eo47 with ea_ en_ ec_;(first | subst ea_ |(injection ea_ with ea_;subst ea_));subst ec_;clear en_));have GB47:=am gb47;have GG47:=am HG47;clear gb47 gl47 HG47;obtain ⟨ce47,hcl47,hM47,hcc47,hfr47⟩:=Kd.R_elem HO352.out z36 (t354:Int) p47 q47;obtain rfl:=jTc hM47;have hx47_0:w62.cell? ⟨go47,(t354:Int).toNat * 4,none⟩=some (.int .i64 ((jc t350 t354).f0)):=hcc47 0 _ rfl;have hx47_1:w62.cell? ⟨go47,(t354:Int).toNat * 4+1,none⟩=some (.int .i64 ((jc t350 t354).f1)):=hcc47 1 _ rfl;have hx47_2:w62.cell? ⟨go47,(t354:Int).toNat * 4+2,none⟩=some (.int .i64 ((jc t350 t354).f2)):=hcc47 2 _ rfl;have hx47_3:w62.cell? ⟨go47,(t354:Int).toNat * 4+3,none⟩=some (.int .i64 ((jc t350 t354).f3)):=hcc47 3 _ rfl;have hf47_0:w62.frozen? ⟨go47,(t354:Int).toNat * 4,none⟩=false:=hfr47 0;have hf47_1:w62.frozen? ⟨go47,(t354:Int).toNat * 4+1,none⟩=false:=hfr47 1;have hf47_2:w62.frozen? ⟨go47,(t354:Int).toNat * 4+2,none⟩=false:=hfr47 2;have hf47_3:w62.frozen? ⟨go47,(t354:Int).toNat * 4+3,none⟩=false:=hfr47 3;clear hcl47 hcc47 hfr47 hM47;replace p47:=ezT p47;replace q47:=ezT q47;have HX63:=am (show Kd.R k36 36 w62 w.heap.size (fun _=>True) (.slice (some ⟨go47,0,none⟩) t350.length co56) t350 from (rq HO352.out));obtain ⟨ce63,hcl63,hM63,hcc63,hfr63⟩:=Kd.R_elem HX63.out z36 (t354:Int) (ozD (uq)) (by have h_:(t354:Int)<((t350.length:Int):Int):=ozD (uq);first | exact h_ |(have e_:=(Kd.jy HO352.out).1;omega) | simpa using h_);obtain rfl:=jTc hM63;have HP63:=Kd.R_seg HX63.out (t354:Int) (ozD (uq)) (by have h_:(t354:Int)<((t350.length:Int):Int):=ozD (uq);first | exact h_ |(have e_:=(Kd.jy HO352.out).1;omega) | simpa using h_) (seg:=[.int .i64 t367]) (j:=1) hcl63 hcc63 (show 2≤4 from by decide) (x':=(⟨(jc t350 t354).f0,t367,(jc t350 t354).f2,(jc t350 t354).f3⟩:S36)) (jNb _ _ _ (⟨(jc t350 t354).f0,t367,(jc t350 t354).f2,(jc t350 t354).f3⟩:S36) ) (fun _ hk=>hk);have hx63_1:=hcc63 1 _ rfl;(try simp only [show (k36).sz=4 from rfl,Nat.mul_one,Nat.add_zero] at hx63_1);have hf63_1:=hfr63 1;(try simp only [show (k36).sz=4 from rfl,Nat.mul_one,Nat.add_zero] at hf63_1);clear hcl63 hcc63 hfr63 hM63) |((with_reducible refine gate_store (t:=3) (p:=42) rfl ?_);refine store_event (t:=3) (p:=42) (v:=?vo_w64) (w1:=(w62.setCell ⟨go47,(t354:Int).toNat * 4+1,none⟩ (.int .i64 t367))) ?hg ?ho ?hn ?hr ?_;(case ho=>rfl);(case hg=>rfl);(case hn=>rfl);(case hr=>exact Y5);intro w64 hw;have hg:w62.grownBy w64 (some go47):=(by rw [hw];exact HP63.2);have hp_:Kd.R k36 36 w64 w.heap.size (fun _=>True) (.slice (some ⟨go47,0,none⟩) t350.length co56) y369:=(by rw [hw,Ny369.out];exact HP63.1);clear HP63;replace HI0:=am (jf.grown (Y2) hg (jf.own_ne HI0.out HO352.out (by decide)));replace BK341:=am (jXa (g:=gb341) (o:=.cells #[.slice none 0 0] 25 (0,0)) (kq BK341.out) hg (Kd.R_ne HO352.out BK341.out (by decide)));replace HO344:=am (Kd.jDc (v:=(.slice (some ⟨go47,0,none⟩) t350.length co56)) (rq HO344.out) (Kd.jCc HO352.out) (by decide) hg);replace BK346:=am (jXa (g:=gb346) (o:=.cells #[.slice Ao51 t342.length co51] 25 (0,0)) (kq BK346.out) hg (Kd.R_ne HO352.out BK346.out (by decide)));replace HO366:=am (Kd.jDc (v:=(.slice (some ⟨go47,0,none⟩) t350.length co56)) (rq HO366.out) (Kd.jCc HO352.out) (by decide) hg);replace HB:=am ((by rw [hw];exact jK (HB.out) (Nat.le_trans HL.out GB47.out):Below w0.heap.size w0 w64));replace HK:=am (jb.trans (Y10) (jb.jHb hg g) (Kd.jgc HO352.out));replace HO352:=am (hp_);clear hg hw hp_;have hcz65_0:=bc0 BK346.out;have hfz65_0:=ja BK346.out 0;have hnb66:=NB341_0.out;have hnc66:=NB0_341.out;have hcz67_0:=bc0 BK341.out;have hfz67_0:=ja BK341.out 0))
      refine bodyPost_ret (jzc rfl _ _ gb341 25 #[.slice Ao51 t342.length co51] (0,0) _ rfl (Y75) Try.underlying25 rfl (by kernel_rfl)) rfl ?_
      exact ⟨_,_,Y0,by (with_reducible repeat (first | apply Kd.jga | apply Kd.jfa | apply Kd.jea));exact Kd.jI (Kd.jQb (p:=⟨gb341,0,none⟩) (Kd.jQa HO344.out BK341.out (by decide)) (fun _ hk=>hk.2) (.slice Ao51 t342.length co51)) (fun _ hk=>trivial),Kd.Q_of_R (by (with_reducible repeat (first | apply Kd.jga | apply Kd.jfa | apply Kd.jea));exact Kd.jI (Kd.jQb (p:=⟨gb341,0,none⟩) (Kd.jQa HO352.out BK341.out (by decide)) (fun _ hk=>hk.2) (.slice Ao51 t342.length co51)) (fun _ hk=>trivial)),Y2,Y18,Y10⟩
     ·rw [if_neg c46] at H
      exact absurd H (by simp)
    ·rw [if_neg c45] at H
     exact absurd H (by simp)
   ·rw [if_neg c43] at H
    have c43b0:(t356 == 1)=false:=beq_eq_false_iff_ne.mpr c43
    have c43b1:(t356 != 1)=true:=bne_iff_ne.mpr c43
    by_cases c68:t356=2
    ·rw [if_pos c68] at H
     have c68b0:(t356 == 2)=true:=beq_iff_eq.mpr c68
     have c68b1:(t356 != 2)=false:=bne_eq_false_iff_eq.mpr c68
     clear c68
     obtain ⟨y370,hy370⟩:∃ y_:List Int,y_=(([(-1),100,8]:List Int)):=⟨_,rfl⟩
     replace H:((jh.f k s0_0 t357 y370).bind fun bt373=>(if 0≤t354 then (if t354<(t350.length:Int) then (some (t342,(t350.set (t354:Int).toNat (⟨(jc t350 t354).f0,(jc t350 t354).f1,bt373.1,(jc t350 t354).f3⟩:S36)),bt373.2)) else (none)) else (none)))=some (r1,r2,r3):=by first |(rw [hy370];with_reducible exact H) |(have H2_:=(Option.bind_some _ _).symm.trans H;rw [hy370];with_reducible exact H2_) |(have H2_:=(Option.bind_some _ _).symm.trans H;with_reducible exact H2_) | with_reducible exact H |(rw [hy370];exact H) | exact H
     have Ny370:=am hy370
     clear hy370
     replace H:=bzS H
     obtain ⟨⟨t373,t374⟩,A690,H⟩:=H
     replace H:(if 0≤t354 then (if t354<(t350.length:Int) then (some (t342,(t350.set (t354:Int).toNat (⟨(jc t350 t354).f0,(jc t350 t354).f1,t373,(jc t350 t354).f3⟩:S36)),t374)) else (none)) else (none))=some (r1,r2,r3):=H
     have A69:=am A690
     clear A690
     by_cases c70:0≤t354
     ·rw [if_pos c70] at H
      have c70b0:decide (0≤t354)=true:=dzT c70
      clear c70
      by_cases c71:t354<(t350.length:Int)
      ·rw [if_pos c71] at H
       have c71b0:decide (t354<(t350.length:Int))=true:=dzT c71
       clear c71
       obtain ⟨y375,hy375⟩:∃ y_:List (S36),y_=(t350.set (t354:Int).toNat (⟨(jc t350 t354).f0,(jc t350 t354).f1,t373,(jc t350 t354).f3⟩:S36)):=⟨_,rfl⟩
       replace H:(some (t342,y375,t374))=some (r1,r2,r3):=by first |(rw [hy375];with_reducible exact H) |(have H2_:=(Option.bind_some _ _).symm.trans H;rw [hy375];with_reducible exact H2_) |(have H2_:=(Option.bind_some _ _).symm.trans H;with_reducible exact H2_) | with_reducible exact H |(rw [hy375];exact H) | exact H
       have Ny375:=am hy375
       clear hy375
       simp only [Option.some.injEq,Prod.mk.injEq] at H
       obtain ⟨rfl,rfl,rfl⟩:=H
       go_enter Try.func57,Try.ntmps57
       go_wp2_with (first |((with_reducible refine jJ (N:=2) rfl ?_);refine bE (N:=2) (cs:=#[.slice none 0 0]) (t:=25) ?_;intro gb341 hg w73 hbox hb;have BK341:=am (hbox);have GW341:=am ((Y11:w.heap.size≤gb341));have GE341:=am ((Nat.le_trans HW0.out (Y11:w.heap.size≤gb341):w0.heap.size≤gb341));have NB0_341:=am ((Y21:g≠gb341));have NB341_0:=am ((Y22:gb341≠g));replace HK:=am (jb.trans (Y15) (jb.of_below hb g none) (.inl rfl));replace HB:=am (je (Y16) hb);replace HI0:=am (jf.below (Y14) hb);clear hb hbox hg) |((with_reducible refine jd (f:=77) rfl ?_);refine gL (some 8) Try.func77 #[.pointer (some ⟨g,0,none⟩)] ?_;(with_reducible refine (joa.calls k g s0_0 s0_1 t342 t345 w0 _ ?side1 ?side2 A2.out).mono ?_);(case side1=>exact Y39);(case side2=>exact Y40);rintro e w74 ⟨v343,rfl,ho0,hi,hb,hk⟩;refine ⟨_,rfl,?_⟩;have HO344:=am (Kd.jaa ho0 (jN (w:=w) (g:=g) (row:=none) (Y27)));replace BK341:=am (jb.blk hk (g':=gb341) (o:=.cells #[.slice none 0 0] 25 (0,0)) (kq BK341.out) NB341_0.out (by simp));replace HK:=am (jb.trans (Y27) hk (.inl rfl));replace HB:=am (hb);replace HI0:=am (hi);(try clear hb);(try clear hb2);(try clear hk);(try clear hi);(try clear ho0)) |((with_reducible refine jJ (N:=4) rfl ?_);refine bE (N:=4) (cs:=#[.slice none 0 0]) (t:=25) ?_;intro gb346 hg w75 hbox hb;have BK346:=am (hbox);have GW346:=am ((Y41:w.heap.size≤gb346));have GE346:=am ((Nat.le_trans HW0.out (Y41:w.heap.size≤gb346):w0.heap.size≤gb346));have NB341_346:=am ((Y69:gb341≠gb346));have NB346_341:=am ((Y70:gb346≠gb341));have NB0_346:=am ((Y71:g≠gb346));have NB346_0:=am ((Y72:gb346≠g));replace HO344:=am (Kd.jZ (rq HO344.out) hb);replace BK341:=am (jk (g:=gb341) (o:=.cells #[.slice none 0 0] 25 (0,0)) (kq BK341.out) hb);replace HK:=am (jb.trans (Y27) (jb.of_below hb g none) (.inl rfl));replace HB:=am (je (Y40) hb);replace HI0:=am (jf.below (Y39) hb);clear hb hbox hg;obtain ⟨Ao76,co76,eo76⟩:=Kd.jka HO344.out;subst eo76;have hnb77:=NB346_341.out;have hnc77:=NB341_346.out;have hnb78:=NB346_0.out;have hnc78:=NB0_346.out;have hcz79_0:=bc0 BK346.out;have hfz79_0:=ja BK346.out 0) |((with_reducible refine jd (f:=78) rfl ?_);refine gL (some 18) Try.func78 #[.pointer (some ⟨g,0,none⟩), .agg #[.slice Ao76 t342.length co76]] ?_;(with_reducible refine (jD.calls k g s0_0 t345 _ _ t342 t350 t353 w0 _ ?side1 ?side2 ?side3 ?side4 A15.out).mono ?_);(case side1=>exact Y2);(case side2=>exact Y18);(case side3=>exact Kd.jAc (jf.apart (show jf w0 _ g s0_0 t345 from Y2) (Y117) (by decide)) (fun _ h_=>h_.2));(case side4=>exact (Kd.jy HO344.out).2.1);rintro e w80 ⟨v351,rfl,ho0,hi,hb,hk⟩;refine ⟨_,rfl,?_⟩;have HO352:=am (Kd.jaa ho0 (jN (w:=w) (g:=g) (row:=none) (Y10)));replace BK341:=am (jb.blk hk (g':=gb341) (o:=.cells #[.slice none 0 0] 25 (0,0)) (Y73) NB341_0.out (by simp));replace HO344:=am (Kd.jI (Kd.jxa (jf.apart (show jf w0 _ g s0_0 t345 from Y2) (Y117) (by decide)) hk (fun _ h=>h.2)) (fun _ h=>h.1));replace BK346:=am (jb.blk hk (g':=gb346) (o:=.cells #[.slice Ao76 t342.length co76] 25 (0,0)) (Y74) NB346_0.out (by simp));replace HK:=am (jb.trans (Y10) hk (.inl rfl));replace HB:=am (hb);replace HI0:=am (hi);(try clear hb);(try clear hb2);(try clear hk);(try clear hi);(try clear ho0);obtain ⟨Ao81,co81,eo81⟩:=Kd.jka HO352.out;subst eo81) |((with_reducible refine jd (f:=42) rfl ?_);refine gL (some 22) Try.func42 #[.pointer (some ⟨g,0,none⟩), .int .i64 (t350.length:Int)] ?_;(with_reducible refine (jg.calls k g s0_0 t353 (t350.length:Int) t354 t355 w0 _ ?side1 ?side2 A16.out).mono ?_);(case side1=>exact Y2);(case side2=>exact Y18);rintro e w82 ⟨rfl,hi,hb,hk⟩;refine ⟨_,rfl,?_⟩;replace BK341:=am (jb.blk hk (g':=gb341) (o:=.cells #[.slice none 0 0] 25 (0,0)) (kq BK341.out) NB341_0.out (by simp));replace HO344:=am (Kd.jI (Kd.jxa (jf.apart (show jf w0 _ g s0_0 t353 from Y2) (rq HO344.out) (by decide)) hk (fun _ h=>h.2)) (fun _ h=>h.1));replace BK346:=am (jb.blk hk (g':=gb346) (o:=.cells #[.slice Ao76 t342.length co76] 25 (0,0)) (kq BK346.out) NB346_0.out (by simp));replace HO352:=am (Kd.jI (Kd.jxa (jf.apart (show jf w0 _ g s0_0 t353 from Y2) (rq HO352.out) (by decide)) hk (fun _ h=>h.2)) (fun _ h=>h.1));replace HK:=am (jb.trans (Y10) hk (.inl rfl));replace HB:=am (hb);replace HI0:=am (hi);(try clear hb);(try clear hb2);(try clear hk);(try clear hi)) |((with_reducible refine jd (f:=42) rfl ?_);refine gL (some 24) Try.func42 #[.pointer (some ⟨g,0,none⟩), .int .i64 24] ?_;(with_reducible refine (jg.calls k g s0_0 t355 24 t356 t357 w0 _ ?side1 ?side2 A17.out).mono ?_);(case side1=>exact Y2);(case side2=>exact Y18);rintro e w83 ⟨rfl,hi,hb,hk⟩;refine ⟨_,rfl,?_⟩;replace BK341:=am (jb.blk hk (g':=gb341) (o:=.cells #[.slice none 0 0] 25 (0,0)) (kq BK341.out) NB341_0.out (by simp));replace HO344:=am (Kd.jI (Kd.jxa (jf.apart (show jf w0 _ g s0_0 t355 from Y2) (rq HO344.out) (by decide)) hk (fun _ h=>h.2)) (fun _ h=>h.1));replace BK346:=am (jb.blk hk (g':=gb346) (o:=.cells #[.slice Ao76 t342.length co76] 25 (0,0)) (kq BK346.out) NB346_0.out (by simp));replace HO352:=am (Kd.jI (Kd.jxa (jf.apart (show jf w0 _ g s0_0 t355 from Y2) (rq HO352.out) (by decide)) hk (fun _ h=>h.2)) (fun _ h=>h.1));replace HK:=am (jb.trans (Y10) hk (.inl rfl));replace HB:=am (hb);replace HI0:=am (hi);(try clear hb);(try clear hb2);(try clear hk);(try clear hi)) |((with_reducible refine jJ (N:=48) rfl ?_);refine Kd.jfc (Kd.int .i64) _ 3 ?hg (N:=48) ?hd (xs:=([(-1),100,8]:List Int)) (inner:=[.int .i64 (-1), .int .i64 100, .int .i64 8]) (ok:=fun _=>True) (okp:=fun _=>True) ?hr ?hp (fun _ hk=>hk) trivial (Below.refl _ _) (Nat.le_refl _) (by simp) ?_;(case hd=>rfl);(case hg=>rfl);(case hr=>exact Y5);(case hp=>exact (Reps.one (show Kd.M (Kd.int .i64) _ _ _ (-1) [.int .i64 (-1)] from rfl) (Reps.one (show Kd.M (Kd.int .i64) _ _ _ 100 [.int .i64 100] from rfl) (Reps.one (show Kd.M (Kd.int .i64) _ _ _ 8 [.int .i64 8] from rfl) (Reps.none _ _)))));intro v371 w84 ho85 hb hg_ hnew_;clear hg_ hnew_;(first | rw [← Ny370.out] at ho85 |(simp only [Int.reduceToNat] at ho85;rw [← Ny370.out] at ho85));have HO372:=am (Kd.jaa ho85 (jN (w:=w) (g:=g) (row:=none) (Y10)));replace HO344:=am (Kd.jZ (rq HO344.out) hb);replace HO352:=am (Kd.jZ (rq HO352.out) hb);replace BK341:=am (jk (g:=gb341) (o:=.cells #[.slice none 0 0] 25 (0,0)) (kq BK341.out) hb);replace BK346:=am (jk (g:=gb346) (o:=.cells #[.slice Ao76 t342.length co76] 25 (0,0)) (kq BK346.out) hb);replace HK:=am (jb.trans (Y10) (jb.of_below hb g none) (.inl rfl));replace HB:=am (je (Y18) hb);replace HI0:=am (jf.below (Y2) hb);clear hb ho85;obtain ⟨Ao86,co86,eo86⟩:=Kd.jka HO372.out;subst eo86) |((with_reducible refine jd (f:=58) rfl ?_);refine gL (some 49) Try.func58 #[.pointer (some ⟨g,0,none⟩), .slice Ao86 y370.length co86] ?_;(with_reducible refine (jh.calls k g s0_0 t357 _ _ y370 t373 t374 w0 _ ?side1 ?side2 ?side3 ?side4 ?side5 A69.out).mono ?_);(case side1=>exact Y2);(case side2=>exact Y18);(case side3=>exact cq (Kd.jy HO372.out).2.2);(case side4=>exact (Kd.jy HO372.out).2.1);(case side5=>exact jzb (jf.own_ne HI0.out HO372.out (by decide)));rintro e w87 ⟨rfl,hi,hb,hk⟩;refine ⟨_,rfl,?_⟩;replace BK341:=am (jb.blk hk (g':=gb341) (o:=.cells #[.slice none 0 0] 25 (0,0)) (kq BK341.out) NB341_0.out (by simp));replace HO344:=am (Kd.jI (Kd.jxa (jf.apart (show jf w0 _ g s0_0 t357 from Y2) (rq HO344.out) (by decide)) hk (fun _ h=>h.2)) (fun _ h=>h.1));replace BK346:=am (jb.blk hk (g':=gb346) (o:=.cells #[.slice Ao76 t342.length co76] 25 (0,0)) (kq BK346.out) NB346_0.out (by simp));replace HO352:=am (Kd.jI (Kd.jxa (jf.apart (show jf w0 _ g s0_0 t357 from Y2) (rq HO352.out) (by decide)) hk (fun _ h=>h.2)) (fun _ h=>h.1));replace HO372:=am (Kd.jI (Kd.jxa (jf.apart (show jf w0 _ g s0_0 t357 from Y2) (rq HO372.out) (by decide)) hk (fun _ h=>h.2)) (fun _ h=>h.1));replace HK:=am (jb.trans (Y10) hk (.inl rfl));replace HB:=am (hb);replace HI0:=am (hi);(try clear hb);(try clear hb2);(try clear hk);(try clear hi);have p72:0≤(t354:Int):=ozD (uq);have q72:(t354:Int)<((t350.length:Int):Int):=ozD (uq);obtain ⟨go72,co72,eo72,gb72,gl72,cl72,HG72⟩:=Kd.R_form HO352.out (by omega);(first | cases eo72 |(injection eo72 with ea_ en_ ec_;(first | subst ea_ |(injection ea_ with ea_;subst ea_));subst ec_;clear en_));have GB72:=am gb72;have GG72:=am HG72;clear gb72 gl72 HG72;obtain ⟨ce72,hcl72,hM72,hcc72,hfr72⟩:=Kd.R_elem HO352.out z36 (t354:Int) p72 q72;obtain rfl:=jTc hM72;have hx72_0:w87.cell? ⟨go72,(t354:Int).toNat * 4,none⟩=some (.int .i64 ((jc t350 t354).f0)):=hcc72 0 _ rfl;have hx72_1:w87.cell? ⟨go72,(t354:Int).toNat * 4+1,none⟩=some (.int .i64 ((jc t350 t354).f1)):=hcc72 1 _ rfl;have hx72_2:w87.cell? ⟨go72,(t354:Int).toNat * 4+2,none⟩=some (.int .i64 ((jc t350 t354).f2)):=hcc72 2 _ rfl;have hx72_3:w87.cell? ⟨go72,(t354:Int).toNat * 4+3,none⟩=some (.int .i64 ((jc t350 t354).f3)):=hcc72 3 _ rfl;have hf72_0:w87.frozen? ⟨go72,(t354:Int).toNat * 4,none⟩=false:=hfr72 0;have hf72_1:w87.frozen? ⟨go72,(t354:Int).toNat * 4+1,none⟩=false:=hfr72 1;have hf72_2:w87.frozen? ⟨go72,(t354:Int).toNat * 4+2,none⟩=false:=hfr72 2;have hf72_3:w87.frozen? ⟨go72,(t354:Int).toNat * 4+3,none⟩=false:=hfr72 3;clear hcl72 hcc72 hfr72 hM72;replace p72:=ezT p72;replace q72:=ezT q72;have HX88:=am (show Kd.R k36 36 w87 w.heap.size (fun _=>True) (.slice (some ⟨go72,0,none⟩) t350.length co81) t350 from (rq HO352.out));obtain ⟨ce88,hcl88,hM88,hcc88,hfr88⟩:=Kd.R_elem HX88.out z36 (t354:Int) (ozD (uq)) (by have h_:(t354:Int)<((t350.length:Int):Int):=ozD (uq);first | exact h_ |(have e_:=(Kd.jy HO352.out).1;omega) | simpa using h_);obtain rfl:=jTc hM88;have HP88:=Kd.R_seg HX88.out (t354:Int) (ozD (uq)) (by have h_:(t354:Int)<((t350.length:Int):Int):=ozD (uq);first | exact h_ |(have e_:=(Kd.jy HO352.out).1;omega) | simpa using h_) (seg:=[.int .i64 t373]) (j:=2) hcl88 hcc88 (show 3≤4 from by decide) (x':=(⟨(jc t350 t354).f0,(jc t350 t354).f1,t373,(jc t350 t354).f3⟩:S36)) (jNb _ _ _ (⟨(jc t350 t354).f0,(jc t350 t354).f1,t373,(jc t350 t354).f3⟩:S36) ) (fun _ hk=>hk);have hx88_2:=hcc88 2 _ rfl;(try simp only [show (k36).sz=4 from rfl,Nat.mul_one,Nat.add_zero] at hx88_2);have hf88_2:=hfr88 2;(try simp only [show (k36).sz=4 from rfl,Nat.mul_one,Nat.add_zero] at hf88_2);clear hcl88 hcc88 hfr88 hM88) |((with_reducible refine gate_store (t:=3) (p:=51) rfl ?_);refine store_event (t:=3) (p:=51) (v:=?vo_w89) (w1:=(w87.setCell ⟨go72,(t354:Int).toNat * 4+2,none⟩ (.int .i64 t373))) ?hg ?ho ?hn ?hr ?_;(case ho=>rfl);(case hg=>rfl);(case hn=>rfl);(case hr=>exact Y5);intro w89 hw;have hg:w87.grownBy w89 (some go72):=(by rw [hw];exact HP88.2);have hp_:Kd.R k36 36 w89 w.heap.size (fun _=>True) (.slice (some ⟨go72,0,none⟩) t350.length co81) y375:=(by rw [hw,Ny375.out];exact HP88.1);clear HP88;replace HI0:=am (jf.grown (Y2) hg (jf.own_ne HI0.out HO352.out (by decide)));replace BK341:=am (jXa (g:=gb341) (o:=.cells #[.slice none 0 0] 25 (0,0)) (kq BK341.out) hg (Kd.R_ne HO352.out BK341.out (by decide)));replace HO344:=am (Kd.jDc (v:=(.slice (some ⟨go72,0,none⟩) t350.length co81)) (rq HO344.out) (Kd.jCc HO352.out) (by decide) hg);replace BK346:=am (jXa (g:=gb346) (o:=.cells #[.slice Ao76 t342.length co76] 25 (0,0)) (kq BK346.out) hg (Kd.R_ne HO352.out BK346.out (by decide)));replace HO372:=am (Kd.jDc (v:=(.slice (some ⟨go72,0,none⟩) t350.length co81)) (rq HO372.out) (Kd.jCc HO352.out) (by decide) hg);replace HB:=am ((by rw [hw];exact jK (HB.out) (Nat.le_trans HL.out GB72.out):Below w0.heap.size w0 w89));replace HK:=am (jb.trans (Y10) (jb.jHb hg g) (Kd.jgc HO352.out));replace HO352:=am (hp_);clear hg hw hp_;have hcz90_0:=bc0 BK346.out;have hfz90_0:=ja BK346.out 0;have hnb91:=NB341_0.out;have hnc91:=NB0_341.out;have hcz92_0:=bc0 BK341.out;have hfz92_0:=ja BK341.out 0))
       refine bodyPost_ret (jzc rfl _ _ gb341 25 #[.slice Ao76 t342.length co76] (0,0) _ rfl (Y75) Try.underlying25 rfl (by kernel_rfl)) rfl ?_
       exact ⟨_,_,Y0,by (with_reducible repeat (first | apply Kd.jga | apply Kd.jfa | apply Kd.jea));exact Kd.jI (Kd.jQb (p:=⟨gb341,0,none⟩) (Kd.jQa HO344.out BK341.out (by decide)) (fun _ hk=>hk.2) (.slice Ao76 t342.length co76)) (fun _ hk=>trivial),Kd.Q_of_R (by (with_reducible repeat (first | apply Kd.jga | apply Kd.jfa | apply Kd.jea));exact Kd.jI (Kd.jQb (p:=⟨gb341,0,none⟩) (Kd.jQa HO352.out BK341.out (by decide)) (fun _ hk=>hk.2) (.slice Ao76 t342.length co76)) (fun _ hk=>trivial)),Y2,Y18,Y10⟩
      ·rw [if_neg c71] at H
       exact absurd H (by simp)
     ·rw [if_neg c70] at H
      exact absurd H (by simp)
    ·rw [if_neg c68] at H
     have c68b0:(t356 == 2)=false:=beq_eq_false_iff_ne.mpr c68
     have c68b1:(t356 != 2)=true:=bne_iff_ne.mpr c68
     by_cases c93:t356=3
     ·rw [if_pos c93] at H
      have c93b0:(t356 == 3)=true:=beq_iff_eq.mpr c93
      have c93b1:(t356 != 3)=false:=bne_eq_false_iff_eq.mpr c93
      clear c93
      by_cases c94:1≤(t350.length:Int)
      ·rw [if_pos c94] at H
       have c94b0:=ezT c94
       have c94b1:decide (1≤(t350.length:Int))=true:=dzT c94
       clear c94
       obtain ⟨y376,hy376⟩:∃ y_:List (S36),y_=(t350.drop (1:Int).toNat):=⟨_,rfl⟩
       replace H:(some (t342,y376,t357))=some (r1,r2,r3):=by first |(rw [hy376];with_reducible exact H) |(have H2_:=(Option.bind_some _ _).symm.trans H;rw [hy376];with_reducible exact H2_) |(have H2_:=(Option.bind_some _ _).symm.trans H;with_reducible exact H2_) | with_reducible exact H |(rw [hy376];exact H) | exact H
       have Ny376:=am hy376
       clear hy376
       simp only [Option.some.injEq,Prod.mk.injEq] at H
       obtain ⟨rfl,rfl,rfl⟩:=H
       go_enter Try.func57,Try.ntmps57
       go_wp2_with (first |((with_reducible refine jJ (N:=2) rfl ?_);refine bE (N:=2) (cs:=#[.slice none 0 0]) (t:=25) ?_;intro gb341 hg w95 hbox hb;have BK341:=am (hbox);have GW341:=am ((Y11:w.heap.size≤gb341));have GE341:=am ((Nat.le_trans HW0.out (Y11:w.heap.size≤gb341):w0.heap.size≤gb341));have NB0_341:=am ((Y21:g≠gb341));have NB341_0:=am ((Y22:gb341≠g));replace HK:=am (jb.trans (Y15) (jb.of_below hb g none) (.inl rfl));replace HB:=am (je (Y16) hb);replace HI0:=am (jf.below (Y14) hb);clear hb hbox hg) |((with_reducible refine jd (f:=77) rfl ?_);refine gL (some 8) Try.func77 #[.pointer (some ⟨g,0,none⟩)] ?_;(with_reducible refine (joa.calls k g s0_0 s0_1 t342 t345 w0 _ ?side1 ?side2 A2.out).mono ?_);(case side1=>exact Y39);(case side2=>exact Y40);rintro e w96 ⟨v343,rfl,ho0,hi,hb,hk⟩;refine ⟨_,rfl,?_⟩;have HO344:=am (Kd.jaa ho0 (jN (w:=w) (g:=g) (row:=none) (Y27)));replace BK341:=am (jb.blk hk (g':=gb341) (o:=.cells #[.slice none 0 0] 25 (0,0)) (kq BK341.out) NB341_0.out (by simp));replace HK:=am (jb.trans (Y27) hk (.inl rfl));replace HB:=am (hb);replace HI0:=am (hi);(try clear hb);(try clear hb2);(try clear hk);(try clear hi);(try clear ho0)) |((with_reducible refine jJ (N:=4) rfl ?_);refine bE (N:=4) (cs:=#[.slice none 0 0]) (t:=25) ?_;intro gb346 hg w97 hbox hb;have BK346:=am (hbox);have GW346:=am ((Y41:w.heap.size≤gb346));have GE346:=am ((Nat.le_trans HW0.out (Y41:w.heap.size≤gb346):w0.heap.size≤gb346));have NB341_346:=am ((Y69:gb341≠gb346));have NB346_341:=am ((Y70:gb346≠gb341));have NB0_346:=am ((Y71:g≠gb346));have NB346_0:=am ((Y72:gb346≠g));replace HO344:=am (Kd.jZ (rq HO344.out) hb);replace BK341:=am (jk (g:=gb341) (o:=.cells #[.slice none 0 0] 25 (0,0)) (kq BK341.out) hb);replace HK:=am (jb.trans (Y27) (jb.of_below hb g none) (.inl rfl));replace HB:=am (je (Y40) hb);replace HI0:=am (jf.below (Y39) hb);clear hb hbox hg;obtain ⟨Ao98,co98,eo98⟩:=Kd.jka HO344.out;subst eo98;have hnb99:=NB346_341.out;have hnc99:=NB341_346.out;have hnb100:=NB346_0.out;have hnc100:=NB0_346.out;have hcz101_0:=bc0 BK346.out;have hfz101_0:=ja BK346.out 0) |((with_reducible refine jd (f:=78) rfl ?_);refine gL (some 18) Try.func78 #[.pointer (some ⟨g,0,none⟩), .agg #[.slice Ao98 t342.length co98]] ?_;(with_reducible refine (jD.calls k g s0_0 t345 _ _ t342 t350 t353 w0 _ ?side1 ?side2 ?side3 ?side4 A15.out).mono ?_);(case side1=>exact Y2);(case side2=>exact Y18);(case side3=>exact Kd.jAc (jf.apart (show jf w0 _ g s0_0 t345 from Y2) (Y118) (by decide)) (fun _ h_=>h_.2));(case side4=>exact (Kd.jy HO344.out).2.1);rintro e w102 ⟨v351,rfl,ho0,hi,hb,hk⟩;refine ⟨_,rfl,?_⟩;have HO352:=am (Kd.jaa ho0 (jN (w:=w) (g:=g) (row:=none) (Y10)));replace BK341:=am (jb.blk hk (g':=gb341) (o:=.cells #[.slice none 0 0] 25 (0,0)) (Y73) NB341_0.out (by simp));replace HO344:=am (Kd.jI (Kd.jxa (jf.apart (show jf w0 _ g s0_0 t345 from Y2) (Y118) (by decide)) hk (fun _ h=>h.2)) (fun _ h=>h.1));replace BK346:=am (jb.blk hk (g':=gb346) (o:=.cells #[.slice Ao98 t342.length co98] 25 (0,0)) (Y74) NB346_0.out (by simp));replace HK:=am (jb.trans (Y10) hk (.inl rfl));replace HB:=am (hb);replace HI0:=am (hi);(try clear hb);(try clear hb2);(try clear hk);(try clear hi);(try clear ho0);obtain ⟨Ao103,co103,eo103⟩:=Kd.jka HO352.out;subst eo103) |((with_reducible refine jd (f:=42) rfl ?_);refine gL (some 22) Try.func42 #[.pointer (some ⟨g,0,none⟩), .int .i64 (t350.length:Int)] ?_;(with_reducible refine (jg.calls k g s0_0 t353 (t350.length:Int) t354 t355 w0 _ ?side1 ?side2 A16.out).mono ?_);(case side1=>exact Y2);(case side2=>exact Y18);rintro e w104 ⟨rfl,hi,hb,hk⟩;refine ⟨_,rfl,?_⟩;replace BK341:=am (jb.blk hk (g':=gb341) (o:=.cells #[.slice none 0 0] 25 (0,0)) (kq BK341.out) NB341_0.out (by simp));replace HO344:=am (Kd.jI (Kd.jxa (jf.apart (show jf w0 _ g s0_0 t353 from Y2) (rq HO344.out) (by decide)) hk (fun _ h=>h.2)) (fun _ h=>h.1));replace BK346:=am (jb.blk hk (g':=gb346) (o:=.cells #[.slice Ao98 t342.length co98] 25 (0,0)) (kq BK346.out) NB346_0.out (by simp));replace HO352:=am (Kd.jI (Kd.jxa (jf.apart (show jf w0 _ g s0_0 t353 from Y2) (rq HO352.out) (by decide)) hk (fun _ h=>h.2)) (fun _ h=>h.1));replace HK:=am (jb.trans (Y10) hk (.inl rfl));replace HB:=am (hb);replace HI0:=am (hi);(try clear hb);(try clear hb2);(try clear hk);(try clear hi)) |((with_reducible refine jd (f:=42) rfl ?_);refine gL (some 24) Try.func42 #[.pointer (some ⟨g,0,none⟩), .int .i64 24] ?_;(with_reducible refine (jg.calls k g s0_0 t355 24 t356 t357 w0 _ ?side1 ?side2 A17.out).mono ?_);(case side1=>exact Y2);(case side2=>exact Y18);rintro e w105 ⟨rfl,hi,hb,hk⟩;refine ⟨_,rfl,?_⟩;replace BK341:=am (jb.blk hk (g':=gb341) (o:=.cells #[.slice none 0 0] 25 (0,0)) (kq BK341.out) NB341_0.out (by simp));replace HO344:=am (Kd.jI (Kd.jxa (jf.apart (show jf w0 _ g s0_0 t355 from Y2) (rq HO344.out) (by decide)) hk (fun _ h=>h.2)) (fun _ h=>h.1));replace BK346:=am (jb.blk hk (g':=gb346) (o:=.cells #[.slice Ao98 t342.length co98] 25 (0,0)) (kq BK346.out) NB346_0.out (by simp));replace HO352:=am (Kd.jI (Kd.jxa (jf.apart (show jf w0 _ g s0_0 t355 from Y2) (rq HO352.out) (by decide)) hk (fun _ h=>h.2)) (fun _ h=>h.1));replace HK:=am (jb.trans (Y10) hk (.inl rfl));replace HB:=am (hb);replace HI0:=am (hi);(try clear hb);(try clear hb2);(try clear hk);(try clear hi);have q106:(1:Int)≤((t350.length:Int):Int):=ozD (uq);obtain ⟨i0106,hi0106,_,hsz106,_⟩:=info_parts jLc;have hcut106:=cut_from (P:=Try.prog) 26 36 .i64 Try.underlying26 hi0106 4 hsz106 Ao103 t350.length co103 1 (by omega) q106;have hr106:=Kd.Q_drop (k:=(1:Int).toNat) (Kd.Q_of_R HO352.out) (by omega);obtain ⟨A106,hA106⟩:∃ A1,A1=(if co103=(1:Int).toNat then Ao103 else (Ao103:Option Addr).map (·.add ((1:Int).toNat * 4))):=⟨_,rfl⟩;obtain ⟨c106,hc106⟩:∃ c1,c1=co103 - (1:Int).toNat:=⟨_,rfl⟩;have hy106:y376.length=t350.length - (1:Int).toNat:=(by rw [Ny376.out,List.length_drop]);rw [← Ny376.out] at hr106;rw [← hy106,← hA106,← hc106] at hcut106;replace hr106:Kd.Q k36 36 w105 w.heap.size (fun _=>True) (.slice A106 y376.length c106) y376:=(by rw [hA106,hc106,hy106];exact hr106);have HE106:jq ((Value.slice A106 y376.length c106).ownBlock=(.slice Ao103 t350.length co103:Value).ownBlock):=⟨by rw [hA106];split <;> (cases (Ao103:Option Addr) <;> rfl)⟩;clear hy106 hi0106 hsz106 HO352 hA106 hc106;have HO378:=am hr106;clear hr106;replace q106:=ezT q106;have hcz107_0:=bc0 BK346.out;have hfz107_0:=ja BK346.out 0;have hnb108:=NB341_0.out;have hnc108:=NB0_341.out;have hcz109_0:=bc0 BK341.out;have hfz109_0:=ja BK341.out 0))
       refine bodyPost_ret (jzc rfl _ _ gb341 25 #[.slice Ao98 t342.length co98] (0,0) _ rfl (Y75) Try.underlying25 rfl (by kernel_rfl)) rfl ?_
       exact ⟨_,_,Y0,by (with_reducible repeat (first | apply Kd.jga | apply Kd.jfa | apply Kd.jea));exact Kd.jI (Kd.jQb (p:=⟨gb341,0,none⟩) (Kd.jQa HO344.out BK341.out (by decide)) (fun _ hk=>hk.2) (.slice Ao98 t342.length co98)) (fun _ hk=>trivial),by (with_reducible repeat (first | apply Kd.jUb | apply Kd.jTb | apply Kd.jRb));exact Kd.jHc (Kd.Q_far (p:=⟨gb341,0,none⟩) (Kd.jZc HO378.out BK341.out (by decide)) (fun _ hk=>hk.2) (.slice Ao98 t342.length co98)) (fun _ hk=>trivial),Y2,Y18,Y10⟩
      ·rw [if_neg c94] at H
       exact absurd H (by simp)
     ·rw [if_neg c93] at H
      have c93b0:(t356 == 3)=false:=beq_eq_false_iff_ne.mpr c93
      have c93b1:(t356 != 3)=true:=bne_iff_ne.mpr c93
      simp only [Option.some.injEq,Prod.mk.injEq] at H
      obtain ⟨rfl,rfl,rfl⟩:=H
      go_enter Try.func57,Try.ntmps57
      go_wp2_with (first |((with_reducible refine jJ (N:=2) rfl ?_);refine bE (N:=2) (cs:=#[.slice none 0 0]) (t:=25) ?_;intro gb341 hg w110 hbox hb;have BK341:=am (hbox);have GW341:=am ((Y11:w.heap.size≤gb341));have GE341:=am ((Nat.le_trans HW0.out (Y11:w.heap.size≤gb341):w0.heap.size≤gb341));have NB0_341:=am ((Y21:g≠gb341));have NB341_0:=am ((Y22:gb341≠g));replace HK:=am (jb.trans (Y15) (jb.of_below hb g none) (.inl rfl));replace HB:=am (je (Y16) hb);replace HI0:=am (jf.below (Y14) hb);clear hb hbox hg) |((with_reducible refine jd (f:=77) rfl ?_);refine gL (some 8) Try.func77 #[.pointer (some ⟨g,0,none⟩)] ?_;(with_reducible refine (joa.calls k g s0_0 s0_1 t342 t345 w0 _ ?side1 ?side2 A2.out).mono ?_);(case side1=>exact Y39);(case side2=>exact Y40);rintro e w111 ⟨v343,rfl,ho0,hi,hb,hk⟩;refine ⟨_,rfl,?_⟩;have HO344:=am (Kd.jaa ho0 (jN (w:=w) (g:=g) (row:=none) (Y27)));replace BK341:=am (jb.blk hk (g':=gb341) (o:=.cells #[.slice none 0 0] 25 (0,0)) (kq BK341.out) NB341_0.out (by simp));replace HK:=am (jb.trans (Y27) hk (.inl rfl));replace HB:=am (hb);replace HI0:=am (hi);(try clear hb);(try clear hb2);(try clear hk);(try clear hi);(try clear ho0)) |((with_reducible refine jJ (N:=4) rfl ?_);refine bE (N:=4) (cs:=#[.slice none 0 0]) (t:=25) ?_;intro gb346 hg w112 hbox hb;have BK346:=am (hbox);have GW346:=am ((Y41:w.heap.size≤gb346));have GE346:=am ((Nat.le_trans HW0.out (Y41:w.heap.size≤gb346):w0.heap.size≤gb346));have NB341_346:=am ((Y69:gb341≠gb346));have NB346_341:=am ((Y70:gb346≠gb341));have NB0_346:=am ((Y71:g≠gb346));have NB346_0:=am ((Y72:gb346≠g));replace HO344:=am (Kd.jZ (rq HO344.out) hb);replace BK341:=am (jk (g:=gb341) (o:=.cells #[.slice none 0 0] 25 (0,0)) (kq BK341.out) hb);replace HK:=am (jb.trans (Y27) (jb.of_below hb g none) (.inl rfl));replace HB:=am (je (Y40) hb);replace HI0:=am (jf.below (Y39) hb);clear hb hbox hg;obtain ⟨Ao113,co113,eo113⟩:=Kd.jka HO344.out;subst eo113;have hnb114:=NB346_341.out;have hnc114:=NB341_346.out;have hnb115:=NB346_0.out;have hnc115:=NB0_346.out;have hcz116_0:=bc0 BK346.out;have hfz116_0:=ja BK346.out 0) |((with_reducible refine jd (f:=78) rfl ?_);refine gL (some 18) Try.func78 #[.pointer (some ⟨g,0,none⟩), .agg #[.slice Ao113 t342.length co113]] ?_;(with_reducible refine (jD.calls k g s0_0 t345 _ _ t342 t350 t353 w0 _ ?side1 ?side2 ?side3 ?side4 A15.out).mono ?_);(case side1=>exact Y2);(case side2=>exact Y18);(case side3=>exact Kd.jAc (jf.apart (show jf w0 _ g s0_0 t345 from Y2) (Y119) (by decide)) (fun _ h_=>h_.2));(case side4=>exact (Kd.jy HO344.out).2.1);rintro e w117 ⟨v351,rfl,ho0,hi,hb,hk⟩;refine ⟨_,rfl,?_⟩;have HO352:=am (Kd.jaa ho0 (jN (w:=w) (g:=g) (row:=none) (Y10)));replace BK341:=am (jb.blk hk (g':=gb341) (o:=.cells #[.slice none 0 0] 25 (0,0)) (Y73) NB341_0.out (by simp));replace HO344:=am (Kd.jI (Kd.jxa (jf.apart (show jf w0 _ g s0_0 t345 from Y2) (Y119) (by decide)) hk (fun _ h=>h.2)) (fun _ h=>h.1));replace BK346:=am (jb.blk hk (g':=gb346) (o:=.cells #[.slice Ao113 t342.length co113] 25 (0,0)) (Y74) NB346_0.out (by simp));replace HK:=am (jb.trans (Y10) hk (.inl rfl));replace HB:=am (hb);replace HI0:=am (hi);(try clear hb);(try clear hb2);(try clear hk);(try clear hi);(try clear ho0);obtain ⟨Ao118,co118,eo118⟩:=Kd.jka HO352.out;subst eo118) |((with_reducible refine jd (f:=42) rfl ?_);refine gL (some 22) Try.func42 #[.pointer (some ⟨g,0,none⟩), .int .i64 (t350.length:Int)] ?_;(with_reducible refine (jg.calls k g s0_0 t353 (t350.length:Int) t354 t355 w0 _ ?side1 ?side2 A16.out).mono ?_);(case side1=>exact Y2);(case side2=>exact Y18);rintro e w119 ⟨rfl,hi,hb,hk⟩;refine ⟨_,rfl,?_⟩;replace BK341:=am (jb.blk hk (g':=gb341) (o:=.cells #[.slice none 0 0] 25 (0,0)) (kq BK341.out) NB341_0.out (by simp));replace HO344:=am (Kd.jI (Kd.jxa (jf.apart (show jf w0 _ g s0_0 t353 from Y2) (rq HO344.out) (by decide)) hk (fun _ h=>h.2)) (fun _ h=>h.1));replace BK346:=am (jb.blk hk (g':=gb346) (o:=.cells #[.slice Ao113 t342.length co113] 25 (0,0)) (kq BK346.out) NB346_0.out (by simp));replace HO352:=am (Kd.jI (Kd.jxa (jf.apart (show jf w0 _ g s0_0 t353 from Y2) (rq HO352.out) (by decide)) hk (fun _ h=>h.2)) (fun _ h=>h.1));replace HK:=am (jb.trans (Y10) hk (.inl rfl));replace HB:=am (hb);replace HI0:=am (hi);(try clear hb);(try clear hb2);(try clear hk);(try clear hi)) |((with_reducible refine jd (f:=42) rfl ?_);refine gL (some 24) Try.func42 #[.pointer (some ⟨g,0,none⟩), .int .i64 24] ?_;(with_reducible refine (jg.calls k g s0_0 t355 24 t356 t357 w0 _ ?side1 ?side2 A17.out).mono ?_);(case side1=>exact Y2);(case side2=>exact Y18);rintro e w120 ⟨rfl,hi,hb,hk⟩;refine ⟨_,rfl,?_⟩;replace BK341:=am (jb.blk hk (g':=gb341) (o:=.cells #[.slice none 0 0] 25 (0,0)) (kq BK341.out) NB341_0.out (by simp));replace HO344:=am (Kd.jI (Kd.jxa (jf.apart (show jf w0 _ g s0_0 t355 from Y2) (rq HO344.out) (by decide)) hk (fun _ h=>h.2)) (fun _ h=>h.1));replace BK346:=am (jb.blk hk (g':=gb346) (o:=.cells #[.slice Ao113 t342.length co113] 25 (0,0)) (kq BK346.out) NB346_0.out (by simp));replace HO352:=am (Kd.jI (Kd.jxa (jf.apart (show jf w0 _ g s0_0 t355 from Y2) (rq HO352.out) (by decide)) hk (fun _ h=>h.2)) (fun _ h=>h.1));replace HK:=am (jb.trans (Y10) hk (.inl rfl));replace HB:=am (hb);replace HI0:=am (hi);(try clear hb);(try clear hb2);(try clear hk);(try clear hi);have hcz121_0:=bc0 BK346.out;have hfz121_0:=ja BK346.out 0;have hnb122:=NB341_0.out;have hnc122:=NB0_341.out;have hcz123_0:=bc0 BK341.out;have hfz123_0:=ja BK341.out 0))
      refine bodyPost_ret (jzc rfl _ _ gb341 25 #[.slice Ao113 t342.length co113] (0,0) _ rfl (Y75) Try.underlying25 rfl (by kernel_rfl)) rfl ?_
      exact ⟨_,_,Y0,by (with_reducible repeat (first | apply Kd.jga | apply Kd.jfa | apply Kd.jea));exact Kd.jI (Kd.jQb (p:=⟨gb341,0,none⟩) (Kd.jQa HO344.out BK341.out (by decide)) (fun _ hk=>hk.2) (.slice Ao113 t342.length co113)) (fun _ hk=>trivial),Kd.Q_of_R (by (with_reducible repeat (first | apply Kd.jga | apply Kd.jfa | apply Kd.jea));exact Kd.jI (Kd.jQb (p:=⟨gb341,0,none⟩) (Kd.jQa HO352.out BK341.out (by decide)) (fun _ hk=>hk.2) (.slice Ao113 t342.length co113)) (fun _ hk=>trivial)),Y2,Y18,Y10⟩
def jIa.f (k : Nat) (s0_0 : List Int) (s0_1 : Int) : Option ((List (S75)) × (List (S36)) × Int × Int) := (jbb.f k s0_0 s0_1).bind fun bt380 => ((jg.f k s0_0 bt380.2.2 16).bind fun bt388 => (if bt388.1 = 0 then ((jh.f k s0_0 bt388.2 (([(-1), (bt380.2.1.length : Int), 24] : List Int))).bind fun bt393 => (some (bt380.1, bt380.2.1, bt393.1, bt393.2))) else ((jg.f k s0_0 bt388.2 (bt380.2.1.length : Int)).bind fun bt395 => (some (bt380.1, bt380.2.1, bt395.1, bt395.2)))))
def jIa.T3 : Bool × List (List Nat × List Nat) := (true, [([], []), ([], []), ([], []), ([], []), ([3], [3]), ([4], [4]), ([2, 5], [2, 5]), ([0, 6, 0], [0]), ([1, 7, 0, 1, 7], [1]), ([6, 8, 0, 1, 2, 3, 4, 5, 6, 7, 8], [6])])
def jIa.B3 : List Nat := [0, 0, 0, 0, 8, 24, 60, 125, 255, 511]
theorem jIa.tab3 : rtab .any (opsOf Try.f29 3) = jIa.T3 := by kernel_rfl
theorem jIa.bits3 : jdc jIa.T3.2 jIa.B3 = true := by kernel_rfl
def jIa.T4 : Bool × List (List Nat × List Nat) := (true, [([], []), ([], []), ([], []), ([], []), ([3], [3]), ([2, 4], [2, 4]), ([0, 5, 0], [0]), ([1, 6, 0, 1, 6], [1]), ([5, 7, 0, 1, 2, 3, 4, 5, 6, 7], [5])])
def jIa.B4 : List Nat := [0, 0, 0, 0, 8, 28, 61, 127, 255]
theorem jIa.tab4 : rtab .any (opsOf Try.f29 4) = jIa.T4 := by kernel_rfl
theorem jIa.bits4 : jdc jIa.T4.2 jIa.B4 = true := by kernel_rfl
set_option maxHeartbeats 8000000 in
set_option maxRecDepth 100000 in
theorem jIa.calls (k : Nat) (g : Nat) (s0_0 : List Int) (s0_1 : Int) (r1 : List (S75)) (r2 : List (S36)) (r3 : Int) (r4 : Int) (w0 w : World) (hI : jf w0 w g s0_0 s0_1) (hB : Below w0.heap.size w0 w) (h : jIa.f k s0_0 s0_1 = some (r1, r2, r3, r4)) :
  Calls Try.prog 29 #[.pointer (some ⟨g,0,none⟩)] w fun e w'=>∃ v0_ v1_:Value,e=.returned (.tuple #[.agg #[v0_],v1_, .int .i64 r3])∧Kd.R k75 75 w' w.heap.size (fun _=>True) v0_ r1∧Kd.Q k36 36 w' w.heap.size (fun _=>True) v1_ r2∧jf w0 w' g s0_0 r4∧Below w0.heap.size w0 w'∧jb w w' g none:=by
 have hu25:=Try.underlying25
 have HI0:=am hI
 have HK:=am (jb.refl w g none)
 have HL:=am hB.size
 clear hI
 have HW0:=am hB.size
 have HB:=am hB
 clear hB
 have H:((jbb.f k s0_0 s0_1).bind fun bt380=>((jg.f k s0_0 bt380.2.2 16).bind fun bt388=>(if bt388.1=0 then ((jh.f k s0_0 bt388.2 (([(-1),(bt380.2.1.length:Int),24]:List Int))).bind fun bt393=>(some (bt380.1,bt380.2.1,bt393.1,bt393.2))) else ((jg.f k s0_0 bt388.2 (bt380.2.1.length:Int)).bind fun bt395=>(some (bt380.1,bt380.2.1,bt395.1,bt395.2))))))=some (r1,r2,r3,r4):=h
 clear h
 replace H:=bzS H
 obtain ⟨⟨t380,t383,t386⟩,A20,H⟩:=H
 replace H:((jg.f k s0_0 t386 16).bind fun bt388=>(if bt388.1=0 then ((jh.f k s0_0 bt388.2 (([(-1),(t383.length:Int),24]:List Int))).bind fun bt393=>(some (t380,t383,bt393.1,bt393.2))) else ((jg.f k s0_0 bt388.2 (t383.length:Int)).bind fun bt395=>(some (t380,t383,bt395.1,bt395.2)))))=some (r1,r2,r3,r4):=H
 have A2:=am A20
 clear A20
 replace H:=bzS H
 obtain ⟨⟨t388,t389⟩,A30,H⟩:=H
 replace H:(if t388=0 then ((jh.f k s0_0 t389 (([(-1),(t383.length:Int),24]:List Int))).bind fun bt393=>(some (t380,t383,bt393.1,bt393.2))) else ((jg.f k s0_0 t389 (t383.length:Int)).bind fun bt395=>(some (t380,t383,bt395.1,bt395.2))))=some (r1,r2,r3,r4):=H
 have A3:=am A30
 clear A30
 by_cases c4:t388=0
 ·rw [if_pos c4] at H
  have c4b0:(t388 == 0)=true:=beq_iff_eq.mpr c4
  have c4b1:(t388 != 0)=false:=bne_eq_false_iff_eq.mpr c4
  clear c4
  obtain ⟨y390,hy390⟩:∃ y_:List Int,y_=(([(-1),(t383.length:Int),24]:List Int)):=⟨_,rfl⟩
  replace H:((jh.f k s0_0 t389 y390).bind fun bt393=>(some (t380,t383,bt393.1,bt393.2)))=some (r1,r2,r3,r4):=by first |(rw [hy390];with_reducible exact H) |(have H2_:=(Option.bind_some _ _).symm.trans H;rw [hy390];with_reducible exact H2_) |(have H2_:=(Option.bind_some _ _).symm.trans H;with_reducible exact H2_) | with_reducible exact H |(rw [hy390];exact H) | exact H
  have Ny390:=am hy390
  clear hy390
  replace H:=bzS H
  obtain ⟨⟨t393,t394⟩,A50,H⟩:=H
  replace H:(some (t380,t383,t393,t394))=some (r1,r2,r3,r4):=H
  have A5:=am A50
  clear A50
  simp only [Option.some.injEq,Prod.mk.injEq] at H
  obtain ⟨rfl,rfl,rfl,rfl⟩:=H
  go_enter Try.func29,Try.ntmps29
  try go_wp2_with (first |((with_reducible refine jJ (N:=2) rfl ?_);refine bE (N:=2) (cs:=#[.slice none 0 0]) (t:=25) ?_;intro gb379 hg w6 hbox hb;have BK379:=am (hbox);have GW379:=am ((Y11:w.heap.size≤gb379));have GE379:=am ((Nat.le_trans HW0.out (Y11:w.heap.size≤gb379):w0.heap.size≤gb379));have NB0_379:=am ((Y21:g≠gb379));have NB379_0:=am ((Y22:gb379≠g));replace HK:=am (jb.trans (Y15) (jb.of_below hb g none) (.inl rfl));replace HB:=am (je (Y16) hb);replace HI0:=am (jf.below (Y14) hb);clear hb hbox hg) |((with_reducible refine jd (f:=57) rfl ?_);refine gL (some 9) Try.func57 #[.pointer (some ⟨g,0,none⟩)] ?_;(with_reducible refine (jbb.calls k g s0_0 s0_1 t380 t383 t386 w0 _ ?side1 ?side2 A2.out).mono ?_);(case side1=>exact Y94);(case side2=>exact Y95);rintro e w7 ⟨v381,v384,rfl,ho0,ho1,hi,hb,hk⟩;refine ⟨_,rfl,?_⟩;have HO382:=am (Kd.jaa ho0 (jN (w:=w) (g:=g) (row:=none) (Y59)));have HO385:=am (Kd.Q_lower ho1 (jN (w:=w) (g:=g) (row:=none) (Y59)));replace BK379:=am (jb.blk hk (g':=gb379) (o:=.cells #[.slice none 0 0] 25 (0,0)) (kq BK379.out) NB379_0.out (by simp));replace HK:=am (jb.trans (Y59) hk (.inl rfl));replace HB:=am (hb);replace HI0:=am (hi);(try clear hb);(try clear hb2);(try clear hk);(try clear hi);(try clear ho0);(try clear ho1)) |((with_reducible refine jJ (N:=5) rfl ?_);refine bE (N:=5) (cs:=#[.slice none 0 0]) (t:=25) ?_;intro gb387 hg w8 hbox hb;have BK387:=am (hbox);have GW387:=am ((Y96:w.heap.size≤gb387));have GE387:=am ((Nat.le_trans HW0.out (Y96:w.heap.size≤gb387):w0.heap.size≤gb387));have NB379_387:=am ((by rw [hg];exact Nat.ne_of_lt (jDb (g:=gb379) (o:=.cells #[.slice none 0 0] 25 (0,0)) (kq BK379.out)):gb379≠gb387));have NB387_379:=am ((by rw [hg];exact Nat.ne_of_gt (jDb (g:=gb379) (o:=.cells #[.slice none 0 0] 25 (0,0)) (kq BK379.out)):gb387≠gb379));have NB0_387:=am ((Y120:g≠gb387));have NB387_0:=am ((Y121:gb387≠g));replace HO382:=am (Kd.jZ (rq HO382.out) hb);replace HO385:=am (Kd.jBb (Y79) hb);replace BK379:=am (jk (g:=gb379) (o:=.cells #[.slice none 0 0] 25 (0,0)) (kq BK379.out) hb);replace HK:=am (jb.trans (Y59) (jb.of_below hb g none) (.inl rfl));replace HB:=am (je (Y95) hb);replace HI0:=am (jf.below (Y94) hb);clear hb hbox hg;obtain ⟨Ao9,co9,eo9⟩:=Kd.jka HO382.out;subst eo9;have hnb10:=NB387_379.out;have hnc10:=NB379_387.out;have hnb11:=NB387_0.out;have hnc11:=NB0_387.out;have hcz12_0:=bc0 BK387.out;have hfz12_0:=ja BK387.out 0) |((with_reducible refine jd (f:=42) rfl ?_);refine gL (some 13) Try.func42 #[.pointer (some ⟨g,0,none⟩), .int .i64 16] ?_;(with_reducible refine (jg.calls k g s0_0 t386 16 t388 t389 w0 _ ?side1 ?side2 A3.out).mono ?_);(case side1=>exact Y30);(case side2=>exact Y64);rintro e w13 ⟨rfl,hi,hb,hk⟩;refine ⟨_,rfl,?_⟩;replace BK379:=am (jb.blk hk (g':=gb379) (o:=.cells #[.slice none 0 0] 25 (0,0)) (Y122) NB379_0.out (by simp));replace HO382:=am (Kd.jI (Kd.jxa (jf.apart (show jf w0 _ g s0_0 t386 from Y30) (by (with_reducible repeat (first | apply Kd.jga | apply Kd.jfa | apply Kd.jea));exact (Kd.jI (Kd.jQb (p:=⟨gb387,0,none⟩) (Kd.jQa HO382.out BK387.out (by decide)) (fun _ hk=>hk.2) (.slice Ao9 t380.length co9)) (fun _ h_=>h_.1))) (by decide)) hk (fun _ h=>h.2)) (fun _ h=>h.1));replace HO385:=am (Kd.jHc (Kd.Q_keep (jf.apartQ (show jf w0 _ g s0_0 t386 from Y30) (by (with_reducible repeat (first | apply Kd.jUb | apply Kd.jTb | apply Kd.jRb));exact (Kd.jHc (Kd.Q_far (p:=⟨gb387,0,none⟩) (Kd.jZc HO385.out BK387.out (by decide)) (fun _ hk=>hk.2) (.slice Ao9 t380.length co9)) (fun _ h_=>h_.1))) (by decide)) hk (fun _ h=>h.2)) (fun _ h=>h.1));replace BK387:=am (jb.blk hk (g':=gb387) (o:=.cells #[.slice Ao9 t380.length co9] 25 (0,0)) (Y123) NB387_0.out (by simp));replace HK:=am (jb.trans (Y60) hk (.inl rfl));replace HB:=am (hb);replace HI0:=am (hi);(try clear hb);(try clear hb2);(try clear hk);(try clear hi)))
  replace HO382:=am (Kd.jea HO382.out)
  replace HO385:=am (Kd.jRb HO385.out)
  replace BK379:=am (jw BK379.out)
  replace BK387:=am (jw BK387.out)
  replace HI0:=am (jf.drew HI0.out)
  replace HK:=am (jNa HK.out)
  replace HB:=am (jE HB.out)
  obtain ⟨Ao15,co15,eo15,_⟩:=Kd.Q_slice HO385.out
  (first | subst eo15 |(injection eo15 with f1_ f2_ f3_;have f4_:=f1_.symm;have f5_:=f3_.symm;clear f1_ f2_ f3_;subst f4_;subst f5_))
  refine jlc (n:=10) (S:=fun w'=>w'.cell? ⟨gb387,0,none⟩=some (.slice Ao9 t380.length co9)) (ds:=[]) #[false,false,false,false,false,false,false,false,false,false] (by kernel_rfl) rfl rfl ((jF BK387.out 0).trans rfl) (fun hHeld=>?_);refine jqb jIa.tab3 jIa.bits3 (fun HT_ HW_=>?_)
  generalize w13.drew=w14 at HO382 HO385 BK379 BK387 HI0 HK HB hHeld ⊢
  refine pq (i:=1) (N:=some 16) #[false,true,false,false,false,false,false,false,false,false] ?_
  refine pq (i:=2) (N:=some 17) #[false,true,true,false,false,false,false,false,false,false] ?_
  refine pq (i:=3) (N:=some 18) #[false,true,true,true,false,false,false,false,false,false] ?_
  refine pq (i:=4) (N:=some 19) #[false,true,true,true,true,false,false,false,false,false] ?_
  refine jwb (i:=0) (N:=some 15) (v:=?_) (a':=?_) #[true,true,true,true,true,false,false,false,false,false] rfl rfl (jua HT_.out HW_.out (by kernel_rfl)) (fun _ _ _ h=>h) (Or.inl ⟨by rfl,?_⟩) hHeld ?_ ?_
  rotate_left
  ·intro w' s0
   go_simp
   with_reducible rfl
  rotate_left
  ·exact sa
  refine one_ (i:=5) (N:=some 20) #[true,true,true,true,true,true,false,false,false,false] rfl rfl (jyb HT_.out (by kernel_rfl)) (by decide) (fun K hK=>?_)
  refine Kd.jpc (Kd.int .i64) _ 3 ?hg (N:=20) ?hd (xs:=([(-1),(t383.length:Int),24]:List Int)) (inner:=[.int .i64 (-1), .int .i64 (t383.length:Int), .int .i64 24]) (ok:=fun _=>True) (okp:=fun _=>True) ?hr ?hp (fun _ hk=>hk) trivial (Below.refl _ _) (Nat.le_refl _) (by simp) ?_;(case hd=>rfl);(case hg=>rfl);(case hr=>exact Y5);(case hp=>exact (Reps.one (show Kd.M (Kd.int .i64) _ _ _ (-1) [.int .i64 (-1)] from rfl) (Reps.one (show Kd.M (Kd.int .i64) _ _ _ (t383.length:Int) [.int .i64 (t383.length:Int)] from rfl) (Reps.one (show Kd.M (Kd.int .i64) _ _ _ 24 [.int .i64 24] from rfl) (Reps.none _ _)))))
  intro v391 w16 ho17 hb hg_ hnew_
  clear hg_ hnew_
  (first | rw [← Ny390.out] at ho17 |(simp only [Int.reduceToNat] at ho17;rw [← Ny390.out] at ho17))
  have HO392:=am (Kd.jaa ho17 (jN (w:=w) (g:=g) (row:=none) (Y60)))
  replace HO382:=am (Kd.jZ (rq HO382.out) hb)
  replace HO385:=am (Kd.jBb (Y79) hb)
  replace BK379:=am (jk (g:=gb379) (o:=.cells #[.slice none 0 0] 25 (0,0)) (kq BK379.out) hb)
  replace BK387:=am (jk (g:=gb387) (o:=.cells #[.slice Ao9 t380.length co9] 25 (0,0)) (kq BK387.out) hb)
  replace HK:=am (jb.trans (Y60) (jb.of_below hb g none) (.inl rfl))
  replace HB:=am (je (Y64) hb)
  replace HI0:=am (jf.below (Y30) hb)
  clear hb ho17
  obtain ⟨Ao18,co18,eo18⟩:=Kd.jka HO392.out
  (first | subst eo18 |(injection eo18 with f1_ f2_ f3_;have f4_:=f1_.symm;have f5_:=f3_.symm;clear f1_ f2_ f3_;subst f4_;subst f5_))
  refine hK.out _ _ ((jF BK387.out 0).trans rfl) (fun hHeld=>?_)
  clear hK K
  refine jWb (a':=?_) ?_ ?_
  rotate_left
  ·show Act.put _ (some 20) _=_
   simp only [Act.put,List.setIfInBounds_toArray,List.set_cons_zero,List.set_cons_succ,jkb,jmb]
   rfl
  refine one_ (i:=6) (N:=some 21) #[true,true,true,true,true,true,true,false,false,false] rfl rfl (jyb HT_.out (by kernel_rfl)) (by decide) (fun K hK=>?_)
  refine jPc Try.func58 (by kernel_rfl) rfl #[.pointer (some ⟨g,0,none⟩), .slice Ao18 y390.length co18] (by rfl) rfl rfl (aq) ?_
  with_reducible refine (jh.calls k g s0_0 t389 _ _ y390 t393 t394 w0 _ ?side1 ?side2 ?side3 ?side4 ?side5 A5.out).mono ?_
  (case side1=>exact Y30)
  (case side2=>exact Y64)
  (case side3=>exact cq (Kd.jy HO392.out).2.2)
  (case side4=>exact (Kd.jy HO392.out).2.1)
  (case side5=>exact jzb (jf.own_ne HI0.out HO392.out (by decide)))
  rintro e w19 ⟨rfl,hi,hb,hk⟩
  refine ⟨_,rfl,?_⟩
  replace BK379:=am (jb.blk hk (g':=gb379) (o:=.cells #[.slice none 0 0] 25 (0,0)) (kq BK379.out) NB379_0.out (by simp))
  replace HO382:=am (Kd.jI (Kd.jxa (jf.apart (show jf w0 _ g s0_0 t389 from Y30) (rq HO382.out) (by decide)) hk (fun _ h=>h.2)) (fun _ h=>h.1))
  replace HO385:=am (Kd.jHc (Kd.Q_keep (jf.apartQ (show jf w0 _ g s0_0 t389 from Y30) (Y79) (by decide)) hk (fun _ h=>h.2)) (fun _ h=>h.1))
  replace BK387:=am (jb.blk hk (g':=gb387) (o:=.cells #[.slice Ao9 t380.length co9] 25 (0,0)) (kq BK387.out) NB387_0.out (by simp))
  replace HO392:=am (Kd.jI (Kd.jxa (jf.apart (show jf w0 _ g s0_0 t389 from Y30) (rq HO392.out) (by decide)) hk (fun _ h=>h.2)) (fun _ h=>h.1))
  replace HK:=am (jb.trans (Y60) hk (.inl rfl))
  replace HB:=am (hb)
  replace HI0:=am (hi)
  (try clear hb)
  (try clear hb2)
  (try clear hk)
  (try clear hi)
  refine hK.out _ _ ((jF BK387.out 0).trans rfl) (fun hHeld=>?_)
  clear hK K
  refine jWb (a':=?_) ?_ ?_
  rotate_left
  ·show Act.put _ (some 21) _=_
   simp only [Act.put,List.setIfInBounds_toArray,List.set_cons_zero,List.set_cons_succ,jkb,jmb]
   rfl
  refine one_ (i:=7) (N:=none) #[true,true,true,true,true,true,true,true,false,false] rfl rfl (jyb HT_.out (by kernel_rfl)) (by decide) (fun K hK=>?_)
  have hs20:w19.cell? ⟨gb379,0,none⟩=some (.slice none 0 0):=(jF BK379.out 0).trans rfl
  have hfs20:=ja BK379.out 0
  have hns20_1:=NB387_379.out
  have hms20_1:=NB379_387.out
  refine skip_ (w1:=?_) (by rfl) rfl ?_ ?_
  rotate_left
  ·go_simp
   rfl
  refine hK.out _ _ (((cell_far (p:=⟨gb379,_,none⟩) NB387_379.out _).trans (hHeld))) (fun hHeld=>?_)
  clear hK K
  refine pq (i:=8) (N:=some 3) #[true,true,true,true,true,true,true,true,true,false] ?_
  refine pq (i:=9) (N:=some 4) #[true,true,true,true,true,true,true,true,true,true] ?_
  refine jQc (jPb HT_.out (by kernel_rfl)) ?_
  try go_wp2
  refine bodyPost_ret (results_ctt rfl _ _ gb379 25 #[.slice Ao9 t380.length co9] (0,0) _ rfl (Y124) Try.underlying25 rfl (by kernel_rfl)) rfl ?_
  exact ⟨_,_,Y0,by (with_reducible repeat (first | apply Kd.jga | apply Kd.jfa | apply Kd.jea));exact Kd.jI (Kd.jQb (p:=⟨gb379,0,none⟩) (Kd.jQa HO382.out BK379.out (by decide)) (fun _ hk=>hk.2) (.slice Ao9 t380.length co9)) (fun _ hk=>trivial),by (with_reducible repeat (first | apply Kd.jUb | apply Kd.jTb | apply Kd.jRb));exact Kd.jHc (Kd.Q_far (p:=⟨gb379,0,none⟩) (Kd.jZc HO385.out BK379.out (by decide)) (fun _ hk=>hk.2) (.slice Ao9 t380.length co9)) (fun _ hk=>trivial),Y30,Y64,Y60⟩
 ·rw [if_neg c4] at H
  have c4b0:(t388 == 0)=false:=beq_eq_false_iff_ne.mpr c4
  have c4b1:(t388 != 0)=true:=bne_iff_ne.mpr c4
  replace H:=bzS H
  obtain ⟨⟨t395,t396⟩,A210,H⟩:=H
  replace H:(some (t380,t383,t395,t396))=some (r1,r2,r3,r4):=H
  have A21:=am A210
  clear A210
  simp only [Option.some.injEq,Prod.mk.injEq] at H
  obtain ⟨rfl,rfl,rfl,rfl⟩:=H
  go_enter Try.func29,Try.ntmps29
  try go_wp2_with (first |((with_reducible refine jJ (N:=2) rfl ?_);refine bE (N:=2) (cs:=#[.slice none 0 0]) (t:=25) ?_;intro gb379 hg w22 hbox hb;have BK379:=am (hbox);have GW379:=am ((Y11:w.heap.size≤gb379));have GE379:=am ((Nat.le_trans HW0.out (Y11:w.heap.size≤gb379):w0.heap.size≤gb379));have NB0_379:=am ((Y21:g≠gb379));have NB379_0:=am ((Y22:gb379≠g));replace HK:=am (jb.trans (Y15) (jb.of_below hb g none) (.inl rfl));replace HB:=am (je (Y16) hb);replace HI0:=am (jf.below (Y14) hb);clear hb hbox hg) |((with_reducible refine jd (f:=57) rfl ?_);refine gL (some 9) Try.func57 #[.pointer (some ⟨g,0,none⟩)] ?_;(with_reducible refine (jbb.calls k g s0_0 s0_1 t380 t383 t386 w0 _ ?side1 ?side2 A2.out).mono ?_);(case side1=>exact Y94);(case side2=>exact Y95);rintro e w23 ⟨v381,v384,rfl,ho0,ho1,hi,hb,hk⟩;refine ⟨_,rfl,?_⟩;have HO382:=am (Kd.jaa ho0 (jN (w:=w) (g:=g) (row:=none) (Y59)));have HO385:=am (Kd.Q_lower ho1 (jN (w:=w) (g:=g) (row:=none) (Y59)));replace BK379:=am (jb.blk hk (g':=gb379) (o:=.cells #[.slice none 0 0] 25 (0,0)) (kq BK379.out) NB379_0.out (by simp));replace HK:=am (jb.trans (Y59) hk (.inl rfl));replace HB:=am (hb);replace HI0:=am (hi);(try clear hb);(try clear hb2);(try clear hk);(try clear hi);(try clear ho0);(try clear ho1)) |((with_reducible refine jJ (N:=5) rfl ?_);refine bE (N:=5) (cs:=#[.slice none 0 0]) (t:=25) ?_;intro gb387 hg w24 hbox hb;have BK387:=am (hbox);have GW387:=am ((Y96:w.heap.size≤gb387));have GE387:=am ((Nat.le_trans HW0.out (Y96:w.heap.size≤gb387):w0.heap.size≤gb387));have NB379_387:=am ((by rw [hg];exact Nat.ne_of_lt (jDb (g:=gb379) (o:=.cells #[.slice none 0 0] 25 (0,0)) (kq BK379.out)):gb379≠gb387));have NB387_379:=am ((by rw [hg];exact Nat.ne_of_gt (jDb (g:=gb379) (o:=.cells #[.slice none 0 0] 25 (0,0)) (kq BK379.out)):gb387≠gb379));have NB0_387:=am ((Y120:g≠gb387));have NB387_0:=am ((Y121:gb387≠g));replace HO382:=am (Kd.jZ (rq HO382.out) hb);replace HO385:=am (Kd.jBb (Y79) hb);replace BK379:=am (jk (g:=gb379) (o:=.cells #[.slice none 0 0] 25 (0,0)) (kq BK379.out) hb);replace HK:=am (jb.trans (Y59) (jb.of_below hb g none) (.inl rfl));replace HB:=am (je (Y95) hb);replace HI0:=am (jf.below (Y94) hb);clear hb hbox hg;obtain ⟨Ao25,co25,eo25⟩:=Kd.jka HO382.out;subst eo25;have hnb26:=NB387_379.out;have hnc26:=NB379_387.out;have hnb27:=NB387_0.out;have hnc27:=NB0_387.out;have hcz28_0:=bc0 BK387.out;have hfz28_0:=ja BK387.out 0) |((with_reducible refine jd (f:=42) rfl ?_);refine gL (some 13) Try.func42 #[.pointer (some ⟨g,0,none⟩), .int .i64 16] ?_;(with_reducible refine (jg.calls k g s0_0 t386 16 t388 t389 w0 _ ?side1 ?side2 A3.out).mono ?_);(case side1=>exact Y30);(case side2=>exact Y64);rintro e w29 ⟨rfl,hi,hb,hk⟩;refine ⟨_,rfl,?_⟩;replace BK379:=am (jb.blk hk (g':=gb379) (o:=.cells #[.slice none 0 0] 25 (0,0)) (Y122) NB379_0.out (by simp));replace HO382:=am (Kd.jI (Kd.jxa (jf.apart (show jf w0 _ g s0_0 t386 from Y30) (by (with_reducible repeat (first | apply Kd.jga | apply Kd.jfa | apply Kd.jea));exact (Kd.jI (Kd.jQb (p:=⟨gb387,0,none⟩) (Kd.jQa HO382.out BK387.out (by decide)) (fun _ hk=>hk.2) (.slice Ao25 t380.length co25)) (fun _ h_=>h_.1))) (by decide)) hk (fun _ h=>h.2)) (fun _ h=>h.1));replace HO385:=am (Kd.jHc (Kd.Q_keep (jf.apartQ (show jf w0 _ g s0_0 t386 from Y30) (by (with_reducible repeat (first | apply Kd.jUb | apply Kd.jTb | apply Kd.jRb));exact (Kd.jHc (Kd.Q_far (p:=⟨gb387,0,none⟩) (Kd.jZc HO385.out BK387.out (by decide)) (fun _ hk=>hk.2) (.slice Ao25 t380.length co25)) (fun _ h_=>h_.1))) (by decide)) hk (fun _ h=>h.2)) (fun _ h=>h.1));replace BK387:=am (jb.blk hk (g':=gb387) (o:=.cells #[.slice Ao25 t380.length co25] 25 (0,0)) (Y123) NB387_0.out (by simp));replace HK:=am (jb.trans (Y60) hk (.inl rfl));replace HB:=am (hb);replace HI0:=am (hi);(try clear hb);(try clear hb2);(try clear hk);(try clear hi)))
  replace HO382:=am (Kd.jea HO382.out)
  replace HO385:=am (Kd.jRb HO385.out)
  replace BK379:=am (jw BK379.out)
  replace BK387:=am (jw BK387.out)
  replace HI0:=am (jf.drew HI0.out)
  replace HK:=am (jNa HK.out)
  replace HB:=am (jE HB.out)
  obtain ⟨Ao31,co31,eo31,_⟩:=Kd.Q_slice HO385.out
  (first | subst eo31 |(injection eo31 with f1_ f2_ f3_;have f4_:=f1_.symm;have f5_:=f3_.symm;clear f1_ f2_ f3_;subst f4_;subst f5_))
  refine jlc (n:=9) (S:=fun w'=>w'.cell? ⟨gb387,0,none⟩=some (.slice Ao25 t380.length co25)) (ds:=[]) #[false,false,false,false,false,false,false,false,false] (by kernel_rfl) rfl rfl ((jF BK387.out 0).trans rfl) (fun hHeld=>?_);refine jqb jIa.tab4 jIa.bits4 (fun HT_ HW_=>?_)
  generalize w29.drew=w30 at HO382 HO385 BK379 BK387 HI0 HK HB hHeld ⊢
  refine pq (i:=1) (N:=some 23) #[false,true,false,false,false,false,false,false,false] ?_
  refine pq (i:=2) (N:=some 24) #[false,true,true,false,false,false,false,false,false] ?_
  refine pq (i:=3) (N:=some 25) #[false,true,true,true,false,false,false,false,false] ?_
  refine pq (i:=4) (N:=some 26) #[false,true,true,true,true,false,false,false,false] ?_
  refine jwb (i:=0) (N:=some 22) (v:=?_) (a':=?_) #[true,true,true,true,true,false,false,false,false] rfl rfl (jua HT_.out HW_.out (by kernel_rfl)) (fun _ _ _ h=>h) (Or.inl ⟨by rfl,?_⟩) hHeld ?_ ?_
  rotate_left
  ·intro w' s0
   go_simp
   with_reducible rfl
  rotate_left
  ·exact sa
  refine one_ (i:=5) (N:=some 27) #[true,true,true,true,true,true,false,false,false] rfl rfl (jyb HT_.out (by kernel_rfl)) (by decide) (fun K hK=>?_)
  refine jPc Try.func42 (by kernel_rfl) rfl #[.pointer (some ⟨g,0,none⟩), .int .i64 (t383.length:Int)] (by rfl) rfl rfl (aq) ?_
  with_reducible refine (jg.calls k g s0_0 t389 (t383.length:Int) t395 t396 w0 _ ?side1 ?side2 A21.out).mono ?_
  (case side1=>exact Y30)
  (case side2=>exact Y64)
  rintro e w32 ⟨rfl,hi,hb,hk⟩
  refine ⟨_,rfl,?_⟩
  replace BK379:=am (jb.blk hk (g':=gb379) (o:=.cells #[.slice none 0 0] 25 (0,0)) (kq BK379.out) NB379_0.out (by simp))
  replace HO382:=am (Kd.jI (Kd.jxa (jf.apart (show jf w0 _ g s0_0 t389 from Y30) (rq HO382.out) (by decide)) hk (fun _ h=>h.2)) (fun _ h=>h.1))
  replace HO385:=am (Kd.jHc (Kd.Q_keep (jf.apartQ (show jf w0 _ g s0_0 t389 from Y30) (Y79) (by decide)) hk (fun _ h=>h.2)) (fun _ h=>h.1))
  replace BK387:=am (jb.blk hk (g':=gb387) (o:=.cells #[.slice Ao25 t380.length co25] 25 (0,0)) (kq BK387.out) NB387_0.out (by simp))
  replace HK:=am (jb.trans (Y60) hk (.inl rfl))
  replace HB:=am (hb)
  replace HI0:=am (hi)
  (try clear hb)
  (try clear hb2)
  (try clear hk)
  (try clear hi)
  refine hK.out _ _ ((jF BK387.out 0).trans rfl) (fun hHeld=>?_)
  clear hK K
  refine jWb (a':=?_) ?_ ?_
  rotate_left
  ·show Act.put _ (some 27) _=_
   simp only [Act.put,List.setIfInBounds_toArray,List.set_cons_zero,List.set_cons_succ,jkb,jmb]
   rfl
  refine one_ (i:=6) (N:=none) #[true,true,true,true,true,true,true,false,false] rfl rfl (jyb HT_.out (by kernel_rfl)) (by decide) (fun K hK=>?_)
  have hs33:w32.cell? ⟨gb379,0,none⟩=some (.slice none 0 0):=(jF BK379.out 0).trans rfl
  have hfs33:=ja BK379.out 0
  have hns33_1:=NB387_379.out
  have hms33_1:=NB379_387.out
  refine skip_ (w1:=?_) (by rfl) rfl ?_ ?_
  rotate_left
  ·go_simp
   rfl
  refine hK.out _ _ (((cell_far (p:=⟨gb379,_,none⟩) NB387_379.out _).trans (hHeld))) (fun hHeld=>?_)
  clear hK K
  refine pq (i:=7) (N:=some 3) #[true,true,true,true,true,true,true,true,false] ?_
  refine pq (i:=8) (N:=some 4) #[true,true,true,true,true,true,true,true,true] ?_
  refine jQc (jPb HT_.out (by kernel_rfl)) ?_
  try go_wp2
  refine bodyPost_ret (results_ctt rfl _ _ gb379 25 #[.slice Ao25 t380.length co25] (0,0) _ rfl (Y124) Try.underlying25 rfl (by kernel_rfl)) rfl ?_
  exact ⟨_,_,Y0,by (with_reducible repeat (first | apply Kd.jga | apply Kd.jfa | apply Kd.jea));exact Kd.jI (Kd.jQb (p:=⟨gb379,0,none⟩) (Kd.jQa HO382.out BK379.out (by decide)) (fun _ hk=>hk.2) (.slice Ao25 t380.length co25)) (fun _ hk=>trivial),by (with_reducible repeat (first | apply Kd.jUb | apply Kd.jTb | apply Kd.jRb));exact Kd.jHc (Kd.Q_far (p:=⟨gb379,0,none⟩) (Kd.jZc HO385.out BK379.out (by decide)) (fun _ hk=>hk.2) (.slice Ao25 t380.length co25)) (fun _ hk=>trivial),Y30,Y64,Y60⟩
def jOb.f (l0 : List Int) : Option (List Int × Int) := if (l0.length : Int) > 2000 then (if 2000 ≤ (l0.length : Int) then (some (l0.take 2000, 0)) else (none)) else (some (l0, 0))
set_option maxHeartbeats 8000000 in
set_option maxRecDepth 100000 in
theorem jOb.calls (A0 : Option Addr) (c0 : Nat) (l0 : List Int) (r1 : List Int) (r2 : Int) (w0 w : World) (hB : Below w0.heap.size w0 w) (hr0 : Kd.C (Kd.int .u8) w0 A0 l0.length l0) (hc0 : l0.length ≤ c0) (h : jOb.f l0 = some (r1, r2)) :
  Calls Try.prog 30 #[.slice A0 l0.length c0] w fun e w'=>∃ g_:Nat,e=.returned (.pointer (some ⟨g_,0,none⟩))∧jf w0 w' g_ r1 r2∧Below w0.heap.size w0 w'∧Below w.heap.size w w':=by
 have hu72:=Try.underlying72
 have HR0:=am hr0
 have HC0:=am hc0
 clear hr0 hc0
 have HBW:=am (Below.refl w.heap.size w)
 have HW0:=am hB.size
 have HB:=am hB
 clear hB
 have H:(if (l0.length:Int) > 2000 then (if 2000≤(l0.length:Int) then (some (l0.take 2000,0)) else (none)) else (some (l0,0)))=some (r1,r2):=h
 clear h
 by_cases c2:(l0.length:Int) > 2000
 ·rw [if_pos c2] at H
  have c2b0:decide (2000<(l0.length:Int))=true:=dzT c2
  have c2b1:decide (2000<l0.length)=true:=dzT (by omega)
  clear c2
  by_cases c3:2000≤(l0.length:Int)
  ·rw [if_pos c3] at H
   have c3b0:=ezT c3
   have c3b1:decide (2000≤(l0.length:Int))=true:=dzT c3
   clear c3
   simp only [Option.some.injEq,Prod.mk.injEq] at H
   obtain ⟨rfl,rfl⟩:=H
   obtain ⟨i04,hi04,_,hsz4,_⟩:=info_parts info5
   obtain ⟨hcut4,hA4,hC4⟩:=print_take_of (P:=Try.prog) (Value.int .u8) 0 22 5 .i64 Try.underlying22 hi04 hsz4 A0 c0 l0 2000 (by omega) (ozD (uq)) HC0.out
   have HR397:=am (Kd.C_of_reads (h1:=fun _=>rfl) (hA4 _ (Kd.reads_of_C HR0.out)))
   have HC397:=am hC4
   clear hA4 hC4 hi04 hsz4
   go_enter Try.func30,Try.ntmps30
   go_wp2_with (first |((with_reducible refine jJ (N:=10) rfl ?_);refine bE (N:=10) (cs:=#[.slice A0 (l0.take 2000).length c0, .int .i64 0]) (t:=72) ?_;intro gb398 hg w5 hbox hb;have BK398:=am (hbox);have GW398:=am ((Y97:w.heap.size≤gb398));have GE398:=am ((Nat.le_trans HW0.out (Y97:w.heap.size≤gb398):w0.heap.size≤gb398));replace HBW:=am (je HBW.out hb);replace HB:=am (je (bq) hb);clear hb hbox hg))
   go_ret
   exact ⟨_,rfl,(show jf w0 _ gb398 (l0.take 2000) 0 from ⟨_,_,kq BK398.out,GE398.out,HR397.out⟩),by repeat (first |(with_reducible first | exact HB.out | apply jL | apply jm | apply jE | refine jK ?_ GE398.out) | exact HB.out),by repeat (first |(with_reducible first | exact HBW.out | apply jL | apply jm | apply jE | refine jK ?_ GW398.out) | exact HBW.out)⟩
  ·rw [if_neg c3] at H
   exact absurd H (by simp)
 ·rw [if_neg c2] at H
  have c2b0:decide (2000<(l0.length:Int))=false:=dzF c2
  have c2b1:decide (2000<l0.length)=false:=dzF (by omega)
  clear c2
  simp only [Option.some.injEq,Prod.mk.injEq] at H
  obtain ⟨rfl,rfl⟩:=H
  go_enter Try.func30,Try.ntmps30
  go_wp2_with (first |((with_reducible refine jJ (N:=10) rfl ?_);refine bE (N:=10) (cs:=#[.slice A0 l0.length c0, .int .i64 0]) (t:=72) ?_;intro gb399 hg w6 hbox hb;have BK399:=am (hbox);have GW399:=am ((Y97:w.heap.size≤gb399));have GE399:=am ((Nat.le_trans HW0.out (Y97:w.heap.size≤gb399):w0.heap.size≤gb399));replace HBW:=am (je HBW.out hb);replace HB:=am (je (bq) hb);clear hb hbox hg))
  go_ret
  exact ⟨_,rfl,(show jf w0 _ gb399 l0 0 from ⟨_,_,kq BK399.out,GE399.out,HR0.out⟩),by repeat (first |(with_reducible first | exact HB.out | apply jL | apply jm | apply jE | refine jK ?_ GE399.out) | exact HB.out),by repeat (first |(with_reducible first | exact HBW.out | apply jL | apply jm | apply jE | refine jK ?_ GW399.out) | exact HBW.out)⟩
def jP.f (a0 : Int) (a1 : Int) (a2 : Int) : Option (Bool) := if a0 ≥ a1 then (some (decide (a0 ≤ a2))) else (some false)
set_option maxHeartbeats 8000000 in
set_option maxRecDepth 100000 in
theorem jP.calls (a0 : Int) (a1 : Int) (a2 : Int) (r : Bool) (w : World) (h : jP.f a0 a1 a2 = some r) :
  Calls Try.prog 38 #[.int .i64 a0, .int .i64 a1, .int .i64 a2] w fun e w'=>e=.returned (.bool r)∧jsb w w':=by
 have H:(if a0≥a1 then (some (decide (a0≤a2))) else (some false))=some r:=h
 clear h
 by_cases c4:a0≥a1
 ·rw [if_pos c4] at H
  have c4b0:decide (a1≤a0)=true:=dzT c4
  clear c4
  obtain rfl:=Option.some.inj H
  go_enter Try.func38,Try.ntmps38
  go_wp2
  go_ret
  exact ⟨sq,Y7⟩
 ·rw [if_neg c4] at H
  have c4b0:decide (a1≤a0)=false:=dzF c4
  clear c4
  obtain rfl:=Option.some.inj H
  go_enter Try.func38,Try.ntmps38
  go_wp2
  go_ret
  exact ⟨sq,Y7⟩
def jSa.l0 : Nat → ByteArray → Int → Int → Option (Bool)
 | 0,_,_,_=>none
 | k+1,x0,x5,x6=>if x6<x5 then (if 0≤x6 then (if x6<(x0.size:Int) then (if (bt x0 x6)<97 then (some false) else (if (bt x0 x6) > 122 then (some false) else (jSa.l0 k x0 x5 (wrap64 (x6+1))))) else (none)) else (none)) else ((jP.f (x0.size:Int) 1 6).bind fun t412=>(some t412))
def jSa.f (k : Nat) (a0 : ByteArray) : Option (Bool) := jSa.l0 k a0 (a0.size : Int) 0
set_option maxHeartbeats 8000000 in
set_option maxRecDepth 100000 in
theorem jSa.calls (k : Nat) (a0 : ByteArray) (r : Bool) (w : World) (h : jSa.f k a0 = some r) :
  Calls Try.prog 63 #[.string a0] w fun e w'=>e=.returned (.bool r)∧jsb w w':=by
 have H:(jSa.l0 k a0 (a0.size:Int) 0)=some r:=h
 clear h
 have H':=am H
 clear H
 go_enter Try.func63,Try.ntmps63
 go_wp2
 go_loopg [6] k (fun kq v6 w'=>∃ (x6_1:Int),v6=.int .i64 x6_1∧jq (jSa.l0 kq a0 (a0.size:Int) x6_1=some r)∧jq (kq≤k)∧jsb w w')
 case atStart=>exact ⟨(0),(sq),H',⟨Nat.le_refl _⟩,Y7⟩
 case round =>
  clear H'
  obtain ⟨x6_1,rfl,HA,HK1,⟨m1,rfl⟩⟩:=hrel
  cases gk with
  | zero=>exact absurd HA.out (by simp [jSa.l0])
  | succ k1 =>
   have H:=HA.out
   clear HA
   simp only [jSa.l0] at H
   by_cases c2:x6_1<(a0.size:Int)
   ·rw [if_pos c2] at H
    have c2b0:decide (x6_1<(a0.size:Int))=true:=dzT c2
    clear c2
    by_cases c3:0≤x6_1
    ·rw [if_pos c3] at H
     have c3b0:decide (0≤x6_1)=true:=dzT c3
     clear c3
     by_cases c4:x6_1<(a0.size:Int)
     ·rw [if_pos c4] at H
      have c4b0:decide (x6_1<(a0.size:Int))=true:=dzT c4
      clear c4
      by_cases c6:(bt a0 x6_1)<97
      ·rw [if_pos c6] at H
       have c6b0:decide ((bt a0 x6_1)<97)=true:=dzT c6
       clear c6
       obtain rfl:=Option.some.inj H
       have p5:0≤(x6_1:Int):=ozD (uq)
       have q5:x6_1<(a0.size:Int):=ozD (uq)
       have hx5:=bt_at a0 x6_1
       replace p5:=ezT p5
       replace q5:=ezT q5
       go_wp2
       go_ret
       exact ⟨sq,Y7⟩
      ·rw [if_neg c6] at H
       have c6b0:decide ((bt a0 x6_1)<97)=false:=dzF c6
       clear c6
       by_cases c8:(bt a0 x6_1) > 122
       ·rw [if_pos c8] at H
        have c8b0:decide (122<(bt a0 x6_1))=true:=dzT c8
        clear c8
        obtain rfl:=Option.some.inj H
        have p5:0≤(x6_1:Int):=ozD (uq)
        have q5:x6_1<(a0.size:Int):=ozD (uq)
        have hx5:=bt_at a0 x6_1
        replace p5:=ezT p5
        replace q5:=ezT q5
        have p7:0≤(x6_1:Int):=ozD (uq)
        have q7:x6_1<(a0.size:Int):=ozD (uq)
        have hx7:=bt_at a0 x6_1
        replace p7:=ezT p7
        replace q7:=ezT q7
        go_wp2
        go_ret
        exact ⟨sq,Y7⟩
       ·rw [if_neg c8] at H
        have c8b0:decide (122<(bt a0 x6_1))=false:=dzF c8
        clear c8
        have H':=am H
        clear H
        have p5:0≤(x6_1:Int):=ozD (uq)
        have q5:x6_1<(a0.size:Int):=ozD (uq)
        have hx5:=bt_at a0 x6_1
        replace p5:=ezT p5
        replace q5:=ezT q5
        have p7:0≤(x6_1:Int):=ozD (uq)
        have q7:x6_1<(a0.size:Int):=ozD (uq)
        have hx7:=bt_at a0 x6_1
        replace p7:=ezT p7
        replace q7:=ezT q7
        go_wp2
        go_roundg k1
        case measure=>have:=HK1.out;omega
        case rel=>exact ⟨(wrap64 (x6_1+1)),(sq),H',⟨by have:=HK1.out;omega⟩,Y7⟩
     ·rw [if_neg c4] at H
      exact absurd H (by simp)
    ·rw [if_neg c3] at H
     exact absurd H (by simp)
   ·rw [if_neg c2] at H
    have c2b0:decide (x6_1<(a0.size:Int))=false:=dzF c2
    clear c2
    replace H:=bzS H
    obtain ⟨t412,A90,H⟩:=H
    replace H:(some t412)=some r:=H
    have A9:=am A90
    clear A90
    obtain rfl:=Option.some.inj H
    go_wp2_with (first |((with_reducible refine jd (f:=38) rfl ?_);refine gL (some 22) Try.func38 #[.int .i64 (a0.size:Int), .int .i64 1, .int .i64 6] ?_;(with_reducible refine (jP.calls (a0.size:Int) 1 6 t412 _ A9.out).mono ?_);rintro e w' ⟨rfl,⟨nd,rfl⟩⟩;refine ⟨_,rfl,?_⟩))
    go_ret
    exact ⟨sq,Y7⟩

theorem impl_named1_calls (a b : ByteArray) (p : Int) (B : Nat) (w : World) (hB : B < w.heap.size) (hc : w.cell? ⟨B, 0, none⟩ = some (.string b)) :
  Calls Try.prog 83 #[.agg #[.string a, .int .i64 p], .pointer (some ⟨B,0,none⟩)] w fun e w'=>e=.returned (.bool (a.toList == b.toList))∧Below w.heap.size w w':=by
 have hne:B≠w.heap.size:=by omega
 go_enter Try.func83,Try.ntmps83
 go_wp2
 go_ret
 exact ⟨rfl,(Below.refl _ _).alloc (Nat.le_refl _) _⟩
set_option maxHeartbeats 8000000 in
set_option maxRecDepth 100000 in
theorem impl_named_idx (A_ : Option Addr) (c_ : Nat) (l : List (S75)) (B0_ : Nat) (p : S75 → Option Bool) (r : Int) (w : World) (hr : Kd.C k75 w A_ l.length l) (h : idxFrom p l 0 = some r)
  (hp:∀ W,Below w.heap.size w W→∀ (x:S75) (b:Bool),p x=some b→Calls Try.prog 83 #[.agg #[.string x.f0, .int .i64 x.f1], .pointer (some ⟨B0_,0,none⟩)] W fun e w'=>e=.returned (.bool b)∧Below W.heap.size W w') :
  Calls Try.prog 82 #[.slice A_ l.length c_, .func (.func 83) #[] #[.pointer (some ⟨B0_,0,none⟩)]] w fun e w'=>e=.returned (.int .i64 r)∧Below w.heap.size w w':=by
 have hm:l.length≤9223372036854775807:=Kd.C_max hr
 have HR:=am hr
 have HP:=am hp
 have H0:=am h
 clear hr hp h
 go_enter Try.func82,Try.ntmps82
 go_wp2
 go_loopw [5,8] (fun i5 i8 wr=>∃ k:Nat,k≤l.length∧i8=.int .i64 k∧jq (idxFrom p (l.drop k) k=some r)∧Below w.heap.size w wr) (fun _ i8 _=>l.length - (intOf i8).toNat)
 case atStart=>exact ⟨0,Nat.zero_le _,rfl,H0,Below.refl _ _⟩
 case round =>
  clear H0
  obtain ⟨k,hk,rfl,HA,hb⟩:=hrel
  by_cases hlt:k<l.length
  ·have HB:=am (idxFrom_step hlt HA.out)
   clear HA
   obtain ⟨ad,rfl,hx0,hx1⟩:=at_T75 HR.out (k:Int) (by omega) (by omega)
   have hrd:jY l (k:Int)=l[k]:=by simp [jY,List.getD_eq_getElem?_getD,hlt]
   replace hx0:=jia hb hx0
   replace hx1:=jia hb hx1
   rw [hrd] at hx0 hx1
   simp only [Int.toNat_natCast] at hx0 hx1
   clear hrd
   obtain ⟨b,hb1,hb0⟩:=HB.out
   have HQ:=am hb1
   clear hb1 HB
   cases b with
   | true =>
    have HZ:=am (by simpa using hb0:(k:Int)=r)
    clear hb0
    go_wp2_with (go_at_call 83;refine (HP.out _ hb _ _ HQ.out).mono ?_;rintro e w' ⟨rfl,hb2⟩)
    go_ret
    exact ⟨by rw [← HZ.out];rfl,jda hb hb.size hb2⟩
   | false =>
    have HZ:=am (by simpa using hb0:idxFrom p (l.drop (k+1)) (k+1)=some r)
    clear hb0
    go_wp2_with (go_at_call 83;refine (HP.out _ hb _ _ HQ.out).mono ?_;rintro e w' ⟨rfl,hb2⟩)
    go_roundw
    case rel=>exact ⟨k+1,hlt,by go_num,HZ,jda hb hb.size hb2⟩
    case measure=>simp [intOf];omega
  ·have HZ:=am (idxFrom_end (by omega) HA.out)
   clear HA
   go_wp2
   go_ret
   exact ⟨by rw [HZ.out];rfl,hb⟩
def jcb.f (l0_0 : List S75) (a1 : ByteArray) : Option Int := idxFrom (fun x : S75 => some (x.f0.toList == a1.toList)) l0_0 0
set_option maxHeartbeats 8000000 in
set_option maxRecDepth 100000 in
theorem jcb.calls (A0_0 : Option Addr) (c0_0 : Nat) (l0_0 : List (S75)) (a1 : ByteArray) (r : Int) (w : World) (hr0_0 : Kd.C k75 w A0_0 l0_0.length l0_0) (hc0_0 : l0_0.length ≤ c0_0) (h : jcb.f l0_0 a1 = some r) :
  Calls Try.prog 64 #[.agg #[.slice A0_0 l0_0.length c0_0], .string a1] w fun e w'=>e=.returned (.int .i64 r)∧Below w.heap.size w w':=by
 have hu25:=Try.underlying25
 have HF:=am (fun W (hb:Below w.heap.size w W) (B:Nat) (hB:B<W.heap.size) (hc:W.cell? ⟨B,0,none⟩=some (.string a1))=>impl_named_idx A0_0 c0_0 l0_0 B (fun x:S75=>some (x.f0.toList == a1.toList)) r W (Kd.jT hr0_0 hb) h (fun W' hb' x b hx=>by
  obtain rfl:=Option.some.inj hx
  exact impl_named1_calls x.f0 a1 x.f1 B W' (Nat.lt_of_lt_of_le hB hb'.size) (jia hb' hc)))
 clear h hr0_0
 go_enter Try.func64,Try.ntmps64
 go_wp2_with (go_at_call 82;refine (HF.out _ (((Below.refl _ _).alloc (Nat.le_refl _) _).alloc (by simp) _) _ (by simp) (by simp)).mono ?_;rintro e w' ⟨rfl,hb2⟩)
 go_ret
 exact ⟨rfl,(((Below.refl _ _).alloc (Nat.le_refl _) _).alloc (by simp) _).trans (hb2.mono (by simp;omega))⟩
end Go.Proofs.Ytkedkinojeoeaaa.P
end
