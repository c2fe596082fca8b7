/- One part of the proofs on this program: functions of the program as plain functions, that the code comes to them, and facts on them. -/
import Derived.Test.YtkokajljeebgdaaYAll1
import Derived.Test.YtkokajljeebgdaaYAll2
import Derived.Test.YtkokajljeebgdaaYAll3
import Derived.Test.YtkokajljeebgdaaYAll5
import Derived.Test.YtkokajljeebgdaaYWAuto
section
namespace Go.Proofs.Ytkokajljeebgdaa.P
open Go.RowKit Go.Proofs.YtkokajljeebgdaaW.PrintWords Go.Proofs.YtkokajljeebgdaaW.PrintLast Go.Proofs.YtkokajljeebgdaaW.PrintMore
attribute [local go_sem] jqa joa jBa jAa jfa jea jpa jna jk
set_option linter.unusedVariables false
set_option linter.unusedSimpArgs false
def jWa.f (k : Nat) (s0_0 : List Int) (s0_1 : Int) : Option ((List (S87)) × (List (S52)) × Int) := (jja.f k s0_0 s0_1).bind fun bt405 => (if (bt405.1.length : Int) = 0 then (some (bt405.1, (([(⟨0, 0, 0, 0⟩ : S52)] : List (S52))), bt405.2)) else ((jC.f k s0_0 bt405.2 bt405.1).bind fun bt413 => ((jg.f k s0_0 bt413.2 (bt413.1.length : Int)).bind fun bt417 => ((jg.f k s0_0 bt417.2 24).bind fun bt419 => (if bt419.1 = 0 then ((ji.f k s0_0 bt419.2 (([(-1), 6, 0, 1] : List Int))).bind fun bt424 => (if 0 ≤ bt417.1 then (if bt417.1 < (bt413.1.length : Int) then (some (bt405.1, (bt413.1.set (bt417.1 : Int).toNat (⟨bt424.1, (jc bt413.1 bt417.1).f1, (jc bt413.1 bt417.1).f2, (jc bt413.1 bt417.1).f3⟩ : S52)), bt424.2)) else (none)) else (none))) else (if bt419.1 = 1 then ((ji.f k s0_0 bt419.2 (([(-1), 13, 5, 9, 0] : List Int))).bind fun bt430 => (if 0 ≤ bt417.1 then (if bt417.1 < (bt413.1.length : Int) then (some (bt405.1, (bt413.1.set (bt417.1 : Int).toNat (⟨(jc bt413.1 bt417.1).f0, bt430.1, (jc bt413.1 bt417.1).f2, (jc bt413.1 bt417.1).f3⟩ : S52)), bt430.2)) else (none)) else (none))) else (if bt419.1 = 2 then ((ji.f k s0_0 bt419.2 (([(-1), 100, 8] : List Int))).bind fun bt436 => (if 0 ≤ bt417.1 then (if bt417.1 < (bt413.1.length : Int) then (some (bt405.1, (bt413.1.set (bt417.1 : Int).toNat (⟨(jc bt413.1 bt417.1).f0, (jc bt413.1 bt417.1).f1, bt436.1, (jc bt413.1 bt417.1).f3⟩ : S52)), bt436.2)) else (none)) else (none))) else (if bt419.1 = 3 then (if 1 ≤ (bt413.1.length : Int) then (some (bt405.1, (bt413.1.drop (1 : Int).toNat), bt419.2)) else (none)) else (some (bt405.1, bt413.1, bt419.2))))))))))
set_option maxHeartbeats 8000000 in
set_option maxRecDepth 100000 in
theorem jWa.calls (k : Nat) (g : Nat) (s0_0 : List Int) (s0_1 : Int) (r1 : List (S87)) (r2 : List (S52)) (r3 : Int) (w0 w : World) (hI : jf w0 w g s0_0 s0_1) (hB : Below w0.heap.size w0 w) (h : jWa.f k s0_0 s0_1 = some (r1, r2, r3)) :
  Calls Try.prog 90 #[.pointer (some ⟨g,0,none⟩)] w fun e w'=>∃ v0_ v1_:Value,e=.returned (.tuple #[.agg #[v0_],v1_])∧Kd.R k87 87 w' w.heap.size (fun _=>True) v0_ r1∧Kd.Q k52 52 w' w.heap.size (fun _=>True) v1_ r2∧jf w0 w' g s0_0 r3∧Below w0.heap.size w0 w'∧jb w w' g none:=by
 have hu32:=Try.underlying32
 have hu52:=Try.underlying52
 have HI0:=am hI
 have HK:=am (jb.refl w g none)
 have HL:=am hB.size
 clear hI
 have HW0:=am hB.size
 have HB:=am hB
 clear hB
 have H:((jja.f k s0_0 s0_1).bind fun bt405=>(if (bt405.1.length:Int)=0 then (some (bt405.1,(([(⟨0,0,0,0⟩:S52)]:List (S52))),bt405.2)) else ((jC.f k s0_0 bt405.2 bt405.1).bind fun bt413=>((jg.f k s0_0 bt413.2 (bt413.1.length:Int)).bind fun bt417=>((jg.f k s0_0 bt417.2 24).bind fun bt419=>(if bt419.1=0 then ((ji.f k s0_0 bt419.2 (([(-1),6,0,1]:List Int))).bind fun bt424=>(if 0≤bt417.1 then (if bt417.1<(bt413.1.length:Int) then (some (bt405.1,(bt413.1.set (bt417.1:Int).toNat (⟨bt424.1,(jc bt413.1 bt417.1).f1,(jc bt413.1 bt417.1).f2,(jc bt413.1 bt417.1).f3⟩:S52)),bt424.2)) else (none)) else (none))) else (if bt419.1=1 then ((ji.f k s0_0 bt419.2 (([(-1),13,5,9,0]:List Int))).bind fun bt430=>(if 0≤bt417.1 then (if bt417.1<(bt413.1.length:Int) then (some (bt405.1,(bt413.1.set (bt417.1:Int).toNat (⟨(jc bt413.1 bt417.1).f0,bt430.1,(jc bt413.1 bt417.1).f2,(jc bt413.1 bt417.1).f3⟩:S52)),bt430.2)) else (none)) else (none))) else (if bt419.1=2 then ((ji.f k s0_0 bt419.2 (([(-1),100,8]:List Int))).bind fun bt436=>(if 0≤bt417.1 then (if bt417.1<(bt413.1.length:Int) then (some (bt405.1,(bt413.1.set (bt417.1:Int).toNat (⟨(jc bt413.1 bt417.1).f0,(jc bt413.1 bt417.1).f1,bt436.1,(jc bt413.1 bt417.1).f3⟩:S52)),bt436.2)) else (none)) else (none))) else (if bt419.1=3 then (if 1≤(bt413.1.length:Int) then (some (bt405.1,(bt413.1.drop (1:Int).toNat),bt419.2)) else (none)) else (some (bt405.1,bt413.1,bt419.2)))))))))))=some (r1,r2,r3):=h
 clear h
 replace H:=bzS H
 obtain ⟨⟨t405,t408⟩,A20,H⟩:=H
 replace H:(if (t405.length:Int)=0 then (some (t405,(([(⟨0,0,0,0⟩:S52)]:List (S52))),t408)) else ((jC.f k s0_0 t408 t405).bind fun bt413=>((jg.f k s0_0 bt413.2 (bt413.1.length:Int)).bind fun bt417=>((jg.f k s0_0 bt417.2 24).bind fun bt419=>(if bt419.1=0 then ((ji.f k s0_0 bt419.2 (([(-1),6,0,1]:List Int))).bind fun bt424=>(if 0≤bt417.1 then (if bt417.1<(bt413.1.length:Int) then (some (t405,(bt413.1.set (bt417.1:Int).toNat (⟨bt424.1,(jc bt413.1 bt417.1).f1,(jc bt413.1 bt417.1).f2,(jc bt413.1 bt417.1).f3⟩:S52)),bt424.2)) else (none)) else (none))) else (if bt419.1=1 then ((ji.f k s0_0 bt419.2 (([(-1),13,5,9,0]:List Int))).bind fun bt430=>(if 0≤bt417.1 then (if bt417.1<(bt413.1.length:Int) then (some (t405,(bt413.1.set (bt417.1:Int).toNat (⟨(jc bt413.1 bt417.1).f0,bt430.1,(jc bt413.1 bt417.1).f2,(jc bt413.1 bt417.1).f3⟩:S52)),bt430.2)) else (none)) else (none))) else (if bt419.1=2 then ((ji.f k s0_0 bt419.2 (([(-1),100,8]:List Int))).bind fun bt436=>(if 0≤bt417.1 then (if bt417.1<(bt413.1.length:Int) then (some (t405,(bt413.1.set (bt417.1:Int).toNat (⟨(jc bt413.1 bt417.1).f0,(jc bt413.1 bt417.1).f1,bt436.1,(jc bt413.1 bt417.1).f3⟩:S52)),bt436.2)) else (none)) else (none))) else (if bt419.1=3 then (if 1≤(bt413.1.length:Int) then (some (t405,(bt413.1.drop (1:Int).toNat),bt419.2)) else (none)) else (some (t405,bt413.1,bt419.2))))))))))=some (r1,r2,r3):=H
 have A2:=am A20
 clear A20
 by_cases c3:(t405.length:Int)=0
 ·rw [if_pos c3] at H
  have c3b0:((t405.length:Int) == 0)=true:=beq_iff_eq.mpr c3
  have c3b1:((t405.length:Int) != 0)=false:=bne_eq_false_iff_eq.mpr c3
  clear c3
  obtain ⟨y410,hy410⟩:∃ y_:List (S52),y_=(([(⟨0,0,0,0⟩:S52)]:List (S52))):=⟨_,rfl⟩
  replace H:(some (t405,y410,t408))=some (r1,r2,r3):=by first |(rw [hy410];with_reducible exact H) |(have H2_:=(Option.bind_some _ _).symm.trans H;rw [hy410];with_reducible exact H2_) |(have H2_:=(Option.bind_some _ _).symm.trans H;with_reducible exact H2_) | with_reducible exact H |(rw [hy410];exact H) | exact H
  have Ny410:=am hy410
  clear hy410
  simp only [Option.some.injEq,Prod.mk.injEq] at H
  obtain ⟨rfl,rfl,rfl⟩:=H
  go_enter Try.func90,Try.ntmps90
  go_wp2_with (first |((with_reducible refine jM (N:=2) rfl ?_);refine bE (N:=2) (cs:=#[.slice none 0 0]) (t:=32) ?_;intro gb404 hg w4 hbox hb;have BK404:=am (hbox);have GW404:=am ((Y12:w.heap.size≤gb404));have GE404:=am ((Nat.le_trans HW0.out (Y12:w.heap.size≤gb404):w0.heap.size≤gb404));have NB0_404:=am ((Y27:g≠gb404));have NB404_0:=am ((Y28:gb404≠g));replace HK:=am (jb.trans (Y17) (jb.of_below hb g none) (.inl rfl));replace HB:=am (je (Y18) hb);replace HI0:=am (jf.below (Y16) hb);clear hb hbox hg) |((with_reducible refine jd (f:=110) rfl ?_);refine gL (some 8) Try.func110 #[.pointer (some ⟨g,0,none⟩)] ?_;(with_reducible refine (jja.calls k g s0_0 s0_1 t405 t408 w0 _ ?side1 ?side2 A2.out).mono ?_);(case side1=>exact Y39);(case side2=>exact Y40);rintro e w5 ⟨v406,rfl,ho0,hi,hb,hk⟩;refine ⟨_,rfl,?_⟩;have HO407:=am (Kd.jQ ho0 (jJ (w:=w) (g:=g) (row:=none) (Y26)));replace BK404:=am (jb.blk hk (g':=gb404) (o:=.cells #[.slice none 0 0] 32 (0,0)) (kq BK404.out) NB404_0.out (by simp));replace HK:=am (jb.trans (Y26) hk (.inl rfl));replace HB:=am (hb);replace HI0:=am (hi);(try clear hb);(try clear hb2);(try clear hk);(try clear hi);(try clear ho0)) |((with_reducible refine jM (N:=4) rfl ?_);refine bE (N:=4) (cs:=#[.slice none 0 0]) (t:=32) ?_;intro gb409 hg w6 hbox hb;have BK409:=am (hbox);have GW409:=am ((Y41:w.heap.size≤gb409));have GE409:=am ((Nat.le_trans HW0.out (Y41:w.heap.size≤gb409):w0.heap.size≤gb409));have NB404_409:=am ((Y61:gb404≠gb409));have NB409_404:=am ((Y62:gb409≠gb404));have NB0_409:=am ((Y63:g≠gb409));have NB409_0:=am ((Y64:gb409≠g));replace HO407:=am (Kd.jT (rq HO407.out) hb);replace BK404:=am (jm (g:=gb404) (o:=.cells #[.slice none 0 0] 32 (0,0)) (kq BK404.out) hb);replace HK:=am (jb.trans (Y26) (jb.of_below hb g none) (.inl rfl));replace HB:=am (je (Y40) hb);replace HI0:=am (jf.below (Y39) hb);clear hb hbox hg;obtain ⟨Ao7,co7,eo7⟩:=Kd.jU HO407.out;subst eo7;have hnb8:=NB409_404.out;have hnc8:=NB404_409.out;have hnb9:=NB409_0.out;have hnc9:=NB0_409.out;have hcz10_0:=bc0 BK409.out;have hfz10_0:=ja BK409.out 0) |((with_reducible refine jM (N:=15) rfl ?_);refine Kd.jbc k52 _ 52 ?hg (N:=15) ?hd (xs:=([(⟨0,0,0,0⟩:S52)]:List (S52))) (inner:=[.int .i64 0, .int .i64 0, .int .i64 0, .int .i64 0]) (ok:=fun _=>True) (okp:=fun _=>True) ?hr ?hp (fun _ hk=>hk) trivial (Below.refl _ _) (Nat.le_refl _) (by simp) ?_;(case hd=>rfl);(case hg=>rfl);(case hr=>exact Y7);(case hp=>exact (Reps.c4 (show Kd.M k52 _ _ _ (⟨0,0,0,0⟩:S52) [.int .i64 0, .int .i64 0, .int .i64 0, .int .i64 0] from (jEb _ _ _ (⟨0,0,0,0⟩:S52) )) (Reps.none _ _)));intro v411 w11 ho12 hb hg_ hnew_;clear hg_ hnew_;(first | rw [← Ny410.out] at ho12 |(simp only [Int.reduceToNat] at ho12;rw [← Ny410.out] at ho12));have HO412:=am (Kd.jQ ho12 (jJ (w:=w) (g:=g) (row:=none) (Y11)));replace HO407:=am (Kd.jT (by (with_reducible repeat (first | apply Kd.jY | apply Kd.jX | apply Kd.jia));exact (Kd.jE (Kd.jLb (p:=⟨gb409,0,none⟩) (Kd.jPa HO407.out BK409.out (by decide)) (fun _ hk=>hk.2) (.slice Ao7 t405.length co7)) (fun _ h_=>h_.1))) hb);replace BK404:=am (jm (g:=gb404) (o:=.cells #[.slice none 0 0] 32 (0,0)) (Y65) hb);replace BK409:=am (jm (g:=gb409) (o:=.cells #[.slice Ao7 t405.length co7] 32 (0,0)) (Y66) hb);replace HK:=am (jb.trans (Y11) (jb.of_below hb g none) (.inl rfl));replace HB:=am (je (Y15) hb);replace HI0:=am (jf.below (show jf w0 (w6.setCell ⟨gb409,0,none⟩ (.slice Ao7 t405.length co7)) g s0_0 t408 from Y2) hb);clear hb ho12;have hnb13:=NB404_0.out;have hnc13:=NB0_404.out;have hcz14_0:=bc0 BK404.out;have hfz14_0:=ja BK404.out 0))
  refine bodyPost_ret (joc rfl _ _ gb404 32 #[.slice Ao7 t405.length co7] (0,0) _ rfl (Y67) Try.underlying32 rfl (by kernel_rfl)) rfl ?_
  exact ⟨_,_,Y0,by (with_reducible repeat (first | apply Kd.jY | apply Kd.jX | apply Kd.jia));exact Kd.jE (Kd.jLb (p:=⟨gb404,0,none⟩) (Kd.jPa HO407.out BK404.out (by decide)) (fun _ hk=>hk.2) (.slice Ao7 t405.length co7)) (fun _ hk=>trivial),Kd.Q_of_R (by (with_reducible repeat (first | apply Kd.jY | apply Kd.jX | apply Kd.jia));exact Kd.jE (Kd.jLb (p:=⟨gb404,0,none⟩) (Kd.jPa HO412.out BK404.out (by decide)) (fun _ hk=>hk.2) (.slice Ao7 t405.length co7)) (fun _ hk=>trivial)),Y2,Y15,Y11⟩
 ·rw [if_neg c3] at H
  have c3b0:((t405.length:Int) == 0)=false:=beq_eq_false_iff_ne.mpr c3
  have c3b1:((t405.length:Int) != 0)=true:=bne_iff_ne.mpr c3
  have c3b2:¬ (t405=[]):=fun h_=>c3 (by rw [h_];rfl)
  replace H:=bzS H
  obtain ⟨⟨t413,t416⟩,A150,H⟩:=H
  replace H:((jg.f k s0_0 t416 (t413.length:Int)).bind fun bt417=>((jg.f k s0_0 bt417.2 24).bind fun bt419=>(if bt419.1=0 then ((ji.f k s0_0 bt419.2 (([(-1),6,0,1]:List Int))).bind fun bt424=>(if 0≤bt417.1 then (if bt417.1<(t413.length:Int) then (some (t405,(t413.set (bt417.1:Int).toNat (⟨bt424.1,(jc t413 bt417.1).f1,(jc t413 bt417.1).f2,(jc t413 bt417.1).f3⟩:S52)),bt424.2)) else (none)) else (none))) else (if bt419.1=1 then ((ji.f k s0_0 bt419.2 (([(-1),13,5,9,0]:List Int))).bind fun bt430=>(if 0≤bt417.1 then (if bt417.1<(t413.length:Int) then (some (t405,(t413.set (bt417.1:Int).toNat (⟨(jc t413 bt417.1).f0,bt430.1,(jc t413 bt417.1).f2,(jc t413 bt417.1).f3⟩:S52)),bt430.2)) else (none)) else (none))) else (if bt419.1=2 then ((ji.f k s0_0 bt419.2 (([(-1),100,8]:List Int))).bind fun bt436=>(if 0≤bt417.1 then (if bt417.1<(t413.length:Int) then (some (t405,(t413.set (bt417.1:Int).toNat (⟨(jc t413 bt417.1).f0,(jc t413 bt417.1).f1,bt436.1,(jc t413 bt417.1).f3⟩:S52)),bt436.2)) else (none)) else (none))) else (if bt419.1=3 then (if 1≤(t413.length:Int) then (some (t405,(t413.drop (1:Int).toNat),bt419.2)) else (none)) else (some (t405,t413,bt419.2))))))))=some (r1,r2,r3):=H
  have A15:=am A150
  clear A150
  replace H:=bzS H
  obtain ⟨⟨t417,t418⟩,A160,H⟩:=H
  replace H:((jg.f k s0_0 t418 24).bind fun bt419=>(if bt419.1=0 then ((ji.f k s0_0 bt419.2 (([(-1),6,0,1]:List Int))).bind fun bt424=>(if 0≤t417 then (if t417<(t413.length:Int) then (some (t405,(t413.set (t417:Int).toNat (⟨bt424.1,(jc t413 t417).f1,(jc t413 t417).f2,(jc t413 t417).f3⟩:S52)),bt424.2)) else (none)) else (none))) else (if bt419.1=1 then ((ji.f k s0_0 bt419.2 (([(-1),13,5,9,0]:List Int))).bind fun bt430=>(if 0≤t417 then (if t417<(t413.length:Int) then (some (t405,(t413.set (t417:Int).toNat (⟨(jc t413 t417).f0,bt430.1,(jc t413 t417).f2,(jc t413 t417).f3⟩:S52)),bt430.2)) else (none)) else (none))) else (if bt419.1=2 then ((ji.f k s0_0 bt419.2 (([(-1),100,8]:List Int))).bind fun bt436=>(if 0≤t417 then (if t417<(t413.length:Int) then (some (t405,(t413.set (t417:Int).toNat (⟨(jc t413 t417).f0,(jc t413 t417).f1,bt436.1,(jc t413 t417).f3⟩:S52)),bt436.2)) else (none)) else (none))) else (if bt419.1=3 then (if 1≤(t413.length:Int) then (some (t405,(t413.drop (1:Int).toNat),bt419.2)) else (none)) else (some (t405,t413,bt419.2)))))))=some (r1,r2,r3):=H
  have A16:=am A160
  clear A160
  replace H:=bzS H
  obtain ⟨⟨t419,t420⟩,A170,H⟩:=H
  replace H:(if t419=0 then ((ji.f k s0_0 t420 (([(-1),6,0,1]:List Int))).bind fun bt424=>(if 0≤t417 then (if t417<(t413.length:Int) then (some (t405,(t413.set (t417:Int).toNat (⟨bt424.1,(jc t413 t417).f1,(jc t413 t417).f2,(jc t413 t417).f3⟩:S52)),bt424.2)) else (none)) else (none))) else (if t419=1 then ((ji.f k s0_0 t420 (([(-1),13,5,9,0]:List Int))).bind fun bt430=>(if 0≤t417 then (if t417<(t413.length:Int) then (some (t405,(t413.set (t417:Int).toNat (⟨(jc t413 t417).f0,bt430.1,(jc t413 t417).f2,(jc t413 t417).f3⟩:S52)),bt430.2)) else (none)) else (none))) else (if t419=2 then ((ji.f k s0_0 t420 (([(-1),100,8]:List Int))).bind fun bt436=>(if 0≤t417 then (if t417<(t413.length:Int) then (some (t405,(t413.set (t417:Int).toNat (⟨(jc t413 t417).f0,(jc t413 t417).f1,bt436.1,(jc t413 t417).f3⟩:S52)),bt436.2)) else (none)) else (none))) else (if t419=3 then (if 1≤(t413.length:Int) then (some (t405,(t413.drop (1:Int).toNat),t420)) else (none)) else (some (t405,t413,t420))))))=some (r1,r2,r3):=H
  have A17:=am A170
  clear A170
  by_cases c18:t419=0
  ·rw [if_pos c18] at H
   have c18b0:(t419 == 0)=true:=beq_iff_eq.mpr c18
   have c18b1:(t419 != 0)=false:=bne_eq_false_iff_eq.mpr c18
   clear c18
   obtain ⟨y421,hy421⟩:∃ y_:List Int,y_=(([(-1),6,0,1]:List Int)):=⟨_,rfl⟩
   replace H:((ji.f k s0_0 t420 y421).bind fun bt424=>(if 0≤t417 then (if t417<(t413.length:Int) then (some (t405,(t413.set (t417:Int).toNat (⟨bt424.1,(jc t413 t417).f1,(jc t413 t417).f2,(jc t413 t417).f3⟩:S52)),bt424.2)) else (none)) else (none)))=some (r1,r2,r3):=by first |(rw [hy421];with_reducible exact H) |(have H2_:=(Option.bind_some _ _).symm.trans H;rw [hy421];with_reducible exact H2_) |(have H2_:=(Option.bind_some _ _).symm.trans H;with_reducible exact H2_) | with_reducible exact H |(rw [hy421];exact H) | exact H
   have Ny421:=am hy421
   clear hy421
   replace H:=bzS H
   obtain ⟨⟨t424,t425⟩,A190,H⟩:=H
   replace H:(if 0≤t417 then (if t417<(t413.length:Int) then (some (t405,(t413.set (t417:Int).toNat (⟨t424,(jc t413 t417).f1,(jc t413 t417).f2,(jc t413 t417).f3⟩:S52)),t425)) else (none)) else (none))=some (r1,r2,r3):=H
   have A19:=am A190
   clear A190
   by_cases c20:0≤t417
   ·rw [if_pos c20] at H
    have c20b0:decide (0≤t417)=true:=dzT c20
    clear c20
    by_cases c21:t417<(t413.length:Int)
    ·rw [if_pos c21] at H
     have c21b0:decide (t417<(t413.length:Int))=true:=dzT c21
     clear c21
     obtain ⟨y426,hy426⟩:∃ y_:List (S52),y_=(t413.set (t417:Int).toNat (⟨t424,(jc t413 t417).f1,(jc t413 t417).f2,(jc t413 t417).f3⟩:S52)):=⟨_,rfl⟩
     replace H:(some (t405,y426,t425))=some (r1,r2,r3):=by first |(rw [hy426];with_reducible exact H) |(have H2_:=(Option.bind_some _ _).symm.trans H;rw [hy426];with_reducible exact H2_) |(have H2_:=(Option.bind_some _ _).symm.trans H;with_reducible exact H2_) | with_reducible exact H |(rw [hy426];exact H) | exact H
     have Ny426:=am hy426
     clear hy426
     simp only [Option.some.injEq,Prod.mk.injEq] at H
     obtain ⟨rfl,rfl,rfl⟩:=H
     go_enter Try.func90,Try.ntmps90
     go_wp2_with (first |((with_reducible refine jM (N:=2) rfl ?_);refine bE (N:=2) (cs:=#[.slice none 0 0]) (t:=32) ?_;intro gb404 hg w23 hbox hb;have BK404:=am (hbox);have GW404:=am ((Y12:w.heap.size≤gb404));have GE404:=am ((Nat.le_trans HW0.out (Y12:w.heap.size≤gb404):w0.heap.size≤gb404));have NB0_404:=am ((Y27:g≠gb404));have NB404_0:=am ((Y28:gb404≠g));replace HK:=am (jb.trans (Y17) (jb.of_below hb g none) (.inl rfl));replace HB:=am (je (Y18) hb);replace HI0:=am (jf.below (Y16) hb);clear hb hbox hg) |((with_reducible refine jd (f:=110) rfl ?_);refine gL (some 8) Try.func110 #[.pointer (some ⟨g,0,none⟩)] ?_;(with_reducible refine (jja.calls k g s0_0 s0_1 t405 t408 w0 _ ?side1 ?side2 A2.out).mono ?_);(case side1=>exact Y39);(case side2=>exact Y40);rintro e w24 ⟨v406,rfl,ho0,hi,hb,hk⟩;refine ⟨_,rfl,?_⟩;have HO407:=am (Kd.jQ ho0 (jJ (w:=w) (g:=g) (row:=none) (Y26)));replace BK404:=am (jb.blk hk (g':=gb404) (o:=.cells #[.slice none 0 0] 32 (0,0)) (kq BK404.out) NB404_0.out (by simp));replace HK:=am (jb.trans (Y26) hk (.inl rfl));replace HB:=am (hb);replace HI0:=am (hi);(try clear hb);(try clear hb2);(try clear hk);(try clear hi);(try clear ho0)) |((with_reducible refine jM (N:=4) rfl ?_);refine bE (N:=4) (cs:=#[.slice none 0 0]) (t:=32) ?_;intro gb409 hg w25 hbox hb;have BK409:=am (hbox);have GW409:=am ((Y41:w.heap.size≤gb409));have GE409:=am ((Nat.le_trans HW0.out (Y41:w.heap.size≤gb409):w0.heap.size≤gb409));have NB404_409:=am ((Y61:gb404≠gb409));have NB409_404:=am ((Y62:gb409≠gb404));have NB0_409:=am ((Y63:g≠gb409));have NB409_0:=am ((Y64:gb409≠g));replace HO407:=am (Kd.jT (rq HO407.out) hb);replace BK404:=am (jm (g:=gb404) (o:=.cells #[.slice none 0 0] 32 (0,0)) (kq BK404.out) hb);replace HK:=am (jb.trans (Y26) (jb.of_below hb g none) (.inl rfl));replace HB:=am (je (Y40) hb);replace HI0:=am (jf.below (Y39) hb);clear hb hbox hg;obtain ⟨Ao26,co26,eo26⟩:=Kd.jU HO407.out;subst eo26;have hnb27:=NB409_404.out;have hnc27:=NB404_409.out;have hnb28:=NB409_0.out;have hnc28:=NB0_409.out;have hcz29_0:=bc0 BK409.out;have hfz29_0:=ja BK409.out 0) |((with_reducible refine jd (f:=111) rfl ?_);refine gL (some 18) Try.func111 #[.pointer (some ⟨g,0,none⟩), .agg #[.slice Ao26 t405.length co26]] ?_;(with_reducible refine (jC.calls k g s0_0 t408 _ _ t405 t413 t416 w0 _ ?side1 ?side2 ?side3 ?side4 A15.out).mono ?_);(case side1=>exact Y2);(case side2=>exact Y15);(case side3=>exact Kd.jHc (jf.apart (show jf w0 _ g s0_0 t408 from Y2) (Y109) (by decide)) (fun _ h_=>h_.2));(case side4=>exact (Kd.jh HO407.out).2.1);rintro e w30 ⟨v414,rfl,ho0,hi,hb,hk⟩;refine ⟨_,rfl,?_⟩;have HO415:=am (Kd.jQ ho0 (jJ (w:=w) (g:=g) (row:=none) (Y11)));replace BK404:=am (jb.blk hk (g':=gb404) (o:=.cells #[.slice none 0 0] 32 (0,0)) (Y65) NB404_0.out (by simp));replace HO407:=am (Kd.jE (Kd.jxa (jf.apart (show jf w0 _ g s0_0 t408 from Y2) (Y109) (by decide)) hk (fun _ h=>h.2)) (fun _ h=>h.1));replace BK409:=am (jb.blk hk (g':=gb409) (o:=.cells #[.slice Ao26 t405.length co26] 32 (0,0)) (Y66) NB409_0.out (by simp));replace HK:=am (jb.trans (Y11) hk (.inl rfl));replace HB:=am (hb);replace HI0:=am (hi);(try clear hb);(try clear hb2);(try clear hk);(try clear hi);(try clear ho0);obtain ⟨Ao31,co31,eo31⟩:=Kd.jU HO415.out;subst eo31) |((with_reducible refine jd (f:=71) rfl ?_);refine gL (some 22) Try.func71 #[.pointer (some ⟨g,0,none⟩), .int .i64 (t413.length:Int)] ?_;(with_reducible refine (jg.calls k g s0_0 t416 (t413.length:Int) t417 t418 w0 _ ?side1 ?side2 A16.out).mono ?_);(case side1=>exact Y2);(case side2=>exact Y15);rintro e w32 ⟨rfl,hi,hb,hk⟩;refine ⟨_,rfl,?_⟩;replace BK404:=am (jb.blk hk (g':=gb404) (o:=.cells #[.slice none 0 0] 32 (0,0)) (kq BK404.out) NB404_0.out (by simp));replace HO407:=am (Kd.jE (Kd.jxa (jf.apart (show jf w0 _ g s0_0 t416 from Y2) (rq HO407.out) (by decide)) hk (fun _ h=>h.2)) (fun _ h=>h.1));replace BK409:=am (jb.blk hk (g':=gb409) (o:=.cells #[.slice Ao26 t405.length co26] 32 (0,0)) (kq BK409.out) NB409_0.out (by simp));replace HO415:=am (Kd.jE (Kd.jxa (jf.apart (show jf w0 _ g s0_0 t416 from Y2) (rq HO415.out) (by decide)) hk (fun _ h=>h.2)) (fun _ h=>h.1));replace HK:=am (jb.trans (Y11) hk (.inl rfl));replace HB:=am (hb);replace HI0:=am (hi);(try clear hb);(try clear hb2);(try clear hk);(try clear hi)) |((with_reducible refine jd (f:=71) rfl ?_);refine gL (some 24) Try.func71 #[.pointer (some ⟨g,0,none⟩), .int .i64 24] ?_;(with_reducible refine (jg.calls k g s0_0 t418 24 t419 t420 w0 _ ?side1 ?side2 A17.out).mono ?_);(case side1=>exact Y2);(case side2=>exact Y15);rintro e w33 ⟨rfl,hi,hb,hk⟩;refine ⟨_,rfl,?_⟩;replace BK404:=am (jb.blk hk (g':=gb404) (o:=.cells #[.slice none 0 0] 32 (0,0)) (kq BK404.out) NB404_0.out (by simp));replace HO407:=am (Kd.jE (Kd.jxa (jf.apart (show jf w0 _ g s0_0 t418 from Y2) (rq HO407.out) (by decide)) hk (fun _ h=>h.2)) (fun _ h=>h.1));replace BK409:=am (jb.blk hk (g':=gb409) (o:=.cells #[.slice Ao26 t405.length co26] 32 (0,0)) (kq BK409.out) NB409_0.out (by simp));replace HO415:=am (Kd.jE (Kd.jxa (jf.apart (show jf w0 _ g s0_0 t418 from Y2) (rq HO415.out) (by decide)) hk (fun _ h=>h.2)) (fun _ h=>h.1));replace HK:=am (jb.trans (Y11) hk (.inl rfl));replace HB:=am (hb);replace HI0:=am (hi);(try clear hb);(try clear hb2);(try clear hk);(try clear hi)) |((with_reducible refine jM (N:=30) rfl ?_);refine Kd.jbc (Kd.int .i64) _ 3 ?hg (N:=30) ?hd (xs:=([(-1),6,0,1]:List Int)) (inner:=[.int .i64 (-1), .int .i64 6, .int .i64 0, .int .i64 1]) (ok:=fun _=>True) (okp:=fun _=>True) ?hr ?hp (fun _ hk=>hk) trivial (Below.refl _ _) (Nat.le_refl _) (by simp) ?_;(case hd=>rfl);(case hg=>rfl);(case hr=>exact Y7);(case hp=>exact (Reps.one (show Kd.M (Kd.int .i64) _ _ _ (-1) [.int .i64 (-1)] from rfl) (Reps.one (show Kd.M (Kd.int .i64) _ _ _ 6 [.int .i64 6] from rfl) (Reps.one (show Kd.M (Kd.int .i64) _ _ _ 0 [.int .i64 0] from rfl) (Reps.one (show Kd.M (Kd.int .i64) _ _ _ 1 [.int .i64 1] from rfl) (Reps.none _ _))))));intro v422 w34 ho35 hb hg_ hnew_;clear hg_ hnew_;(first | rw [← Ny421.out] at ho35 |(simp only [Int.reduceToNat] at ho35;rw [← Ny421.out] at ho35));have HO423:=am (Kd.jQ ho35 (jJ (w:=w) (g:=g) (row:=none) (Y11)));replace HO407:=am (Kd.jT (rq HO407.out) hb);replace HO415:=am (Kd.jT (rq HO415.out) hb);replace BK404:=am (jm (g:=gb404) (o:=.cells #[.slice none 0 0] 32 (0,0)) (kq BK404.out) hb);replace BK409:=am (jm (g:=gb409) (o:=.cells #[.slice Ao26 t405.length co26] 32 (0,0)) (kq BK409.out) hb);replace HK:=am (jb.trans (Y11) (jb.of_below hb g none) (.inl rfl));replace HB:=am (je (Y15) hb);replace HI0:=am (jf.below (Y2) hb);clear hb ho35;obtain ⟨Ao36,co36,eo36⟩:=Kd.jU HO423.out;subst eo36) |((with_reducible refine jd (f:=91) rfl ?_);refine gL (some 31) Try.func91 #[.pointer (some ⟨g,0,none⟩), .slice Ao36 y421.length co36] ?_;(with_reducible refine (ji.calls k g s0_0 t420 _ _ y421 t424 t425 w0 _ ?side1 ?side2 ?side3 ?side4 ?side5 A19.out).mono ?_);(case side1=>exact Y2);(case side2=>exact Y15);(case side3=>exact cq (Kd.jh HO423.out).2.2);(case side4=>exact (Kd.jh HO423.out).2.1);(case side5=>exact jzb (jf.own_ne HI0.out HO423.out (by decide)));rintro e w37 ⟨rfl,hi,hb,hk⟩;refine ⟨_,rfl,?_⟩;replace BK404:=am (jb.blk hk (g':=gb404) (o:=.cells #[.slice none 0 0] 32 (0,0)) (kq BK404.out) NB404_0.out (by simp));replace HO407:=am (Kd.jE (Kd.jxa (jf.apart (show jf w0 _ g s0_0 t420 from Y2) (rq HO407.out) (by decide)) hk (fun _ h=>h.2)) (fun _ h=>h.1));replace BK409:=am (jb.blk hk (g':=gb409) (o:=.cells #[.slice Ao26 t405.length co26] 32 (0,0)) (kq BK409.out) NB409_0.out (by simp));replace HO415:=am (Kd.jE (Kd.jxa (jf.apart (show jf w0 _ g s0_0 t420 from Y2) (rq HO415.out) (by decide)) hk (fun _ h=>h.2)) (fun _ h=>h.1));replace HO423:=am (Kd.jE (Kd.jxa (jf.apart (show jf w0 _ g s0_0 t420 from Y2) (rq HO423.out) (by decide)) hk (fun _ h=>h.2)) (fun _ h=>h.1));replace HK:=am (jb.trans (Y11) hk (.inl rfl));replace HB:=am (hb);replace HI0:=am (hi);(try clear hb);(try clear hb2);(try clear hk);(try clear hi);have p22:0≤(t417:Int):=ozD (uq);have q22:(t417:Int)<((t413.length:Int):Int):=ozD (uq);obtain ⟨go22,co22,eo22,gb22,gl22,cl22,HG22⟩:=Kd.R_form HO415.out (by omega);(first | cases eo22 |(injection eo22 with ea_ en_ ec_;(first | subst ea_ |(injection ea_ with ea_;subst ea_));subst ec_;clear en_));have GB22:=am gb22;have GG22:=am HG22;clear gb22 gl22 HG22;obtain ⟨ce22,hcl22,hM22,hcc22,hfr22⟩:=Kd.R_elem HO415.out z52 (t417:Int) p22 q22;obtain rfl:=jEc hM22;have hx22_0:w37.cell? ⟨go22,(t417:Int).toNat * 4,none⟩=some (.int .i64 ((jc t413 t417).f0)):=hcc22 0 _ rfl;have hx22_1:w37.cell? ⟨go22,(t417:Int).toNat * 4+1,none⟩=some (.int .i64 ((jc t413 t417).f1)):=hcc22 1 _ rfl;have hx22_2:w37.cell? ⟨go22,(t417:Int).toNat * 4+2,none⟩=some (.int .i64 ((jc t413 t417).f2)):=hcc22 2 _ rfl;have hx22_3:w37.cell? ⟨go22,(t417:Int).toNat * 4+3,none⟩=some (.int .i64 ((jc t413 t417).f3)):=hcc22 3 _ rfl;have hf22_0:w37.frozen? ⟨go22,(t417:Int).toNat * 4,none⟩=false:=hfr22 0;have hf22_1:w37.frozen? ⟨go22,(t417:Int).toNat * 4+1,none⟩=false:=hfr22 1;have hf22_2:w37.frozen? ⟨go22,(t417:Int).toNat * 4+2,none⟩=false:=hfr22 2;have hf22_3:w37.frozen? ⟨go22,(t417:Int).toNat * 4+3,none⟩=false:=hfr22 3;clear hcl22 hcc22 hfr22 hM22;replace p22:=ezT p22;replace q22:=ezT q22;have HX38:=am (show Kd.R k52 52 w37 w.heap.size (fun _=>True) (.slice (some ⟨go22,0,none⟩) t413.length co31) t413 from (rq HO415.out));obtain ⟨ce38,hcl38,hM38,hcc38,hfr38⟩:=Kd.R_elem HX38.out z52 (t417:Int) (ozD (uq)) (by have h_:(t417:Int)<((t413.length:Int):Int):=ozD (uq);first | exact h_ |(have e_:=(Kd.jh HO415.out).1;omega) | simpa using h_);obtain rfl:=jEc hM38;have HP38:=Kd.R_seg HX38.out (t417:Int) (ozD (uq)) (by have h_:(t417:Int)<((t413.length:Int):Int):=ozD (uq);first | exact h_ |(have e_:=(Kd.jh HO415.out).1;omega) | simpa using h_) (seg:=[.int .i64 t424]) (j:=0) hcl38 hcc38 (show 1≤4 from by decide) (x':=(⟨t424,(jc t413 t417).f1,(jc t413 t417).f2,(jc t413 t417).f3⟩:S52)) (jEb _ _ _ (⟨t424,(jc t413 t417).f1,(jc t413 t417).f2,(jc t413 t417).f3⟩:S52) ) (fun _ hk=>hk);have hx38_0:=hcc38 0 _ rfl;(try simp only [show (k52).sz=4 from rfl,Nat.mul_one,Nat.add_zero] at hx38_0);have hf38_0:=hfr38 0;(try simp only [show (k52).sz=4 from rfl,Nat.mul_one,Nat.add_zero] at hf38_0);clear hcl38 hcc38 hfr38 hM38) |((with_reducible refine gate_store (t:=3) (p:=33) rfl ?_);refine store_event (t:=3) (p:=33) (v:=?vo_w39) (w1:=(w37.setCell ⟨go22,(t417:Int).toNat * 4,none⟩ (.int .i64 t424))) ?hg ?ho ?hn ?hr ?_;(case ho=>rfl);(case hg=>rfl);(case hn=>rfl);(case hr=>exact Y7);intro w39 hw;have hg:w37.grownBy w39 (some go22):=(by rw [hw];exact HP38.2);have hp_:Kd.R k52 52 w39 w.heap.size (fun _=>True) (.slice (some ⟨go22,0,none⟩) t413.length co31) y426:=(by rw [hw,Ny426.out];exact HP38.1);clear HP38;replace HI0:=am (jf.grown (Y2) hg (jf.own_ne HI0.out HO415.out (by decide)));replace BK404:=am (jbb (g:=gb404) (o:=.cells #[.slice none 0 0] 32 (0,0)) (kq BK404.out) hg (Kd.R_ne HO415.out BK404.out (by decide)));replace HO407:=am (Kd.juc (v:=(.slice (some ⟨go22,0,none⟩) t413.length co31)) (rq HO407.out) (Kd.jtc HO415.out) (by decide) hg);replace BK409:=am (jbb (g:=gb409) (o:=.cells #[.slice Ao26 t405.length co26] 32 (0,0)) (kq BK409.out) hg (Kd.R_ne HO415.out BK409.out (by decide)));replace HO423:=am (Kd.juc (v:=(.slice (some ⟨go22,0,none⟩) t413.length co31)) (rq HO423.out) (Kd.jtc HO415.out) (by decide) hg);replace HB:=am ((by rw [hw];exact jP (HB.out) (Nat.le_trans HL.out GB22.out):Below w0.heap.size w0 w39));replace HK:=am (jb.trans (Y11) (jb.jBb hg g) (Kd.jXb HO415.out));replace HO415:=am (hp_);clear hg hw hp_;have hcz40_0:=bc0 BK409.out;have hfz40_0:=ja BK409.out 0;have hnb41:=NB404_0.out;have hnc41:=NB0_404.out;have hcz42_0:=bc0 BK404.out;have hfz42_0:=ja BK404.out 0))
     refine bodyPost_ret (joc rfl _ _ gb404 32 #[.slice Ao26 t405.length co26] (0,0) _ rfl (Y67) Try.underlying32 rfl (by kernel_rfl)) rfl ?_
     exact ⟨_,_,Y0,by (with_reducible repeat (first | apply Kd.jY | apply Kd.jX | apply Kd.jia));exact Kd.jE (Kd.jLb (p:=⟨gb404,0,none⟩) (Kd.jPa HO407.out BK404.out (by decide)) (fun _ hk=>hk.2) (.slice Ao26 t405.length co26)) (fun _ hk=>trivial),Kd.Q_of_R (by (with_reducible repeat (first | apply Kd.jY | apply Kd.jX | apply Kd.jia));exact Kd.jE (Kd.jLb (p:=⟨gb404,0,none⟩) (Kd.jPa HO415.out BK404.out (by decide)) (fun _ hk=>hk.2) (.slice Ao26 t405.length co26)) (fun _ hk=>trivial)),Y2,Y15,Y11⟩
    ·rw [if_neg c21] at H
     exact absurd H (by simp)
   ·rw [if_neg c20] at H
    exact absurd H (by simp)
  ·rw [if_neg c18] at H
   have c18b0:(t419 == 0)=false:=beq_eq_false_iff_ne.mpr c18
   have c18b1:(t419 != 0)=true:=bne_iff_ne.mpr c18
   by_cases c43:t419=1
   ·rw [if_pos c43] at H
    have c43b0:(t419 == 1)=true:=beq_iff_eq.mpr c43
    have c43b1:(t419 != 1)=false:=bne_eq_false_iff_eq.mpr c43
    clear c43
    obtain ⟨y427,hy427⟩:∃ y_:List Int,y_=(([(-1),13,5,9,0]:List Int)):=⟨_,rfl⟩
    replace H:((ji.f k s0_0 t420 y427).bind fun bt430=>(if 0≤t417 then (if t417<(t413.length:Int) then (some (t405,(t413.set (t417:Int).toNat (⟨(jc t413 t417).f0,bt430.1,(jc t413 t417).f2,(jc t413 t417).f3⟩:S52)),bt430.2)) else (none)) else (none)))=some (r1,r2,r3):=by first |(rw [hy427];with_reducible exact H) |(have H2_:=(Option.bind_some _ _).symm.trans H;rw [hy427];with_reducible exact H2_) |(have H2_:=(Option.bind_some _ _).symm.trans H;with_reducible exact H2_) | with_reducible exact H |(rw [hy427];exact H) | exact H
    have Ny427:=am hy427
    clear hy427
    replace H:=bzS H
    obtain ⟨⟨t430,t431⟩,A440,H⟩:=H
    replace H:(if 0≤t417 then (if t417<(t413.length:Int) then (some (t405,(t413.set (t417:Int).toNat (⟨(jc t413 t417).f0,t430,(jc t413 t417).f2,(jc t413 t417).f3⟩:S52)),t431)) else (none)) else (none))=some (r1,r2,r3):=H
    have A44:=am A440
    clear A440
    by_cases c45:0≤t417
    ·rw [if_pos c45] at H
     have c45b0:decide (0≤t417)=true:=dzT c45
     clear c45
     by_cases c46:t417<(t413.length:Int)
     ·rw [if_pos c46] at H
      have c46b0:decide (t417<(t413.length:Int))=true:=dzT c46
      clear c46
      obtain ⟨y432,hy432⟩:∃ y_:List (S52),y_=(t413.set (t417:Int).toNat (⟨(jc t413 t417).f0,t430,(jc t413 t417).f2,(jc t413 t417).f3⟩:S52)):=⟨_,rfl⟩
      replace H:(some (t405,y432,t431))=some (r1,r2,r3):=by first |(rw [hy432];with_reducible exact H) |(have H2_:=(Option.bind_some _ _).symm.trans H;rw [hy432];with_reducible exact H2_) |(have H2_:=(Option.bind_some _ _).symm.trans H;with_reducible exact H2_) | with_reducible exact H |(rw [hy432];exact H) | exact H
      have Ny432:=am hy432
      clear hy432
      simp only [Option.some.injEq,Prod.mk.injEq] at H
      obtain ⟨rfl,rfl,rfl⟩:=H
      go_enter Try.func90,Try.ntmps90
      go_wp2_with (first |((with_reducible refine jM (N:=2) rfl ?_);refine bE (N:=2) (cs:=#[.slice none 0 0]) (t:=32) ?_;intro gb404 hg w48 hbox hb;have BK404:=am (hbox);have GW404:=am ((Y12:w.heap.size≤gb404));have GE404:=am ((Nat.le_trans HW0.out (Y12:w.heap.size≤gb404):w0.heap.size≤gb404));have NB0_404:=am ((Y27:g≠gb404));have NB404_0:=am ((Y28:gb404≠g));replace HK:=am (jb.trans (Y17) (jb.of_below hb g none) (.inl rfl));replace HB:=am (je (Y18) hb);replace HI0:=am (jf.below (Y16) hb);clear hb hbox hg) |((with_reducible refine jd (f:=110) rfl ?_);refine gL (some 8) Try.func110 #[.pointer (some ⟨g,0,none⟩)] ?_;(with_reducible refine (jja.calls k g s0_0 s0_1 t405 t408 w0 _ ?side1 ?side2 A2.out).mono ?_);(case side1=>exact Y39);(case side2=>exact Y40);rintro e w49 ⟨v406,rfl,ho0,hi,hb,hk⟩;refine ⟨_,rfl,?_⟩;have HO407:=am (Kd.jQ ho0 (jJ (w:=w) (g:=g) (row:=none) (Y26)));replace BK404:=am (jb.blk hk (g':=gb404) (o:=.cells #[.slice none 0 0] 32 (0,0)) (kq BK404.out) NB404_0.out (by simp));replace HK:=am (jb.trans (Y26) hk (.inl rfl));replace HB:=am (hb);replace HI0:=am (hi);(try clear hb);(try clear hb2);(try clear hk);(try clear hi);(try clear ho0)) |((with_reducible refine jM (N:=4) rfl ?_);refine bE (N:=4) (cs:=#[.slice none 0 0]) (t:=32) ?_;intro gb409 hg w50 hbox hb;have BK409:=am (hbox);have GW409:=am ((Y41:w.heap.size≤gb409));have GE409:=am ((Nat.le_trans HW0.out (Y41:w.heap.size≤gb409):w0.heap.size≤gb409));have NB404_409:=am ((Y61:gb404≠gb409));have NB409_404:=am ((Y62:gb409≠gb404));have NB0_409:=am ((Y63:g≠gb409));have NB409_0:=am ((Y64:gb409≠g));replace HO407:=am (Kd.jT (rq HO407.out) hb);replace BK404:=am (jm (g:=gb404) (o:=.cells #[.slice none 0 0] 32 (0,0)) (kq BK404.out) hb);replace HK:=am (jb.trans (Y26) (jb.of_below hb g none) (.inl rfl));replace HB:=am (je (Y40) hb);replace HI0:=am (jf.below (Y39) hb);clear hb hbox hg;obtain ⟨Ao51,co51,eo51⟩:=Kd.jU HO407.out;subst eo51;have hnb52:=NB409_404.out;have hnc52:=NB404_409.out;have hnb53:=NB409_0.out;have hnc53:=NB0_409.out;have hcz54_0:=bc0 BK409.out;have hfz54_0:=ja BK409.out 0) |((with_reducible refine jd (f:=111) rfl ?_);refine gL (some 18) Try.func111 #[.pointer (some ⟨g,0,none⟩), .agg #[.slice Ao51 t405.length co51]] ?_;(with_reducible refine (jC.calls k g s0_0 t408 _ _ t405 t413 t416 w0 _ ?side1 ?side2 ?side3 ?side4 A15.out).mono ?_);(case side1=>exact Y2);(case side2=>exact Y15);(case side3=>exact Kd.jHc (jf.apart (show jf w0 _ g s0_0 t408 from Y2) (Y110) (by decide)) (fun _ h_=>h_.2));(case side4=>exact (Kd.jh HO407.out).2.1);rintro e w55 ⟨v414,rfl,ho0,hi,hb,hk⟩;refine ⟨_,rfl,?_⟩;have HO415:=am (Kd.jQ ho0 (jJ (w:=w) (g:=g) (row:=none) (Y11)));replace BK404:=am (jb.blk hk (g':=gb404) (o:=.cells #[.slice none 0 0] 32 (0,0)) (Y65) NB404_0.out (by simp));replace HO407:=am (Kd.jE (Kd.jxa (jf.apart (show jf w0 _ g s0_0 t408 from Y2) (Y110) (by decide)) hk (fun _ h=>h.2)) (fun _ h=>h.1));replace BK409:=am (jb.blk hk (g':=gb409) (o:=.cells #[.slice Ao51 t405.length co51] 32 (0,0)) (Y66) NB409_0.out (by simp));replace HK:=am (jb.trans (Y11) hk (.inl rfl));replace HB:=am (hb);replace HI0:=am (hi);(try clear hb);(try clear hb2);(try clear hk);(try clear hi);(try clear ho0);obtain ⟨Ao56,co56,eo56⟩:=Kd.jU HO415.out;subst eo56) |((with_reducible refine jd (f:=71) rfl ?_);refine gL (some 22) Try.func71 #[.pointer (some ⟨g,0,none⟩), .int .i64 (t413.length:Int)] ?_;(with_reducible refine (jg.calls k g s0_0 t416 (t413.length:Int) t417 t418 w0 _ ?side1 ?side2 A16.out).mono ?_);(case side1=>exact Y2);(case side2=>exact Y15);rintro e w57 ⟨rfl,hi,hb,hk⟩;refine ⟨_,rfl,?_⟩;replace BK404:=am (jb.blk hk (g':=gb404) (o:=.cells #[.slice none 0 0] 32 (0,0)) (kq BK404.out) NB404_0.out (by simp));replace HO407:=am (Kd.jE (Kd.jxa (jf.apart (show jf w0 _ g s0_0 t416 from Y2) (rq HO407.out) (by decide)) hk (fun _ h=>h.2)) (fun _ h=>h.1));replace BK409:=am (jb.blk hk (g':=gb409) (o:=.cells #[.slice Ao51 t405.length co51] 32 (0,0)) (kq BK409.out) NB409_0.out (by simp));replace HO415:=am (Kd.jE (Kd.jxa (jf.apart (show jf w0 _ g s0_0 t416 from Y2) (rq HO415.out) (by decide)) hk (fun _ h=>h.2)) (fun _ h=>h.1));replace HK:=am (jb.trans (Y11) hk (.inl rfl));replace HB:=am (hb);replace HI0:=am (hi);(try clear hb);(try clear hb2);(try clear hk);(try clear hi)) |((with_reducible refine jd (f:=71) rfl ?_);refine gL (some 24) Try.func71 #[.pointer (some ⟨g,0,none⟩), .int .i64 24] ?_;(with_reducible refine (jg.calls k g s0_0 t418 24 t419 t420 w0 _ ?side1 ?side2 A17.out).mono ?_);(case side1=>exact Y2);(case side2=>exact Y15);rintro e w58 ⟨rfl,hi,hb,hk⟩;refine ⟨_,rfl,?_⟩;replace BK404:=am (jb.blk hk (g':=gb404) (o:=.cells #[.slice none 0 0] 32 (0,0)) (kq BK404.out) NB404_0.out (by simp));replace HO407:=am (Kd.jE (Kd.jxa (jf.apart (show jf w0 _ g s0_0 t418 from Y2) (rq HO407.out) (by decide)) hk (fun _ h=>h.2)) (fun _ h=>h.1));replace BK409:=am (jb.blk hk (g':=gb409) (o:=.cells #[.slice Ao51 t405.length co51] 32 (0,0)) (kq BK409.out) NB409_0.out (by simp));replace HO415:=am (Kd.jE (Kd.jxa (jf.apart (show jf w0 _ g s0_0 t418 from Y2) (rq HO415.out) (by decide)) hk (fun _ h=>h.2)) (fun _ h=>h.1));replace HK:=am (jb.trans (Y11) hk (.inl rfl));replace HB:=am (hb);replace HI0:=am (hi);(try clear hb);(try clear hb2);(try clear hk);(try clear hi)) |((with_reducible refine jM (N:=39) rfl ?_);refine Kd.jbc (Kd.int .i64) _ 3 ?hg (N:=39) ?hd (xs:=([(-1),13,5,9,0]:List Int)) (inner:=[.int .i64 (-1), .int .i64 13, .int .i64 5, .int .i64 9, .int .i64 0]) (ok:=fun _=>True) (okp:=fun _=>True) ?hr ?hp (fun _ hk=>hk) trivial (Below.refl _ _) (Nat.le_refl _) (by simp) ?_;(case hd=>rfl);(case hg=>rfl);(case hr=>exact Y7);(case hp=>exact (Reps.one (show Kd.M (Kd.int .i64) _ _ _ (-1) [.int .i64 (-1)] from rfl) (Reps.one (show Kd.M (Kd.int .i64) _ _ _ 13 [.int .i64 13] from rfl) (Reps.one (show Kd.M (Kd.int .i64) _ _ _ 5 [.int .i64 5] from rfl) (Reps.one (show Kd.M (Kd.int .i64) _ _ _ 9 [.int .i64 9] from rfl) (Reps.one (show Kd.M (Kd.int .i64) _ _ _ 0 [.int .i64 0] from rfl) (Reps.none _ _)))))));intro v428 w59 ho60 hb hg_ hnew_;clear hg_ hnew_;(first | rw [← Ny427.out] at ho60 |(simp only [Int.reduceToNat] at ho60;rw [← Ny427.out] at ho60));have HO429:=am (Kd.jQ ho60 (jJ (w:=w) (g:=g) (row:=none) (Y11)));replace HO407:=am (Kd.jT (rq HO407.out) hb);replace HO415:=am (Kd.jT (rq HO415.out) hb);replace BK404:=am (jm (g:=gb404) (o:=.cells #[.slice none 0 0] 32 (0,0)) (kq BK404.out) hb);replace BK409:=am (jm (g:=gb409) (o:=.cells #[.slice Ao51 t405.length co51] 32 (0,0)) (kq BK409.out) hb);replace HK:=am (jb.trans (Y11) (jb.of_below hb g none) (.inl rfl));replace HB:=am (je (Y15) hb);replace HI0:=am (jf.below (Y2) hb);clear hb ho60;obtain ⟨Ao61,co61,eo61⟩:=Kd.jU HO429.out;subst eo61) |((with_reducible refine jd (f:=91) rfl ?_);refine gL (some 40) Try.func91 #[.pointer (some ⟨g,0,none⟩), .slice Ao61 y427.length co61] ?_;(with_reducible refine (ji.calls k g s0_0 t420 _ _ y427 t430 t431 w0 _ ?side1 ?side2 ?side3 ?side4 ?side5 A44.out).mono ?_);(case side1=>exact Y2);(case side2=>exact Y15);(case side3=>exact cq (Kd.jh HO429.out).2.2);(case side4=>exact (Kd.jh HO429.out).2.1);(case side5=>exact jzb (jf.own_ne HI0.out HO429.out (by decide)));rintro e w62 ⟨rfl,hi,hb,hk⟩;refine ⟨_,rfl,?_⟩;replace BK404:=am (jb.blk hk (g':=gb404) (o:=.cells #[.slice none 0 0] 32 (0,0)) (kq BK404.out) NB404_0.out (by simp));replace HO407:=am (Kd.jE (Kd.jxa (jf.apart (show jf w0 _ g s0_0 t420 from Y2) (rq HO407.out) (by decide)) hk (fun _ h=>h.2)) (fun _ h=>h.1));replace BK409:=am (jb.blk hk (g':=gb409) (o:=.cells #[.slice Ao51 t405.length co51] 32 (0,0)) (kq BK409.out) NB409_0.out (by simp));replace HO415:=am (Kd.jE (Kd.jxa (jf.apart (show jf w0 _ g s0_0 t420 from Y2) (rq HO415.out) (by decide)) hk (fun _ h=>h.2)) (fun _ h=>h.1));replace HO429:=am (Kd.jE (Kd.jxa (jf.apart (show jf w0 _ g s0_0 t420 from Y2) (rq HO429.out) (by decide)) hk (fun _ h=>h.2)) (fun _ h=>h.1));replace HK:=am (jb.trans (Y11) hk (.inl rfl));replace HB:=am (hb);replace HI0:=am (hi);(try clear hb);(try clear hb2);(try clear hk);(try clear hi);have p47:0≤(t417:Int):=ozD (uq);have q47:(t417:Int)<((t413.length:Int):Int):=ozD (uq);obtain ⟨go47,co47,eo47,gb47,gl47,cl47,HG47⟩:=Kd.R_form HO415.out (by omega);(first | cases eo47 |(injection eo47 with ea_ en_ ec_;(first | subst ea_ |(injection ea_ with ea_;subst ea_));subst ec_;clear en_));have GB47:=am gb47;have GG47:=am HG47;clear gb47 gl47 HG47;obtain ⟨ce47,hcl47,hM47,hcc47,hfr47⟩:=Kd.R_elem HO415.out z52 (t417:Int) p47 q47;obtain rfl:=jEc hM47;have hx47_0:w62.cell? ⟨go47,(t417:Int).toNat * 4,none⟩=some (.int .i64 ((jc t413 t417).f0)):=hcc47 0 _ rfl;have hx47_1:w62.cell? ⟨go47,(t417:Int).toNat * 4+1,none⟩=some (.int .i64 ((jc t413 t417).f1)):=hcc47 1 _ rfl;have hx47_2:w62.cell? ⟨go47,(t417:Int).toNat * 4+2,none⟩=some (.int .i64 ((jc t413 t417).f2)):=hcc47 2 _ rfl;have hx47_3:w62.cell? ⟨go47,(t417:Int).toNat * 4+3,none⟩=some (.int .i64 ((jc t413 t417).f3)):=hcc47 3 _ rfl;have hf47_0:w62.frozen? ⟨go47,(t417:Int).toNat * 4,none⟩=false:=hfr47 0;have hf47_1:w62.frozen? ⟨go47,(t417:Int).toNat * 4+1,none⟩=false:=hfr47 1;have hf47_2:w62.frozen? ⟨go47,(t417:Int).toNat * 4+2,none⟩=false:=hfr47 2;have hf47_3:w62.frozen? ⟨go47,(t417:Int).toNat * 4+3,none⟩=false:=hfr47 3;clear hcl47 hcc47 hfr47 hM47;replace p47:=ezT p47;replace q47:=ezT q47;have HX63:=am (show Kd.R k52 52 w62 w.heap.size (fun _=>True) (.slice (some ⟨go47,0,none⟩) t413.length co56) t413 from (rq HO415.out));obtain ⟨ce63,hcl63,hM63,hcc63,hfr63⟩:=Kd.R_elem HX63.out z52 (t417:Int) (ozD (uq)) (by have h_:(t417:Int)<((t413.length:Int):Int):=ozD (uq);first | exact h_ |(have e_:=(Kd.jh HO415.out).1;omega) | simpa using h_);obtain rfl:=jEc hM63;have HP63:=Kd.R_seg HX63.out (t417:Int) (ozD (uq)) (by have h_:(t417:Int)<((t413.length:Int):Int):=ozD (uq);first | exact h_ |(have e_:=(Kd.jh HO415.out).1;omega) | simpa using h_) (seg:=[.int .i64 t430]) (j:=1) hcl63 hcc63 (show 2≤4 from by decide) (x':=(⟨(jc t413 t417).f0,t430,(jc t413 t417).f2,(jc t413 t417).f3⟩:S52)) (jEb _ _ _ (⟨(jc t413 t417).f0,t430,(jc t413 t417).f2,(jc t413 t417).f3⟩:S52) ) (fun _ hk=>hk);have hx63_1:=hcc63 1 _ rfl;(try simp only [show (k52).sz=4 from rfl,Nat.mul_one,Nat.add_zero] at hx63_1);have hf63_1:=hfr63 1;(try simp only [show (k52).sz=4 from rfl,Nat.mul_one,Nat.add_zero] at hf63_1);clear hcl63 hcc63 hfr63 hM63) |((with_reducible refine gate_store (t:=3) (p:=42) rfl ?_);refine store_event (t:=3) (p:=42) (v:=?vo_w64) (w1:=(w62.setCell ⟨go47,(t417:Int).toNat * 4+1,none⟩ (.int .i64 t430))) ?hg ?ho ?hn ?hr ?_;(case ho=>rfl);(case hg=>rfl);(case hn=>rfl);(case hr=>exact Y7);intro w64 hw;have hg:w62.grownBy w64 (some go47):=(by rw [hw];exact HP63.2);have hp_:Kd.R k52 52 w64 w.heap.size (fun _=>True) (.slice (some ⟨go47,0,none⟩) t413.length co56) y432:=(by rw [hw,Ny432.out];exact HP63.1);clear HP63;replace HI0:=am (jf.grown (Y2) hg (jf.own_ne HI0.out HO415.out (by decide)));replace BK404:=am (jbb (g:=gb404) (o:=.cells #[.slice none 0 0] 32 (0,0)) (kq BK404.out) hg (Kd.R_ne HO415.out BK404.out (by decide)));replace HO407:=am (Kd.juc (v:=(.slice (some ⟨go47,0,none⟩) t413.length co56)) (rq HO407.out) (Kd.jtc HO415.out) (by decide) hg);replace BK409:=am (jbb (g:=gb409) (o:=.cells #[.slice Ao51 t405.length co51] 32 (0,0)) (kq BK409.out) hg (Kd.R_ne HO415.out BK409.out (by decide)));replace HO429:=am (Kd.juc (v:=(.slice (some ⟨go47,0,none⟩) t413.length co56)) (rq HO429.out) (Kd.jtc HO415.out) (by decide) hg);replace HB:=am ((by rw [hw];exact jP (HB.out) (Nat.le_trans HL.out GB47.out):Below w0.heap.size w0 w64));replace HK:=am (jb.trans (Y11) (jb.jBb hg g) (Kd.jXb HO415.out));replace HO415:=am (hp_);clear hg hw hp_;have hcz65_0:=bc0 BK409.out;have hfz65_0:=ja BK409.out 0;have hnb66:=NB404_0.out;have hnc66:=NB0_404.out;have hcz67_0:=bc0 BK404.out;have hfz67_0:=ja BK404.out 0))
      refine bodyPost_ret (joc rfl _ _ gb404 32 #[.slice Ao51 t405.length co51] (0,0) _ rfl (Y67) Try.underlying32 rfl (by kernel_rfl)) rfl ?_
      exact ⟨_,_,Y0,by (with_reducible repeat (first | apply Kd.jY | apply Kd.jX | apply Kd.jia));exact Kd.jE (Kd.jLb (p:=⟨gb404,0,none⟩) (Kd.jPa HO407.out BK404.out (by decide)) (fun _ hk=>hk.2) (.slice Ao51 t405.length co51)) (fun _ hk=>trivial),Kd.Q_of_R (by (with_reducible repeat (first | apply Kd.jY | apply Kd.jX | apply Kd.jia));exact Kd.jE (Kd.jLb (p:=⟨gb404,0,none⟩) (Kd.jPa HO415.out BK404.out (by decide)) (fun _ hk=>hk.2) (.slice Ao51 t405.length co51)) (fun _ hk=>trivial)),Y2,Y15,Y11⟩
     ·rw [if_neg c46] at H
      exact absurd H (by simp)
    ·rw [if_neg c45] at H
     exact absurd H (by simp)
   ·rw [if_neg c43] at H
    have c43b0:(t419 == 1)=false:=beq_eq_false_iff_ne.mpr c43
    have c43b1:(t419 != 1)=true:=bne_iff_ne.mpr c43
    by_cases c68:t419=2
    ·rw [if_pos c68] at H
     have c68b0:(t419 == 2)=true:=beq_iff_eq.mpr c68
     have c68b1:(t419 != 2)=false:=bne_eq_false_iff_eq.mpr c68
     clear c68
     obtain ⟨y433,hy433⟩:∃ y_:List Int,y_=(([(-1),100,8]:List Int)):=⟨_,rfl⟩
     replace H:((ji.f k s0_0 t420 y433).bind fun bt436=>(if 0≤t417 then (if t417<(t413.length:Int) then (some (t405,(t413.set (t417:Int).toNat (⟨(jc t413 t417).f0,(jc t413 t417).f1,bt436.1,(jc t413 t417).f3⟩:S52)),bt436.2)) else (none)) else (none)))=some (r1,r2,r3):=by first |(rw [hy433];with_reducible exact H) |(have H2_:=(Option.bind_some _ _).symm.trans H;rw [hy433];with_reducible exact H2_) |(have H2_:=(Option.bind_some _ _).symm.trans H;with_reducible exact H2_) | with_reducible exact H |(rw [hy433];exact H) | exact H
     have Ny433:=am hy433
     clear hy433
     replace H:=bzS H
     obtain ⟨⟨t436,t437⟩,A690,H⟩:=H
     replace H:(if 0≤t417 then (if t417<(t413.length:Int) then (some (t405,(t413.set (t417:Int).toNat (⟨(jc t413 t417).f0,(jc t413 t417).f1,t436,(jc t413 t417).f3⟩:S52)),t437)) else (none)) else (none))=some (r1,r2,r3):=H
     have A69:=am A690
     clear A690
     by_cases c70:0≤t417
     ·rw [if_pos c70] at H
      have c70b0:decide (0≤t417)=true:=dzT c70
      clear c70
      by_cases c71:t417<(t413.length:Int)
      ·rw [if_pos c71] at H
       have c71b0:decide (t417<(t413.length:Int))=true:=dzT c71
       clear c71
       obtain ⟨y438,hy438⟩:∃ y_:List (S52),y_=(t413.set (t417:Int).toNat (⟨(jc t413 t417).f0,(jc t413 t417).f1,t436,(jc t413 t417).f3⟩:S52)):=⟨_,rfl⟩
       replace H:(some (t405,y438,t437))=some (r1,r2,r3):=by first |(rw [hy438];with_reducible exact H) |(have H2_:=(Option.bind_some _ _).symm.trans H;rw [hy438];with_reducible exact H2_) |(have H2_:=(Option.bind_some _ _).symm.trans H;with_reducible exact H2_) | with_reducible exact H |(rw [hy438];exact H) | exact H
       have Ny438:=am hy438
       clear hy438
       simp only [Option.some.injEq,Prod.mk.injEq] at H
       obtain ⟨rfl,rfl,rfl⟩:=H
       go_enter Try.func90,Try.ntmps90
       go_wp2_with (first |((with_reducible refine jM (N:=2) rfl ?_);refine bE (N:=2) (cs:=#[.slice none 0 0]) (t:=32) ?_;intro gb404 hg w73 hbox hb;have BK404:=am (hbox);have GW404:=am ((Y12:w.heap.size≤gb404));have GE404:=am ((Nat.le_trans HW0.out (Y12:w.heap.size≤gb404):w0.heap.size≤gb404));have NB0_404:=am ((Y27:g≠gb404));have NB404_0:=am ((Y28:gb404≠g));replace HK:=am (jb.trans (Y17) (jb.of_below hb g none) (.inl rfl));replace HB:=am (je (Y18) hb);replace HI0:=am (jf.below (Y16) hb);clear hb hbox hg) |((with_reducible refine jd (f:=110) rfl ?_);refine gL (some 8) Try.func110 #[.pointer (some ⟨g,0,none⟩)] ?_;(with_reducible refine (jja.calls k g s0_0 s0_1 t405 t408 w0 _ ?side1 ?side2 A2.out).mono ?_);(case side1=>exact Y39);(case side2=>exact Y40);rintro e w74 ⟨v406,rfl,ho0,hi,hb,hk⟩;refine ⟨_,rfl,?_⟩;have HO407:=am (Kd.jQ ho0 (jJ (w:=w) (g:=g) (row:=none) (Y26)));replace BK404:=am (jb.blk hk (g':=gb404) (o:=.cells #[.slice none 0 0] 32 (0,0)) (kq BK404.out) NB404_0.out (by simp));replace HK:=am (jb.trans (Y26) hk (.inl rfl));replace HB:=am (hb);replace HI0:=am (hi);(try clear hb);(try clear hb2);(try clear hk);(try clear hi);(try clear ho0)) |((with_reducible refine jM (N:=4) rfl ?_);refine bE (N:=4) (cs:=#[.slice none 0 0]) (t:=32) ?_;intro gb409 hg w75 hbox hb;have BK409:=am (hbox);have GW409:=am ((Y41:w.heap.size≤gb409));have GE409:=am ((Nat.le_trans HW0.out (Y41:w.heap.size≤gb409):w0.heap.size≤gb409));have NB404_409:=am ((Y61:gb404≠gb409));have NB409_404:=am ((Y62:gb409≠gb404));have NB0_409:=am ((Y63:g≠gb409));have NB409_0:=am ((Y64:gb409≠g));replace HO407:=am (Kd.jT (rq HO407.out) hb);replace BK404:=am (jm (g:=gb404) (o:=.cells #[.slice none 0 0] 32 (0,0)) (kq BK404.out) hb);replace HK:=am (jb.trans (Y26) (jb.of_below hb g none) (.inl rfl));replace HB:=am (je (Y40) hb);replace HI0:=am (jf.below (Y39) hb);clear hb hbox hg;obtain ⟨Ao76,co76,eo76⟩:=Kd.jU HO407.out;subst eo76;have hnb77:=NB409_404.out;have hnc77:=NB404_409.out;have hnb78:=NB409_0.out;have hnc78:=NB0_409.out;have hcz79_0:=bc0 BK409.out;have hfz79_0:=ja BK409.out 0) |((with_reducible refine jd (f:=111) rfl ?_);refine gL (some 18) Try.func111 #[.pointer (some ⟨g,0,none⟩), .agg #[.slice Ao76 t405.length co76]] ?_;(with_reducible refine (jC.calls k g s0_0 t408 _ _ t405 t413 t416 w0 _ ?side1 ?side2 ?side3 ?side4 A15.out).mono ?_);(case side1=>exact Y2);(case side2=>exact Y15);(case side3=>exact Kd.jHc (jf.apart (show jf w0 _ g s0_0 t408 from Y2) (Y111) (by decide)) (fun _ h_=>h_.2));(case side4=>exact (Kd.jh HO407.out).2.1);rintro e w80 ⟨v414,rfl,ho0,hi,hb,hk⟩;refine ⟨_,rfl,?_⟩;have HO415:=am (Kd.jQ ho0 (jJ (w:=w) (g:=g) (row:=none) (Y11)));replace BK404:=am (jb.blk hk (g':=gb404) (o:=.cells #[.slice none 0 0] 32 (0,0)) (Y65) NB404_0.out (by simp));replace HO407:=am (Kd.jE (Kd.jxa (jf.apart (show jf w0 _ g s0_0 t408 from Y2) (Y111) (by decide)) hk (fun _ h=>h.2)) (fun _ h=>h.1));replace BK409:=am (jb.blk hk (g':=gb409) (o:=.cells #[.slice Ao76 t405.length co76] 32 (0,0)) (Y66) NB409_0.out (by simp));replace HK:=am (jb.trans (Y11) hk (.inl rfl));replace HB:=am (hb);replace HI0:=am (hi);(try clear hb);(try clear hb2);(try clear hk);(try clear hi);(try clear ho0);obtain ⟨Ao81,co81,eo81⟩:=Kd.jU HO415.out;subst eo81) |((with_reducible refine jd (f:=71) rfl ?_);refine gL (some 22) Try.func71 #[.pointer (some ⟨g,0,none⟩), .int .i64 (t413.length:Int)] ?_;(with_reducible refine (jg.calls k g s0_0 t416 (t413.length:Int) t417 t418 w0 _ ?side1 ?side2 A16.out).mono ?_);(case side1=>exact Y2);(case side2=>exact Y15);rintro e w82 ⟨rfl,hi,hb,hk⟩;refine ⟨_,rfl,?_⟩;replace BK404:=am (jb.blk hk (g':=gb404) (o:=.cells #[.slice none 0 0] 32 (0,0)) (kq BK404.out) NB404_0.out (by simp));replace HO407:=am (Kd.jE (Kd.jxa (jf.apart (show jf w0 _ g s0_0 t416 from Y2) (rq HO407.out) (by decide)) hk (fun _ h=>h.2)) (fun _ h=>h.1));replace BK409:=am (jb.blk hk (g':=gb409) (o:=.cells #[.slice Ao76 t405.length co76] 32 (0,0)) (kq BK409.out) NB409_0.out (by simp));replace HO415:=am (Kd.jE (Kd.jxa (jf.apart (show jf w0 _ g s0_0 t416 from Y2) (rq HO415.out) (by decide)) hk (fun _ h=>h.2)) (fun _ h=>h.1));replace HK:=am (jb.trans (Y11) hk (.inl rfl));replace HB:=am (hb);replace HI0:=am (hi);(try clear hb);(try clear hb2);(try clear hk);(try clear hi)) |((with_reducible refine jd (f:=71) rfl ?_);refine gL (some 24) Try.func71 #[.pointer (some ⟨g,0,none⟩), .int .i64 24] ?_;(with_reducible refine (jg.calls k g s0_0 t418 24 t419 t420 w0 _ ?side1 ?side2 A17.out).mono ?_);(case side1=>exact Y2);(case side2=>exact Y15);rintro e w83 ⟨rfl,hi,hb,hk⟩;refine ⟨_,rfl,?_⟩;replace BK404:=am (jb.blk hk (g':=gb404) (o:=.cells #[.slice none 0 0] 32 (0,0)) (kq BK404.out) NB404_0.out (by simp));replace HO407:=am (Kd.jE (Kd.jxa (jf.apart (show jf w0 _ g s0_0 t418 from Y2) (rq HO407.out) (by decide)) hk (fun _ h=>h.2)) (fun _ h=>h.1));replace BK409:=am (jb.blk hk (g':=gb409) (o:=.cells #[.slice Ao76 t405.length co76] 32 (0,0)) (kq BK409.out) NB409_0.out (by simp));replace HO415:=am (Kd.jE (Kd.jxa (jf.apart (show jf w0 _ g s0_0 t418 from Y2) (rq HO415.out) (by decide)) hk (fun _ h=>h.2)) (fun _ h=>h.1));replace HK:=am (jb.trans (Y11) hk (.inl rfl));replace HB:=am (hb);replace HI0:=am (hi);(try clear hb);(try clear hb2);(try clear hk);(try clear hi)) |((with_reducible refine jM (N:=48) rfl ?_);refine Kd.jbc (Kd.int .i64) _ 3 ?hg (N:=48) ?hd (xs:=([(-1),100,8]:List Int)) (inner:=[.int .i64 (-1), .int .i64 100, .int .i64 8]) (ok:=fun _=>True) (okp:=fun _=>True) ?hr ?hp (fun _ hk=>hk) trivial (Below.refl _ _) (Nat.le_refl _) (by simp) ?_;(case hd=>rfl);(case hg=>rfl);(case hr=>exact Y7);(case hp=>exact (Reps.one (show Kd.M (Kd.int .i64) _ _ _ (-1) [.int .i64 (-1)] from rfl) (Reps.one (show Kd.M (Kd.int .i64) _ _ _ 100 [.int .i64 100] from rfl) (Reps.one (show Kd.M (Kd.int .i64) _ _ _ 8 [.int .i64 8] from rfl) (Reps.none _ _)))));intro v434 w84 ho85 hb hg_ hnew_;clear hg_ hnew_;(first | rw [← Ny433.out] at ho85 |(simp only [Int.reduceToNat] at ho85;rw [← Ny433.out] at ho85));have HO435:=am (Kd.jQ ho85 (jJ (w:=w) (g:=g) (row:=none) (Y11)));replace HO407:=am (Kd.jT (rq HO407.out) hb);replace HO415:=am (Kd.jT (rq HO415.out) hb);replace BK404:=am (jm (g:=gb404) (o:=.cells #[.slice none 0 0] 32 (0,0)) (kq BK404.out) hb);replace BK409:=am (jm (g:=gb409) (o:=.cells #[.slice Ao76 t405.length co76] 32 (0,0)) (kq BK409.out) hb);replace HK:=am (jb.trans (Y11) (jb.of_below hb g none) (.inl rfl));replace HB:=am (je (Y15) hb);replace HI0:=am (jf.below (Y2) hb);clear hb ho85;obtain ⟨Ao86,co86,eo86⟩:=Kd.jU HO435.out;subst eo86) |((with_reducible refine jd (f:=91) rfl ?_);refine gL (some 49) Try.func91 #[.pointer (some ⟨g,0,none⟩), .slice Ao86 y433.length co86] ?_;(with_reducible refine (ji.calls k g s0_0 t420 _ _ y433 t436 t437 w0 _ ?side1 ?side2 ?side3 ?side4 ?side5 A69.out).mono ?_);(case side1=>exact Y2);(case side2=>exact Y15);(case side3=>exact cq (Kd.jh HO435.out).2.2);(case side4=>exact (Kd.jh HO435.out).2.1);(case side5=>exact jzb (jf.own_ne HI0.out HO435.out (by decide)));rintro e w87 ⟨rfl,hi,hb,hk⟩;refine ⟨_,rfl,?_⟩;replace BK404:=am (jb.blk hk (g':=gb404) (o:=.cells #[.slice none 0 0] 32 (0,0)) (kq BK404.out) NB404_0.out (by simp));replace HO407:=am (Kd.jE (Kd.jxa (jf.apart (show jf w0 _ g s0_0 t420 from Y2) (rq HO407.out) (by decide)) hk (fun _ h=>h.2)) (fun _ h=>h.1));replace BK409:=am (jb.blk hk (g':=gb409) (o:=.cells #[.slice Ao76 t405.length co76] 32 (0,0)) (kq BK409.out) NB409_0.out (by simp));replace HO415:=am (Kd.jE (Kd.jxa (jf.apart (show jf w0 _ g s0_0 t420 from Y2) (rq HO415.out) (by decide)) hk (fun _ h=>h.2)) (fun _ h=>h.1));replace HO435:=am (Kd.jE (Kd.jxa (jf.apart (show jf w0 _ g s0_0 t420 from Y2) (rq HO435.out) (by decide)) hk (fun _ h=>h.2)) (fun _ h=>h.1));replace HK:=am (jb.trans (Y11) hk (.inl rfl));replace HB:=am (hb);replace HI0:=am (hi);(try clear hb);(try clear hb2);(try clear hk);(try clear hi);have p72:0≤(t417:Int):=ozD (uq);have q72:(t417:Int)<((t413.length:Int):Int):=ozD (uq);obtain ⟨go72,co72,eo72,gb72,gl72,cl72,HG72⟩:=Kd.R_form HO415.out (by omega);(first | cases eo72 |(injection eo72 with ea_ en_ ec_;(first | subst ea_ |(injection ea_ with ea_;subst ea_));subst ec_;clear en_));have GB72:=am gb72;have GG72:=am HG72;clear gb72 gl72 HG72;obtain ⟨ce72,hcl72,hM72,hcc72,hfr72⟩:=Kd.R_elem HO415.out z52 (t417:Int) p72 q72;obtain rfl:=jEc hM72;have hx72_0:w87.cell? ⟨go72,(t417:Int).toNat * 4,none⟩=some (.int .i64 ((jc t413 t417).f0)):=hcc72 0 _ rfl;have hx72_1:w87.cell? ⟨go72,(t417:Int).toNat * 4+1,none⟩=some (.int .i64 ((jc t413 t417).f1)):=hcc72 1 _ rfl;have hx72_2:w87.cell? ⟨go72,(t417:Int).toNat * 4+2,none⟩=some (.int .i64 ((jc t413 t417).f2)):=hcc72 2 _ rfl;have hx72_3:w87.cell? ⟨go72,(t417:Int).toNat * 4+3,none⟩=some (.int .i64 ((jc t413 t417).f3)):=hcc72 3 _ rfl;have hf72_0:w87.frozen? ⟨go72,(t417:Int).toNat * 4,none⟩=false:=hfr72 0;have hf72_1:w87.frozen? ⟨go72,(t417:Int).toNat * 4+1,none⟩=false:=hfr72 1;have hf72_2:w87.frozen? ⟨go72,(t417:Int).toNat * 4+2,none⟩=false:=hfr72 2;have hf72_3:w87.frozen? ⟨go72,(t417:Int).toNat * 4+3,none⟩=false:=hfr72 3;clear hcl72 hcc72 hfr72 hM72;replace p72:=ezT p72;replace q72:=ezT q72;have HX88:=am (show Kd.R k52 52 w87 w.heap.size (fun _=>True) (.slice (some ⟨go72,0,none⟩) t413.length co81) t413 from (rq HO415.out));obtain ⟨ce88,hcl88,hM88,hcc88,hfr88⟩:=Kd.R_elem HX88.out z52 (t417:Int) (ozD (uq)) (by have h_:(t417:Int)<((t413.length:Int):Int):=ozD (uq);first | exact h_ |(have e_:=(Kd.jh HO415.out).1;omega) | simpa using h_);obtain rfl:=jEc hM88;have HP88:=Kd.R_seg HX88.out (t417:Int) (ozD (uq)) (by have h_:(t417:Int)<((t413.length:Int):Int):=ozD (uq);first | exact h_ |(have e_:=(Kd.jh HO415.out).1;omega) | simpa using h_) (seg:=[.int .i64 t436]) (j:=2) hcl88 hcc88 (show 3≤4 from by decide) (x':=(⟨(jc t413 t417).f0,(jc t413 t417).f1,t436,(jc t413 t417).f3⟩:S52)) (jEb _ _ _ (⟨(jc t413 t417).f0,(jc t413 t417).f1,t436,(jc t413 t417).f3⟩:S52) ) (fun _ hk=>hk);have hx88_2:=hcc88 2 _ rfl;(try simp only [show (k52).sz=4 from rfl,Nat.mul_one,Nat.add_zero] at hx88_2);have hf88_2:=hfr88 2;(try simp only [show (k52).sz=4 from rfl,Nat.mul_one,Nat.add_zero] at hf88_2);clear hcl88 hcc88 hfr88 hM88) |((with_reducible refine gate_store (t:=3) (p:=51) rfl ?_);refine store_event (t:=3) (p:=51) (v:=?vo_w89) (w1:=(w87.setCell ⟨go72,(t417:Int).toNat * 4+2,none⟩ (.int .i64 t436))) ?hg ?ho ?hn ?hr ?_;(case ho=>rfl);(case hg=>rfl);(case hn=>rfl);(case hr=>exact Y7);intro w89 hw;have hg:w87.grownBy w89 (some go72):=(by rw [hw];exact HP88.2);have hp_:Kd.R k52 52 w89 w.heap.size (fun _=>True) (.slice (some ⟨go72,0,none⟩) t413.length co81) y438:=(by rw [hw,Ny438.out];exact HP88.1);clear HP88;replace HI0:=am (jf.grown (Y2) hg (jf.own_ne HI0.out HO415.out (by decide)));replace BK404:=am (jbb (g:=gb404) (o:=.cells #[.slice none 0 0] 32 (0,0)) (kq BK404.out) hg (Kd.R_ne HO415.out BK404.out (by decide)));replace HO407:=am (Kd.juc (v:=(.slice (some ⟨go72,0,none⟩) t413.length co81)) (rq HO407.out) (Kd.jtc HO415.out) (by decide) hg);replace BK409:=am (jbb (g:=gb409) (o:=.cells #[.slice Ao76 t405.length co76] 32 (0,0)) (kq BK409.out) hg (Kd.R_ne HO415.out BK409.out (by decide)));replace HO435:=am (Kd.juc (v:=(.slice (some ⟨go72,0,none⟩) t413.length co81)) (rq HO435.out) (Kd.jtc HO415.out) (by decide) hg);replace HB:=am ((by rw [hw];exact jP (HB.out) (Nat.le_trans HL.out GB72.out):Below w0.heap.size w0 w89));replace HK:=am (jb.trans (Y11) (jb.jBb hg g) (Kd.jXb HO415.out));replace HO415:=am (hp_);clear hg hw hp_;have hcz90_0:=bc0 BK409.out;have hfz90_0:=ja BK409.out 0;have hnb91:=NB404_0.out;have hnc91:=NB0_404.out;have hcz92_0:=bc0 BK404.out;have hfz92_0:=ja BK404.out 0))
       refine bodyPost_ret (joc rfl _ _ gb404 32 #[.slice Ao76 t405.length co76] (0,0) _ rfl (Y67) Try.underlying32 rfl (by kernel_rfl)) rfl ?_
       exact ⟨_,_,Y0,by (with_reducible repeat (first | apply Kd.jY | apply Kd.jX | apply Kd.jia));exact Kd.jE (Kd.jLb (p:=⟨gb404,0,none⟩) (Kd.jPa HO407.out BK404.out (by decide)) (fun _ hk=>hk.2) (.slice Ao76 t405.length co76)) (fun _ hk=>trivial),Kd.Q_of_R (by (with_reducible repeat (first | apply Kd.jY | apply Kd.jX | apply Kd.jia));exact Kd.jE (Kd.jLb (p:=⟨gb404,0,none⟩) (Kd.jPa HO415.out BK404.out (by decide)) (fun _ hk=>hk.2) (.slice Ao76 t405.length co76)) (fun _ hk=>trivial)),Y2,Y15,Y11⟩
      ·rw [if_neg c71] at H
       exact absurd H (by simp)
     ·rw [if_neg c70] at H
      exact absurd H (by simp)
    ·rw [if_neg c68] at H
     have c68b0:(t419 == 2)=false:=beq_eq_false_iff_ne.mpr c68
     have c68b1:(t419 != 2)=true:=bne_iff_ne.mpr c68
     by_cases c93:t419=3
     ·rw [if_pos c93] at H
      have c93b0:(t419 == 3)=true:=beq_iff_eq.mpr c93
      have c93b1:(t419 != 3)=false:=bne_eq_false_iff_eq.mpr c93
      clear c93
      by_cases c94:1≤(t413.length:Int)
      ·rw [if_pos c94] at H
       have c94b0:=ezT c94
       have c94b1:decide (1≤(t413.length:Int))=true:=dzT c94
       clear c94
       obtain ⟨y439,hy439⟩:∃ y_:List (S52),y_=(t413.drop (1:Int).toNat):=⟨_,rfl⟩
       replace H:(some (t405,y439,t420))=some (r1,r2,r3):=by first |(rw [hy439];with_reducible exact H) |(have H2_:=(Option.bind_some _ _).symm.trans H;rw [hy439];with_reducible exact H2_) |(have H2_:=(Option.bind_some _ _).symm.trans H;with_reducible exact H2_) | with_reducible exact H |(rw [hy439];exact H) | exact H
       have Ny439:=am hy439
       clear hy439
       simp only [Option.some.injEq,Prod.mk.injEq] at H
       obtain ⟨rfl,rfl,rfl⟩:=H
       go_enter Try.func90,Try.ntmps90
       go_wp2_with (first |((with_reducible refine jM (N:=2) rfl ?_);refine bE (N:=2) (cs:=#[.slice none 0 0]) (t:=32) ?_;intro gb404 hg w95 hbox hb;have BK404:=am (hbox);have GW404:=am ((Y12:w.heap.size≤gb404));have GE404:=am ((Nat.le_trans HW0.out (Y12:w.heap.size≤gb404):w0.heap.size≤gb404));have NB0_404:=am ((Y27:g≠gb404));have NB404_0:=am ((Y28:gb404≠g));replace HK:=am (jb.trans (Y17) (jb.of_below hb g none) (.inl rfl));replace HB:=am (je (Y18) hb);replace HI0:=am (jf.below (Y16) hb);clear hb hbox hg) |((with_reducible refine jd (f:=110) rfl ?_);refine gL (some 8) Try.func110 #[.pointer (some ⟨g,0,none⟩)] ?_;(with_reducible refine (jja.calls k g s0_0 s0_1 t405 t408 w0 _ ?side1 ?side2 A2.out).mono ?_);(case side1=>exact Y39);(case side2=>exact Y40);rintro e w96 ⟨v406,rfl,ho0,hi,hb,hk⟩;refine ⟨_,rfl,?_⟩;have HO407:=am (Kd.jQ ho0 (jJ (w:=w) (g:=g) (row:=none) (Y26)));replace BK404:=am (jb.blk hk (g':=gb404) (o:=.cells #[.slice none 0 0] 32 (0,0)) (kq BK404.out) NB404_0.out (by simp));replace HK:=am (jb.trans (Y26) hk (.inl rfl));replace HB:=am (hb);replace HI0:=am (hi);(try clear hb);(try clear hb2);(try clear hk);(try clear hi);(try clear ho0)) |((with_reducible refine jM (N:=4) rfl ?_);refine bE (N:=4) (cs:=#[.slice none 0 0]) (t:=32) ?_;intro gb409 hg w97 hbox hb;have BK409:=am (hbox);have GW409:=am ((Y41:w.heap.size≤gb409));have GE409:=am ((Nat.le_trans HW0.out (Y41:w.heap.size≤gb409):w0.heap.size≤gb409));have NB404_409:=am ((Y61:gb404≠gb409));have NB409_404:=am ((Y62:gb409≠gb404));have NB0_409:=am ((Y63:g≠gb409));have NB409_0:=am ((Y64:gb409≠g));replace HO407:=am (Kd.jT (rq HO407.out) hb);replace BK404:=am (jm (g:=gb404) (o:=.cells #[.slice none 0 0] 32 (0,0)) (kq BK404.out) hb);replace HK:=am (jb.trans (Y26) (jb.of_below hb g none) (.inl rfl));replace HB:=am (je (Y40) hb);replace HI0:=am (jf.below (Y39) hb);clear hb hbox hg;obtain ⟨Ao98,co98,eo98⟩:=Kd.jU HO407.out;subst eo98;have hnb99:=NB409_404.out;have hnc99:=NB404_409.out;have hnb100:=NB409_0.out;have hnc100:=NB0_409.out;have hcz101_0:=bc0 BK409.out;have hfz101_0:=ja BK409.out 0) |((with_reducible refine jd (f:=111) rfl ?_);refine gL (some 18) Try.func111 #[.pointer (some ⟨g,0,none⟩), .agg #[.slice Ao98 t405.length co98]] ?_;(with_reducible refine (jC.calls k g s0_0 t408 _ _ t405 t413 t416 w0 _ ?side1 ?side2 ?side3 ?side4 A15.out).mono ?_);(case side1=>exact Y2);(case side2=>exact Y15);(case side3=>exact Kd.jHc (jf.apart (show jf w0 _ g s0_0 t408 from Y2) (Y112) (by decide)) (fun _ h_=>h_.2));(case side4=>exact (Kd.jh HO407.out).2.1);rintro e w102 ⟨v414,rfl,ho0,hi,hb,hk⟩;refine ⟨_,rfl,?_⟩;have HO415:=am (Kd.jQ ho0 (jJ (w:=w) (g:=g) (row:=none) (Y11)));replace BK404:=am (jb.blk hk (g':=gb404) (o:=.cells #[.slice none 0 0] 32 (0,0)) (Y65) NB404_0.out (by simp));replace HO407:=am (Kd.jE (Kd.jxa (jf.apart (show jf w0 _ g s0_0 t408 from Y2) (Y112) (by decide)) hk (fun _ h=>h.2)) (fun _ h=>h.1));replace BK409:=am (jb.blk hk (g':=gb409) (o:=.cells #[.slice Ao98 t405.length co98] 32 (0,0)) (Y66) NB409_0.out (by simp));replace HK:=am (jb.trans (Y11) hk (.inl rfl));replace HB:=am (hb);replace HI0:=am (hi);(try clear hb);(try clear hb2);(try clear hk);(try clear hi);(try clear ho0);obtain ⟨Ao103,co103,eo103⟩:=Kd.jU HO415.out;subst eo103) |((with_reducible refine jd (f:=71) rfl ?_);refine gL (some 22) Try.func71 #[.pointer (some ⟨g,0,none⟩), .int .i64 (t413.length:Int)] ?_;(with_reducible refine (jg.calls k g s0_0 t416 (t413.length:Int) t417 t418 w0 _ ?side1 ?side2 A16.out).mono ?_);(case side1=>exact Y2);(case side2=>exact Y15);rintro e w104 ⟨rfl,hi,hb,hk⟩;refine ⟨_,rfl,?_⟩;replace BK404:=am (jb.blk hk (g':=gb404) (o:=.cells #[.slice none 0 0] 32 (0,0)) (kq BK404.out) NB404_0.out (by simp));replace HO407:=am (Kd.jE (Kd.jxa (jf.apart (show jf w0 _ g s0_0 t416 from Y2) (rq HO407.out) (by decide)) hk (fun _ h=>h.2)) (fun _ h=>h.1));replace BK409:=am (jb.blk hk (g':=gb409) (o:=.cells #[.slice Ao98 t405.length co98] 32 (0,0)) (kq BK409.out) NB409_0.out (by simp));replace HO415:=am (Kd.jE (Kd.jxa (jf.apart (show jf w0 _ g s0_0 t416 from Y2) (rq HO415.out) (by decide)) hk (fun _ h=>h.2)) (fun _ h=>h.1));replace HK:=am (jb.trans (Y11) hk (.inl rfl));replace HB:=am (hb);replace HI0:=am (hi);(try clear hb);(try clear hb2);(try clear hk);(try clear hi)) |((with_reducible refine jd (f:=71) rfl ?_);refine gL (some 24) Try.func71 #[.pointer (some ⟨g,0,none⟩), .int .i64 24] ?_;(with_reducible refine (jg.calls k g s0_0 t418 24 t419 t420 w0 _ ?side1 ?side2 A17.out).mono ?_);(case side1=>exact Y2);(case side2=>exact Y15);rintro e w105 ⟨rfl,hi,hb,hk⟩;refine ⟨_,rfl,?_⟩;replace BK404:=am (jb.blk hk (g':=gb404) (o:=.cells #[.slice none 0 0] 32 (0,0)) (kq BK404.out) NB404_0.out (by simp));replace HO407:=am (Kd.jE (Kd.jxa (jf.apart (show jf w0 _ g s0_0 t418 from Y2) (rq HO407.out) (by decide)) hk (fun _ h=>h.2)) (fun _ h=>h.1));replace BK409:=am (jb.blk hk (g':=gb409) (o:=.cells #[.slice Ao98 t405.length co98] 32 (0,0)) (kq BK409.out) NB409_0.out (by simp));replace HO415:=am (Kd.jE (Kd.jxa (jf.apart (show jf w0 _ g s0_0 t418 from Y2) (rq HO415.out) (by decide)) hk (fun _ h=>h.2)) (fun _ h=>h.1));replace HK:=am (jb.trans (Y11) hk (.inl rfl));replace HB:=am (hb);replace HI0:=am (hi);(try clear hb);(try clear hb2);(try clear hk);(try clear hi);have q106:(1:Int)≤((t413.length:Int):Int):=ozD (uq);obtain ⟨i0106,hi0106,_,hsz106,_⟩:=info_parts jyc;have hcut106:=cut_from (P:=Try.prog) 34 52 .i64 Try.underlying34 hi0106 4 hsz106 Ao103 t413.length co103 1 (by omega) q106;have hr106:=Kd.Q_drop (k:=(1:Int).toNat) (Kd.Q_of_R HO415.out) (by omega);obtain ⟨A106,hA106⟩:∃ A1,A1=(if co103=(1:Int).toNat then Ao103 else (Ao103:Option Addr).map (·.add ((1:Int).toNat * 4))):=⟨_,rfl⟩;obtain ⟨c106,hc106⟩:∃ c1,c1=co103 - (1:Int).toNat:=⟨_,rfl⟩;have hy106:y439.length=t413.length - (1:Int).toNat:=(by rw [Ny439.out,List.length_drop]);rw [← Ny439.out] at hr106;rw [← hy106,← hA106,← hc106] at hcut106;replace hr106:Kd.Q k52 52 w105 w.heap.size (fun _=>True) (.slice A106 y439.length c106) y439:=(by rw [hA106,hc106,hy106];exact hr106);have HE106:jq ((Value.slice A106 y439.length c106).ownBlock=(.slice Ao103 t413.length co103:Value).ownBlock):=⟨by rw [hA106];split <;> (cases (Ao103:Option Addr) <;> rfl)⟩;clear hy106 hi0106 hsz106 HO415 hA106 hc106;have HO441:=am hr106;clear hr106;replace q106:=ezT q106;have hcz107_0:=bc0 BK409.out;have hfz107_0:=ja BK409.out 0;have hnb108:=NB404_0.out;have hnc108:=NB0_404.out;have hcz109_0:=bc0 BK404.out;have hfz109_0:=ja BK404.out 0))
       refine bodyPost_ret (joc rfl _ _ gb404 32 #[.slice Ao98 t405.length co98] (0,0) _ rfl (Y67) Try.underlying32 rfl (by kernel_rfl)) rfl ?_
       exact ⟨_,_,Y0,by (with_reducible repeat (first | apply Kd.jY | apply Kd.jX | apply Kd.jia));exact Kd.jE (Kd.jLb (p:=⟨gb404,0,none⟩) (Kd.jPa HO407.out BK404.out (by decide)) (fun _ hk=>hk.2) (.slice Ao98 t405.length co98)) (fun _ hk=>trivial),by (with_reducible repeat (first | apply Kd.jJb | apply Kd.jIb | apply Kd.jYb));exact Kd.jGc (Kd.Q_far (p:=⟨gb404,0,none⟩) (Kd.Q_types HO441.out BK404.out (by decide)) (fun _ hk=>hk.2) (.slice Ao98 t405.length co98)) (fun _ hk=>trivial),Y2,Y15,Y11⟩
      ·rw [if_neg c94] at H
       exact absurd H (by simp)
     ·rw [if_neg c93] at H
      have c93b0:(t419 == 3)=false:=beq_eq_false_iff_ne.mpr c93
      have c93b1:(t419 != 3)=true:=bne_iff_ne.mpr c93
      simp only [Option.some.injEq,Prod.mk.injEq] at H
      obtain ⟨rfl,rfl,rfl⟩:=H
      go_enter Try.func90,Try.ntmps90
      go_wp2_with (first |((with_reducible refine jM (N:=2) rfl ?_);refine bE (N:=2) (cs:=#[.slice none 0 0]) (t:=32) ?_;intro gb404 hg w110 hbox hb;have BK404:=am (hbox);have GW404:=am ((Y12:w.heap.size≤gb404));have GE404:=am ((Nat.le_trans HW0.out (Y12:w.heap.size≤gb404):w0.heap.size≤gb404));have NB0_404:=am ((Y27:g≠gb404));have NB404_0:=am ((Y28:gb404≠g));replace HK:=am (jb.trans (Y17) (jb.of_below hb g none) (.inl rfl));replace HB:=am (je (Y18) hb);replace HI0:=am (jf.below (Y16) hb);clear hb hbox hg) |((with_reducible refine jd (f:=110) rfl ?_);refine gL (some 8) Try.func110 #[.pointer (some ⟨g,0,none⟩)] ?_;(with_reducible refine (jja.calls k g s0_0 s0_1 t405 t408 w0 _ ?side1 ?side2 A2.out).mono ?_);(case side1=>exact Y39);(case side2=>exact Y40);rintro e w111 ⟨v406,rfl,ho0,hi,hb,hk⟩;refine ⟨_,rfl,?_⟩;have HO407:=am (Kd.jQ ho0 (jJ (w:=w) (g:=g) (row:=none) (Y26)));replace BK404:=am (jb.blk hk (g':=gb404) (o:=.cells #[.slice none 0 0] 32 (0,0)) (kq BK404.out) NB404_0.out (by simp));replace HK:=am (jb.trans (Y26) hk (.inl rfl));replace HB:=am (hb);replace HI0:=am (hi);(try clear hb);(try clear hb2);(try clear hk);(try clear hi);(try clear ho0)) |((with_reducible refine jM (N:=4) rfl ?_);refine bE (N:=4) (cs:=#[.slice none 0 0]) (t:=32) ?_;intro gb409 hg w112 hbox hb;have BK409:=am (hbox);have GW409:=am ((Y41:w.heap.size≤gb409));have GE409:=am ((Nat.le_trans HW0.out (Y41:w.heap.size≤gb409):w0.heap.size≤gb409));have NB404_409:=am ((Y61:gb404≠gb409));have NB409_404:=am ((Y62:gb409≠gb404));have NB0_409:=am ((Y63:g≠gb409));have NB409_0:=am ((Y64:gb409≠g));replace HO407:=am (Kd.jT (rq HO407.out) hb);replace BK404:=am (jm (g:=gb404) (o:=.cells #[.slice none 0 0] 32 (0,0)) (kq BK404.out) hb);replace HK:=am (jb.trans (Y26) (jb.of_below hb g none) (.inl rfl));replace HB:=am (je (Y40) hb);replace HI0:=am (jf.below (Y39) hb);clear hb hbox hg;obtain ⟨Ao113,co113,eo113⟩:=Kd.jU HO407.out;subst eo113;have hnb114:=NB409_404.out;have hnc114:=NB404_409.out;have hnb115:=NB409_0.out;have hnc115:=NB0_409.out;have hcz116_0:=bc0 BK409.out;have hfz116_0:=ja BK409.out 0) |((with_reducible refine jd (f:=111) rfl ?_);refine gL (some 18) Try.func111 #[.pointer (some ⟨g,0,none⟩), .agg #[.slice Ao113 t405.length co113]] ?_;(with_reducible refine (jC.calls k g s0_0 t408 _ _ t405 t413 t416 w0 _ ?side1 ?side2 ?side3 ?side4 A15.out).mono ?_);(case side1=>exact Y2);(case side2=>exact Y15);(case side3=>exact Kd.jHc (jf.apart (show jf w0 _ g s0_0 t408 from Y2) (Y113) (by decide)) (fun _ h_=>h_.2));(case side4=>exact (Kd.jh HO407.out).2.1);rintro e w117 ⟨v414,rfl,ho0,hi,hb,hk⟩;refine ⟨_,rfl,?_⟩;have HO415:=am (Kd.jQ ho0 (jJ (w:=w) (g:=g) (row:=none) (Y11)));replace BK404:=am (jb.blk hk (g':=gb404) (o:=.cells #[.slice none 0 0] 32 (0,0)) (Y65) NB404_0.out (by simp));replace HO407:=am (Kd.jE (Kd.jxa (jf.apart (show jf w0 _ g s0_0 t408 from Y2) (Y113) (by decide)) hk (fun _ h=>h.2)) (fun _ h=>h.1));replace BK409:=am (jb.blk hk (g':=gb409) (o:=.cells #[.slice Ao113 t405.length co113] 32 (0,0)) (Y66) NB409_0.out (by simp));replace HK:=am (jb.trans (Y11) hk (.inl rfl));replace HB:=am (hb);replace HI0:=am (hi);(try clear hb);(try clear hb2);(try clear hk);(try clear hi);(try clear ho0);obtain ⟨Ao118,co118,eo118⟩:=Kd.jU HO415.out;subst eo118) |((with_reducible refine jd (f:=71) rfl ?_);refine gL (some 22) Try.func71 #[.pointer (some ⟨g,0,none⟩), .int .i64 (t413.length:Int)] ?_;(with_reducible refine (jg.calls k g s0_0 t416 (t413.length:Int) t417 t418 w0 _ ?side1 ?side2 A16.out).mono ?_);(case side1=>exact Y2);(case side2=>exact Y15);rintro e w119 ⟨rfl,hi,hb,hk⟩;refine ⟨_,rfl,?_⟩;replace BK404:=am (jb.blk hk (g':=gb404) (o:=.cells #[.slice none 0 0] 32 (0,0)) (kq BK404.out) NB404_0.out (by simp));replace HO407:=am (Kd.jE (Kd.jxa (jf.apart (show jf w0 _ g s0_0 t416 from Y2) (rq HO407.out) (by decide)) hk (fun _ h=>h.2)) (fun _ h=>h.1));replace BK409:=am (jb.blk hk (g':=gb409) (o:=.cells #[.slice Ao113 t405.length co113] 32 (0,0)) (kq BK409.out) NB409_0.out (by simp));replace HO415:=am (Kd.jE (Kd.jxa (jf.apart (show jf w0 _ g s0_0 t416 from Y2) (rq HO415.out) (by decide)) hk (fun _ h=>h.2)) (fun _ h=>h.1));replace HK:=am (jb.trans (Y11) hk (.inl rfl));replace HB:=am (hb);replace HI0:=am (hi);(try clear hb);(try clear hb2);(try clear hk);(try clear hi)) |((with_reducible refine jd (f:=71) rfl ?_);refine gL (some 24) Try.func71 #[.pointer (some ⟨g,0,none⟩), .int .i64 24] ?_;(with_reducible refine (jg.calls k g s0_0 t418 24 t419 t420 w0 _ ?side1 ?side2 A17.out).mono ?_);(case side1=>exact Y2);(case side2=>exact Y15);rintro e w120 ⟨rfl,hi,hb,hk⟩;refine ⟨_,rfl,?_⟩;replace BK404:=am (jb.blk hk (g':=gb404) (o:=.cells #[.slice none 0 0] 32 (0,0)) (kq BK404.out) NB404_0.out (by simp));replace HO407:=am (Kd.jE (Kd.jxa (jf.apart (show jf w0 _ g s0_0 t418 from Y2) (rq HO407.out) (by decide)) hk (fun _ h=>h.2)) (fun _ h=>h.1));replace BK409:=am (jb.blk hk (g':=gb409) (o:=.cells #[.slice Ao113 t405.length co113] 32 (0,0)) (kq BK409.out) NB409_0.out (by simp));replace HO415:=am (Kd.jE (Kd.jxa (jf.apart (show jf w0 _ g s0_0 t418 from Y2) (rq HO415.out) (by decide)) hk (fun _ h=>h.2)) (fun _ h=>h.1));replace HK:=am (jb.trans (Y11) hk (.inl rfl));replace HB:=am (hb);replace HI0:=am (hi);(try clear hb);(try clear hb2);(try clear hk);(try clear hi);have hcz121_0:=bc0 BK409.out;have hfz121_0:=ja BK409.out 0;have hnb122:=NB404_0.out;have hnc122:=NB0_404.out;have hcz123_0:=bc0 BK404.out;have hfz123_0:=ja BK404.out 0))
      refine bodyPost_ret (joc rfl _ _ gb404 32 #[.slice Ao113 t405.length co113] (0,0) _ rfl (Y67) Try.underlying32 rfl (by kernel_rfl)) rfl ?_
      exact ⟨_,_,Y0,by (with_reducible repeat (first | apply Kd.jY | apply Kd.jX | apply Kd.jia));exact Kd.jE (Kd.jLb (p:=⟨gb404,0,none⟩) (Kd.jPa HO407.out BK404.out (by decide)) (fun _ hk=>hk.2) (.slice Ao113 t405.length co113)) (fun _ hk=>trivial),Kd.Q_of_R (by (with_reducible repeat (first | apply Kd.jY | apply Kd.jX | apply Kd.jia));exact Kd.jE (Kd.jLb (p:=⟨gb404,0,none⟩) (Kd.jPa HO415.out BK404.out (by decide)) (fun _ hk=>hk.2) (.slice Ao113 t405.length co113)) (fun _ hk=>trivial)),Y2,Y15,Y11⟩
def jEa.f (k : Nat) (s0_0 : List Int) (s0_1 : Int) : Option ((List (S87)) × (List (S52)) × Int × Int) := (jWa.f k s0_0 s0_1).bind fun bt443 => ((jg.f k s0_0 bt443.2.2 16).bind fun bt451 => (if bt451.1 = 0 then ((ji.f k s0_0 bt451.2 (([(-1), (bt443.2.1.length : Int), 24] : List Int))).bind fun bt456 => (some (bt443.1, bt443.2.1, bt456.1, bt456.2))) else ((jg.f k s0_0 bt451.2 (bt443.2.1.length : Int)).bind fun bt458 => (some (bt443.1, bt443.2.1, bt458.1, bt458.2)))))
def jEa.T3 : Bool × List (List Nat × List Nat) := (true, [([], []), ([], []), ([], []), ([], []), ([3], [3]), ([4], [4]), ([2, 5], [2, 5]), ([0, 6, 0], [0]), ([1, 7, 0, 1, 7], [1]), ([6, 8, 0, 1, 2, 3, 4, 5, 6, 7, 8], [6])])
def jEa.B3 : List Nat := [0, 0, 0, 0, 8, 24, 60, 125, 255, 511]
theorem jEa.tab3 : rtab .any (opsOf Try.f60 3) = jEa.T3 := by kernel_rfl
theorem jEa.bits3 : jrc jEa.T3.2 jEa.B3 = true := by kernel_rfl
def jEa.T4 : Bool × List (List Nat × List Nat) := (true, [([], []), ([], []), ([], []), ([], []), ([3], [3]), ([2, 4], [2, 4]), ([0, 5, 0], [0]), ([1, 6, 0, 1, 6], [1]), ([5, 7, 0, 1, 2, 3, 4, 5, 6, 7], [5])])
def jEa.B4 : List Nat := [0, 0, 0, 0, 8, 28, 61, 127, 255]
theorem jEa.tab4 : rtab .any (opsOf Try.f60 4) = jEa.T4 := by kernel_rfl
theorem jEa.bits4 : jrc jEa.T4.2 jEa.B4 = true := by kernel_rfl
set_option maxHeartbeats 8000000 in
set_option maxRecDepth 100000 in
theorem jEa.calls (k : Nat) (g : Nat) (s0_0 : List Int) (s0_1 : Int) (r1 : List (S87)) (r2 : List (S52)) (r3 : Int) (r4 : Int) (w0 w : World) (hI : jf w0 w g s0_0 s0_1) (hB : Below w0.heap.size w0 w) (h : jEa.f k s0_0 s0_1 = some (r1, r2, r3, r4)) :
  Calls Try.prog 60 #[.pointer (some ⟨g,0,none⟩)] w fun e w'=>∃ v0_ v1_:Value,e=.returned (.tuple #[.agg #[v0_],v1_, .int .i64 r3])∧Kd.R k87 87 w' w.heap.size (fun _=>True) v0_ r1∧Kd.Q k52 52 w' w.heap.size (fun _=>True) v1_ r2∧jf w0 w' g s0_0 r4∧Below w0.heap.size w0 w'∧jb w w' g none:=by
 have hu32:=Try.underlying32
 have HI0:=am hI
 have HK:=am (jb.refl w g none)
 have HL:=am hB.size
 clear hI
 have HW0:=am hB.size
 have HB:=am hB
 clear hB
 have H:((jWa.f k s0_0 s0_1).bind fun bt443=>((jg.f k s0_0 bt443.2.2 16).bind fun bt451=>(if bt451.1=0 then ((ji.f k s0_0 bt451.2 (([(-1),(bt443.2.1.length:Int),24]:List Int))).bind fun bt456=>(some (bt443.1,bt443.2.1,bt456.1,bt456.2))) else ((jg.f k s0_0 bt451.2 (bt443.2.1.length:Int)).bind fun bt458=>(some (bt443.1,bt443.2.1,bt458.1,bt458.2))))))=some (r1,r2,r3,r4):=h
 clear h
 replace H:=bzS H
 obtain ⟨⟨t443,t446,t449⟩,A20,H⟩:=H
 replace H:((jg.f k s0_0 t449 16).bind fun bt451=>(if bt451.1=0 then ((ji.f k s0_0 bt451.2 (([(-1),(t446.length:Int),24]:List Int))).bind fun bt456=>(some (t443,t446,bt456.1,bt456.2))) else ((jg.f k s0_0 bt451.2 (t446.length:Int)).bind fun bt458=>(some (t443,t446,bt458.1,bt458.2)))))=some (r1,r2,r3,r4):=H
 have A2:=am A20
 clear A20
 replace H:=bzS H
 obtain ⟨⟨t451,t452⟩,A30,H⟩:=H
 replace H:(if t451=0 then ((ji.f k s0_0 t452 (([(-1),(t446.length:Int),24]:List Int))).bind fun bt456=>(some (t443,t446,bt456.1,bt456.2))) else ((jg.f k s0_0 t452 (t446.length:Int)).bind fun bt458=>(some (t443,t446,bt458.1,bt458.2))))=some (r1,r2,r3,r4):=H
 have A3:=am A30
 clear A30
 by_cases c4:t451=0
 ·rw [if_pos c4] at H
  have c4b0:(t451 == 0)=true:=beq_iff_eq.mpr c4
  have c4b1:(t451 != 0)=false:=bne_eq_false_iff_eq.mpr c4
  clear c4
  obtain ⟨y453,hy453⟩:∃ y_:List Int,y_=(([(-1),(t446.length:Int),24]:List Int)):=⟨_,rfl⟩
  replace H:((ji.f k s0_0 t452 y453).bind fun bt456=>(some (t443,t446,bt456.1,bt456.2)))=some (r1,r2,r3,r4):=by first |(rw [hy453];with_reducible exact H) |(have H2_:=(Option.bind_some _ _).symm.trans H;rw [hy453];with_reducible exact H2_) |(have H2_:=(Option.bind_some _ _).symm.trans H;with_reducible exact H2_) | with_reducible exact H |(rw [hy453];exact H) | exact H
  have Ny453:=am hy453
  clear hy453
  replace H:=bzS H
  obtain ⟨⟨t456,t457⟩,A50,H⟩:=H
  replace H:(some (t443,t446,t456,t457))=some (r1,r2,r3,r4):=H
  have A5:=am A50
  clear A50
  simp only [Option.some.injEq,Prod.mk.injEq] at H
  obtain ⟨rfl,rfl,rfl,rfl⟩:=H
  go_enter Try.func60,Try.ntmps60
  try go_wp2_with (first |((with_reducible refine jM (N:=2) rfl ?_);refine bE (N:=2) (cs:=#[.slice none 0 0]) (t:=32) ?_;intro gb442 hg w6 hbox hb;have BK442:=am (hbox);have GW442:=am ((Y12:w.heap.size≤gb442));have GE442:=am ((Nat.le_trans HW0.out (Y12:w.heap.size≤gb442):w0.heap.size≤gb442));have NB0_442:=am ((Y27:g≠gb442));have NB442_0:=am ((Y28:gb442≠g));replace HK:=am (jb.trans (Y17) (jb.of_below hb g none) (.inl rfl));replace HB:=am (je (Y18) hb);replace HI0:=am (jf.below (Y16) hb);clear hb hbox hg) |((with_reducible refine jd (f:=90) rfl ?_);refine gL (some 9) Try.func90 #[.pointer (some ⟨g,0,none⟩)] ?_;(with_reducible refine (jWa.calls k g s0_0 s0_1 t443 t446 t449 w0 _ ?side1 ?side2 A2.out).mono ?_);(case side1=>exact Y87);(case side2=>exact Y88);rintro e w7 ⟨v444,v447,rfl,ho0,ho1,hi,hb,hk⟩;refine ⟨_,rfl,?_⟩;have HO445:=am (Kd.jQ ho0 (jJ (w:=w) (g:=g) (row:=none) (Y54)));have HO448:=am (Kd.Q_lower ho1 (jJ (w:=w) (g:=g) (row:=none) (Y54)));replace BK442:=am (jb.blk hk (g':=gb442) (o:=.cells #[.slice none 0 0] 32 (0,0)) (kq BK442.out) NB442_0.out (by simp));replace HK:=am (jb.trans (Y54) hk (.inl rfl));replace HB:=am (hb);replace HI0:=am (hi);(try clear hb);(try clear hb2);(try clear hk);(try clear hi);(try clear ho0);(try clear ho1)) |((with_reducible refine jM (N:=5) rfl ?_);refine bE (N:=5) (cs:=#[.slice none 0 0]) (t:=32) ?_;intro gb450 hg w8 hbox hb;have BK450:=am (hbox);have GW450:=am ((Y89:w.heap.size≤gb450));have GE450:=am ((Nat.le_trans HW0.out (Y89:w.heap.size≤gb450):w0.heap.size≤gb450));have NB442_450:=am ((by rw [hg];exact Nat.ne_of_lt (jDb (g:=gb442) (o:=.cells #[.slice none 0 0] 32 (0,0)) (kq BK442.out)):gb442≠gb450));have NB450_442:=am ((by rw [hg];exact Nat.ne_of_gt (jDb (g:=gb442) (o:=.cells #[.slice none 0 0] 32 (0,0)) (kq BK442.out)):gb450≠gb442));have NB0_450:=am ((Y114:g≠gb450));have NB450_0:=am ((Y115:gb450≠g));replace HO445:=am (Kd.jT (rq HO445.out) hb);replace HO448:=am (Kd.jcb (Y73) hb);replace BK442:=am (jm (g:=gb442) (o:=.cells #[.slice none 0 0] 32 (0,0)) (kq BK442.out) hb);replace HK:=am (jb.trans (Y54) (jb.of_below hb g none) (.inl rfl));replace HB:=am (je (Y88) hb);replace HI0:=am (jf.below (Y87) hb);clear hb hbox hg;obtain ⟨Ao9,co9,eo9⟩:=Kd.jU HO445.out;subst eo9;have hnb10:=NB450_442.out;have hnc10:=NB442_450.out;have hnb11:=NB450_0.out;have hnc11:=NB0_450.out;have hcz12_0:=bc0 BK450.out;have hfz12_0:=ja BK450.out 0) |((with_reducible refine jd (f:=71) rfl ?_);refine gL (some 13) Try.func71 #[.pointer (some ⟨g,0,none⟩), .int .i64 16] ?_;(with_reducible refine (jg.calls k g s0_0 t449 16 t451 t452 w0 _ ?side1 ?side2 A3.out).mono ?_);(case side1=>exact Y31);(case side2=>exact Y58);rintro e w13 ⟨rfl,hi,hb,hk⟩;refine ⟨_,rfl,?_⟩;replace BK442:=am (jb.blk hk (g':=gb442) (o:=.cells #[.slice none 0 0] 32 (0,0)) (Y116) NB442_0.out (by simp));replace HO445:=am (Kd.jE (Kd.jxa (jf.apart (show jf w0 _ g s0_0 t449 from Y31) (by (with_reducible repeat (first | apply Kd.jY | apply Kd.jX | apply Kd.jia));exact (Kd.jE (Kd.jLb (p:=⟨gb450,0,none⟩) (Kd.jPa HO445.out BK450.out (by decide)) (fun _ hk=>hk.2) (.slice Ao9 t443.length co9)) (fun _ h_=>h_.1))) (by decide)) hk (fun _ h=>h.2)) (fun _ h=>h.1));replace HO448:=am (Kd.jGc (Kd.Q_keep (jf.apartQ (show jf w0 _ g s0_0 t449 from Y31) (by (with_reducible repeat (first | apply Kd.jJb | apply Kd.jIb | apply Kd.jYb));exact (Kd.jGc (Kd.Q_far (p:=⟨gb450,0,none⟩) (Kd.Q_types HO448.out BK450.out (by decide)) (fun _ hk=>hk.2) (.slice Ao9 t443.length co9)) (fun _ h_=>h_.1))) (by decide)) hk (fun _ h=>h.2)) (fun _ h=>h.1));replace BK450:=am (jb.blk hk (g':=gb450) (o:=.cells #[.slice Ao9 t443.length co9] 32 (0,0)) (Y117) NB450_0.out (by simp));replace HK:=am (jb.trans (Y55) hk (.inl rfl));replace HB:=am (hb);replace HI0:=am (hi);(try clear hb);(try clear hb2);(try clear hk);(try clear hi)))
  replace HO445:=am (Kd.jia HO445.out)
  replace HO448:=am (Kd.jYb HO448.out)
  replace BK442:=am (jD BK442.out)
  replace BK450:=am (jD BK450.out)
  replace HI0:=am (jf.drew HI0.out)
  replace HK:=am (jMa HK.out)
  replace HB:=am (jS HB.out)
  obtain ⟨Ao15,co15,eo15,_⟩:=Kd.Q_slice HO448.out
  (first | subst eo15 |(injection eo15 with f1_ f2_ f3_;have f4_:=f1_.symm;have f5_:=f3_.symm;clear f1_ f2_ f3_;subst f4_;subst f5_))
  refine start_ (n:=10) (S:=fun w'=>w'.cell? ⟨gb450,0,none⟩=some (.slice Ao9 t443.length co9)) (ds:=[]) #[false,false,false,false,false,false,false,false,false,false] (by kernel_rfl) rfl rfl ((jK BK450.out 0).trans rfl) (fun hHeld=>?_);refine jqc jEa.tab3 jEa.bits3 (fun HT_ HW_=>?_)
  generalize w13.drew=w14 at HO445 HO448 BK442 BK450 HI0 HK HB hHeld ⊢
  refine pq (i:=1) (N:=some 16) #[false,true,false,false,false,false,false,false,false,false] ?_
  refine pq (i:=2) (N:=some 17) #[false,true,true,false,false,false,false,false,false,false] ?_
  refine pq (i:=3) (N:=some 18) #[false,true,true,true,false,false,false,false,false,false] ?_
  refine pq (i:=4) (N:=some 19) #[false,true,true,true,true,false,false,false,false,false] ?_
  refine take_ (i:=0) (N:=some 15) (v:=?_) (a':=?_) #[true,true,true,true,true,false,false,false,false,false] rfl rfl (jlc HT_.out HW_.out (by kernel_rfl)) (fun _ _ _ h=>h) (Or.inl ⟨by rfl,?_⟩) hHeld ?_ ?_
  rotate_left
  ·intro w' s0
   go_simp
   with_reducible rfl
  rotate_left
  ·exact sa
  refine one_ (i:=5) (N:=some 20) #[true,true,true,true,true,true,false,false,false,false] rfl rfl (jTb HT_.out (by kernel_rfl)) (by decide) (fun K hK=>?_)
  refine Kd.jdc (Kd.int .i64) _ 3 ?hg (N:=20) ?hd (xs:=([(-1),(t446.length:Int),24]:List Int)) (inner:=[.int .i64 (-1), .int .i64 (t446.length:Int), .int .i64 24]) (ok:=fun _=>True) (okp:=fun _=>True) ?hr ?hp (fun _ hk=>hk) trivial (Below.refl _ _) (Nat.le_refl _) (by simp) ?_;(case hd=>rfl);(case hg=>rfl);(case hr=>exact Y7);(case hp=>exact (Reps.one (show Kd.M (Kd.int .i64) _ _ _ (-1) [.int .i64 (-1)] from rfl) (Reps.one (show Kd.M (Kd.int .i64) _ _ _ (t446.length:Int) [.int .i64 (t446.length:Int)] from rfl) (Reps.one (show Kd.M (Kd.int .i64) _ _ _ 24 [.int .i64 24] from rfl) (Reps.none _ _)))))
  intro v454 w16 ho17 hb hg_ hnew_
  clear hg_ hnew_
  (first | rw [← Ny453.out] at ho17 |(simp only [Int.reduceToNat] at ho17;rw [← Ny453.out] at ho17))
  have HO455:=am (Kd.jQ ho17 (jJ (w:=w) (g:=g) (row:=none) (Y55)))
  replace HO445:=am (Kd.jT (rq HO445.out) hb)
  replace HO448:=am (Kd.jcb (Y73) hb)
  replace BK442:=am (jm (g:=gb442) (o:=.cells #[.slice none 0 0] 32 (0,0)) (kq BK442.out) hb)
  replace BK450:=am (jm (g:=gb450) (o:=.cells #[.slice Ao9 t443.length co9] 32 (0,0)) (kq BK450.out) hb)
  replace HK:=am (jb.trans (Y55) (jb.of_below hb g none) (.inl rfl))
  replace HB:=am (je (Y58) hb)
  replace HI0:=am (jf.below (Y31) hb)
  clear hb ho17
  obtain ⟨Ao18,co18,eo18⟩:=Kd.jU HO455.out
  (first | subst eo18 |(injection eo18 with f1_ f2_ f3_;have f4_:=f1_.symm;have f5_:=f3_.symm;clear f1_ f2_ f3_;subst f4_;subst f5_))
  refine hK.out _ _ ((jK BK450.out 0).trans rfl) (fun hHeld=>?_)
  clear hK K
  refine jjc (a':=?_) ?_ ?_
  rotate_left
  ·show Act.put _ (some 20) _=_
   simp only [Act.put,List.setIfInBounds_toArray,List.set_cons_zero,List.set_cons_succ,jhb,jpb]
   rfl
  refine one_ (i:=6) (N:=some 21) #[true,true,true,true,true,true,true,false,false,false] rfl rfl (jTb HT_.out (by kernel_rfl)) (by decide) (fun K hK=>?_)
  refine goes_ Try.func91 (by kernel_rfl) rfl #[.pointer (some ⟨g,0,none⟩), .slice Ao18 y453.length co18] (by rfl) rfl rfl (aq) ?_
  with_reducible refine (ji.calls k g s0_0 t452 _ _ y453 t456 t457 w0 _ ?side1 ?side2 ?side3 ?side4 ?side5 A5.out).mono ?_
  (case side1=>exact Y31)
  (case side2=>exact Y58)
  (case side3=>exact cq (Kd.jh HO455.out).2.2)
  (case side4=>exact (Kd.jh HO455.out).2.1)
  (case side5=>exact jzb (jf.own_ne HI0.out HO455.out (by decide)))
  rintro e w19 ⟨rfl,hi,hb,hk⟩
  refine ⟨_,rfl,?_⟩
  replace BK442:=am (jb.blk hk (g':=gb442) (o:=.cells #[.slice none 0 0] 32 (0,0)) (kq BK442.out) NB442_0.out (by simp))
  replace HO445:=am (Kd.jE (Kd.jxa (jf.apart (show jf w0 _ g s0_0 t452 from Y31) (rq HO445.out) (by decide)) hk (fun _ h=>h.2)) (fun _ h=>h.1))
  replace HO448:=am (Kd.jGc (Kd.Q_keep (jf.apartQ (show jf w0 _ g s0_0 t452 from Y31) (Y73) (by decide)) hk (fun _ h=>h.2)) (fun _ h=>h.1))
  replace BK450:=am (jb.blk hk (g':=gb450) (o:=.cells #[.slice Ao9 t443.length co9] 32 (0,0)) (kq BK450.out) NB450_0.out (by simp))
  replace HO455:=am (Kd.jE (Kd.jxa (jf.apart (show jf w0 _ g s0_0 t452 from Y31) (rq HO455.out) (by decide)) hk (fun _ h=>h.2)) (fun _ h=>h.1))
  replace HK:=am (jb.trans (Y55) hk (.inl rfl))
  replace HB:=am (hb)
  replace HI0:=am (hi)
  (try clear hb)
  (try clear hb2)
  (try clear hk)
  (try clear hi)
  refine hK.out _ _ ((jK BK450.out 0).trans rfl) (fun hHeld=>?_)
  clear hK K
  refine jjc (a':=?_) ?_ ?_
  rotate_left
  ·show Act.put _ (some 21) _=_
   simp only [Act.put,List.setIfInBounds_toArray,List.set_cons_zero,List.set_cons_succ,jhb,jpb]
   rfl
  refine one_ (i:=7) (N:=none) #[true,true,true,true,true,true,true,true,false,false] rfl rfl (jTb HT_.out (by kernel_rfl)) (by decide) (fun K hK=>?_)
  have hs20:w19.cell? ⟨gb442,0,none⟩=some (.slice none 0 0):=(jK BK442.out 0).trans rfl
  have hfs20:=ja BK442.out 0
  have hns20_1:=NB450_442.out
  have hms20_1:=NB442_450.out
  refine skip_ (w1:=?_) (by rfl) rfl ?_ ?_
  rotate_left
  ·go_simp
   rfl
  refine hK.out _ _ (((cell_far (p:=⟨gb442,_,none⟩) NB450_442.out _).trans (hHeld))) (fun hHeld=>?_)
  clear hK K
  refine pq (i:=8) (N:=some 3) #[true,true,true,true,true,true,true,true,true,false] ?_
  refine pq (i:=9) (N:=some 4) #[true,true,true,true,true,true,true,true,true,true] ?_
  refine done_ (done_of HT_.out (by kernel_rfl)) ?_
  try go_wp2
  refine bodyPost_ret (results_ctt rfl _ _ gb442 32 #[.slice Ao9 t443.length co9] (0,0) _ rfl (Y118) Try.underlying32 rfl (by kernel_rfl)) rfl ?_
  exact ⟨_,_,Y0,by (with_reducible repeat (first | apply Kd.jY | apply Kd.jX | apply Kd.jia));exact Kd.jE (Kd.jLb (p:=⟨gb442,0,none⟩) (Kd.jPa HO445.out BK442.out (by decide)) (fun _ hk=>hk.2) (.slice Ao9 t443.length co9)) (fun _ hk=>trivial),by (with_reducible repeat (first | apply Kd.jJb | apply Kd.jIb | apply Kd.jYb));exact Kd.jGc (Kd.Q_far (p:=⟨gb442,0,none⟩) (Kd.Q_types HO448.out BK442.out (by decide)) (fun _ hk=>hk.2) (.slice Ao9 t443.length co9)) (fun _ hk=>trivial),Y31,Y58,Y55⟩
 ·rw [if_neg c4] at H
  have c4b0:(t451 == 0)=false:=beq_eq_false_iff_ne.mpr c4
  have c4b1:(t451 != 0)=true:=bne_iff_ne.mpr c4
  replace H:=bzS H
  obtain ⟨⟨t458,t459⟩,A210,H⟩:=H
  replace H:(some (t443,t446,t458,t459))=some (r1,r2,r3,r4):=H
  have A21:=am A210
  clear A210
  simp only [Option.some.injEq,Prod.mk.injEq] at H
  obtain ⟨rfl,rfl,rfl,rfl⟩:=H
  go_enter Try.func60,Try.ntmps60
  try go_wp2_with (first |((with_reducible refine jM (N:=2) rfl ?_);refine bE (N:=2) (cs:=#[.slice none 0 0]) (t:=32) ?_;intro gb442 hg w22 hbox hb;have BK442:=am (hbox);have GW442:=am ((Y12:w.heap.size≤gb442));have GE442:=am ((Nat.le_trans HW0.out (Y12:w.heap.size≤gb442):w0.heap.size≤gb442));have NB0_442:=am ((Y27:g≠gb442));have NB442_0:=am ((Y28:gb442≠g));replace HK:=am (jb.trans (Y17) (jb.of_below hb g none) (.inl rfl));replace HB:=am (je (Y18) hb);replace HI0:=am (jf.below (Y16) hb);clear hb hbox hg) |((with_reducible refine jd (f:=90) rfl ?_);refine gL (some 9) Try.func90 #[.pointer (some ⟨g,0,none⟩)] ?_;(with_reducible refine (jWa.calls k g s0_0 s0_1 t443 t446 t449 w0 _ ?side1 ?side2 A2.out).mono ?_);(case side1=>exact Y87);(case side2=>exact Y88);rintro e w23 ⟨v444,v447,rfl,ho0,ho1,hi,hb,hk⟩;refine ⟨_,rfl,?_⟩;have HO445:=am (Kd.jQ ho0 (jJ (w:=w) (g:=g) (row:=none) (Y54)));have HO448:=am (Kd.Q_lower ho1 (jJ (w:=w) (g:=g) (row:=none) (Y54)));replace BK442:=am (jb.blk hk (g':=gb442) (o:=.cells #[.slice none 0 0] 32 (0,0)) (kq BK442.out) NB442_0.out (by simp));replace HK:=am (jb.trans (Y54) hk (.inl rfl));replace HB:=am (hb);replace HI0:=am (hi);(try clear hb);(try clear hb2);(try clear hk);(try clear hi);(try clear ho0);(try clear ho1)) |((with_reducible refine jM (N:=5) rfl ?_);refine bE (N:=5) (cs:=#[.slice none 0 0]) (t:=32) ?_;intro gb450 hg w24 hbox hb;have BK450:=am (hbox);have GW450:=am ((Y89:w.heap.size≤gb450));have GE450:=am ((Nat.le_trans HW0.out (Y89:w.heap.size≤gb450):w0.heap.size≤gb450));have NB442_450:=am ((by rw [hg];exact Nat.ne_of_lt (jDb (g:=gb442) (o:=.cells #[.slice none 0 0] 32 (0,0)) (kq BK442.out)):gb442≠gb450));have NB450_442:=am ((by rw [hg];exact Nat.ne_of_gt (jDb (g:=gb442) (o:=.cells #[.slice none 0 0] 32 (0,0)) (kq BK442.out)):gb450≠gb442));have NB0_450:=am ((Y114:g≠gb450));have NB450_0:=am ((Y115:gb450≠g));replace HO445:=am (Kd.jT (rq HO445.out) hb);replace HO448:=am (Kd.jcb (Y73) hb);replace BK442:=am (jm (g:=gb442) (o:=.cells #[.slice none 0 0] 32 (0,0)) (kq BK442.out) hb);replace HK:=am (jb.trans (Y54) (jb.of_below hb g none) (.inl rfl));replace HB:=am (je (Y88) hb);replace HI0:=am (jf.below (Y87) hb);clear hb hbox hg;obtain ⟨Ao25,co25,eo25⟩:=Kd.jU HO445.out;subst eo25;have hnb26:=NB450_442.out;have hnc26:=NB442_450.out;have hnb27:=NB450_0.out;have hnc27:=NB0_450.out;have hcz28_0:=bc0 BK450.out;have hfz28_0:=ja BK450.out 0) |((with_reducible refine jd (f:=71) rfl ?_);refine gL (some 13) Try.func71 #[.pointer (some ⟨g,0,none⟩), .int .i64 16] ?_;(with_reducible refine (jg.calls k g s0_0 t449 16 t451 t452 w0 _ ?side1 ?side2 A3.out).mono ?_);(case side1=>exact Y31);(case side2=>exact Y58);rintro e w29 ⟨rfl,hi,hb,hk⟩;refine ⟨_,rfl,?_⟩;replace BK442:=am (jb.blk hk (g':=gb442) (o:=.cells #[.slice none 0 0] 32 (0,0)) (Y116) NB442_0.out (by simp));replace HO445:=am (Kd.jE (Kd.jxa (jf.apart (show jf w0 _ g s0_0 t449 from Y31) (by (with_reducible repeat (first | apply Kd.jY | apply Kd.jX | apply Kd.jia));exact (Kd.jE (Kd.jLb (p:=⟨gb450,0,none⟩) (Kd.jPa HO445.out BK450.out (by decide)) (fun _ hk=>hk.2) (.slice Ao25 t443.length co25)) (fun _ h_=>h_.1))) (by decide)) hk (fun _ h=>h.2)) (fun _ h=>h.1));replace HO448:=am (Kd.jGc (Kd.Q_keep (jf.apartQ (show jf w0 _ g s0_0 t449 from Y31) (by (with_reducible repeat (first | apply Kd.jJb | apply Kd.jIb | apply Kd.jYb));exact (Kd.jGc (Kd.Q_far (p:=⟨gb450,0,none⟩) (Kd.Q_types HO448.out BK450.out (by decide)) (fun _ hk=>hk.2) (.slice Ao25 t443.length co25)) (fun _ h_=>h_.1))) (by decide)) hk (fun _ h=>h.2)) (fun _ h=>h.1));replace BK450:=am (jb.blk hk (g':=gb450) (o:=.cells #[.slice Ao25 t443.length co25] 32 (0,0)) (Y117) NB450_0.out (by simp));replace HK:=am (jb.trans (Y55) hk (.inl rfl));replace HB:=am (hb);replace HI0:=am (hi);(try clear hb);(try clear hb2);(try clear hk);(try clear hi)))
  replace HO445:=am (Kd.jia HO445.out)
  replace HO448:=am (Kd.jYb HO448.out)
  replace BK442:=am (jD BK442.out)
  replace BK450:=am (jD BK450.out)
  replace HI0:=am (jf.drew HI0.out)
  replace HK:=am (jMa HK.out)
  replace HB:=am (jS HB.out)
  obtain ⟨Ao31,co31,eo31,_⟩:=Kd.Q_slice HO448.out
  (first | subst eo31 |(injection eo31 with f1_ f2_ f3_;have f4_:=f1_.symm;have f5_:=f3_.symm;clear f1_ f2_ f3_;subst f4_;subst f5_))
  refine start_ (n:=9) (S:=fun w'=>w'.cell? ⟨gb450,0,none⟩=some (.slice Ao25 t443.length co25)) (ds:=[]) #[false,false,false,false,false,false,false,false,false] (by kernel_rfl) rfl rfl ((jK BK450.out 0).trans rfl) (fun hHeld=>?_);refine jqc jEa.tab4 jEa.bits4 (fun HT_ HW_=>?_)
  generalize w29.drew=w30 at HO445 HO448 BK442 BK450 HI0 HK HB hHeld ⊢
  refine pq (i:=1) (N:=some 23) #[false,true,false,false,false,false,false,false,false] ?_
  refine pq (i:=2) (N:=some 24) #[false,true,true,false,false,false,false,false,false] ?_
  refine pq (i:=3) (N:=some 25) #[false,true,true,true,false,false,false,false,false] ?_
  refine pq (i:=4) (N:=some 26) #[false,true,true,true,true,false,false,false,false] ?_
  refine take_ (i:=0) (N:=some 22) (v:=?_) (a':=?_) #[true,true,true,true,true,false,false,false,false] rfl rfl (jlc HT_.out HW_.out (by kernel_rfl)) (fun _ _ _ h=>h) (Or.inl ⟨by rfl,?_⟩) hHeld ?_ ?_
  rotate_left
  ·intro w' s0
   go_simp
   with_reducible rfl
  rotate_left
  ·exact sa
  refine one_ (i:=5) (N:=some 27) #[true,true,true,true,true,true,false,false,false] rfl rfl (jTb HT_.out (by kernel_rfl)) (by decide) (fun K hK=>?_)
  refine goes_ Try.func71 (by kernel_rfl) rfl #[.pointer (some ⟨g,0,none⟩), .int .i64 (t446.length:Int)] (by rfl) rfl rfl (aq) ?_
  with_reducible refine (jg.calls k g s0_0 t452 (t446.length:Int) t458 t459 w0 _ ?side1 ?side2 A21.out).mono ?_
  (case side1=>exact Y31)
  (case side2=>exact Y58)
  rintro e w32 ⟨rfl,hi,hb,hk⟩
  refine ⟨_,rfl,?_⟩
  replace BK442:=am (jb.blk hk (g':=gb442) (o:=.cells #[.slice none 0 0] 32 (0,0)) (kq BK442.out) NB442_0.out (by simp))
  replace HO445:=am (Kd.jE (Kd.jxa (jf.apart (show jf w0 _ g s0_0 t452 from Y31) (rq HO445.out) (by decide)) hk (fun _ h=>h.2)) (fun _ h=>h.1))
  replace HO448:=am (Kd.jGc (Kd.Q_keep (jf.apartQ (show jf w0 _ g s0_0 t452 from Y31) (Y73) (by decide)) hk (fun _ h=>h.2)) (fun _ h=>h.1))
  replace BK450:=am (jb.blk hk (g':=gb450) (o:=.cells #[.slice Ao25 t443.length co25] 32 (0,0)) (kq BK450.out) NB450_0.out (by simp))
  replace HK:=am (jb.trans (Y55) hk (.inl rfl))
  replace HB:=am (hb)
  replace HI0:=am (hi)
  (try clear hb)
  (try clear hb2)
  (try clear hk)
  (try clear hi)
  refine hK.out _ _ ((jK BK450.out 0).trans rfl) (fun hHeld=>?_)
  clear hK K
  refine jjc (a':=?_) ?_ ?_
  rotate_left
  ·show Act.put _ (some 27) _=_
   simp only [Act.put,List.setIfInBounds_toArray,List.set_cons_zero,List.set_cons_succ,jhb,jpb]
   rfl
  refine one_ (i:=6) (N:=none) #[true,true,true,true,true,true,true,false,false] rfl rfl (jTb HT_.out (by kernel_rfl)) (by decide) (fun K hK=>?_)
  have hs33:w32.cell? ⟨gb442,0,none⟩=some (.slice none 0 0):=(jK BK442.out 0).trans rfl
  have hfs33:=ja BK442.out 0
  have hns33_1:=NB450_442.out
  have hms33_1:=NB442_450.out
  refine skip_ (w1:=?_) (by rfl) rfl ?_ ?_
  rotate_left
  ·go_simp
   rfl
  refine hK.out _ _ (((cell_far (p:=⟨gb442,_,none⟩) NB450_442.out _).trans (hHeld))) (fun hHeld=>?_)
  clear hK K
  refine pq (i:=7) (N:=some 3) #[true,true,true,true,true,true,true,true,false] ?_
  refine pq (i:=8) (N:=some 4) #[true,true,true,true,true,true,true,true,true] ?_
  refine done_ (done_of HT_.out (by kernel_rfl)) ?_
  try go_wp2
  refine bodyPost_ret (results_ctt rfl _ _ gb442 32 #[.slice Ao25 t443.length co25] (0,0) _ rfl (Y118) Try.underlying32 rfl (by kernel_rfl)) rfl ?_
  exact ⟨_,_,Y0,by (with_reducible repeat (first | apply Kd.jY | apply Kd.jX | apply Kd.jia));exact Kd.jE (Kd.jLb (p:=⟨gb442,0,none⟩) (Kd.jPa HO445.out BK442.out (by decide)) (fun _ hk=>hk.2) (.slice Ao25 t443.length co25)) (fun _ hk=>trivial),by (with_reducible repeat (first | apply Kd.jJb | apply Kd.jIb | apply Kd.jYb));exact Kd.jGc (Kd.Q_far (p:=⟨gb442,0,none⟩) (Kd.Q_types HO448.out BK442.out (by decide)) (fun _ hk=>hk.2) (.slice Ao25 t443.length co25)) (fun _ hk=>trivial),Y31,Y58,Y55⟩
def jGb.f (l0 : List Int) : Option (List Int × Int) := if (l0.length : Int) > 2000 then (if 2000 ≤ (l0.length : Int) then (some (l0.take 2000, 0)) else (none)) else (some (l0, 0))
set_option maxHeartbeats 8000000 in
set_option maxRecDepth 100000 in
theorem jGb.calls (A0 : Option Addr) (c0 : Nat) (l0 : List Int) (r1 : List Int) (r2 : Int) (w0 w : World) (hB : Below w0.heap.size w0 w) (hr0 : Kd.C (Kd.int .u8) w0 A0 l0.length l0) (hc0 : l0.length ≤ c0) (h : jGb.f l0 = some (r1, r2)) :
  Calls Try.prog 61 #[.slice A0 l0.length c0] w fun e w'=>∃ g_:Nat,e=.returned (.pointer (some ⟨g_,0,none⟩))∧jf w0 w' g_ r1 r2∧Below w0.heap.size w0 w'∧Below w.heap.size w w':=by
 have hu97:=Try.underlying97
 have HR0:=am hr0
 have HC0:=am hc0
 clear hr0 hc0
 have HBW:=am (Below.refl w.heap.size w)
 have HW0:=am hB.size
 have HB:=am hB
 clear hB
 have H:(if (l0.length:Int) > 2000 then (if 2000≤(l0.length:Int) then (some (l0.take 2000,0)) else (none)) else (some (l0,0)))=some (r1,r2):=h
 clear h
 by_cases c2:(l0.length:Int) > 2000
 ·rw [if_pos c2] at H
  have c2b0:decide (2000<(l0.length:Int))=true:=dzT c2
  have c2b1:decide (2000<l0.length)=true:=dzT (by omega)
  clear c2
  by_cases c3:2000≤(l0.length:Int)
  ·rw [if_pos c3] at H
   have c3b0:=ezT c3
   have c3b1:decide (2000≤(l0.length:Int))=true:=dzT c3
   clear c3
   simp only [Option.some.injEq,Prod.mk.injEq] at H
   obtain ⟨rfl,rfl⟩:=H
   obtain ⟨i04,hi04,_,hsz4,_⟩:=info_parts info5
   obtain ⟨hcut4,hA4,hC4⟩:=print_take_of (P:=Try.prog) (Value.int .u8) 0 46 5 .i64 Try.underlying46 hi04 hsz4 A0 c0 l0 2000 (by omega) (ozD (uq)) HC0.out
   have HR460:=am (Kd.C_of_reads (h1:=fun _=>rfl) (hA4 _ (Kd.reads_of_C HR0.out)))
   have HC460:=am hC4
   clear hA4 hC4 hi04 hsz4
   go_enter Try.func61,Try.ntmps61
   go_wp2_with (first |((with_reducible refine jM (N:=10) rfl ?_);refine bE (N:=10) (cs:=#[.slice A0 (l0.take 2000).length c0, .int .i64 0]) (t:=97) ?_;intro gb461 hg w5 hbox hb;have BK461:=am (hbox);have GW461:=am ((Y90:w.heap.size≤gb461));have GE461:=am ((Nat.le_trans HW0.out (Y90:w.heap.size≤gb461):w0.heap.size≤gb461));replace HBW:=am (je HBW.out hb);replace HB:=am (je (bq) hb);clear hb hbox hg))
   go_ret
   exact ⟨_,rfl,(show jf w0 _ gb461 (l0.take 2000) 0 from ⟨_,_,kq BK461.out,GE461.out,HR460.out⟩),by repeat (first |(with_reducible first | exact HB.out | apply jR | apply jw | apply jS | refine jP ?_ GE461.out) | exact HB.out),by repeat (first |(with_reducible first | exact HBW.out | apply jR | apply jw | apply jS | refine jP ?_ GW461.out) | exact HBW.out)⟩
  ·rw [if_neg c3] at H
   exact absurd H (by simp)
 ·rw [if_neg c2] at H
  have c2b0:decide (2000<(l0.length:Int))=false:=dzF c2
  have c2b1:decide (2000<l0.length)=false:=dzF (by omega)
  clear c2
  simp only [Option.some.injEq,Prod.mk.injEq] at H
  obtain ⟨rfl,rfl⟩:=H
  go_enter Try.func61,Try.ntmps61
  go_wp2_with (first |((with_reducible refine jM (N:=10) rfl ?_);refine bE (N:=10) (cs:=#[.slice A0 l0.length c0, .int .i64 0]) (t:=97) ?_;intro gb462 hg w6 hbox hb;have BK462:=am (hbox);have GW462:=am ((Y90:w.heap.size≤gb462));have GE462:=am ((Nat.le_trans HW0.out (Y90:w.heap.size≤gb462):w0.heap.size≤gb462));replace HBW:=am (je HBW.out hb);replace HB:=am (je (bq) hb);clear hb hbox hg))
  go_ret
  exact ⟨_,rfl,(show jf w0 _ gb462 l0 0 from ⟨_,_,kq BK462.out,GE462.out,HR0.out⟩),by repeat (first |(with_reducible first | exact HB.out | apply jR | apply jw | apply jS | refine jP ?_ GE462.out) | exact HB.out),by repeat (first |(with_reducible first | exact HBW.out | apply jR | apply jw | apply jS | refine jP ?_ GW462.out) | exact HBW.out)⟩
def jrb.f (k : Nat) (l0 : List Int) : Option ((List (S87)) × (List (S52)) × Int) := (jGb.f l0).bind fun bt464 => ((jEa.f k bt464.1 bt464.2).bind fun bt467 => (some (bt467.1, bt467.2.1, bt467.2.2.1)))
set_option maxHeartbeats 8000000 in
set_option maxRecDepth 100000 in
theorem jrb.calls (k : Nat) (A0 : Option Addr) (c0 : Nat) (l0 : List Int) (r1 : List (S87)) (r2 : List (S52)) (r3 : Int) (w : World) (hr0 : Kd.C (Kd.int .u8) w A0 l0.length l0) (hc0 : l0.length ≤ c0) (h : jrb.f k l0 = some (r1, r2, r3)) :
  Calls Try.prog 38 #[.slice A0 l0.length c0] w fun e w'=>∃ v0_ v1_:Value,e=.returned (.tuple #[.agg #[v0_],v1_, .int .i64 r3])∧Kd.R k87 87 w' w.heap.size (fun _=>True) v0_ r1∧Kd.Q k52 52 w' w.heap.size (fun _=>True) v1_ r2∧Below w.heap.size w w':=by
 have hu32:=Try.underlying32
 have HR0:=am hr0
 have HC0:=am hc0
 clear hr0 hc0
 have HB:=am (Below.refl w.heap.size w)
 have H:((jGb.f l0).bind fun bt464=>((jEa.f k bt464.1 bt464.2).bind fun bt467=>(some (bt467.1,bt467.2.1,bt467.2.2.1))))=some (r1,r2,r3):=h
 clear h
 replace H:=bzS H
 obtain ⟨⟨t464,t465⟩,A20,H⟩:=H
 replace H:((jEa.f k t464 t465).bind fun bt467=>(some (bt467.1,bt467.2.1,bt467.2.2.1)))=some (r1,r2,r3):=H
 have A2:=am A20
 clear A20
 replace H:=bzS H
 obtain ⟨⟨t467,t470,t473,t474⟩,A30,H⟩:=H
 replace H:(some (t467,t470,t473))=some (r1,r2,r3):=H
 have A3:=am A30
 clear A30
 simp only [Option.some.injEq,Prod.mk.injEq] at H
 obtain ⟨rfl,rfl,rfl⟩:=H
 go_enter Try.func38,Try.ntmps38
 go_wp2_with (first |((with_reducible refine jM (N:=2) rfl ?_);refine bE (N:=2) (cs:=#[.slice none 0 0]) (t:=32) ?_;intro gb463 hg w4 hbox hb;have BK463:=am (hbox);have GW463:=am ((Y10:w.heap.size≤gb463));have GE463:=am ((Y10:w.heap.size≤gb463));replace HB:=am (je (bq) hb);clear hb hbox hg) |((with_reducible refine jd (f:=61) rfl ?_);refine gL (some 6) Try.func61 #[.slice A0 l0.length c0] ?_;(with_reducible refine (jGb.calls _ _ l0 t464 t465 w _ ?side1 ?side2 ?side3 A2.out).mono ?_);(case side1=>repeat (first |(with_reducible first | exact HB.out | apply jR | apply jw | apply jS | refine jP ?_ GE463.out) | exact HB.out));(case side2=>exact HR0.out);(case side3=>exact HC0.out);rintro e w5 ⟨g466,rfl,hi,hb,hb2⟩;refine ⟨_,rfl,?_⟩;have HI466:=am (hi);have NB466_463:=am (jf.ne_blk hi (jm (g:=gb463) (o:=.cells #[.slice none 0 0] 32 (0,0)) (kq BK463.out) hb2) (by decide));have NB463_466:=am (Ne.symm (jf.ne_blk hi (jm (g:=gb463) (o:=.cells #[.slice none 0 0] 32 (0,0)) (kq BK463.out) hb2) (by decide)));replace BK463:=am (jm (g:=gb463) (o:=.cells #[.slice none 0 0] 32 (0,0)) (kq BK463.out) hb2);replace HB:=am (hb);(try clear hb);(try clear hb2);(try clear hk);(try clear hi)) |((with_reducible refine jd (f:=60) rfl ?_);refine gL (some 7) Try.func60 #[.pointer (some ⟨g466,0,none⟩)] ?_;(with_reducible refine (jEa.calls k g466 t464 t465 t467 t470 t473 t474 w _ ?side1 ?side2 A3.out).mono ?_);(case side1=>repeat (first |(with_reducible first | exact HI466.out | apply jf.alloc | apply jf.drewN | apply jf.drew | apply jf.jfc | refine jf.far ?_ NB466_463.out _) | exact HI466.out));(case side2=>exact Y91);rintro e w6 ⟨v468,v471,rfl,ho0,ho1,hi,hb,hk⟩;refine ⟨_,rfl,?_⟩;have HO469:=am (Kd.jQ ho0 (jN (Y91)));have HO472:=am (Kd.Q_lower ho1 (jN (Y91)));replace BK463:=am (jb.blk hk (g':=gb463) (o:=.cells #[.slice none 0 0] 32 (0,0)) (kq BK463.out) NB463_466.out (by simp));replace HB:=am (hb);replace HI466:=am (hi);(try clear hb);(try clear hb2);(try clear hk);(try clear hi);(try clear ho0);(try clear ho1);obtain ⟨Ao7,co7,eo7⟩:=Kd.jU HO469.out;subst eo7;have hnb8:=NB463_466.out;have hnc8:=NB466_463.out;have hcz9_0:=bc0 BK463.out;have hfz9_0:=ja BK463.out 0))
 refine bodyPost_ret (results_ctt rfl _ _ gb463 32 #[.slice Ao7 t467.length co7] (0,0) _ rfl (by (with_reducible repeat (first | refine jy ?_ _ | refine jD ?_ | refine jB ?_ _));refine jZa (cs:=#[.slice none 0 0]) ?_ 0 _ rfl;(with_reducible repeat (first | refine jy ?_ _ | refine jD ?_ | refine jB ?_ _));exact BK463.out) Try.underlying32 rfl (by kernel_rfl)) rfl ?_
 exact ⟨_,_,Y0,by (with_reducible repeat (first | apply Kd.jY | apply Kd.jX | apply Kd.jia));exact Kd.jE (Kd.jLb (p:=⟨gb463,0,none⟩) (Kd.jPa HO469.out BK463.out (by decide)) (fun _ hk=>hk.2) (.slice Ao7 t467.length co7)) (fun _ hk=>trivial),by (with_reducible repeat (first | apply Kd.jJb | apply Kd.jIb | apply Kd.jYb));exact Kd.jGc (Kd.Q_far (p:=⟨gb463,0,none⟩) (Kd.Q_types HO472.out BK463.out (by decide)) (fun _ hk=>hk.2) (.slice Ao7 t467.length co7)) (fun _ hk=>trivial),Y91⟩
def jUb.f (k : Nat) (l0_0 : List (S87)) (l1 : List (S52)) (a2 : Int) : Option (Bool) := (jr.f k l0_0 l1).bind fun t476 => (if t476 = true then ((jL.f a2 0 (wrap64 ((l1.length : Int) - 1))).bind fun t477 => (some t477)) else (some false))
set_option maxHeartbeats 8000000 in
set_option maxRecDepth 100000 in
theorem jUb.calls (k : Nat) (A0_0 : Option Addr) (c0_0 : Nat) (l0_0 : List (S87)) (A1 : Option Addr) (c1 : Nat) (l1 : List (S52)) (a2 : Int) (r : Bool) (w : World) (hr0_0 : Kd.C k87 w A0_0 l0_0.length l0_0) (hc0_0 : l0_0.length ≤ c0_0) (hr1 : Kd.C k52 w A1 l1.length l1) (hc1 : l1.length ≤ c1) (h : jUb.f k l0_0 l1 a2 = some r) :
  Calls Try.prog 48 #[.agg #[.slice A0_0 l0_0.length c0_0], .slice A1 l1.length c1, .int .i64 a2] w fun e w'=>e=.returned (.bool r)∧Below w.heap.size w w':=by
 have hu32:=Try.underlying32
 have HR0_0:=am hr0_0
 have HC0_0:=am hc0_0
 clear hr0_0 hc0_0
 have HR1:=am hr1
 have HC1:=am hc1
 clear hr1 hc1
 have HB:=am (Below.refl w.heap.size w)
 have H:((jr.f k l0_0 l1).bind fun t476=>(if t476=true then ((jL.f a2 0 (wrap64 ((l1.length:Int) - 1))).bind fun t477=>(some t477)) else (some false)))=some r:=h
 clear h
 replace H:=bzS H
 obtain ⟨t476,A40,H⟩:=H
 replace H:(if t476=true then ((jL.f a2 0 (wrap64 ((l1.length:Int) - 1))).bind fun t477=>(some t477)) else (some false))=some r:=H
 have A4:=am A40
 clear A40
 by_cases c5:t476=true
 ·subst c5
  have H1:((jL.f a2 0 (wrap64 ((l1.length:Int) - 1))).bind fun t477=>(some t477))=some r:=by rw [if_pos rfl] at H;exact H
  clear H
  have H:=H1
  clear H1
  replace H:=bzS H
  obtain ⟨t477,A60,H⟩:=H
  replace H:(some t477)=some r:=H
  have A6:=am A60
  clear A60
  obtain rfl:=Option.some.inj H
  go_enter Try.func48,Try.ntmps48
  go_wp2_with (first |((with_reducible refine jM (N:=3) rfl ?_);(try (refine jcc (by rfl) ?_;dsimp only));refine jhc ?hg (N:=3) ?hd (cs:=#[.slice A0_0 l0_0.length c0_0]) (t:=32) ?hr ?_;(case hd=>rfl);(case hg=>rfl);(case hr=>exact Y7);intro gb475 hg w7 hbox hb;have BK475:=am (hbox);have GW475:=am ((Y10:w.heap.size≤gb475));have GE475:=am ((Y10:w.heap.size≤gb475));replace HB:=am (je (bq) hb);clear hb hbox hg;have hcz8_0:=bc0 BK475.out;have hfz8_0:=ja BK475.out 0) |((with_reducible refine jd (f:=29) rfl ?_);refine gL (some 9) Try.func29 #[.agg #[.slice A0_0 l0_0.length c0_0], .slice A1 l1.length c1] ?_;(with_reducible refine (jr.calls k _ _ l0_0 _ _ l1 true _ ?side1 ?side2 ?side3 ?side4 A4.out).mono ?_);(case side1=>exact cq (Kd.jba HR0_0.out HB.out));(case side2=>exact HC0_0.out);(case side3=>exact cq (Kd.jba HR1.out HB.out));(case side4=>exact HC1.out);rintro e w9 ⟨rfl,hb⟩;refine ⟨_,rfl,?_⟩;replace BK475:=am (jm (g:=gb475) (o:=.cells #[.slice A0_0 l0_0.length c0_0] 32 (0,0)) (kq BK475.out) hb);replace HB:=am (je (Y92) hb);(try clear hb);(try clear hb2);(try clear hk);(try clear hi)) |(go_at_call 66;(with_reducible refine (jL.calls a2 0 (wrap64 ((l1.length:Int) - 1)) t477 _ A6.out).mono ?_);rintro e w' ⟨rfl,⟨nd,rfl⟩⟩))
  go_ret
  exact ⟨Y0,Y92⟩
 ·replace c5:=Bool.eq_false_iff.mpr c5
  subst c5
  have H1:(some false)=some r:=by rw [if_neg (show ¬ (false=true) by decide)] at H;exact H
  clear H
  have H:=H1
  clear H1
  obtain rfl:=Option.some.inj H
  go_enter Try.func48,Try.ntmps48
  go_wp2_with (first |((with_reducible refine jM (N:=3) rfl ?_);(try (refine jcc (by rfl) ?_;dsimp only));refine jhc ?hg (N:=3) ?hd (cs:=#[.slice A0_0 l0_0.length c0_0]) (t:=32) ?hr ?_;(case hd=>rfl);(case hg=>rfl);(case hr=>exact Y7);intro gb475 hg w10 hbox hb;have BK475:=am (hbox);have GW475:=am ((Y10:w.heap.size≤gb475));have GE475:=am ((Y10:w.heap.size≤gb475));replace HB:=am (je (bq) hb);clear hb hbox hg;have hcz11_0:=bc0 BK475.out;have hfz11_0:=ja BK475.out 0) |((with_reducible refine jd (f:=29) rfl ?_);refine gL (some 9) Try.func29 #[.agg #[.slice A0_0 l0_0.length c0_0], .slice A1 l1.length c1] ?_;(with_reducible refine (jr.calls k _ _ l0_0 _ _ l1 false _ ?side1 ?side2 ?side3 ?side4 A4.out).mono ?_);(case side1=>exact cq (Kd.jba HR0_0.out HB.out));(case side2=>exact HC0_0.out);(case side3=>exact cq (Kd.jba HR1.out HB.out));(case side4=>exact HC1.out);rintro e w12 ⟨rfl,hb⟩;refine ⟨_,rfl,?_⟩;replace BK475:=am (jm (g:=gb475) (o:=.cells #[.slice A0_0 l0_0.length c0_0] 32 (0,0)) (kq BK475.out) hb);replace HB:=am (je (Y92) hb);(try clear hb);(try clear hb2);(try clear hk);(try clear hi)))
  go_ret
  exact ⟨Y0,Y92⟩
def jma.f (l0 : List Int) : Option (List Int) := some (l0)
set_option maxHeartbeats 8000000 in
set_option maxRecDepth 100000 in
theorem jma.calls (P0_ : Nat → Prop) (u9000_ : Value) (l0 : List Int) (r : List Int) (w0 w : World) (hB : Below w0.heap.size w0 w) (ho0 : Kd.R (Kd.int .i64) 3 w w0.heap.size P0_ u9000_ l0) (h : jma.f l0 = some r) :
  Calls Try.prog 82 #[u9000_] w fun e w'=>∃ v0_:Value,e=.returned (v0_)∧Kd.R (Kd.int .i64) 3 w' w0.heap.size (fun k_=>(P0_ k_∨w.heap.size≤k_)) v0_ r∧Below w0.heap.size w0 w'∧Kept w w' (fun k_=>P0_ k_):=by
 have HO0:=am (show Kd.R (Kd.int .i64) 3 w w0.heap.size (fun k_=>(P0_ k_∨w.heap.size≤k_)) u9000_ l0 from Kd.jE ho0 (fun k_ hk=>(.inl hk)))
 have HK:=am (Kept.refl w (fun k_=>P0_ k_))
 have HW0:=am hB.size
 have HB:=am hB
 clear hB
 have H:(some (l0))=some r:=h
 clear h
 obtain ⟨y478,hy478⟩:∃ y_:List Int,y_=(l0):=⟨_,rfl⟩
 replace H:(some y478)=some r:=by first |(rw [hy478];with_reducible exact H) |(have H2_:=(Option.bind_some _ _).symm.trans H;rw [hy478];with_reducible exact H2_) |(have H2_:=(Option.bind_some _ _).symm.trans H;with_reducible exact H2_) | with_reducible exact H |(rw [hy478];exact H) | exact H
 have Ny478:=am hy478
 clear hy478
 obtain rfl:=Option.some.inj H
 obtain ⟨Ao2,co2,eo2⟩:=Kd.jU HO0.out
 subst eo2
 obtain ⟨i03,hi03,_,hsz3,_⟩:=info_parts info3
 have hy3:y478.length=l0.length:=(by rw [Ny478.out])
 have hcut3:=cut_clip (P:=Try.prog) 28 3 Try.underlying28 hi03 Ao2 _ co2 _ (Kd.jh HO0.out).2.1 hy3
 have hr3:=Kd.R_clip HO0.out Ny478.out
 clear hy3 hi03 hsz3 HO0
 have HO480:=am hr3
 clear hr3
 go_enter Try.func82,Try.ntmps82
 go_wp2
 go_ret
 exact ⟨_,Y0,rq HO480.out,bq,by repeat (first |(with_reducible first | exact HK.out | apply Kept.alloc | apply Kept.drewN | apply Kept.drew) | exact HK.out)⟩
def jga.l0 : Nat → List (S52) → Int → List Int → Int → Option (List Int)
 | 0,_,_,_,_=>none
 | k+1,x0,x1,x5,x6=>if x6≥0 then (if 0≤x6 then (if x6<(x0.length:Int) then ((jYa.f ((jc x0 x6).f0) ((jc x0 x6).f1) ((jc x0 x6).f2) ((jc x0 x6).f3)).bind fun t488=>(if t488=true then ((jla.f k x0 x6).bind fun t489=>(if t489 > x1 then (if x5.length<17592186044416 then (jga.l0 k x0 x1 (x5 ++ [x6]) (wrap64 (x6 - 1))) else (none)) else (jga.l0 k x0 x1 x5 (wrap64 (x6 - 1))))) else (jga.l0 k x0 x1 x5 (wrap64 (x6 - 1))))) else (none)) else (none)) else ((jma.f x5).bind fun t484=>(some t484))
def jga.f (k : Nat) (l0 : List (S52)) (a1 : Int) : Option (List Int) := jga.l0 k l0 a1 (([] : List Int)) (wrap64 (a1 - 1))
set_option maxHeartbeats 8000000 in
set_option maxRecDepth 100000 in
theorem jga.calls (k : Nat) (A0 : Option Addr) (c0 : Nat) (l0 : List (S52)) (a1 : Int) (r : List Int) (w : World) (hr0 : Kd.C k52 w A0 l0.length l0) (hc0 : l0.length ≤ c0) (h : jga.f k l0 a1 = some r) :
  Calls Try.prog 62 #[.slice A0 l0.length c0, .int .i64 a1] w fun e w'=>∃ v0_:Value,e=.returned (v0_)∧Kd.R (Kd.int .i64) 3 w' w.heap.size (fun _=>True) v0_ r∧Below w.heap.size w w':=by
 have hu52:=Try.underlying52
 have HR0:=am hr0
 have HC0:=am hc0
 clear hr0 hc0
 have HB:=am (Below.refl w.heap.size w)
 have H:(jga.l0 k l0 a1 (([]:List Int)) (wrap64 (a1 - 1)))=some r:=h
 clear h
 obtain ⟨y481,hy481⟩:∃ y_:List Int,y_=(([]:List Int)):=⟨_,rfl⟩
 replace H:(jga.l0 k l0 a1 y481 (wrap64 (a1 - 1)))=some r:=by first |(rw [hy481];with_reducible exact H) |(have H2_:=(Option.bind_some _ _).symm.trans H;rw [hy481];with_reducible exact H2_) |(have H2_:=(Option.bind_some _ _).symm.trans H;with_reducible exact H2_) | with_reducible exact H |(rw [hy481];exact H) | exact H
 have Ny481:=am hy481
 clear hy481
 have H':=am H
 clear H
 go_enter Try.func62,Try.ntmps62
 go_wp2_with (first |((with_reducible refine jM (N:=7) rfl ?_);refine Kd.jbc (Kd.int .i64) _ 3 ?hg (N:=7) ?hd (xs:=([]:List Int)) (inner:=[]) (ok:=fun _=>True) (okp:=fun _=>True) ?hr ?hp (fun _ hk=>hk) trivial (Below.refl _ _) (Nat.le_refl _) (by simp) ?_;(case hd=>rfl);(case hg=>rfl);(case hr=>exact Y7);(case hp=>exact (Reps.none _ _));intro v482 w3 ho4 hb hg_ hnew_;clear hg_ hnew_;(first | rw [← Ny481.out] at ho4 |(simp only [Int.reduceToNat] at ho4;rw [← Ny481.out] at ho4));have HO483:=am (Kd.jQ ho4 (jN (bq)));replace HB:=am (je (bq) hb);clear hb ho4))
 go_loopg [5,6] k (fun kq v5 v6 w'=>∃ (x5_1:List Int) (x6_1:Int),v6=.int .i64 x6_1∧jq (jga.l0 kq l0 a1 x5_1 x6_1=some r)∧jq (kq≤k)∧jq (Kd.R (Kd.int .i64) 3 w' w.heap.size (fun _=>True) v5 x5_1)∧jq (Below w.heap.size w w'))
 case atStart=>exact ⟨(y481),(wrap64 (a1 - 1)),(sq),H',⟨Nat.le_refl _⟩,⟨rq HO483.out⟩,⟨bq⟩⟩
 case round =>
  clear H'
  try clear p2
  obtain ⟨x5_1,x6_1,rfl,HA,HK1,HO_5,HB⟩:=hrel
  cases gk with
  | zero=>exact absurd HA.out (by simp [jga.l0])
  | succ k1 =>
   have H:=HA.out
   clear HA
   simp only [jga.l0] at H
   by_cases c5:x6_1≥0
   ·rw [if_pos c5] at H
    have c5b0:decide (0≤x6_1)=true:=dzT c5
    clear c5
    by_cases c6:0≤x6_1
    ·rw [if_pos c6] at H
     have c6b0:decide (0≤x6_1)=true:=dzT c6
     clear c6
     by_cases c7:x6_1<(l0.length:Int)
     ·rw [if_pos c7] at H
      have c7b0:decide (x6_1<(l0.length:Int))=true:=dzT c7
      clear c7
      replace H:=bzS H
      obtain ⟨t488,A80,H⟩:=H
      replace H:(if t488=true then ((jla.f k1 l0 x6_1).bind fun t489=>(if t489 > a1 then (if x5_1.length<17592186044416 then (jga.l0 k1 l0 a1 (x5_1 ++ [x6_1]) (wrap64 (x6_1 - 1))) else (none)) else (jga.l0 k1 l0 a1 x5_1 (wrap64 (x6_1 - 1))))) else (jga.l0 k1 l0 a1 x5_1 (wrap64 (x6_1 - 1))))=some r:=H
      have A8:=am A80
      clear A80
      by_cases c9:t488=true
      ·subst c9
       have H1:((jla.f k1 l0 x6_1).bind fun t489=>(if t489 > a1 then (if x5_1.length<17592186044416 then (jga.l0 k1 l0 a1 (x5_1 ++ [x6_1]) (wrap64 (x6_1 - 1))) else (none)) else (jga.l0 k1 l0 a1 x5_1 (wrap64 (x6_1 - 1)))))=some r:=by rw [if_pos rfl] at H;exact H
       clear H
       have H:=H1
       clear H1
       replace H:=bzS H
       obtain ⟨t489,A100,H⟩:=H
       replace H:(if t489 > a1 then (if x5_1.length<17592186044416 then (jga.l0 k1 l0 a1 (x5_1 ++ [x6_1]) (wrap64 (x6_1 - 1))) else (none)) else (jga.l0 k1 l0 a1 x5_1 (wrap64 (x6_1 - 1))))=some r:=H
       have A10:=am A100
       clear A100
       by_cases c11:t489 > a1
       ·rw [if_pos c11] at H
        have c11b0:decide (a1<t489)=true:=dzT c11
        clear c11
        by_cases c12:x5_1.length<17592186044416
        ·rw [if_pos c12] at H
         have LMc12:=am c12
         clear c12
         obtain ⟨y490,hy490⟩:∃ y_:List Int,y_=(x5_1 ++ [x6_1]):=⟨_,rfl⟩
         replace H:(jga.l0 k1 l0 a1 y490 (wrap64 (x6_1 - 1)))=some r:=by first |(rw [hy490];with_reducible exact H) |(have H2_:=(Option.bind_some _ _).symm.trans H;rw [hy490];with_reducible exact H2_) |(have H2_:=(Option.bind_some _ _).symm.trans H;with_reducible exact H2_) | with_reducible exact H |(rw [hy490];exact H) | exact H
         have Ny490:=am hy490
         clear hy490
         have H':=am H
         clear H
         have p487:0≤(x6_1:Int):=ozD (uq)
         have q487:x6_1<(l0.length:Int):=ozD (uq)
         obtain ⟨ad487,e487,hx487_0,hx487_1,hx487_2,hx487_3⟩:=jta HR0.out x6_1 p487 q487
         cases e487
         replace hx487_0:=cb HB.out hx487_0
         replace hx487_1:=cb HB.out hx487_1
         replace hx487_2:=cb HB.out hx487_2
         replace hx487_3:=cb HB.out hx487_3
         replace p487:=ezT p487
         replace q487:=ezT q487
         go_wp2_with (first |((with_reducible refine jd (f:=67) rfl ?_);refine gL (some 18) Try.func67 #[.agg #[.int .i64 ((jc l0 x6_1).f0), .int .i64 ((jc l0 x6_1).f1), .int .i64 ((jc l0 x6_1).f2), .int .i64 ((jc l0 x6_1).f3)]] ?_;(with_reducible refine (jYa.calls ((jc l0 x6_1).f0) ((jc l0 x6_1).f1) ((jc l0 x6_1).f2) ((jc l0 x6_1).f3) true _ A8.out).mono ?_);rintro e w13 ⟨rfl,hb⟩;refine ⟨_,rfl,?_⟩;replace HO_5:=am (Kd.jT (rq HO_5.out) hb);replace HB:=am (je (bq) hb);(try clear hb);(try clear hb2);(try clear hk);(try clear hi)) |(go_at_call 89;(with_reducible refine (jla.calls k1 _ _ l0 x6_1 t489 _ ?side1 ?side2 A10.out).mono ?_);(case side1=>exact cq (Kd.jba HR0.out HB.out));(case side2=>exact HC0.out);rintro e w' ⟨rfl,⟨nd,rfl⟩⟩) |((with_reducible refine jJa (b:=.append) (xs:=#[.tmp 26, .tmp 28]) rfl ?_);at_builtin;refine Kd.jSb (Kd.int .i64) (w0:=w) w.heap.size rfl (.tmp 26) (.tmp 28) 28 3 (.int .i64 0) 8 rfl Try.underlying28 info3 rfl (by decide) (by omega) u5 x5_1 x6_1 [.int .i64 x6_1] (fun _=>True) (fun _=>False) rfl rfl ?aP (fun _ hk=>hk.elim) ?aF ?aO ?aB ?aS ?aL ?_;(case aP=>exact rfl);(case aB=>exact (bq));(case aF=>exact (fun _ _=>trivial));(case aO=>exact (rq HO_5.out));(case aS=>exact (jN (bq)));(case aL=>have:=LMc12.out;omega);intro v491 w14 ho hb hg hat;rw [← Ny490.out] at ho;have n0_:=am (hb);have n1_:=am (ho);clear HB HO_5;have HB:=n0_;have HO492:=n1_;clear n0_ n1_ ho hb hg hat))
         go_roundg k1
         case measure=>have:=HK1.out;omega
         case rel=>exact ⟨(y490),(wrap64 (x6_1 - 1)),(sq),H',⟨by have:=HK1.out;omega⟩,⟨rq HO492.out⟩,⟨bq⟩⟩
        ·rw [if_neg c12] at H
         exact absurd H (by simp)
       ·rw [if_neg c11] at H
        have c11b0:decide (a1<t489)=false:=dzF c11
        clear c11
        have H':=am H
        clear H
        have p487:0≤(x6_1:Int):=ozD (uq)
        have q487:x6_1<(l0.length:Int):=ozD (uq)
        obtain ⟨ad487,e487,hx487_0,hx487_1,hx487_2,hx487_3⟩:=jta HR0.out x6_1 p487 q487
        cases e487
        replace hx487_0:=cb HB.out hx487_0
        replace hx487_1:=cb HB.out hx487_1
        replace hx487_2:=cb HB.out hx487_2
        replace hx487_3:=cb HB.out hx487_3
        replace p487:=ezT p487
        replace q487:=ezT q487
        go_wp2_with (first |((with_reducible refine jd (f:=67) rfl ?_);refine gL (some 18) Try.func67 #[.agg #[.int .i64 ((jc l0 x6_1).f0), .int .i64 ((jc l0 x6_1).f1), .int .i64 ((jc l0 x6_1).f2), .int .i64 ((jc l0 x6_1).f3)]] ?_;(with_reducible refine (jYa.calls ((jc l0 x6_1).f0) ((jc l0 x6_1).f1) ((jc l0 x6_1).f2) ((jc l0 x6_1).f3) true _ A8.out).mono ?_);rintro e w15 ⟨rfl,hb⟩;refine ⟨_,rfl,?_⟩;replace HO_5:=am (Kd.jT (rq HO_5.out) hb);replace HB:=am (je (bq) hb);(try clear hb);(try clear hb2);(try clear hk);(try clear hi)) |(go_at_call 89;(with_reducible refine (jla.calls k1 _ _ l0 x6_1 t489 _ ?side1 ?side2 A10.out).mono ?_);(case side1=>exact cq (Kd.jba HR0.out HB.out));(case side2=>exact HC0.out);rintro e w' ⟨rfl,⟨nd,rfl⟩⟩))
        go_roundg k1
        case measure=>have:=HK1.out;omega
        case rel=>exact ⟨(x5_1),(wrap64 (x6_1 - 1)),(sq),H',⟨by have:=HK1.out;omega⟩,⟨rq HO_5.out⟩,⟨bq⟩⟩
      ·replace c9:=Bool.eq_false_iff.mpr c9
       subst c9
       have H1:(jga.l0 k1 l0 a1 x5_1 (wrap64 (x6_1 - 1)))=some r:=by rw [if_neg (show ¬ (false=true) by decide)] at H;exact H
       clear H
       have H:=H1
       clear H1
       have H':=am H
       clear H
       have p487:0≤(x6_1:Int):=ozD (uq)
       have q487:x6_1<(l0.length:Int):=ozD (uq)
       obtain ⟨ad487,e487,hx487_0,hx487_1,hx487_2,hx487_3⟩:=jta HR0.out x6_1 p487 q487
       cases e487
       replace hx487_0:=cb HB.out hx487_0
       replace hx487_1:=cb HB.out hx487_1
       replace hx487_2:=cb HB.out hx487_2
       replace hx487_3:=cb HB.out hx487_3
       replace p487:=ezT p487
       replace q487:=ezT q487
       go_wp2_with (first |((with_reducible refine jd (f:=67) rfl ?_);refine gL (some 18) Try.func67 #[.agg #[.int .i64 ((jc l0 x6_1).f0), .int .i64 ((jc l0 x6_1).f1), .int .i64 ((jc l0 x6_1).f2), .int .i64 ((jc l0 x6_1).f3)]] ?_;(with_reducible refine (jYa.calls ((jc l0 x6_1).f0) ((jc l0 x6_1).f1) ((jc l0 x6_1).f2) ((jc l0 x6_1).f3) false _ A8.out).mono ?_);rintro e w16 ⟨rfl,hb⟩;refine ⟨_,rfl,?_⟩;replace HO_5:=am (Kd.jT (rq HO_5.out) hb);replace HB:=am (je (bq) hb);(try clear hb);(try clear hb2);(try clear hk);(try clear hi)))
       go_roundg k1
       case measure=>have:=HK1.out;omega
       case rel=>exact ⟨(x5_1),(wrap64 (x6_1 - 1)),(sq),H',⟨by have:=HK1.out;omega⟩,⟨rq HO_5.out⟩,⟨bq⟩⟩
     ·rw [if_neg c7] at H
      exact absurd H (by simp)
    ·rw [if_neg c6] at H
     exact absurd H (by simp)
   ·rw [if_neg c5] at H
    have c5b0:decide (0≤x6_1)=false:=dzF c5
    clear c5
    replace H:=bzS H
    obtain ⟨t484,A170,H⟩:=H
    replace H:(some t484)=some r:=H
    have A17:=am A170
    clear A170
    obtain rfl:=Option.some.inj H
    obtain ⟨Ao18,co18,eo18⟩:=Kd.jU HO_5.out
    subst eo18
    go_wp2_with (first |((with_reducible refine jd (f:=82) rfl ?_);refine gL (some 31) Try.func82 #[.slice Ao18 x5_1.length co18] ?_;(with_reducible refine (jma.calls (fun k_=>some k_=(.slice Ao18 x5_1.length co18:Value).ownBlock) (.slice Ao18 x5_1.length co18) x5_1 t484 w _ ?side1 ?side2 A17.out).mono ?_);(case side1=>exact Y68);(case side2=>exact Kd.R_tight rfl HO_5.out);rintro e w19 ⟨v485,rfl,ho0,hb,hkp⟩;refine ⟨_,rfl,?_⟩;have n0_:=am (Kd.jE (ok':=fun k_=>True) ho0 (fun k_ hk_=>trivial));have n1_:=am (hb);clear HB HO_5;have HO486:=n0_;have HB:=n1_;clear n0_ n1_;(try clear hb);(try clear hkp);(try clear ho0)))
    go_ret
    exact ⟨_,Y0,rq HO486.out,bq⟩
end Go.Proofs.Ytkokajljeebgdaa.P
end
