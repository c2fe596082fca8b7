/- One part of the proofs on this program: functions of the program as plain functions, that the code comes to them, and facts on them. -/
import Derived.Carry
import Derived.Maps.Own
import Derived.Maps.OwnOps
import Derived.Maps.OwnSet
import Derived.Maps.Views
import Derived.Test.YtkhiiiddbmgiaaaYD1
import Derived.Test.YtkhiiiddbmgiaaaYD2
import Derived.Test.YtkhiiiddbmgiaaaYD3
import Derived.Test.YtkhiiiddbmgiaaaYD4
import Derived.Test.YtkhiiiddbmgiaaaYD5
import Derived.Test.YtkhiiiddbmgiaaaYD7
import Derived.Test.YtkhiiiddbmgiaaaYWAuto
section
namespace Go.Proofs.Ytkhiiiddbmgiaaa.P
open Go.RowKit Go.Proofs.YtkhiiiddbmgiaaaW.PrintWords Go.Proofs.YtkhiiiddbmgiaaaW.PrintLast Go.Proofs.YtkhiiiddbmgiaaaW.PrintMore
attribute [local go_sem] jea jca jsa jra jR jQ jda jba jg
set_option linter.unusedVariables false
set_option linter.unusedSimpArgs false
def jRa.f (k : Nat) (s0_0 : List Int) (s0_1 : Int) : Option ((List (S78)) × (List (S52)) × Int) := (jna.f k s0_0 s0_1).bind fun bt826 => (if (bt826.1.length : Int) = 0 then (some (bt826.1, (([(⟨0, 0, 0, 0⟩ : S52)] : List (S52))), bt826.2)) else ((jB.f k s0_0 bt826.2 bt826.1).bind fun bt834 => ((jf.f k s0_0 bt834.2 (bt834.1.length : Int)).bind fun bt838 => ((jf.f k s0_0 bt838.2 24).bind fun bt840 => (if bt840.1 = 0 then ((jh.f k s0_0 bt840.2 (([(-1), 6, 0, 1] : List Int))).bind fun bt845 => (if 0 ≤ bt838.1 then (if bt838.1 < (bt834.1.length : Int) then (some (bt826.1, (bt834.1.set (bt838.1 : Int).toNat (⟨bt845.1, (jc bt834.1 bt838.1).f1, (jc bt834.1 bt838.1).f2, (jc bt834.1 bt838.1).f3⟩ : S52)), bt845.2)) else (none)) else (none))) else (if bt840.1 = 1 then ((jh.f k s0_0 bt840.2 (([(-1), 13, 5, 9, 0] : List Int))).bind fun bt851 => (if 0 ≤ bt838.1 then (if bt838.1 < (bt834.1.length : Int) then (some (bt826.1, (bt834.1.set (bt838.1 : Int).toNat (⟨(jc bt834.1 bt838.1).f0, bt851.1, (jc bt834.1 bt838.1).f2, (jc bt834.1 bt838.1).f3⟩ : S52)), bt851.2)) else (none)) else (none))) else (if bt840.1 = 2 then ((jh.f k s0_0 bt840.2 (([(-1), 100, 8] : List Int))).bind fun bt857 => (if 0 ≤ bt838.1 then (if bt838.1 < (bt834.1.length : Int) then (some (bt826.1, (bt834.1.set (bt838.1 : Int).toNat (⟨(jc bt834.1 bt838.1).f0, (jc bt834.1 bt838.1).f1, bt857.1, (jc bt834.1 bt838.1).f3⟩ : S52)), bt857.2)) else (none)) else (none))) else (if bt840.1 = 3 then (if 1 ≤ (bt834.1.length : Int) then (some (bt826.1, (bt834.1.drop (1 : Int).toNat), bt840.2)) else (none)) else (some (bt826.1, bt834.1, bt840.2))))))))))
set_option maxHeartbeats 8000000 in
set_option maxRecDepth 100000 in
theorem jRa.calls (k : Nat) (g : Nat) (s0_0 : List Int) (s0_1 : Int) (r1 : List (S78)) (r2 : List (S52)) (r3 : Int) (w0 w : World) (hI : je w0 w g s0_0 s0_1) (hB : Below w0.heap.size w0 w) (h : jRa.f k s0_0 s0_1 = some (r1, r2, r3)) :
  Calls Try.prog 49 #[.pointer (some ⟨g,0,none⟩)] w fun e w'=>∃ v0_ v1_:Value,e=.returned (.tuple #[.agg #[v0_],v1_])∧Kd.R k78 78 w' w.heap.size (fun _=>True) v0_ r1∧Kd.Q k52 52 w' w.heap.size (fun _=>True) v1_ r2∧je w0 w' g s0_0 r3∧Below w0.heap.size w0 w'∧jb w w' g none:=by
 have hu32:=Try.underlying32
 have hu52:=Try.underlying52
 have HI0:=am hI
 have HK:=am (jb.refl w g none)
 have HL:=am hB.size
 clear hI
 have HW0:=am hB.size
 have HB:=am hB
 clear hB
 have H:((jna.f k s0_0 s0_1).bind fun bt826=>(if (bt826.1.length:Int)=0 then (some (bt826.1,(([(⟨0,0,0,0⟩:S52)]:List (S52))),bt826.2)) else ((jB.f k s0_0 bt826.2 bt826.1).bind fun bt834=>((jf.f k s0_0 bt834.2 (bt834.1.length:Int)).bind fun bt838=>((jf.f k s0_0 bt838.2 24).bind fun bt840=>(if bt840.1=0 then ((jh.f k s0_0 bt840.2 (([(-1),6,0,1]:List Int))).bind fun bt845=>(if 0≤bt838.1 then (if bt838.1<(bt834.1.length:Int) then (some (bt826.1,(bt834.1.set (bt838.1:Int).toNat (⟨bt845.1,(jc bt834.1 bt838.1).f1,(jc bt834.1 bt838.1).f2,(jc bt834.1 bt838.1).f3⟩:S52)),bt845.2)) else (none)) else (none))) else (if bt840.1=1 then ((jh.f k s0_0 bt840.2 (([(-1),13,5,9,0]:List Int))).bind fun bt851=>(if 0≤bt838.1 then (if bt838.1<(bt834.1.length:Int) then (some (bt826.1,(bt834.1.set (bt838.1:Int).toNat (⟨(jc bt834.1 bt838.1).f0,bt851.1,(jc bt834.1 bt838.1).f2,(jc bt834.1 bt838.1).f3⟩:S52)),bt851.2)) else (none)) else (none))) else (if bt840.1=2 then ((jh.f k s0_0 bt840.2 (([(-1),100,8]:List Int))).bind fun bt857=>(if 0≤bt838.1 then (if bt838.1<(bt834.1.length:Int) then (some (bt826.1,(bt834.1.set (bt838.1:Int).toNat (⟨(jc bt834.1 bt838.1).f0,(jc bt834.1 bt838.1).f1,bt857.1,(jc bt834.1 bt838.1).f3⟩:S52)),bt857.2)) else (none)) else (none))) else (if bt840.1=3 then (if 1≤(bt834.1.length:Int) then (some (bt826.1,(bt834.1.drop (1:Int).toNat),bt840.2)) else (none)) else (some (bt826.1,bt834.1,bt840.2)))))))))))=some (r1,r2,r3):=h
 clear h
 replace H:=bzS H
 obtain ⟨⟨t826,t829⟩,A20,H⟩:=H
 replace H:(if (t826.length:Int)=0 then (some (t826,(([(⟨0,0,0,0⟩:S52)]:List (S52))),t829)) else ((jB.f k s0_0 t829 t826).bind fun bt834=>((jf.f k s0_0 bt834.2 (bt834.1.length:Int)).bind fun bt838=>((jf.f k s0_0 bt838.2 24).bind fun bt840=>(if bt840.1=0 then ((jh.f k s0_0 bt840.2 (([(-1),6,0,1]:List Int))).bind fun bt845=>(if 0≤bt838.1 then (if bt838.1<(bt834.1.length:Int) then (some (t826,(bt834.1.set (bt838.1:Int).toNat (⟨bt845.1,(jc bt834.1 bt838.1).f1,(jc bt834.1 bt838.1).f2,(jc bt834.1 bt838.1).f3⟩:S52)),bt845.2)) else (none)) else (none))) else (if bt840.1=1 then ((jh.f k s0_0 bt840.2 (([(-1),13,5,9,0]:List Int))).bind fun bt851=>(if 0≤bt838.1 then (if bt838.1<(bt834.1.length:Int) then (some (t826,(bt834.1.set (bt838.1:Int).toNat (⟨(jc bt834.1 bt838.1).f0,bt851.1,(jc bt834.1 bt838.1).f2,(jc bt834.1 bt838.1).f3⟩:S52)),bt851.2)) else (none)) else (none))) else (if bt840.1=2 then ((jh.f k s0_0 bt840.2 (([(-1),100,8]:List Int))).bind fun bt857=>(if 0≤bt838.1 then (if bt838.1<(bt834.1.length:Int) then (some (t826,(bt834.1.set (bt838.1:Int).toNat (⟨(jc bt834.1 bt838.1).f0,(jc bt834.1 bt838.1).f1,bt857.1,(jc bt834.1 bt838.1).f3⟩:S52)),bt857.2)) else (none)) else (none))) else (if bt840.1=3 then (if 1≤(bt834.1.length:Int) then (some (t826,(bt834.1.drop (1:Int).toNat),bt840.2)) else (none)) else (some (t826,bt834.1,bt840.2))))))))))=some (r1,r2,r3):=H
 have A2:=am A20
 clear A20
 by_cases c3:(t826.length:Int)=0
 ·rw [if_pos c3] at H
  have c3b0:((t826.length:Int) == 0)=true:=beq_iff_eq.mpr c3
  have c3b1:((t826.length:Int) != 0)=false:=bne_eq_false_iff_eq.mpr c3
  clear c3
  obtain ⟨y831,hy831⟩:∃ y_:List (S52),y_=(([(⟨0,0,0,0⟩:S52)]:List (S52))):=⟨_,rfl⟩
  replace H:(some (t826,y831,t829))=some (r1,r2,r3):=by first |(rw [hy831];with_reducible exact H) |(have H2_:=(Option.bind_some _ _).symm.trans H;rw [hy831];with_reducible exact H2_) |(have H2_:=(Option.bind_some _ _).symm.trans H;with_reducible exact H2_) | with_reducible exact H |(rw [hy831];exact H) | exact H
  have Ny831:=am hy831
  clear hy831
  simp only [Option.some.injEq,Prod.mk.injEq] at H
  obtain ⟨rfl,rfl,rfl⟩:=H
  go_enter Try.func49,Try.ntmps49
  go_wp2_with (first |((with_reducible refine jP (N:=2) rfl ?_);refine bE (N:=2) (cs:=#[.slice none 0 0]) (t:=32) ?_;intro gb825 hg w4 hbox hb;have BK825:=am (hbox);have GW825:=am ((Y12:w.heap.size≤gb825));have GE825:=am ((Nat.le_trans HW0.out (Y12:w.heap.size≤gb825):w0.heap.size≤gb825));have NB0_825:=am ((Y28:g≠gb825));have NB825_0:=am ((Y29:gb825≠g));replace HK:=am (jb.trans (Y16) (jb.of_below hb g none) (.inl rfl));replace HB:=am (ji (Y17) hb);replace HI0:=am (je.below (Y15) hb);clear hb hbox hg) |((with_reducible refine jd (f:=74) rfl ?_);refine gL (some 8) Try.func74 #[.pointer (some ⟨g,0,none⟩)] ?_;(with_reducible refine (jna.calls k g s0_0 s0_1 t826 t829 w0 _ ?side1 ?side2 A2.out).mono ?_);(case side1=>exact Y36);(case side2=>exact Y37);rintro e w5 ⟨v827,rfl,ho0,hi,hb,hk⟩;refine ⟨_,rfl,?_⟩;have HO828:=am (Kd.jfa ho0 (jL (w:=w) (g:=g) (row:=none) (Y25)));replace BK825:=am (jb.blk hk (g':=gb825) (o:=.cells #[.slice none 0 0] 32 (0,0)) (kq BK825.out) NB825_0.out (by simp));replace HK:=am (jb.trans (Y25) hk (.inl rfl));replace HB:=am (hb);replace HI0:=am (hi);(try clear hb);(try clear hb2);(try clear hk);(try clear hi);(try clear ho0)) |((with_reducible refine jP (N:=4) rfl ?_);refine bE (N:=4) (cs:=#[.slice none 0 0]) (t:=32) ?_;intro gb830 hg w6 hbox hb;have BK830:=am (hbox);have GW830:=am ((Y38:w.heap.size≤gb830));have GE830:=am ((Nat.le_trans HW0.out (Y38:w.heap.size≤gb830):w0.heap.size≤gb830));have NB825_830:=am ((Y58:gb825≠gb830));have NB830_825:=am ((Y59:gb830≠gb825));have NB0_830:=am ((Y60:g≠gb830));have NB830_0:=am ((Y61:gb830≠g));replace HO828:=am (Kd.jqa (rq HO828.out) hb);replace BK825:=am (jr (g:=gb825) (o:=.cells #[.slice none 0 0] 32 (0,0)) (kq BK825.out) hb);replace HK:=am (jb.trans (Y25) (jb.of_below hb g none) (.inl rfl));replace HB:=am (ji (Y37) hb);replace HI0:=am (je.below (Y36) hb);clear hb hbox hg;obtain ⟨Ao7,co7,eo7⟩:=Kd.jta HO828.out;subst eo7;have hnb8:=NB830_825.out;have hnc8:=NB825_830.out;have hnb9:=NB830_0.out;have hnc9:=NB0_830.out;have hcz10_0:=bc0 BK830.out;have hfz10_0:=ja BK830.out 0) |((with_reducible refine jP (N:=15) rfl ?_);refine Kd.jYb k52 _ 52 ?hg (N:=15) ?hd (xs:=([(⟨0,0,0,0⟩:S52)]:List (S52))) (inner:=[.int .i64 0, .int .i64 0, .int .i64 0, .int .i64 0]) (ok:=fun _=>True) (okp:=fun _=>True) ?hr ?hp (fun _ hk=>hk) trivial (Below.refl _ _) (Nat.le_refl _) (by simp) ?_;(case hd=>rfl);(case hg=>rfl);(case hr=>exact Y8);(case hp=>exact (Reps.c4 (show Kd.M k52 _ _ _ (⟨0,0,0,0⟩:S52) [.int .i64 0, .int .i64 0, .int .i64 0, .int .i64 0] from (jpb _ _ _ (⟨0,0,0,0⟩:S52) )) (Reps.none _ _)));intro v832 w11 ho12 hb hg_ hnew_;clear hg_ hnew_;(first | rw [← Ny831.out] at ho12 |(simp only [Int.reduceToNat] at ho12;rw [← Ny831.out] at ho12));have HO833:=am (Kd.jfa ho12 (jL (w:=w) (g:=g) (row:=none) (Y9)));replace HO828:=am (Kd.jqa (by (with_reducible repeat (first | apply Kd.jma | apply Kd.jla | apply Kd.jva));exact (Kd.jG (Kd.jLb (p:=⟨gb830,0,none⟩) (Kd.jQa HO828.out BK830.out (by decide)) (fun _ hk=>hk.2) (.slice Ao7 t826.length co7)) (fun _ h_=>h_.1))) hb);replace BK825:=am (jr (g:=gb825) (o:=.cells #[.slice none 0 0] 32 (0,0)) (Y62) hb);replace BK830:=am (jr (g:=gb830) (o:=.cells #[.slice Ao7 t826.length co7] 32 (0,0)) (Y63) hb);replace HK:=am (jb.trans (Y9) (jb.of_below hb g none) (.inl rfl));replace HB:=am (ji (Y14) hb);replace HI0:=am (je.below (show je w0 (w6.setCell ⟨gb830,0,none⟩ (.slice Ao7 t826.length co7)) g s0_0 t829 from Y2) hb);clear hb ho12;have hnb13:=NB825_0.out;have hnc13:=NB0_825.out;have hcz14_0:=bc0 BK825.out;have hfz14_0:=ja BK825.out 0))
  refine bodyPost_ret (jic rfl _ _ gb825 32 #[.slice Ao7 t826.length co7] (0,0) _ rfl (Y64) Try.underlying32 rfl (by kernel_rfl)) rfl ?_
  exact ⟨_,_,Y0,by (with_reducible repeat (first | apply Kd.jma | apply Kd.jla | apply Kd.jva));exact Kd.jG (Kd.jLb (p:=⟨gb825,0,none⟩) (Kd.jQa HO828.out BK825.out (by decide)) (fun _ hk=>hk.2) (.slice Ao7 t826.length co7)) (fun _ hk=>trivial),Kd.Q_of_R (by (with_reducible repeat (first | apply Kd.jma | apply Kd.jla | apply Kd.jva));exact Kd.jG (Kd.jLb (p:=⟨gb825,0,none⟩) (Kd.jQa HO833.out BK825.out (by decide)) (fun _ hk=>hk.2) (.slice Ao7 t826.length co7)) (fun _ hk=>trivial)),Y2,Y14,Y9⟩
 ·rw [if_neg c3] at H
  have c3b0:((t826.length:Int) == 0)=false:=beq_eq_false_iff_ne.mpr c3
  have c3b1:((t826.length:Int) != 0)=true:=bne_iff_ne.mpr c3
  have c3b2:¬ (t826=[]):=fun h_=>c3 (by rw [h_];rfl)
  replace H:=bzS H
  obtain ⟨⟨t834,t837⟩,A150,H⟩:=H
  replace H:((jf.f k s0_0 t837 (t834.length:Int)).bind fun bt838=>((jf.f k s0_0 bt838.2 24).bind fun bt840=>(if bt840.1=0 then ((jh.f k s0_0 bt840.2 (([(-1),6,0,1]:List Int))).bind fun bt845=>(if 0≤bt838.1 then (if bt838.1<(t834.length:Int) then (some (t826,(t834.set (bt838.1:Int).toNat (⟨bt845.1,(jc t834 bt838.1).f1,(jc t834 bt838.1).f2,(jc t834 bt838.1).f3⟩:S52)),bt845.2)) else (none)) else (none))) else (if bt840.1=1 then ((jh.f k s0_0 bt840.2 (([(-1),13,5,9,0]:List Int))).bind fun bt851=>(if 0≤bt838.1 then (if bt838.1<(t834.length:Int) then (some (t826,(t834.set (bt838.1:Int).toNat (⟨(jc t834 bt838.1).f0,bt851.1,(jc t834 bt838.1).f2,(jc t834 bt838.1).f3⟩:S52)),bt851.2)) else (none)) else (none))) else (if bt840.1=2 then ((jh.f k s0_0 bt840.2 (([(-1),100,8]:List Int))).bind fun bt857=>(if 0≤bt838.1 then (if bt838.1<(t834.length:Int) then (some (t826,(t834.set (bt838.1:Int).toNat (⟨(jc t834 bt838.1).f0,(jc t834 bt838.1).f1,bt857.1,(jc t834 bt838.1).f3⟩:S52)),bt857.2)) else (none)) else (none))) else (if bt840.1=3 then (if 1≤(t834.length:Int) then (some (t826,(t834.drop (1:Int).toNat),bt840.2)) else (none)) else (some (t826,t834,bt840.2))))))))=some (r1,r2,r3):=H
  have A15:=am A150
  clear A150
  replace H:=bzS H
  obtain ⟨⟨t838,t839⟩,A160,H⟩:=H
  replace H:((jf.f k s0_0 t839 24).bind fun bt840=>(if bt840.1=0 then ((jh.f k s0_0 bt840.2 (([(-1),6,0,1]:List Int))).bind fun bt845=>(if 0≤t838 then (if t838<(t834.length:Int) then (some (t826,(t834.set (t838:Int).toNat (⟨bt845.1,(jc t834 t838).f1,(jc t834 t838).f2,(jc t834 t838).f3⟩:S52)),bt845.2)) else (none)) else (none))) else (if bt840.1=1 then ((jh.f k s0_0 bt840.2 (([(-1),13,5,9,0]:List Int))).bind fun bt851=>(if 0≤t838 then (if t838<(t834.length:Int) then (some (t826,(t834.set (t838:Int).toNat (⟨(jc t834 t838).f0,bt851.1,(jc t834 t838).f2,(jc t834 t838).f3⟩:S52)),bt851.2)) else (none)) else (none))) else (if bt840.1=2 then ((jh.f k s0_0 bt840.2 (([(-1),100,8]:List Int))).bind fun bt857=>(if 0≤t838 then (if t838<(t834.length:Int) then (some (t826,(t834.set (t838:Int).toNat (⟨(jc t834 t838).f0,(jc t834 t838).f1,bt857.1,(jc t834 t838).f3⟩:S52)),bt857.2)) else (none)) else (none))) else (if bt840.1=3 then (if 1≤(t834.length:Int) then (some (t826,(t834.drop (1:Int).toNat),bt840.2)) else (none)) else (some (t826,t834,bt840.2)))))))=some (r1,r2,r3):=H
  have A16:=am A160
  clear A160
  replace H:=bzS H
  obtain ⟨⟨t840,t841⟩,A170,H⟩:=H
  replace H:(if t840=0 then ((jh.f k s0_0 t841 (([(-1),6,0,1]:List Int))).bind fun bt845=>(if 0≤t838 then (if t838<(t834.length:Int) then (some (t826,(t834.set (t838:Int).toNat (⟨bt845.1,(jc t834 t838).f1,(jc t834 t838).f2,(jc t834 t838).f3⟩:S52)),bt845.2)) else (none)) else (none))) else (if t840=1 then ((jh.f k s0_0 t841 (([(-1),13,5,9,0]:List Int))).bind fun bt851=>(if 0≤t838 then (if t838<(t834.length:Int) then (some (t826,(t834.set (t838:Int).toNat (⟨(jc t834 t838).f0,bt851.1,(jc t834 t838).f2,(jc t834 t838).f3⟩:S52)),bt851.2)) else (none)) else (none))) else (if t840=2 then ((jh.f k s0_0 t841 (([(-1),100,8]:List Int))).bind fun bt857=>(if 0≤t838 then (if t838<(t834.length:Int) then (some (t826,(t834.set (t838:Int).toNat (⟨(jc t834 t838).f0,(jc t834 t838).f1,bt857.1,(jc t834 t838).f3⟩:S52)),bt857.2)) else (none)) else (none))) else (if t840=3 then (if 1≤(t834.length:Int) then (some (t826,(t834.drop (1:Int).toNat),t841)) else (none)) else (some (t826,t834,t841))))))=some (r1,r2,r3):=H
  have A17:=am A170
  clear A170
  by_cases c18:t840=0
  ·rw [if_pos c18] at H
   have c18b0:(t840 == 0)=true:=beq_iff_eq.mpr c18
   have c18b1:(t840 != 0)=false:=bne_eq_false_iff_eq.mpr c18
   clear c18
   obtain ⟨y842,hy842⟩:∃ y_:List Int,y_=(([(-1),6,0,1]:List Int)):=⟨_,rfl⟩
   replace H:((jh.f k s0_0 t841 y842).bind fun bt845=>(if 0≤t838 then (if t838<(t834.length:Int) then (some (t826,(t834.set (t838:Int).toNat (⟨bt845.1,(jc t834 t838).f1,(jc t834 t838).f2,(jc t834 t838).f3⟩:S52)),bt845.2)) else (none)) else (none)))=some (r1,r2,r3):=by first |(rw [hy842];with_reducible exact H) |(have H2_:=(Option.bind_some _ _).symm.trans H;rw [hy842];with_reducible exact H2_) |(have H2_:=(Option.bind_some _ _).symm.trans H;with_reducible exact H2_) | with_reducible exact H |(rw [hy842];exact H) | exact H
   have Ny842:=am hy842
   clear hy842
   replace H:=bzS H
   obtain ⟨⟨t845,t846⟩,A190,H⟩:=H
   replace H:(if 0≤t838 then (if t838<(t834.length:Int) then (some (t826,(t834.set (t838:Int).toNat (⟨t845,(jc t834 t838).f1,(jc t834 t838).f2,(jc t834 t838).f3⟩:S52)),t846)) else (none)) else (none))=some (r1,r2,r3):=H
   have A19:=am A190
   clear A190
   by_cases c20:0≤t838
   ·rw [if_pos c20] at H
    have c20b0:decide (0≤t838)=true:=dzT c20
    clear c20
    by_cases c21:t838<(t834.length:Int)
    ·rw [if_pos c21] at H
     have c21b0:decide (t838<(t834.length:Int))=true:=dzT c21
     clear c21
     obtain ⟨y847,hy847⟩:∃ y_:List (S52),y_=(t834.set (t838:Int).toNat (⟨t845,(jc t834 t838).f1,(jc t834 t838).f2,(jc t834 t838).f3⟩:S52)):=⟨_,rfl⟩
     replace H:(some (t826,y847,t846))=some (r1,r2,r3):=by first |(rw [hy847];with_reducible exact H) |(have H2_:=(Option.bind_some _ _).symm.trans H;rw [hy847];with_reducible exact H2_) |(have H2_:=(Option.bind_some _ _).symm.trans H;with_reducible exact H2_) | with_reducible exact H |(rw [hy847];exact H) | exact H
     have Ny847:=am hy847
     clear hy847
     simp only [Option.some.injEq,Prod.mk.injEq] at H
     obtain ⟨rfl,rfl,rfl⟩:=H
     go_enter Try.func49,Try.ntmps49
     go_wp2_with (first |((with_reducible refine jP (N:=2) rfl ?_);refine bE (N:=2) (cs:=#[.slice none 0 0]) (t:=32) ?_;intro gb825 hg w23 hbox hb;have BK825:=am (hbox);have GW825:=am ((Y12:w.heap.size≤gb825));have GE825:=am ((Nat.le_trans HW0.out (Y12:w.heap.size≤gb825):w0.heap.size≤gb825));have NB0_825:=am ((Y28:g≠gb825));have NB825_0:=am ((Y29:gb825≠g));replace HK:=am (jb.trans (Y16) (jb.of_below hb g none) (.inl rfl));replace HB:=am (ji (Y17) hb);replace HI0:=am (je.below (Y15) hb);clear hb hbox hg) |((with_reducible refine jd (f:=74) rfl ?_);refine gL (some 8) Try.func74 #[.pointer (some ⟨g,0,none⟩)] ?_;(with_reducible refine (jna.calls k g s0_0 s0_1 t826 t829 w0 _ ?side1 ?side2 A2.out).mono ?_);(case side1=>exact Y36);(case side2=>exact Y37);rintro e w24 ⟨v827,rfl,ho0,hi,hb,hk⟩;refine ⟨_,rfl,?_⟩;have HO828:=am (Kd.jfa ho0 (jL (w:=w) (g:=g) (row:=none) (Y25)));replace BK825:=am (jb.blk hk (g':=gb825) (o:=.cells #[.slice none 0 0] 32 (0,0)) (kq BK825.out) NB825_0.out (by simp));replace HK:=am (jb.trans (Y25) hk (.inl rfl));replace HB:=am (hb);replace HI0:=am (hi);(try clear hb);(try clear hb2);(try clear hk);(try clear hi);(try clear ho0)) |((with_reducible refine jP (N:=4) rfl ?_);refine bE (N:=4) (cs:=#[.slice none 0 0]) (t:=32) ?_;intro gb830 hg w25 hbox hb;have BK830:=am (hbox);have GW830:=am ((Y38:w.heap.size≤gb830));have GE830:=am ((Nat.le_trans HW0.out (Y38:w.heap.size≤gb830):w0.heap.size≤gb830));have NB825_830:=am ((Y58:gb825≠gb830));have NB830_825:=am ((Y59:gb830≠gb825));have NB0_830:=am ((Y60:g≠gb830));have NB830_0:=am ((Y61:gb830≠g));replace HO828:=am (Kd.jqa (rq HO828.out) hb);replace BK825:=am (jr (g:=gb825) (o:=.cells #[.slice none 0 0] 32 (0,0)) (kq BK825.out) hb);replace HK:=am (jb.trans (Y25) (jb.of_below hb g none) (.inl rfl));replace HB:=am (ji (Y37) hb);replace HI0:=am (je.below (Y36) hb);clear hb hbox hg;obtain ⟨Ao26,co26,eo26⟩:=Kd.jta HO828.out;subst eo26;have hnb27:=NB830_825.out;have hnc27:=NB825_830.out;have hnb28:=NB830_0.out;have hnc28:=NB0_830.out;have hcz29_0:=bc0 BK830.out;have hfz29_0:=ja BK830.out 0) |((with_reducible refine jd (f:=75) rfl ?_);refine gL (some 18) Try.func75 #[.pointer (some ⟨g,0,none⟩), .agg #[.slice Ao26 t826.length co26]] ?_;(with_reducible refine (jB.calls k g s0_0 t829 _ _ t826 t834 t837 w0 _ ?side1 ?side2 ?side3 ?side4 A15.out).mono ?_);(case side1=>exact Y2);(case side2=>exact Y14);(case side3=>exact Kd.jJc (je.apart (show je w0 _ g s0_0 t829 from Y2) (Y101) (by decide)) (fun _ h_=>h_.2));(case side4=>exact (Kd.jC HO828.out).2.1);rintro e w30 ⟨v835,rfl,ho0,hi,hb,hk⟩;refine ⟨_,rfl,?_⟩;have HO836:=am (Kd.jfa ho0 (jL (w:=w) (g:=g) (row:=none) (Y9)));replace BK825:=am (jb.blk hk (g':=gb825) (o:=.cells #[.slice none 0 0] 32 (0,0)) (Y62) NB825_0.out (by simp));replace HO828:=am (Kd.jG (Kd.jBa (je.apart (show je w0 _ g s0_0 t829 from Y2) (Y101) (by decide)) hk (fun _ h=>h.2)) (fun _ h=>h.1));replace BK830:=am (jb.blk hk (g':=gb830) (o:=.cells #[.slice Ao26 t826.length co26] 32 (0,0)) (Y63) NB830_0.out (by simp));replace HK:=am (jb.trans (Y9) hk (.inl rfl));replace HB:=am (hb);replace HI0:=am (hi);(try clear hb);(try clear hb2);(try clear hk);(try clear hi);(try clear ho0);obtain ⟨Ao31,co31,eo31⟩:=Kd.jta HO836.out;subst eo31) |((with_reducible refine jd (f:=76) rfl ?_);refine gL (some 22) Try.func76 #[.pointer (some ⟨g,0,none⟩), .int .i64 (t834.length:Int)] ?_;(with_reducible refine (jf.calls k g s0_0 t837 (t834.length:Int) t838 t839 w0 _ ?side1 ?side2 A16.out).mono ?_);(case side1=>exact Y2);(case side2=>exact Y14);rintro e w32 ⟨rfl,hi,hb,hk⟩;refine ⟨_,rfl,?_⟩;replace BK825:=am (jb.blk hk (g':=gb825) (o:=.cells #[.slice none 0 0] 32 (0,0)) (kq BK825.out) NB825_0.out (by simp));replace HO828:=am (Kd.jG (Kd.jBa (je.apart (show je w0 _ g s0_0 t837 from Y2) (rq HO828.out) (by decide)) hk (fun _ h=>h.2)) (fun _ h=>h.1));replace BK830:=am (jb.blk hk (g':=gb830) (o:=.cells #[.slice Ao26 t826.length co26] 32 (0,0)) (kq BK830.out) NB830_0.out (by simp));replace HO836:=am (Kd.jG (Kd.jBa (je.apart (show je w0 _ g s0_0 t837 from Y2) (rq HO836.out) (by decide)) hk (fun _ h=>h.2)) (fun _ h=>h.1));replace HK:=am (jb.trans (Y9) hk (.inl rfl));replace HB:=am (hb);replace HI0:=am (hi);(try clear hb);(try clear hb2);(try clear hk);(try clear hi)) |((with_reducible refine jd (f:=76) rfl ?_);refine gL (some 24) Try.func76 #[.pointer (some ⟨g,0,none⟩), .int .i64 24] ?_;(with_reducible refine (jf.calls k g s0_0 t839 24 t840 t841 w0 _ ?side1 ?side2 A17.out).mono ?_);(case side1=>exact Y2);(case side2=>exact Y14);rintro e w33 ⟨rfl,hi,hb,hk⟩;refine ⟨_,rfl,?_⟩;replace BK825:=am (jb.blk hk (g':=gb825) (o:=.cells #[.slice none 0 0] 32 (0,0)) (kq BK825.out) NB825_0.out (by simp));replace HO828:=am (Kd.jG (Kd.jBa (je.apart (show je w0 _ g s0_0 t839 from Y2) (rq HO828.out) (by decide)) hk (fun _ h=>h.2)) (fun _ h=>h.1));replace BK830:=am (jb.blk hk (g':=gb830) (o:=.cells #[.slice Ao26 t826.length co26] 32 (0,0)) (kq BK830.out) NB830_0.out (by simp));replace HO836:=am (Kd.jG (Kd.jBa (je.apart (show je w0 _ g s0_0 t839 from Y2) (rq HO836.out) (by decide)) hk (fun _ h=>h.2)) (fun _ h=>h.1));replace HK:=am (jb.trans (Y9) hk (.inl rfl));replace HB:=am (hb);replace HI0:=am (hi);(try clear hb);(try clear hb2);(try clear hk);(try clear hi)) |((with_reducible refine jP (N:=30) rfl ?_);refine Kd.jYb (Kd.int .i64) _ 3 ?hg (N:=30) ?hd (xs:=([(-1),6,0,1]:List Int)) (inner:=[.int .i64 (-1), .int .i64 6, .int .i64 0, .int .i64 1]) (ok:=fun _=>True) (okp:=fun _=>True) ?hr ?hp (fun _ hk=>hk) trivial (Below.refl _ _) (Nat.le_refl _) (by simp) ?_;(case hd=>rfl);(case hg=>rfl);(case hr=>exact Y8);(case hp=>exact (Reps.one (show Kd.M (Kd.int .i64) _ _ _ (-1) [.int .i64 (-1)] from rfl) (Reps.one (show Kd.M (Kd.int .i64) _ _ _ 6 [.int .i64 6] from rfl) (Reps.one (show Kd.M (Kd.int .i64) _ _ _ 0 [.int .i64 0] from rfl) (Reps.one (show Kd.M (Kd.int .i64) _ _ _ 1 [.int .i64 1] from rfl) (Reps.none _ _))))));intro v843 w34 ho35 hb hg_ hnew_;clear hg_ hnew_;(first | rw [← Ny842.out] at ho35 |(simp only [Int.reduceToNat] at ho35;rw [← Ny842.out] at ho35));have HO844:=am (Kd.jfa ho35 (jL (w:=w) (g:=g) (row:=none) (Y9)));replace HO828:=am (Kd.jqa (rq HO828.out) hb);replace HO836:=am (Kd.jqa (rq HO836.out) hb);replace BK825:=am (jr (g:=gb825) (o:=.cells #[.slice none 0 0] 32 (0,0)) (kq BK825.out) hb);replace BK830:=am (jr (g:=gb830) (o:=.cells #[.slice Ao26 t826.length co26] 32 (0,0)) (kq BK830.out) hb);replace HK:=am (jb.trans (Y9) (jb.of_below hb g none) (.inl rfl));replace HB:=am (ji (Y14) hb);replace HI0:=am (je.below (Y2) hb);clear hb ho35;obtain ⟨Ao36,co36,eo36⟩:=Kd.jta HO844.out;subst eo36) |((with_reducible refine jd (f:=77) rfl ?_);refine gL (some 31) Try.func77 #[.pointer (some ⟨g,0,none⟩), .slice Ao36 y842.length co36] ?_;(with_reducible refine (jh.calls k g s0_0 t841 _ _ y842 t845 t846 w0 _ ?side1 ?side2 ?side3 ?side4 ?side5 A19.out).mono ?_);(case side1=>exact Y2);(case side2=>exact Y14);(case side3=>exact cq (Kd.jC HO844.out).2.2);(case side4=>exact (Kd.jC HO844.out).2.1);(case side5=>exact jxb (je.own_ne HI0.out HO844.out (by decide)));rintro e w37 ⟨rfl,hi,hb,hk⟩;refine ⟨_,rfl,?_⟩;replace BK825:=am (jb.blk hk (g':=gb825) (o:=.cells #[.slice none 0 0] 32 (0,0)) (kq BK825.out) NB825_0.out (by simp));replace HO828:=am (Kd.jG (Kd.jBa (je.apart (show je w0 _ g s0_0 t841 from Y2) (rq HO828.out) (by decide)) hk (fun _ h=>h.2)) (fun _ h=>h.1));replace BK830:=am (jb.blk hk (g':=gb830) (o:=.cells #[.slice Ao26 t826.length co26] 32 (0,0)) (kq BK830.out) NB830_0.out (by simp));replace HO836:=am (Kd.jG (Kd.jBa (je.apart (show je w0 _ g s0_0 t841 from Y2) (rq HO836.out) (by decide)) hk (fun _ h=>h.2)) (fun _ h=>h.1));replace HO844:=am (Kd.jG (Kd.jBa (je.apart (show je w0 _ g s0_0 t841 from Y2) (rq HO844.out) (by decide)) hk (fun _ h=>h.2)) (fun _ h=>h.1));replace HK:=am (jb.trans (Y9) hk (.inl rfl));replace HB:=am (hb);replace HI0:=am (hi);(try clear hb);(try clear hb2);(try clear hk);(try clear hi);have p22:0≤(t838:Int):=ozD (uq);have q22:(t838:Int)<((t834.length:Int):Int):=ozD (uq);obtain ⟨go22,co22,eo22,gb22,gl22,cl22,HG22⟩:=Kd.R_form HO836.out (by omega);(first | cases eo22 |(injection eo22 with ea_ en_ ec_;(first | subst ea_ |(injection ea_ with ea_;subst ea_));subst ec_;clear en_));have GB22:=am gb22;have GG22:=am HG22;clear gb22 gl22 HG22;obtain ⟨ce22,hcl22,hM22,hcc22,hfr22⟩:=Kd.R_elem HO836.out z52 (t838:Int) p22 q22;obtain rfl:=jHc hM22;have hx22_0:w37.cell? ⟨go22,(t838:Int).toNat * 4,none⟩=some (.int .i64 ((jc t834 t838).f0)):=hcc22 0 _ rfl;have hx22_1:w37.cell? ⟨go22,(t838:Int).toNat * 4+1,none⟩=some (.int .i64 ((jc t834 t838).f1)):=hcc22 1 _ rfl;have hx22_2:w37.cell? ⟨go22,(t838:Int).toNat * 4+2,none⟩=some (.int .i64 ((jc t834 t838).f2)):=hcc22 2 _ rfl;have hx22_3:w37.cell? ⟨go22,(t838:Int).toNat * 4+3,none⟩=some (.int .i64 ((jc t834 t838).f3)):=hcc22 3 _ rfl;have hf22_0:w37.frozen? ⟨go22,(t838:Int).toNat * 4,none⟩=false:=hfr22 0;have hf22_1:w37.frozen? ⟨go22,(t838:Int).toNat * 4+1,none⟩=false:=hfr22 1;have hf22_2:w37.frozen? ⟨go22,(t838:Int).toNat * 4+2,none⟩=false:=hfr22 2;have hf22_3:w37.frozen? ⟨go22,(t838:Int).toNat * 4+3,none⟩=false:=hfr22 3;clear hcl22 hcc22 hfr22 hM22;replace p22:=ezT p22;replace q22:=ezT q22;have HX38:=am (show Kd.R k52 52 w37 w.heap.size (fun _=>True) (.slice (some ⟨go22,0,none⟩) t834.length co31) t834 from (rq HO836.out));obtain ⟨ce38,hcl38,hM38,hcc38,hfr38⟩:=Kd.R_elem HX38.out z52 (t838:Int) (ozD (uq)) (by have h_:(t838:Int)<((t834.length:Int):Int):=ozD (uq);first | exact h_ |(have e_:=(Kd.jC HO836.out).1;omega) | simpa using h_);obtain rfl:=jHc hM38;have HP38:=Kd.R_seg HX38.out (t838:Int) (ozD (uq)) (by have h_:(t838:Int)<((t834.length:Int):Int):=ozD (uq);first | exact h_ |(have e_:=(Kd.jC HO836.out).1;omega) | simpa using h_) (seg:=[.int .i64 t845]) (j:=0) hcl38 hcc38 (show 1≤4 from by decide) (x':=(⟨t845,(jc t834 t838).f1,(jc t834 t838).f2,(jc t834 t838).f3⟩:S52)) (jpb _ _ _ (⟨t845,(jc t834 t838).f1,(jc t834 t838).f2,(jc t834 t838).f3⟩:S52) ) (fun _ hk=>hk);have hx38_0:=hcc38 0 _ rfl;(try simp only [show (k52).sz=4 from rfl,Nat.mul_one,Nat.add_zero] at hx38_0);have hf38_0:=hfr38 0;(try simp only [show (k52).sz=4 from rfl,Nat.mul_one,Nat.add_zero] at hf38_0);clear hcl38 hcc38 hfr38 hM38) |((with_reducible refine gate_store (t:=3) (p:=33) rfl ?_);refine store_event (t:=3) (p:=33) (v:=?vo_w39) (w1:=(w37.setCell ⟨go22,(t838:Int).toNat * 4,none⟩ (.int .i64 t845))) ?hg ?ho ?hn ?hr ?_;(case ho=>rfl);(case hg=>rfl);(case hn=>rfl);(case hr=>exact Y8);intro w39 hw;have hg:w37.grownBy w39 (some go22):=(by rw [hw];exact HP38.2);have hp_:Kd.R k52 52 w39 w.heap.size (fun _=>True) (.slice (some ⟨go22,0,none⟩) t834.length co31) y847:=(by rw [hw,Ny847.out];exact HP38.1);clear HP38;replace HI0:=am (je.grown (Y2) hg (je.own_ne HI0.out HO836.out (by decide)));replace BK825:=am (jOa (g:=gb825) (o:=.cells #[.slice none 0 0] 32 (0,0)) (kq BK825.out) hg (Kd.R_ne HO836.out BK825.out (by decide)));replace HO828:=am (Kd.jvc (v:=(.slice (some ⟨go22,0,none⟩) t834.length co31)) (rq HO828.out) (Kd.juc HO836.out) (by decide) hg);replace BK830:=am (jOa (g:=gb830) (o:=.cells #[.slice Ao26 t826.length co26] 32 (0,0)) (kq BK830.out) hg (Kd.R_ne HO836.out BK830.out (by decide)));replace HO844:=am (Kd.jvc (v:=(.slice (some ⟨go22,0,none⟩) t834.length co31)) (rq HO844.out) (Kd.juc HO836.out) (by decide) hg);replace HB:=am ((by rw [hw];exact jS (HB.out) (Nat.le_trans HL.out GB22.out):Below w0.heap.size w0 w39));replace HK:=am (jb.trans (Y9) (jb.jub hg g) (Kd.jTb HO836.out));replace HO836:=am (hp_);clear hg hw hp_;have hcz40_0:=bc0 BK830.out;have hfz40_0:=ja BK830.out 0;have hnb41:=NB825_0.out;have hnc41:=NB0_825.out;have hcz42_0:=bc0 BK825.out;have hfz42_0:=ja BK825.out 0))
     refine bodyPost_ret (jic rfl _ _ gb825 32 #[.slice Ao26 t826.length co26] (0,0) _ rfl (Y64) Try.underlying32 rfl (by kernel_rfl)) rfl ?_
     exact ⟨_,_,Y0,by (with_reducible repeat (first | apply Kd.jma | apply Kd.jla | apply Kd.jva));exact Kd.jG (Kd.jLb (p:=⟨gb825,0,none⟩) (Kd.jQa HO828.out BK825.out (by decide)) (fun _ hk=>hk.2) (.slice Ao26 t826.length co26)) (fun _ hk=>trivial),Kd.Q_of_R (by (with_reducible repeat (first | apply Kd.jma | apply Kd.jla | apply Kd.jva));exact Kd.jG (Kd.jLb (p:=⟨gb825,0,none⟩) (Kd.jQa HO836.out BK825.out (by decide)) (fun _ hk=>hk.2) (.slice Ao26 t826.length co26)) (fun _ hk=>trivial)),Y2,Y14,Y9⟩
    ·rw [if_neg c21] at H
     exact absurd H (by simp)
   ·rw [if_neg c20] at H
    exact absurd H (by simp)
  ·rw [if_neg c18] at H
   have c18b0:(t840 == 0)=false:=beq_eq_false_iff_ne.mpr c18
   have c18b1:(t840 != 0)=true:=bne_iff_ne.mpr c18
   by_cases c43:t840=1
   ·rw [if_pos c43] at H
    have c43b0:(t840 == 1)=true:=beq_iff_eq.mpr c43
    have c43b1:(t840 != 1)=false:=bne_eq_false_iff_eq.mpr c43
    clear c43
    obtain ⟨y848,hy848⟩:∃ y_:List Int,y_=(([(-1),13,5,9,0]:List Int)):=⟨_,rfl⟩
    replace H:((jh.f k s0_0 t841 y848).bind fun bt851=>(if 0≤t838 then (if t838<(t834.length:Int) then (some (t826,(t834.set (t838:Int).toNat (⟨(jc t834 t838).f0,bt851.1,(jc t834 t838).f2,(jc t834 t838).f3⟩:S52)),bt851.2)) else (none)) else (none)))=some (r1,r2,r3):=by first |(rw [hy848];with_reducible exact H) |(have H2_:=(Option.bind_some _ _).symm.trans H;rw [hy848];with_reducible exact H2_) |(have H2_:=(Option.bind_some _ _).symm.trans H;with_reducible exact H2_) | with_reducible exact H |(rw [hy848];exact H) | exact H
    have Ny848:=am hy848
    clear hy848
    replace H:=bzS H
    obtain ⟨⟨t851,t852⟩,A440,H⟩:=H
    replace H:(if 0≤t838 then (if t838<(t834.length:Int) then (some (t826,(t834.set (t838:Int).toNat (⟨(jc t834 t838).f0,t851,(jc t834 t838).f2,(jc t834 t838).f3⟩:S52)),t852)) else (none)) else (none))=some (r1,r2,r3):=H
    have A44:=am A440
    clear A440
    by_cases c45:0≤t838
    ·rw [if_pos c45] at H
     have c45b0:decide (0≤t838)=true:=dzT c45
     clear c45
     by_cases c46:t838<(t834.length:Int)
     ·rw [if_pos c46] at H
      have c46b0:decide (t838<(t834.length:Int))=true:=dzT c46
      clear c46
      obtain ⟨y853,hy853⟩:∃ y_:List (S52),y_=(t834.set (t838:Int).toNat (⟨(jc t834 t838).f0,t851,(jc t834 t838).f2,(jc t834 t838).f3⟩:S52)):=⟨_,rfl⟩
      replace H:(some (t826,y853,t852))=some (r1,r2,r3):=by first |(rw [hy853];with_reducible exact H) |(have H2_:=(Option.bind_some _ _).symm.trans H;rw [hy853];with_reducible exact H2_) |(have H2_:=(Option.bind_some _ _).symm.trans H;with_reducible exact H2_) | with_reducible exact H |(rw [hy853];exact H) | exact H
      have Ny853:=am hy853
      clear hy853
      simp only [Option.some.injEq,Prod.mk.injEq] at H
      obtain ⟨rfl,rfl,rfl⟩:=H
      go_enter Try.func49,Try.ntmps49
      go_wp2_with (first |((with_reducible refine jP (N:=2) rfl ?_);refine bE (N:=2) (cs:=#[.slice none 0 0]) (t:=32) ?_;intro gb825 hg w48 hbox hb;have BK825:=am (hbox);have GW825:=am ((Y12:w.heap.size≤gb825));have GE825:=am ((Nat.le_trans HW0.out (Y12:w.heap.size≤gb825):w0.heap.size≤gb825));have NB0_825:=am ((Y28:g≠gb825));have NB825_0:=am ((Y29:gb825≠g));replace HK:=am (jb.trans (Y16) (jb.of_below hb g none) (.inl rfl));replace HB:=am (ji (Y17) hb);replace HI0:=am (je.below (Y15) hb);clear hb hbox hg) |((with_reducible refine jd (f:=74) rfl ?_);refine gL (some 8) Try.func74 #[.pointer (some ⟨g,0,none⟩)] ?_;(with_reducible refine (jna.calls k g s0_0 s0_1 t826 t829 w0 _ ?side1 ?side2 A2.out).mono ?_);(case side1=>exact Y36);(case side2=>exact Y37);rintro e w49 ⟨v827,rfl,ho0,hi,hb,hk⟩;refine ⟨_,rfl,?_⟩;have HO828:=am (Kd.jfa ho0 (jL (w:=w) (g:=g) (row:=none) (Y25)));replace BK825:=am (jb.blk hk (g':=gb825) (o:=.cells #[.slice none 0 0] 32 (0,0)) (kq BK825.out) NB825_0.out (by simp));replace HK:=am (jb.trans (Y25) hk (.inl rfl));replace HB:=am (hb);replace HI0:=am (hi);(try clear hb);(try clear hb2);(try clear hk);(try clear hi);(try clear ho0)) |((with_reducible refine jP (N:=4) rfl ?_);refine bE (N:=4) (cs:=#[.slice none 0 0]) (t:=32) ?_;intro gb830 hg w50 hbox hb;have BK830:=am (hbox);have GW830:=am ((Y38:w.heap.size≤gb830));have GE830:=am ((Nat.le_trans HW0.out (Y38:w.heap.size≤gb830):w0.heap.size≤gb830));have NB825_830:=am ((Y58:gb825≠gb830));have NB830_825:=am ((Y59:gb830≠gb825));have NB0_830:=am ((Y60:g≠gb830));have NB830_0:=am ((Y61:gb830≠g));replace HO828:=am (Kd.jqa (rq HO828.out) hb);replace BK825:=am (jr (g:=gb825) (o:=.cells #[.slice none 0 0] 32 (0,0)) (kq BK825.out) hb);replace HK:=am (jb.trans (Y25) (jb.of_below hb g none) (.inl rfl));replace HB:=am (ji (Y37) hb);replace HI0:=am (je.below (Y36) hb);clear hb hbox hg;obtain ⟨Ao51,co51,eo51⟩:=Kd.jta HO828.out;subst eo51;have hnb52:=NB830_825.out;have hnc52:=NB825_830.out;have hnb53:=NB830_0.out;have hnc53:=NB0_830.out;have hcz54_0:=bc0 BK830.out;have hfz54_0:=ja BK830.out 0) |((with_reducible refine jd (f:=75) rfl ?_);refine gL (some 18) Try.func75 #[.pointer (some ⟨g,0,none⟩), .agg #[.slice Ao51 t826.length co51]] ?_;(with_reducible refine (jB.calls k g s0_0 t829 _ _ t826 t834 t837 w0 _ ?side1 ?side2 ?side3 ?side4 A15.out).mono ?_);(case side1=>exact Y2);(case side2=>exact Y14);(case side3=>exact Kd.jJc (je.apart (show je w0 _ g s0_0 t829 from Y2) (Y102) (by decide)) (fun _ h_=>h_.2));(case side4=>exact (Kd.jC HO828.out).2.1);rintro e w55 ⟨v835,rfl,ho0,hi,hb,hk⟩;refine ⟨_,rfl,?_⟩;have HO836:=am (Kd.jfa ho0 (jL (w:=w) (g:=g) (row:=none) (Y9)));replace BK825:=am (jb.blk hk (g':=gb825) (o:=.cells #[.slice none 0 0] 32 (0,0)) (Y62) NB825_0.out (by simp));replace HO828:=am (Kd.jG (Kd.jBa (je.apart (show je w0 _ g s0_0 t829 from Y2) (Y102) (by decide)) hk (fun _ h=>h.2)) (fun _ h=>h.1));replace BK830:=am (jb.blk hk (g':=gb830) (o:=.cells #[.slice Ao51 t826.length co51] 32 (0,0)) (Y63) NB830_0.out (by simp));replace HK:=am (jb.trans (Y9) hk (.inl rfl));replace HB:=am (hb);replace HI0:=am (hi);(try clear hb);(try clear hb2);(try clear hk);(try clear hi);(try clear ho0);obtain ⟨Ao56,co56,eo56⟩:=Kd.jta HO836.out;subst eo56) |((with_reducible refine jd (f:=76) rfl ?_);refine gL (some 22) Try.func76 #[.pointer (some ⟨g,0,none⟩), .int .i64 (t834.length:Int)] ?_;(with_reducible refine (jf.calls k g s0_0 t837 (t834.length:Int) t838 t839 w0 _ ?side1 ?side2 A16.out).mono ?_);(case side1=>exact Y2);(case side2=>exact Y14);rintro e w57 ⟨rfl,hi,hb,hk⟩;refine ⟨_,rfl,?_⟩;replace BK825:=am (jb.blk hk (g':=gb825) (o:=.cells #[.slice none 0 0] 32 (0,0)) (kq BK825.out) NB825_0.out (by simp));replace HO828:=am (Kd.jG (Kd.jBa (je.apart (show je w0 _ g s0_0 t837 from Y2) (rq HO828.out) (by decide)) hk (fun _ h=>h.2)) (fun _ h=>h.1));replace BK830:=am (jb.blk hk (g':=gb830) (o:=.cells #[.slice Ao51 t826.length co51] 32 (0,0)) (kq BK830.out) NB830_0.out (by simp));replace HO836:=am (Kd.jG (Kd.jBa (je.apart (show je w0 _ g s0_0 t837 from Y2) (rq HO836.out) (by decide)) hk (fun _ h=>h.2)) (fun _ h=>h.1));replace HK:=am (jb.trans (Y9) hk (.inl rfl));replace HB:=am (hb);replace HI0:=am (hi);(try clear hb);(try clear hb2);(try clear hk);(try clear hi)) |((with_reducible refine jd (f:=76) rfl ?_);refine gL (some 24) Try.func76 #[.pointer (some ⟨g,0,none⟩), .int .i64 24] ?_;(with_reducible refine (jf.calls k g s0_0 t839 24 t840 t841 w0 _ ?side1 ?side2 A17.out).mono ?_);(case side1=>exact Y2);(case side2=>exact Y14);rintro e w58 ⟨rfl,hi,hb,hk⟩;refine ⟨_,rfl,?_⟩;replace BK825:=am (jb.blk hk (g':=gb825) (o:=.cells #[.slice none 0 0] 32 (0,0)) (kq BK825.out) NB825_0.out (by simp));replace HO828:=am (Kd.jG (Kd.jBa (je.apart (show je w0 _ g s0_0 t839 from Y2) (rq HO828.out) (by decide)) hk (fun _ h=>h.2)) (fun _ h=>h.1));replace BK830:=am (jb.blk hk (g':=gb830) (o:=.cells #[.slice Ao51 t826.length co51] 32 (0,0)) (kq BK830.out) NB830_0.out (by simp));replace HO836:=am (Kd.jG (Kd.jBa (je.apart (show je w0 _ g s0_0 t839 from Y2) (rq HO836.out) (by decide)) hk (fun _ h=>h.2)) (fun _ h=>h.1));replace HK:=am (jb.trans (Y9) hk (.inl rfl));replace HB:=am (hb);replace HI0:=am (hi);(try clear hb);(try clear hb2);(try clear hk);(try clear hi)) |((with_reducible refine jP (N:=39) rfl ?_);refine Kd.jYb (Kd.int .i64) _ 3 ?hg (N:=39) ?hd (xs:=([(-1),13,5,9,0]:List Int)) (inner:=[.int .i64 (-1), .int .i64 13, .int .i64 5, .int .i64 9, .int .i64 0]) (ok:=fun _=>True) (okp:=fun _=>True) ?hr ?hp (fun _ hk=>hk) trivial (Below.refl _ _) (Nat.le_refl _) (by simp) ?_;(case hd=>rfl);(case hg=>rfl);(case hr=>exact Y8);(case hp=>exact (Reps.one (show Kd.M (Kd.int .i64) _ _ _ (-1) [.int .i64 (-1)] from rfl) (Reps.one (show Kd.M (Kd.int .i64) _ _ _ 13 [.int .i64 13] from rfl) (Reps.one (show Kd.M (Kd.int .i64) _ _ _ 5 [.int .i64 5] from rfl) (Reps.one (show Kd.M (Kd.int .i64) _ _ _ 9 [.int .i64 9] from rfl) (Reps.one (show Kd.M (Kd.int .i64) _ _ _ 0 [.int .i64 0] from rfl) (Reps.none _ _)))))));intro v849 w59 ho60 hb hg_ hnew_;clear hg_ hnew_;(first | rw [← Ny848.out] at ho60 |(simp only [Int.reduceToNat] at ho60;rw [← Ny848.out] at ho60));have HO850:=am (Kd.jfa ho60 (jL (w:=w) (g:=g) (row:=none) (Y9)));replace HO828:=am (Kd.jqa (rq HO828.out) hb);replace HO836:=am (Kd.jqa (rq HO836.out) hb);replace BK825:=am (jr (g:=gb825) (o:=.cells #[.slice none 0 0] 32 (0,0)) (kq BK825.out) hb);replace BK830:=am (jr (g:=gb830) (o:=.cells #[.slice Ao51 t826.length co51] 32 (0,0)) (kq BK830.out) hb);replace HK:=am (jb.trans (Y9) (jb.of_below hb g none) (.inl rfl));replace HB:=am (ji (Y14) hb);replace HI0:=am (je.below (Y2) hb);clear hb ho60;obtain ⟨Ao61,co61,eo61⟩:=Kd.jta HO850.out;subst eo61) |((with_reducible refine jd (f:=77) rfl ?_);refine gL (some 40) Try.func77 #[.pointer (some ⟨g,0,none⟩), .slice Ao61 y848.length co61] ?_;(with_reducible refine (jh.calls k g s0_0 t841 _ _ y848 t851 t852 w0 _ ?side1 ?side2 ?side3 ?side4 ?side5 A44.out).mono ?_);(case side1=>exact Y2);(case side2=>exact Y14);(case side3=>exact cq (Kd.jC HO850.out).2.2);(case side4=>exact (Kd.jC HO850.out).2.1);(case side5=>exact jxb (je.own_ne HI0.out HO850.out (by decide)));rintro e w62 ⟨rfl,hi,hb,hk⟩;refine ⟨_,rfl,?_⟩;replace BK825:=am (jb.blk hk (g':=gb825) (o:=.cells #[.slice none 0 0] 32 (0,0)) (kq BK825.out) NB825_0.out (by simp));replace HO828:=am (Kd.jG (Kd.jBa (je.apart (show je w0 _ g s0_0 t841 from Y2) (rq HO828.out) (by decide)) hk (fun _ h=>h.2)) (fun _ h=>h.1));replace BK830:=am (jb.blk hk (g':=gb830) (o:=.cells #[.slice Ao51 t826.length co51] 32 (0,0)) (kq BK830.out) NB830_0.out (by simp));replace HO836:=am (Kd.jG (Kd.jBa (je.apart (show je w0 _ g s0_0 t841 from Y2) (rq HO836.out) (by decide)) hk (fun _ h=>h.2)) (fun _ h=>h.1));replace HO850:=am (Kd.jG (Kd.jBa (je.apart (show je w0 _ g s0_0 t841 from Y2) (rq HO850.out) (by decide)) hk (fun _ h=>h.2)) (fun _ h=>h.1));replace HK:=am (jb.trans (Y9) hk (.inl rfl));replace HB:=am (hb);replace HI0:=am (hi);(try clear hb);(try clear hb2);(try clear hk);(try clear hi);have p47:0≤(t838:Int):=ozD (uq);have q47:(t838:Int)<((t834.length:Int):Int):=ozD (uq);obtain ⟨go47,co47,eo47,gb47,gl47,cl47,HG47⟩:=Kd.R_form HO836.out (by omega);(first | cases eo47 |(injection eo47 with ea_ en_ ec_;(first | subst ea_ |(injection ea_ with ea_;subst ea_));subst ec_;clear en_));have GB47:=am gb47;have GG47:=am HG47;clear gb47 gl47 HG47;obtain ⟨ce47,hcl47,hM47,hcc47,hfr47⟩:=Kd.R_elem HO836.out z52 (t838:Int) p47 q47;obtain rfl:=jHc hM47;have hx47_0:w62.cell? ⟨go47,(t838:Int).toNat * 4,none⟩=some (.int .i64 ((jc t834 t838).f0)):=hcc47 0 _ rfl;have hx47_1:w62.cell? ⟨go47,(t838:Int).toNat * 4+1,none⟩=some (.int .i64 ((jc t834 t838).f1)):=hcc47 1 _ rfl;have hx47_2:w62.cell? ⟨go47,(t838:Int).toNat * 4+2,none⟩=some (.int .i64 ((jc t834 t838).f2)):=hcc47 2 _ rfl;have hx47_3:w62.cell? ⟨go47,(t838:Int).toNat * 4+3,none⟩=some (.int .i64 ((jc t834 t838).f3)):=hcc47 3 _ rfl;have hf47_0:w62.frozen? ⟨go47,(t838:Int).toNat * 4,none⟩=false:=hfr47 0;have hf47_1:w62.frozen? ⟨go47,(t838:Int).toNat * 4+1,none⟩=false:=hfr47 1;have hf47_2:w62.frozen? ⟨go47,(t838:Int).toNat * 4+2,none⟩=false:=hfr47 2;have hf47_3:w62.frozen? ⟨go47,(t838:Int).toNat * 4+3,none⟩=false:=hfr47 3;clear hcl47 hcc47 hfr47 hM47;replace p47:=ezT p47;replace q47:=ezT q47;have HX63:=am (show Kd.R k52 52 w62 w.heap.size (fun _=>True) (.slice (some ⟨go47,0,none⟩) t834.length co56) t834 from (rq HO836.out));obtain ⟨ce63,hcl63,hM63,hcc63,hfr63⟩:=Kd.R_elem HX63.out z52 (t838:Int) (ozD (uq)) (by have h_:(t838:Int)<((t834.length:Int):Int):=ozD (uq);first | exact h_ |(have e_:=(Kd.jC HO836.out).1;omega) | simpa using h_);obtain rfl:=jHc hM63;have HP63:=Kd.R_seg HX63.out (t838:Int) (ozD (uq)) (by have h_:(t838:Int)<((t834.length:Int):Int):=ozD (uq);first | exact h_ |(have e_:=(Kd.jC HO836.out).1;omega) | simpa using h_) (seg:=[.int .i64 t851]) (j:=1) hcl63 hcc63 (show 2≤4 from by decide) (x':=(⟨(jc t834 t838).f0,t851,(jc t834 t838).f2,(jc t834 t838).f3⟩:S52)) (jpb _ _ _ (⟨(jc t834 t838).f0,t851,(jc t834 t838).f2,(jc t834 t838).f3⟩:S52) ) (fun _ hk=>hk);have hx63_1:=hcc63 1 _ rfl;(try simp only [show (k52).sz=4 from rfl,Nat.mul_one,Nat.add_zero] at hx63_1);have hf63_1:=hfr63 1;(try simp only [show (k52).sz=4 from rfl,Nat.mul_one,Nat.add_zero] at hf63_1);clear hcl63 hcc63 hfr63 hM63) |((with_reducible refine gate_store (t:=3) (p:=42) rfl ?_);refine store_event (t:=3) (p:=42) (v:=?vo_w64) (w1:=(w62.setCell ⟨go47,(t838:Int).toNat * 4+1,none⟩ (.int .i64 t851))) ?hg ?ho ?hn ?hr ?_;(case ho=>rfl);(case hg=>rfl);(case hn=>rfl);(case hr=>exact Y8);intro w64 hw;have hg:w62.grownBy w64 (some go47):=(by rw [hw];exact HP63.2);have hp_:Kd.R k52 52 w64 w.heap.size (fun _=>True) (.slice (some ⟨go47,0,none⟩) t834.length co56) y853:=(by rw [hw,Ny853.out];exact HP63.1);clear HP63;replace HI0:=am (je.grown (Y2) hg (je.own_ne HI0.out HO836.out (by decide)));replace BK825:=am (jOa (g:=gb825) (o:=.cells #[.slice none 0 0] 32 (0,0)) (kq BK825.out) hg (Kd.R_ne HO836.out BK825.out (by decide)));replace HO828:=am (Kd.jvc (v:=(.slice (some ⟨go47,0,none⟩) t834.length co56)) (rq HO828.out) (Kd.juc HO836.out) (by decide) hg);replace BK830:=am (jOa (g:=gb830) (o:=.cells #[.slice Ao51 t826.length co51] 32 (0,0)) (kq BK830.out) hg (Kd.R_ne HO836.out BK830.out (by decide)));replace HO850:=am (Kd.jvc (v:=(.slice (some ⟨go47,0,none⟩) t834.length co56)) (rq HO850.out) (Kd.juc HO836.out) (by decide) hg);replace HB:=am ((by rw [hw];exact jS (HB.out) (Nat.le_trans HL.out GB47.out):Below w0.heap.size w0 w64));replace HK:=am (jb.trans (Y9) (jb.jub hg g) (Kd.jTb HO836.out));replace HO836:=am (hp_);clear hg hw hp_;have hcz65_0:=bc0 BK830.out;have hfz65_0:=ja BK830.out 0;have hnb66:=NB825_0.out;have hnc66:=NB0_825.out;have hcz67_0:=bc0 BK825.out;have hfz67_0:=ja BK825.out 0))
      refine bodyPost_ret (jic rfl _ _ gb825 32 #[.slice Ao51 t826.length co51] (0,0) _ rfl (Y64) Try.underlying32 rfl (by kernel_rfl)) rfl ?_
      exact ⟨_,_,Y0,by (with_reducible repeat (first | apply Kd.jma | apply Kd.jla | apply Kd.jva));exact Kd.jG (Kd.jLb (p:=⟨gb825,0,none⟩) (Kd.jQa HO828.out BK825.out (by decide)) (fun _ hk=>hk.2) (.slice Ao51 t826.length co51)) (fun _ hk=>trivial),Kd.Q_of_R (by (with_reducible repeat (first | apply Kd.jma | apply Kd.jla | apply Kd.jva));exact Kd.jG (Kd.jLb (p:=⟨gb825,0,none⟩) (Kd.jQa HO836.out BK825.out (by decide)) (fun _ hk=>hk.2) (.slice Ao51 t826.length co51)) (fun _ hk=>trivial)),Y2,Y14,Y9⟩
     ·rw [if_neg c46] at H
      exact absurd H (by simp)
    ·rw [if_neg c45] at H
     exact absurd H (by simp)
   ·rw [if_neg c43] at H
    have c43b0:(t840 == 1)=false:=beq_eq_false_iff_ne.mpr c43
    have c43b1:(t840 != 1)=true:=bne_iff_ne.mpr c43
    by_cases c68:t840=2
    ·rw [if_pos c68] at H
     have c68b0:(t840 == 2)=true:=beq_iff_eq.mpr c68
     have c68b1:(t840 != 2)=false:=bne_eq_false_iff_eq.mpr c68
     clear c68
     obtain ⟨y854,hy854⟩:∃ y_:List Int,y_=(([(-1),100,8]:List Int)):=⟨_,rfl⟩
     replace H:((jh.f k s0_0 t841 y854).bind fun bt857=>(if 0≤t838 then (if t838<(t834.length:Int) then (some (t826,(t834.set (t838:Int).toNat (⟨(jc t834 t838).f0,(jc t834 t838).f1,bt857.1,(jc t834 t838).f3⟩:S52)),bt857.2)) else (none)) else (none)))=some (r1,r2,r3):=by first |(rw [hy854];with_reducible exact H) |(have H2_:=(Option.bind_some _ _).symm.trans H;rw [hy854];with_reducible exact H2_) |(have H2_:=(Option.bind_some _ _).symm.trans H;with_reducible exact H2_) | with_reducible exact H |(rw [hy854];exact H) | exact H
     have Ny854:=am hy854
     clear hy854
     replace H:=bzS H
     obtain ⟨⟨t857,t858⟩,A690,H⟩:=H
     replace H:(if 0≤t838 then (if t838<(t834.length:Int) then (some (t826,(t834.set (t838:Int).toNat (⟨(jc t834 t838).f0,(jc t834 t838).f1,t857,(jc t834 t838).f3⟩:S52)),t858)) else (none)) else (none))=some (r1,r2,r3):=H
     have A69:=am A690
     clear A690
     by_cases c70:0≤t838
     ·rw [if_pos c70] at H
      have c70b0:decide (0≤t838)=true:=dzT c70
      clear c70
      by_cases c71:t838<(t834.length:Int)
      ·rw [if_pos c71] at H
       have c71b0:decide (t838<(t834.length:Int))=true:=dzT c71
       clear c71
       obtain ⟨y859,hy859⟩:∃ y_:List (S52),y_=(t834.set (t838:Int).toNat (⟨(jc t834 t838).f0,(jc t834 t838).f1,t857,(jc t834 t838).f3⟩:S52)):=⟨_,rfl⟩
       replace H:(some (t826,y859,t858))=some (r1,r2,r3):=by first |(rw [hy859];with_reducible exact H) |(have H2_:=(Option.bind_some _ _).symm.trans H;rw [hy859];with_reducible exact H2_) |(have H2_:=(Option.bind_some _ _).symm.trans H;with_reducible exact H2_) | with_reducible exact H |(rw [hy859];exact H) | exact H
       have Ny859:=am hy859
       clear hy859
       simp only [Option.some.injEq,Prod.mk.injEq] at H
       obtain ⟨rfl,rfl,rfl⟩:=H
       go_enter Try.func49,Try.ntmps49
       go_wp2_with (first |((with_reducible refine jP (N:=2) rfl ?_);refine bE (N:=2) (cs:=#[.slice none 0 0]) (t:=32) ?_;intro gb825 hg w73 hbox hb;have BK825:=am (hbox);have GW825:=am ((Y12:w.heap.size≤gb825));have GE825:=am ((Nat.le_trans HW0.out (Y12:w.heap.size≤gb825):w0.heap.size≤gb825));have NB0_825:=am ((Y28:g≠gb825));have NB825_0:=am ((Y29:gb825≠g));replace HK:=am (jb.trans (Y16) (jb.of_below hb g none) (.inl rfl));replace HB:=am (ji (Y17) hb);replace HI0:=am (je.below (Y15) hb);clear hb hbox hg) |((with_reducible refine jd (f:=74) rfl ?_);refine gL (some 8) Try.func74 #[.pointer (some ⟨g,0,none⟩)] ?_;(with_reducible refine (jna.calls k g s0_0 s0_1 t826 t829 w0 _ ?side1 ?side2 A2.out).mono ?_);(case side1=>exact Y36);(case side2=>exact Y37);rintro e w74 ⟨v827,rfl,ho0,hi,hb,hk⟩;refine ⟨_,rfl,?_⟩;have HO828:=am (Kd.jfa ho0 (jL (w:=w) (g:=g) (row:=none) (Y25)));replace BK825:=am (jb.blk hk (g':=gb825) (o:=.cells #[.slice none 0 0] 32 (0,0)) (kq BK825.out) NB825_0.out (by simp));replace HK:=am (jb.trans (Y25) hk (.inl rfl));replace HB:=am (hb);replace HI0:=am (hi);(try clear hb);(try clear hb2);(try clear hk);(try clear hi);(try clear ho0)) |((with_reducible refine jP (N:=4) rfl ?_);refine bE (N:=4) (cs:=#[.slice none 0 0]) (t:=32) ?_;intro gb830 hg w75 hbox hb;have BK830:=am (hbox);have GW830:=am ((Y38:w.heap.size≤gb830));have GE830:=am ((Nat.le_trans HW0.out (Y38:w.heap.size≤gb830):w0.heap.size≤gb830));have NB825_830:=am ((Y58:gb825≠gb830));have NB830_825:=am ((Y59:gb830≠gb825));have NB0_830:=am ((Y60:g≠gb830));have NB830_0:=am ((Y61:gb830≠g));replace HO828:=am (Kd.jqa (rq HO828.out) hb);replace BK825:=am (jr (g:=gb825) (o:=.cells #[.slice none 0 0] 32 (0,0)) (kq BK825.out) hb);replace HK:=am (jb.trans (Y25) (jb.of_below hb g none) (.inl rfl));replace HB:=am (ji (Y37) hb);replace HI0:=am (je.below (Y36) hb);clear hb hbox hg;obtain ⟨Ao76,co76,eo76⟩:=Kd.jta HO828.out;subst eo76;have hnb77:=NB830_825.out;have hnc77:=NB825_830.out;have hnb78:=NB830_0.out;have hnc78:=NB0_830.out;have hcz79_0:=bc0 BK830.out;have hfz79_0:=ja BK830.out 0) |((with_reducible refine jd (f:=75) rfl ?_);refine gL (some 18) Try.func75 #[.pointer (some ⟨g,0,none⟩), .agg #[.slice Ao76 t826.length co76]] ?_;(with_reducible refine (jB.calls k g s0_0 t829 _ _ t826 t834 t837 w0 _ ?side1 ?side2 ?side3 ?side4 A15.out).mono ?_);(case side1=>exact Y2);(case side2=>exact Y14);(case side3=>exact Kd.jJc (je.apart (show je w0 _ g s0_0 t829 from Y2) (Y103) (by decide)) (fun _ h_=>h_.2));(case side4=>exact (Kd.jC HO828.out).2.1);rintro e w80 ⟨v835,rfl,ho0,hi,hb,hk⟩;refine ⟨_,rfl,?_⟩;have HO836:=am (Kd.jfa ho0 (jL (w:=w) (g:=g) (row:=none) (Y9)));replace BK825:=am (jb.blk hk (g':=gb825) (o:=.cells #[.slice none 0 0] 32 (0,0)) (Y62) NB825_0.out (by simp));replace HO828:=am (Kd.jG (Kd.jBa (je.apart (show je w0 _ g s0_0 t829 from Y2) (Y103) (by decide)) hk (fun _ h=>h.2)) (fun _ h=>h.1));replace BK830:=am (jb.blk hk (g':=gb830) (o:=.cells #[.slice Ao76 t826.length co76] 32 (0,0)) (Y63) NB830_0.out (by simp));replace HK:=am (jb.trans (Y9) hk (.inl rfl));replace HB:=am (hb);replace HI0:=am (hi);(try clear hb);(try clear hb2);(try clear hk);(try clear hi);(try clear ho0);obtain ⟨Ao81,co81,eo81⟩:=Kd.jta HO836.out;subst eo81) |((with_reducible refine jd (f:=76) rfl ?_);refine gL (some 22) Try.func76 #[.pointer (some ⟨g,0,none⟩), .int .i64 (t834.length:Int)] ?_;(with_reducible refine (jf.calls k g s0_0 t837 (t834.length:Int) t838 t839 w0 _ ?side1 ?side2 A16.out).mono ?_);(case side1=>exact Y2);(case side2=>exact Y14);rintro e w82 ⟨rfl,hi,hb,hk⟩;refine ⟨_,rfl,?_⟩;replace BK825:=am (jb.blk hk (g':=gb825) (o:=.cells #[.slice none 0 0] 32 (0,0)) (kq BK825.out) NB825_0.out (by simp));replace HO828:=am (Kd.jG (Kd.jBa (je.apart (show je w0 _ g s0_0 t837 from Y2) (rq HO828.out) (by decide)) hk (fun _ h=>h.2)) (fun _ h=>h.1));replace BK830:=am (jb.blk hk (g':=gb830) (o:=.cells #[.slice Ao76 t826.length co76] 32 (0,0)) (kq BK830.out) NB830_0.out (by simp));replace HO836:=am (Kd.jG (Kd.jBa (je.apart (show je w0 _ g s0_0 t837 from Y2) (rq HO836.out) (by decide)) hk (fun _ h=>h.2)) (fun _ h=>h.1));replace HK:=am (jb.trans (Y9) hk (.inl rfl));replace HB:=am (hb);replace HI0:=am (hi);(try clear hb);(try clear hb2);(try clear hk);(try clear hi)) |((with_reducible refine jd (f:=76) rfl ?_);refine gL (some 24) Try.func76 #[.pointer (some ⟨g,0,none⟩), .int .i64 24] ?_;(with_reducible refine (jf.calls k g s0_0 t839 24 t840 t841 w0 _ ?side1 ?side2 A17.out).mono ?_);(case side1=>exact Y2);(case side2=>exact Y14);rintro e w83 ⟨rfl,hi,hb,hk⟩;refine ⟨_,rfl,?_⟩;replace BK825:=am (jb.blk hk (g':=gb825) (o:=.cells #[.slice none 0 0] 32 (0,0)) (kq BK825.out) NB825_0.out (by simp));replace HO828:=am (Kd.jG (Kd.jBa (je.apart (show je w0 _ g s0_0 t839 from Y2) (rq HO828.out) (by decide)) hk (fun _ h=>h.2)) (fun _ h=>h.1));replace BK830:=am (jb.blk hk (g':=gb830) (o:=.cells #[.slice Ao76 t826.length co76] 32 (0,0)) (kq BK830.out) NB830_0.out (by simp));replace HO836:=am (Kd.jG (Kd.jBa (je.apart (show je w0 _ g s0_0 t839 from Y2) (rq HO836.out) (by decide)) hk (fun _ h=>h.2)) (fun _ h=>h.1));replace HK:=am (jb.trans (Y9) hk (.inl rfl));replace HB:=am (hb);replace HI0:=am (hi);(try clear hb);(try clear hb2);(try clear hk);(try clear hi)) |((with_reducible refine jP (N:=48) rfl ?_);refine Kd.jYb (Kd.int .i64) _ 3 ?hg (N:=48) ?hd (xs:=([(-1),100,8]:List Int)) (inner:=[.int .i64 (-1), .int .i64 100, .int .i64 8]) (ok:=fun _=>True) (okp:=fun _=>True) ?hr ?hp (fun _ hk=>hk) trivial (Below.refl _ _) (Nat.le_refl _) (by simp) ?_;(case hd=>rfl);(case hg=>rfl);(case hr=>exact Y8);(case hp=>exact (Reps.one (show Kd.M (Kd.int .i64) _ _ _ (-1) [.int .i64 (-1)] from rfl) (Reps.one (show Kd.M (Kd.int .i64) _ _ _ 100 [.int .i64 100] from rfl) (Reps.one (show Kd.M (Kd.int .i64) _ _ _ 8 [.int .i64 8] from rfl) (Reps.none _ _)))));intro v855 w84 ho85 hb hg_ hnew_;clear hg_ hnew_;(first | rw [← Ny854.out] at ho85 |(simp only [Int.reduceToNat] at ho85;rw [← Ny854.out] at ho85));have HO856:=am (Kd.jfa ho85 (jL (w:=w) (g:=g) (row:=none) (Y9)));replace HO828:=am (Kd.jqa (rq HO828.out) hb);replace HO836:=am (Kd.jqa (rq HO836.out) hb);replace BK825:=am (jr (g:=gb825) (o:=.cells #[.slice none 0 0] 32 (0,0)) (kq BK825.out) hb);replace BK830:=am (jr (g:=gb830) (o:=.cells #[.slice Ao76 t826.length co76] 32 (0,0)) (kq BK830.out) hb);replace HK:=am (jb.trans (Y9) (jb.of_below hb g none) (.inl rfl));replace HB:=am (ji (Y14) hb);replace HI0:=am (je.below (Y2) hb);clear hb ho85;obtain ⟨Ao86,co86,eo86⟩:=Kd.jta HO856.out;subst eo86) |((with_reducible refine jd (f:=77) rfl ?_);refine gL (some 49) Try.func77 #[.pointer (some ⟨g,0,none⟩), .slice Ao86 y854.length co86] ?_;(with_reducible refine (jh.calls k g s0_0 t841 _ _ y854 t857 t858 w0 _ ?side1 ?side2 ?side3 ?side4 ?side5 A69.out).mono ?_);(case side1=>exact Y2);(case side2=>exact Y14);(case side3=>exact cq (Kd.jC HO856.out).2.2);(case side4=>exact (Kd.jC HO856.out).2.1);(case side5=>exact jxb (je.own_ne HI0.out HO856.out (by decide)));rintro e w87 ⟨rfl,hi,hb,hk⟩;refine ⟨_,rfl,?_⟩;replace BK825:=am (jb.blk hk (g':=gb825) (o:=.cells #[.slice none 0 0] 32 (0,0)) (kq BK825.out) NB825_0.out (by simp));replace HO828:=am (Kd.jG (Kd.jBa (je.apart (show je w0 _ g s0_0 t841 from Y2) (rq HO828.out) (by decide)) hk (fun _ h=>h.2)) (fun _ h=>h.1));replace BK830:=am (jb.blk hk (g':=gb830) (o:=.cells #[.slice Ao76 t826.length co76] 32 (0,0)) (kq BK830.out) NB830_0.out (by simp));replace HO836:=am (Kd.jG (Kd.jBa (je.apart (show je w0 _ g s0_0 t841 from Y2) (rq HO836.out) (by decide)) hk (fun _ h=>h.2)) (fun _ h=>h.1));replace HO856:=am (Kd.jG (Kd.jBa (je.apart (show je w0 _ g s0_0 t841 from Y2) (rq HO856.out) (by decide)) hk (fun _ h=>h.2)) (fun _ h=>h.1));replace HK:=am (jb.trans (Y9) hk (.inl rfl));replace HB:=am (hb);replace HI0:=am (hi);(try clear hb);(try clear hb2);(try clear hk);(try clear hi);have p72:0≤(t838:Int):=ozD (uq);have q72:(t838:Int)<((t834.length:Int):Int):=ozD (uq);obtain ⟨go72,co72,eo72,gb72,gl72,cl72,HG72⟩:=Kd.R_form HO836.out (by omega);(first | cases eo72 |(injection eo72 with ea_ en_ ec_;(first | subst ea_ |(injection ea_ with ea_;subst ea_));subst ec_;clear en_));have GB72:=am gb72;have GG72:=am HG72;clear gb72 gl72 HG72;obtain ⟨ce72,hcl72,hM72,hcc72,hfr72⟩:=Kd.R_elem HO836.out z52 (t838:Int) p72 q72;obtain rfl:=jHc hM72;have hx72_0:w87.cell? ⟨go72,(t838:Int).toNat * 4,none⟩=some (.int .i64 ((jc t834 t838).f0)):=hcc72 0 _ rfl;have hx72_1:w87.cell? ⟨go72,(t838:Int).toNat * 4+1,none⟩=some (.int .i64 ((jc t834 t838).f1)):=hcc72 1 _ rfl;have hx72_2:w87.cell? ⟨go72,(t838:Int).toNat * 4+2,none⟩=some (.int .i64 ((jc t834 t838).f2)):=hcc72 2 _ rfl;have hx72_3:w87.cell? ⟨go72,(t838:Int).toNat * 4+3,none⟩=some (.int .i64 ((jc t834 t838).f3)):=hcc72 3 _ rfl;have hf72_0:w87.frozen? ⟨go72,(t838:Int).toNat * 4,none⟩=false:=hfr72 0;have hf72_1:w87.frozen? ⟨go72,(t838:Int).toNat * 4+1,none⟩=false:=hfr72 1;have hf72_2:w87.frozen? ⟨go72,(t838:Int).toNat * 4+2,none⟩=false:=hfr72 2;have hf72_3:w87.frozen? ⟨go72,(t838:Int).toNat * 4+3,none⟩=false:=hfr72 3;clear hcl72 hcc72 hfr72 hM72;replace p72:=ezT p72;replace q72:=ezT q72;have HX88:=am (show Kd.R k52 52 w87 w.heap.size (fun _=>True) (.slice (some ⟨go72,0,none⟩) t834.length co81) t834 from (rq HO836.out));obtain ⟨ce88,hcl88,hM88,hcc88,hfr88⟩:=Kd.R_elem HX88.out z52 (t838:Int) (ozD (uq)) (by have h_:(t838:Int)<((t834.length:Int):Int):=ozD (uq);first | exact h_ |(have e_:=(Kd.jC HO836.out).1;omega) | simpa using h_);obtain rfl:=jHc hM88;have HP88:=Kd.R_seg HX88.out (t838:Int) (ozD (uq)) (by have h_:(t838:Int)<((t834.length:Int):Int):=ozD (uq);first | exact h_ |(have e_:=(Kd.jC HO836.out).1;omega) | simpa using h_) (seg:=[.int .i64 t857]) (j:=2) hcl88 hcc88 (show 3≤4 from by decide) (x':=(⟨(jc t834 t838).f0,(jc t834 t838).f1,t857,(jc t834 t838).f3⟩:S52)) (jpb _ _ _ (⟨(jc t834 t838).f0,(jc t834 t838).f1,t857,(jc t834 t838).f3⟩:S52) ) (fun _ hk=>hk);have hx88_2:=hcc88 2 _ rfl;(try simp only [show (k52).sz=4 from rfl,Nat.mul_one,Nat.add_zero] at hx88_2);have hf88_2:=hfr88 2;(try simp only [show (k52).sz=4 from rfl,Nat.mul_one,Nat.add_zero] at hf88_2);clear hcl88 hcc88 hfr88 hM88) |((with_reducible refine gate_store (t:=3) (p:=51) rfl ?_);refine store_event (t:=3) (p:=51) (v:=?vo_w89) (w1:=(w87.setCell ⟨go72,(t838:Int).toNat * 4+2,none⟩ (.int .i64 t857))) ?hg ?ho ?hn ?hr ?_;(case ho=>rfl);(case hg=>rfl);(case hn=>rfl);(case hr=>exact Y8);intro w89 hw;have hg:w87.grownBy w89 (some go72):=(by rw [hw];exact HP88.2);have hp_:Kd.R k52 52 w89 w.heap.size (fun _=>True) (.slice (some ⟨go72,0,none⟩) t834.length co81) y859:=(by rw [hw,Ny859.out];exact HP88.1);clear HP88;replace HI0:=am (je.grown (Y2) hg (je.own_ne HI0.out HO836.out (by decide)));replace BK825:=am (jOa (g:=gb825) (o:=.cells #[.slice none 0 0] 32 (0,0)) (kq BK825.out) hg (Kd.R_ne HO836.out BK825.out (by decide)));replace HO828:=am (Kd.jvc (v:=(.slice (some ⟨go72,0,none⟩) t834.length co81)) (rq HO828.out) (Kd.juc HO836.out) (by decide) hg);replace BK830:=am (jOa (g:=gb830) (o:=.cells #[.slice Ao76 t826.length co76] 32 (0,0)) (kq BK830.out) hg (Kd.R_ne HO836.out BK830.out (by decide)));replace HO856:=am (Kd.jvc (v:=(.slice (some ⟨go72,0,none⟩) t834.length co81)) (rq HO856.out) (Kd.juc HO836.out) (by decide) hg);replace HB:=am ((by rw [hw];exact jS (HB.out) (Nat.le_trans HL.out GB72.out):Below w0.heap.size w0 w89));replace HK:=am (jb.trans (Y9) (jb.jub hg g) (Kd.jTb HO836.out));replace HO836:=am (hp_);clear hg hw hp_;have hcz90_0:=bc0 BK830.out;have hfz90_0:=ja BK830.out 0;have hnb91:=NB825_0.out;have hnc91:=NB0_825.out;have hcz92_0:=bc0 BK825.out;have hfz92_0:=ja BK825.out 0))
       refine bodyPost_ret (jic rfl _ _ gb825 32 #[.slice Ao76 t826.length co76] (0,0) _ rfl (Y64) Try.underlying32 rfl (by kernel_rfl)) rfl ?_
       exact ⟨_,_,Y0,by (with_reducible repeat (first | apply Kd.jma | apply Kd.jla | apply Kd.jva));exact Kd.jG (Kd.jLb (p:=⟨gb825,0,none⟩) (Kd.jQa HO828.out BK825.out (by decide)) (fun _ hk=>hk.2) (.slice Ao76 t826.length co76)) (fun _ hk=>trivial),Kd.Q_of_R (by (with_reducible repeat (first | apply Kd.jma | apply Kd.jla | apply Kd.jva));exact Kd.jG (Kd.jLb (p:=⟨gb825,0,none⟩) (Kd.jQa HO836.out BK825.out (by decide)) (fun _ hk=>hk.2) (.slice Ao76 t826.length co76)) (fun _ hk=>trivial)),Y2,Y14,Y9⟩
      ·rw [if_neg c71] at H
       exact absurd H (by simp)
     ·rw [if_neg c70] at H
      exact absurd H (by simp)
    ·rw [if_neg c68] at H
     have c68b0:(t840 == 2)=false:=beq_eq_false_iff_ne.mpr c68
     have c68b1:(t840 != 2)=true:=bne_iff_ne.mpr c68
     by_cases c93:t840=3
     ·rw [if_pos c93] at H
      have c93b0:(t840 == 3)=true:=beq_iff_eq.mpr c93
      have c93b1:(t840 != 3)=false:=bne_eq_false_iff_eq.mpr c93
      clear c93
      by_cases c94:1≤(t834.length:Int)
      ·rw [if_pos c94] at H
       have c94b0:=ezT c94
       have c94b1:decide (1≤(t834.length:Int))=true:=dzT c94
       clear c94
       obtain ⟨y860,hy860⟩:∃ y_:List (S52),y_=(t834.drop (1:Int).toNat):=⟨_,rfl⟩
       replace H:(some (t826,y860,t841))=some (r1,r2,r3):=by first |(rw [hy860];with_reducible exact H) |(have H2_:=(Option.bind_some _ _).symm.trans H;rw [hy860];with_reducible exact H2_) |(have H2_:=(Option.bind_some _ _).symm.trans H;with_reducible exact H2_) | with_reducible exact H |(rw [hy860];exact H) | exact H
       have Ny860:=am hy860
       clear hy860
       simp only [Option.some.injEq,Prod.mk.injEq] at H
       obtain ⟨rfl,rfl,rfl⟩:=H
       go_enter Try.func49,Try.ntmps49
       go_wp2_with (first |((with_reducible refine jP (N:=2) rfl ?_);refine bE (N:=2) (cs:=#[.slice none 0 0]) (t:=32) ?_;intro gb825 hg w95 hbox hb;have BK825:=am (hbox);have GW825:=am ((Y12:w.heap.size≤gb825));have GE825:=am ((Nat.le_trans HW0.out (Y12:w.heap.size≤gb825):w0.heap.size≤gb825));have NB0_825:=am ((Y28:g≠gb825));have NB825_0:=am ((Y29:gb825≠g));replace HK:=am (jb.trans (Y16) (jb.of_below hb g none) (.inl rfl));replace HB:=am (ji (Y17) hb);replace HI0:=am (je.below (Y15) hb);clear hb hbox hg) |((with_reducible refine jd (f:=74) rfl ?_);refine gL (some 8) Try.func74 #[.pointer (some ⟨g,0,none⟩)] ?_;(with_reducible refine (jna.calls k g s0_0 s0_1 t826 t829 w0 _ ?side1 ?side2 A2.out).mono ?_);(case side1=>exact Y36);(case side2=>exact Y37);rintro e w96 ⟨v827,rfl,ho0,hi,hb,hk⟩;refine ⟨_,rfl,?_⟩;have HO828:=am (Kd.jfa ho0 (jL (w:=w) (g:=g) (row:=none) (Y25)));replace BK825:=am (jb.blk hk (g':=gb825) (o:=.cells #[.slice none 0 0] 32 (0,0)) (kq BK825.out) NB825_0.out (by simp));replace HK:=am (jb.trans (Y25) hk (.inl rfl));replace HB:=am (hb);replace HI0:=am (hi);(try clear hb);(try clear hb2);(try clear hk);(try clear hi);(try clear ho0)) |((with_reducible refine jP (N:=4) rfl ?_);refine bE (N:=4) (cs:=#[.slice none 0 0]) (t:=32) ?_;intro gb830 hg w97 hbox hb;have BK830:=am (hbox);have GW830:=am ((Y38:w.heap.size≤gb830));have GE830:=am ((Nat.le_trans HW0.out (Y38:w.heap.size≤gb830):w0.heap.size≤gb830));have NB825_830:=am ((Y58:gb825≠gb830));have NB830_825:=am ((Y59:gb830≠gb825));have NB0_830:=am ((Y60:g≠gb830));have NB830_0:=am ((Y61:gb830≠g));replace HO828:=am (Kd.jqa (rq HO828.out) hb);replace BK825:=am (jr (g:=gb825) (o:=.cells #[.slice none 0 0] 32 (0,0)) (kq BK825.out) hb);replace HK:=am (jb.trans (Y25) (jb.of_below hb g none) (.inl rfl));replace HB:=am (ji (Y37) hb);replace HI0:=am (je.below (Y36) hb);clear hb hbox hg;obtain ⟨Ao98,co98,eo98⟩:=Kd.jta HO828.out;subst eo98;have hnb99:=NB830_825.out;have hnc99:=NB825_830.out;have hnb100:=NB830_0.out;have hnc100:=NB0_830.out;have hcz101_0:=bc0 BK830.out;have hfz101_0:=ja BK830.out 0) |((with_reducible refine jd (f:=75) rfl ?_);refine gL (some 18) Try.func75 #[.pointer (some ⟨g,0,none⟩), .agg #[.slice Ao98 t826.length co98]] ?_;(with_reducible refine (jB.calls k g s0_0 t829 _ _ t826 t834 t837 w0 _ ?side1 ?side2 ?side3 ?side4 A15.out).mono ?_);(case side1=>exact Y2);(case side2=>exact Y14);(case side3=>exact Kd.jJc (je.apart (show je w0 _ g s0_0 t829 from Y2) (Y104) (by decide)) (fun _ h_=>h_.2));(case side4=>exact (Kd.jC HO828.out).2.1);rintro e w102 ⟨v835,rfl,ho0,hi,hb,hk⟩;refine ⟨_,rfl,?_⟩;have HO836:=am (Kd.jfa ho0 (jL (w:=w) (g:=g) (row:=none) (Y9)));replace BK825:=am (jb.blk hk (g':=gb825) (o:=.cells #[.slice none 0 0] 32 (0,0)) (Y62) NB825_0.out (by simp));replace HO828:=am (Kd.jG (Kd.jBa (je.apart (show je w0 _ g s0_0 t829 from Y2) (Y104) (by decide)) hk (fun _ h=>h.2)) (fun _ h=>h.1));replace BK830:=am (jb.blk hk (g':=gb830) (o:=.cells #[.slice Ao98 t826.length co98] 32 (0,0)) (Y63) NB830_0.out (by simp));replace HK:=am (jb.trans (Y9) hk (.inl rfl));replace HB:=am (hb);replace HI0:=am (hi);(try clear hb);(try clear hb2);(try clear hk);(try clear hi);(try clear ho0);obtain ⟨Ao103,co103,eo103⟩:=Kd.jta HO836.out;subst eo103) |((with_reducible refine jd (f:=76) rfl ?_);refine gL (some 22) Try.func76 #[.pointer (some ⟨g,0,none⟩), .int .i64 (t834.length:Int)] ?_;(with_reducible refine (jf.calls k g s0_0 t837 (t834.length:Int) t838 t839 w0 _ ?side1 ?side2 A16.out).mono ?_);(case side1=>exact Y2);(case side2=>exact Y14);rintro e w104 ⟨rfl,hi,hb,hk⟩;refine ⟨_,rfl,?_⟩;replace BK825:=am (jb.blk hk (g':=gb825) (o:=.cells #[.slice none 0 0] 32 (0,0)) (kq BK825.out) NB825_0.out (by simp));replace HO828:=am (Kd.jG (Kd.jBa (je.apart (show je w0 _ g s0_0 t837 from Y2) (rq HO828.out) (by decide)) hk (fun _ h=>h.2)) (fun _ h=>h.1));replace BK830:=am (jb.blk hk (g':=gb830) (o:=.cells #[.slice Ao98 t826.length co98] 32 (0,0)) (kq BK830.out) NB830_0.out (by simp));replace HO836:=am (Kd.jG (Kd.jBa (je.apart (show je w0 _ g s0_0 t837 from Y2) (rq HO836.out) (by decide)) hk (fun _ h=>h.2)) (fun _ h=>h.1));replace HK:=am (jb.trans (Y9) hk (.inl rfl));replace HB:=am (hb);replace HI0:=am (hi);(try clear hb);(try clear hb2);(try clear hk);(try clear hi)) |((with_reducible refine jd (f:=76) rfl ?_);refine gL (some 24) Try.func76 #[.pointer (some ⟨g,0,none⟩), .int .i64 24] ?_;(with_reducible refine (jf.calls k g s0_0 t839 24 t840 t841 w0 _ ?side1 ?side2 A17.out).mono ?_);(case side1=>exact Y2);(case side2=>exact Y14);rintro e w105 ⟨rfl,hi,hb,hk⟩;refine ⟨_,rfl,?_⟩;replace BK825:=am (jb.blk hk (g':=gb825) (o:=.cells #[.slice none 0 0] 32 (0,0)) (kq BK825.out) NB825_0.out (by simp));replace HO828:=am (Kd.jG (Kd.jBa (je.apart (show je w0 _ g s0_0 t839 from Y2) (rq HO828.out) (by decide)) hk (fun _ h=>h.2)) (fun _ h=>h.1));replace BK830:=am (jb.blk hk (g':=gb830) (o:=.cells #[.slice Ao98 t826.length co98] 32 (0,0)) (kq BK830.out) NB830_0.out (by simp));replace HO836:=am (Kd.jG (Kd.jBa (je.apart (show je w0 _ g s0_0 t839 from Y2) (rq HO836.out) (by decide)) hk (fun _ h=>h.2)) (fun _ h=>h.1));replace HK:=am (jb.trans (Y9) hk (.inl rfl));replace HB:=am (hb);replace HI0:=am (hi);(try clear hb);(try clear hb2);(try clear hk);(try clear hi);have q106:(1:Int)≤((t834.length:Int):Int):=ozD (uq);obtain ⟨i0106,hi0106,_,hsz106,_⟩:=info_parts jac;have hcut106:=cut_from (P:=Try.prog) 28 52 .i64 Try.underlying28 hi0106 4 hsz106 Ao103 t834.length co103 1 (by omega) q106;have hr106:=Kd.Q_drop (k:=(1:Int).toNat) (Kd.Q_of_R HO836.out) (by omega);obtain ⟨A106,hA106⟩:∃ A1,A1=(if co103=(1:Int).toNat then Ao103 else (Ao103:Option Addr).map (·.add ((1:Int).toNat * 4))):=⟨_,rfl⟩;obtain ⟨c106,hc106⟩:∃ c1,c1=co103 - (1:Int).toNat:=⟨_,rfl⟩;have hy106:y860.length=t834.length - (1:Int).toNat:=(by rw [Ny860.out,List.length_drop]);rw [← Ny860.out] at hr106;rw [← hy106,← hA106,← hc106] at hcut106;replace hr106:Kd.Q k52 52 w105 w.heap.size (fun _=>True) (.slice A106 y860.length c106) y860:=(by rw [hA106,hc106,hy106];exact hr106);have HE106:jl ((Value.slice A106 y860.length c106).ownBlock=(.slice Ao103 t834.length co103:Value).ownBlock):=⟨by rw [hA106];split <;> (cases (Ao103:Option Addr) <;> rfl)⟩;clear hy106 hi0106 hsz106 HO836 hA106 hc106;have HO862:=am hr106;clear hr106;replace q106:=ezT q106;have hcz107_0:=bc0 BK830.out;have hfz107_0:=ja BK830.out 0;have hnb108:=NB825_0.out;have hnc108:=NB0_825.out;have hcz109_0:=bc0 BK825.out;have hfz109_0:=ja BK825.out 0))
       refine bodyPost_ret (jic rfl _ _ gb825 32 #[.slice Ao98 t826.length co98] (0,0) _ rfl (Y64) Try.underlying32 rfl (by kernel_rfl)) rfl ?_
       exact ⟨_,_,Y0,by (with_reducible repeat (first | apply Kd.jma | apply Kd.jla | apply Kd.jva));exact Kd.jG (Kd.jLb (p:=⟨gb825,0,none⟩) (Kd.jQa HO828.out BK825.out (by decide)) (fun _ hk=>hk.2) (.slice Ao98 t826.length co98)) (fun _ hk=>trivial),by (with_reducible repeat (first | apply Kd.Q_alloc | apply Kd.Q_drewN | apply Kd.Q_drew));exact Kd.Q_mono (Kd.Q_far (p:=⟨gb825,0,none⟩) (Kd.Q_types HO862.out BK825.out (by decide)) (fun _ hk=>hk.2) (.slice Ao98 t826.length co98)) (fun _ hk=>trivial),Y2,Y14,Y9⟩
      ·rw [if_neg c94] at H
       exact absurd H (by simp)
     ·rw [if_neg c93] at H
      have c93b0:(t840 == 3)=false:=beq_eq_false_iff_ne.mpr c93
      have c93b1:(t840 != 3)=true:=bne_iff_ne.mpr c93
      simp only [Option.some.injEq,Prod.mk.injEq] at H
      obtain ⟨rfl,rfl,rfl⟩:=H
      go_enter Try.func49,Try.ntmps49
      go_wp2_with (first |((with_reducible refine jP (N:=2) rfl ?_);refine bE (N:=2) (cs:=#[.slice none 0 0]) (t:=32) ?_;intro gb825 hg w110 hbox hb;have BK825:=am (hbox);have GW825:=am ((Y12:w.heap.size≤gb825));have GE825:=am ((Nat.le_trans HW0.out (Y12:w.heap.size≤gb825):w0.heap.size≤gb825));have NB0_825:=am ((Y28:g≠gb825));have NB825_0:=am ((Y29:gb825≠g));replace HK:=am (jb.trans (Y16) (jb.of_below hb g none) (.inl rfl));replace HB:=am (ji (Y17) hb);replace HI0:=am (je.below (Y15) hb);clear hb hbox hg) |((with_reducible refine jd (f:=74) rfl ?_);refine gL (some 8) Try.func74 #[.pointer (some ⟨g,0,none⟩)] ?_;(with_reducible refine (jna.calls k g s0_0 s0_1 t826 t829 w0 _ ?side1 ?side2 A2.out).mono ?_);(case side1=>exact Y36);(case side2=>exact Y37);rintro e w111 ⟨v827,rfl,ho0,hi,hb,hk⟩;refine ⟨_,rfl,?_⟩;have HO828:=am (Kd.jfa ho0 (jL (w:=w) (g:=g) (row:=none) (Y25)));replace BK825:=am (jb.blk hk (g':=gb825) (o:=.cells #[.slice none 0 0] 32 (0,0)) (kq BK825.out) NB825_0.out (by simp));replace HK:=am (jb.trans (Y25) hk (.inl rfl));replace HB:=am (hb);replace HI0:=am (hi);(try clear hb);(try clear hb2);(try clear hk);(try clear hi);(try clear ho0)) |((with_reducible refine jP (N:=4) rfl ?_);refine bE (N:=4) (cs:=#[.slice none 0 0]) (t:=32) ?_;intro gb830 hg w112 hbox hb;have BK830:=am (hbox);have GW830:=am ((Y38:w.heap.size≤gb830));have GE830:=am ((Nat.le_trans HW0.out (Y38:w.heap.size≤gb830):w0.heap.size≤gb830));have NB825_830:=am ((Y58:gb825≠gb830));have NB830_825:=am ((Y59:gb830≠gb825));have NB0_830:=am ((Y60:g≠gb830));have NB830_0:=am ((Y61:gb830≠g));replace HO828:=am (Kd.jqa (rq HO828.out) hb);replace BK825:=am (jr (g:=gb825) (o:=.cells #[.slice none 0 0] 32 (0,0)) (kq BK825.out) hb);replace HK:=am (jb.trans (Y25) (jb.of_below hb g none) (.inl rfl));replace HB:=am (ji (Y37) hb);replace HI0:=am (je.below (Y36) hb);clear hb hbox hg;obtain ⟨Ao113,co113,eo113⟩:=Kd.jta HO828.out;subst eo113;have hnb114:=NB830_825.out;have hnc114:=NB825_830.out;have hnb115:=NB830_0.out;have hnc115:=NB0_830.out;have hcz116_0:=bc0 BK830.out;have hfz116_0:=ja BK830.out 0) |((with_reducible refine jd (f:=75) rfl ?_);refine gL (some 18) Try.func75 #[.pointer (some ⟨g,0,none⟩), .agg #[.slice Ao113 t826.length co113]] ?_;(with_reducible refine (jB.calls k g s0_0 t829 _ _ t826 t834 t837 w0 _ ?side1 ?side2 ?side3 ?side4 A15.out).mono ?_);(case side1=>exact Y2);(case side2=>exact Y14);(case side3=>exact Kd.jJc (je.apart (show je w0 _ g s0_0 t829 from Y2) (Y105) (by decide)) (fun _ h_=>h_.2));(case side4=>exact (Kd.jC HO828.out).2.1);rintro e w117 ⟨v835,rfl,ho0,hi,hb,hk⟩;refine ⟨_,rfl,?_⟩;have HO836:=am (Kd.jfa ho0 (jL (w:=w) (g:=g) (row:=none) (Y9)));replace BK825:=am (jb.blk hk (g':=gb825) (o:=.cells #[.slice none 0 0] 32 (0,0)) (Y62) NB825_0.out (by simp));replace HO828:=am (Kd.jG (Kd.jBa (je.apart (show je w0 _ g s0_0 t829 from Y2) (Y105) (by decide)) hk (fun _ h=>h.2)) (fun _ h=>h.1));replace BK830:=am (jb.blk hk (g':=gb830) (o:=.cells #[.slice Ao113 t826.length co113] 32 (0,0)) (Y63) NB830_0.out (by simp));replace HK:=am (jb.trans (Y9) hk (.inl rfl));replace HB:=am (hb);replace HI0:=am (hi);(try clear hb);(try clear hb2);(try clear hk);(try clear hi);(try clear ho0);obtain ⟨Ao118,co118,eo118⟩:=Kd.jta HO836.out;subst eo118) |((with_reducible refine jd (f:=76) rfl ?_);refine gL (some 22) Try.func76 #[.pointer (some ⟨g,0,none⟩), .int .i64 (t834.length:Int)] ?_;(with_reducible refine (jf.calls k g s0_0 t837 (t834.length:Int) t838 t839 w0 _ ?side1 ?side2 A16.out).mono ?_);(case side1=>exact Y2);(case side2=>exact Y14);rintro e w119 ⟨rfl,hi,hb,hk⟩;refine ⟨_,rfl,?_⟩;replace BK825:=am (jb.blk hk (g':=gb825) (o:=.cells #[.slice none 0 0] 32 (0,0)) (kq BK825.out) NB825_0.out (by simp));replace HO828:=am (Kd.jG (Kd.jBa (je.apart (show je w0 _ g s0_0 t837 from Y2) (rq HO828.out) (by decide)) hk (fun _ h=>h.2)) (fun _ h=>h.1));replace BK830:=am (jb.blk hk (g':=gb830) (o:=.cells #[.slice Ao113 t826.length co113] 32 (0,0)) (kq BK830.out) NB830_0.out (by simp));replace HO836:=am (Kd.jG (Kd.jBa (je.apart (show je w0 _ g s0_0 t837 from Y2) (rq HO836.out) (by decide)) hk (fun _ h=>h.2)) (fun _ h=>h.1));replace HK:=am (jb.trans (Y9) hk (.inl rfl));replace HB:=am (hb);replace HI0:=am (hi);(try clear hb);(try clear hb2);(try clear hk);(try clear hi)) |((with_reducible refine jd (f:=76) rfl ?_);refine gL (some 24) Try.func76 #[.pointer (some ⟨g,0,none⟩), .int .i64 24] ?_;(with_reducible refine (jf.calls k g s0_0 t839 24 t840 t841 w0 _ ?side1 ?side2 A17.out).mono ?_);(case side1=>exact Y2);(case side2=>exact Y14);rintro e w120 ⟨rfl,hi,hb,hk⟩;refine ⟨_,rfl,?_⟩;replace BK825:=am (jb.blk hk (g':=gb825) (o:=.cells #[.slice none 0 0] 32 (0,0)) (kq BK825.out) NB825_0.out (by simp));replace HO828:=am (Kd.jG (Kd.jBa (je.apart (show je w0 _ g s0_0 t839 from Y2) (rq HO828.out) (by decide)) hk (fun _ h=>h.2)) (fun _ h=>h.1));replace BK830:=am (jb.blk hk (g':=gb830) (o:=.cells #[.slice Ao113 t826.length co113] 32 (0,0)) (kq BK830.out) NB830_0.out (by simp));replace HO836:=am (Kd.jG (Kd.jBa (je.apart (show je w0 _ g s0_0 t839 from Y2) (rq HO836.out) (by decide)) hk (fun _ h=>h.2)) (fun _ h=>h.1));replace HK:=am (jb.trans (Y9) hk (.inl rfl));replace HB:=am (hb);replace HI0:=am (hi);(try clear hb);(try clear hb2);(try clear hk);(try clear hi);have hcz121_0:=bc0 BK830.out;have hfz121_0:=ja BK830.out 0;have hnb122:=NB825_0.out;have hnc122:=NB0_825.out;have hcz123_0:=bc0 BK825.out;have hfz123_0:=ja BK825.out 0))
      refine bodyPost_ret (jic rfl _ _ gb825 32 #[.slice Ao113 t826.length co113] (0,0) _ rfl (Y64) Try.underlying32 rfl (by kernel_rfl)) rfl ?_
      exact ⟨_,_,Y0,by (with_reducible repeat (first | apply Kd.jma | apply Kd.jla | apply Kd.jva));exact Kd.jG (Kd.jLb (p:=⟨gb825,0,none⟩) (Kd.jQa HO828.out BK825.out (by decide)) (fun _ hk=>hk.2) (.slice Ao113 t826.length co113)) (fun _ hk=>trivial),Kd.Q_of_R (by (with_reducible repeat (first | apply Kd.jma | apply Kd.jla | apply Kd.jva));exact Kd.jG (Kd.jLb (p:=⟨gb825,0,none⟩) (Kd.jQa HO836.out BK825.out (by decide)) (fun _ hk=>hk.2) (.slice Ao113 t826.length co113)) (fun _ hk=>trivial)),Y2,Y14,Y9⟩
def jDb.f (l0 : List Int) : Option (List Int × Int) := if (l0.length : Int) > 2000 then (if 2000 ≤ (l0.length : Int) then (some (l0.take 2000, 0)) else (none)) else (some (l0, 0))
set_option maxHeartbeats 8000000 in
set_option maxRecDepth 100000 in
theorem jDb.calls (A0 : Option Addr) (c0 : Nat) (l0 : List Int) (r1 : List Int) (r2 : Int) (w0 w : World) (hB : Below w0.heap.size w0 w) (hr0 : Kd.C (Kd.int .u8) w0 A0 l0.length l0) (hc0 : l0.length ≤ c0) (h : jDb.f l0 = some (r1, r2)) :
  Calls Try.prog 50 #[.slice A0 l0.length c0] w fun e w'=>∃ g_:Nat,e=.returned (.pointer (some ⟨g_,0,none⟩))∧je w0 w' g_ r1 r2∧Below w0.heap.size w0 w'∧Below w.heap.size w w':=by
 have hu92:=Try.underlying92
 have HR0:=am hr0
 have HC0:=am hc0
 clear hr0 hc0
 have HBW:=am (Below.refl w.heap.size w)
 have HW0:=am hB.size
 have HB:=am hB
 clear hB
 have H:(if (l0.length:Int) > 2000 then (if 2000≤(l0.length:Int) then (some (l0.take 2000,0)) else (none)) else (some (l0,0)))=some (r1,r2):=h
 clear h
 by_cases c2:(l0.length:Int) > 2000
 ·rw [if_pos c2] at H
  have c2b0:decide (2000<(l0.length:Int))=true:=dzT c2
  have c2b1:decide (2000<l0.length)=true:=dzT (by omega)
  clear c2
  by_cases c3:2000≤(l0.length:Int)
  ·rw [if_pos c3] at H
   have c3b0:=ezT c3
   have c3b1:decide (2000≤(l0.length:Int))=true:=dzT c3
   clear c3
   simp only [Option.some.injEq,Prod.mk.injEq] at H
   obtain ⟨rfl,rfl⟩:=H
   obtain ⟨i04,hi04,_,hsz4,_⟩:=info_parts info5
   obtain ⟨hcut4,hA4,hC4⟩:=print_take_of (P:=Try.prog) (Value.int .u8) 0 44 5 .i64 Try.underlying44 hi04 hsz4 A0 c0 l0 2000 (by omega) (ozD (uq)) HC0.out
   have HR863:=am (Kd.C_of_reads (h1:=fun _=>rfl) (hA4 _ (Kd.reads_of_C HR0.out)))
   have HC863:=am hC4
   clear hA4 hC4 hi04 hsz4
   go_enter Try.func50,Try.ntmps50
   go_wp2_with (first |((with_reducible refine jP (N:=10) rfl ?_);refine bE (N:=10) (cs:=#[.slice A0 (l0.take 2000).length c0, .int .i64 0]) (t:=92) ?_;intro gb864 hg w5 hbox hb;have BK864:=am (hbox);have GW864:=am ((Y79:w.heap.size≤gb864));have GE864:=am ((Nat.le_trans HW0.out (Y79:w.heap.size≤gb864):w0.heap.size≤gb864));replace HBW:=am (ji HBW.out hb);replace HB:=am (ji (bq) hb);clear hb hbox hg))
   go_ret
   exact ⟨_,rfl,(show je w0 _ gb864 (l0.take 2000) 0 from ⟨_,_,kq BK864.out,GE864.out,HR863.out⟩),by repeat (first |(with_reducible first | exact HB.out | apply jN | apply jm | apply jO | refine jS ?_ GE864.out) | exact HB.out),by repeat (first |(with_reducible first | exact HBW.out | apply jN | apply jm | apply jO | refine jS ?_ GW864.out) | exact HBW.out)⟩
  ·rw [if_neg c3] at H
   exact absurd H (by simp)
 ·rw [if_neg c2] at H
  have c2b0:decide (2000<(l0.length:Int))=false:=dzF c2
  have c2b1:decide (2000<l0.length)=false:=dzF (by omega)
  clear c2
  simp only [Option.some.injEq,Prod.mk.injEq] at H
  obtain ⟨rfl,rfl⟩:=H
  go_enter Try.func50,Try.ntmps50
  go_wp2_with (first |((with_reducible refine jP (N:=10) rfl ?_);refine bE (N:=10) (cs:=#[.slice A0 l0.length c0, .int .i64 0]) (t:=92) ?_;intro gb865 hg w6 hbox hb;have BK865:=am (hbox);have GW865:=am ((Y79:w.heap.size≤gb865));have GE865:=am ((Nat.le_trans HW0.out (Y79:w.heap.size≤gb865):w0.heap.size≤gb865));replace HBW:=am (ji HBW.out hb);replace HB:=am (ji (bq) hb);clear hb hbox hg))
  go_ret
  exact ⟨_,rfl,(show je w0 _ gb865 l0 0 from ⟨_,_,kq BK865.out,GE865.out,HR0.out⟩),by repeat (first |(with_reducible first | exact HB.out | apply jN | apply jm | apply jO | refine jS ?_ GE865.out) | exact HB.out),by repeat (first |(with_reducible first | exact HBW.out | apply jN | apply jm | apply jO | refine jS ?_ GW865.out) | exact HBW.out)⟩
def jhb.f (k : Nat) (l0 : List Int) : Option ((List (S78)) × (List (S52))) := (jDb.f l0).bind fun bt867 => ((jRa.f k bt867.1 bt867.2).bind fun bt870 => (some (bt870.1, bt870.2.1)))
set_option maxHeartbeats 8000000 in
set_option maxRecDepth 100000 in
theorem jhb.calls (k : Nat) (A0 : Option Addr) (c0 : Nat) (l0 : List Int) (r1 : List (S78)) (r2 : List (S52)) (w : World) (hr0 : Kd.C (Kd.int .u8) w A0 l0.length l0) (hc0 : l0.length ≤ c0) (h : jhb.f k l0 = some (r1, r2)) :
  Calls Try.prog 25 #[.slice A0 l0.length c0] w fun e w'=>∃ v0_ v1_:Value,e=.returned (.tuple #[.agg #[v0_],v1_])∧Kd.R k78 78 w' w.heap.size (fun _=>True) v0_ r1∧Kd.Q k52 52 w' w.heap.size (fun _=>True) v1_ r2∧Below w.heap.size w w':=by
 have hu32:=Try.underlying32
 have HR0:=am hr0
 have HC0:=am hc0
 clear hr0 hc0
 have HB:=am (Below.refl w.heap.size w)
 have H:((jDb.f l0).bind fun bt867=>((jRa.f k bt867.1 bt867.2).bind fun bt870=>(some (bt870.1,bt870.2.1))))=some (r1,r2):=h
 clear h
 replace H:=bzS H
 obtain ⟨⟨t867,t868⟩,A20,H⟩:=H
 replace H:((jRa.f k t867 t868).bind fun bt870=>(some (bt870.1,bt870.2.1)))=some (r1,r2):=H
 have A2:=am A20
 clear A20
 replace H:=bzS H
 obtain ⟨⟨t870,t873,t876⟩,A30,H⟩:=H
 replace H:(some (t870,t873))=some (r1,r2):=H
 have A3:=am A30
 clear A30
 simp only [Option.some.injEq,Prod.mk.injEq] at H
 obtain ⟨rfl,rfl⟩:=H
 go_enter Try.func25,Try.ntmps25
 go_wp2_with (first |((with_reducible refine jP (N:=2) rfl ?_);refine bE (N:=2) (cs:=#[.slice none 0 0]) (t:=32) ?_;intro gb866 hg w4 hbox hb;have BK866:=am (hbox);have GW866:=am ((Y11:w.heap.size≤gb866));have GE866:=am ((Y11:w.heap.size≤gb866));replace HB:=am (ji (bq) hb);clear hb hbox hg) |((with_reducible refine jd (f:=50) rfl ?_);refine gL (some 5) Try.func50 #[.slice A0 l0.length c0] ?_;(with_reducible refine (jDb.calls _ _ l0 t867 t868 w _ ?side1 ?side2 ?side3 A2.out).mono ?_);(case side1=>repeat (first |(with_reducible first | exact HB.out | apply jN | apply jm | apply jO | refine jS ?_ GE866.out) | exact HB.out));(case side2=>exact HR0.out);(case side3=>exact HC0.out);rintro e w5 ⟨g869,rfl,hi,hb,hb2⟩;refine ⟨_,rfl,?_⟩;have HI869:=am (hi);have NB869_866:=am (je.ne_blk hi (jr (g:=gb866) (o:=.cells #[.slice none 0 0] 32 (0,0)) (kq BK866.out) hb2) (by decide));have NB866_869:=am (Ne.symm (je.ne_blk hi (jr (g:=gb866) (o:=.cells #[.slice none 0 0] 32 (0,0)) (kq BK866.out) hb2) (by decide)));replace BK866:=am (jr (g:=gb866) (o:=.cells #[.slice none 0 0] 32 (0,0)) (kq BK866.out) hb2);replace HB:=am (hb);(try clear hb);(try clear hb2);(try clear hk);(try clear hi)) |((with_reducible refine jd (f:=49) rfl ?_);refine gL (some 6) Try.func49 #[.pointer (some ⟨g869,0,none⟩)] ?_;(with_reducible refine (jRa.calls k g869 t867 t868 t870 t873 t876 w _ ?side1 ?side2 A3.out).mono ?_);(case side1=>repeat (first |(with_reducible first | exact HI869.out | apply je.alloc | apply je.drewN | apply je.drew | apply je.joc | refine je.far ?_ NB869_866.out _) | exact HI869.out));(case side2=>exact Y80);rintro e w6 ⟨v871,v874,rfl,ho0,ho1,hi,hb,hk⟩;refine ⟨_,rfl,?_⟩;have HO872:=am (Kd.jfa ho0 (jka (Y80)));have HO875:=am (Kd.Q_lower ho1 (jka (Y80)));replace BK866:=am (jb.blk hk (g':=gb866) (o:=.cells #[.slice none 0 0] 32 (0,0)) (kq BK866.out) NB866_869.out (by simp));replace HB:=am (hb);replace HI869:=am (hi);(try clear hb);(try clear hb2);(try clear hk);(try clear hi);(try clear ho0);(try clear ho1);obtain ⟨Ao7,co7,eo7⟩:=Kd.jta HO872.out;subst eo7;have hnb8:=NB866_869.out;have hnc8:=NB869_866.out;have hcz9_0:=bc0 BK866.out;have hfz9_0:=ja BK866.out 0))
 refine bodyPost_ret (jic rfl _ _ gb866 32 #[.slice Ao7 t870.length co7] (0,0) _ rfl (by (with_reducible repeat (first | refine jv ?_ _ | refine jD ?_ | refine jA ?_ _));refine jVa (cs:=#[.slice none 0 0]) ?_ 0 _ rfl;(with_reducible repeat (first | refine jv ?_ _ | refine jD ?_ | refine jA ?_ _));exact BK866.out) Try.underlying32 rfl (by kernel_rfl)) rfl ?_
 exact ⟨_,_,Y0,by (with_reducible repeat (first | apply Kd.jma | apply Kd.jla | apply Kd.jva));exact Kd.jG (Kd.jLb (p:=⟨gb866,0,none⟩) (Kd.jQa HO872.out BK866.out (by decide)) (fun _ hk=>hk.2) (.slice Ao7 t870.length co7)) (fun _ hk=>trivial),by (with_reducible repeat (first | apply Kd.Q_alloc | apply Kd.Q_drewN | apply Kd.Q_drew));exact Kd.Q_mono (Kd.Q_far (p:=⟨gb866,0,none⟩) (Kd.Q_types HO875.out BK866.out (by decide)) (fun _ hk=>hk.2) (.slice Ao7 t870.length co7)) (fun _ hk=>trivial),Y80⟩
theorem eqA52 (d : Nat) (w : World) (x0 y0 : Int) (x1 y1 : Int) (x2 y2 : Int) (x3 y3 : Int) :
  (Op.equalIn (d+2) 52 (.agg #[.int .i64 x0, .int .i64 x1, .int .i64 x2, .int .i64 x3]) (.agg #[.int .i64 y0, .int .i64 y1, .int .i64 y2, .int .i64 y3])).run Try.prog w=.ok (x0 == y0 && (x1 == y1 && (x2 == y2 && (x3 == y3)))) w:=by
 refine eqA_of Try.underlying52 (by kernel_rfl) ?_
 refine eqf_cons (by rfl) (by go_simp;rfl) (by go_simp;rfl) (by go_simp) ?_
 refine eqf_cons (by rfl) (by go_simp;rfl) (by go_simp;rfl) (by go_simp) ?_
 refine eqf_cons (by rfl) (by go_simp;rfl) (by go_simp;rfl) (by go_simp) ?_
 exact eqf_last (by rfl) (by go_simp;rfl) (by go_simp;rfl) (by go_simp)
attribute [local go_sem high] eqA52
def jX.l0 : Nat → List (S52) → List (S52) → Int → Option (Bool)
 | 0,_,_,_=>none
 | k+1,x0,x1,x5=>if x5<(x0.length:Int) then (if 0≤x5 then (if x5<(x1.length:Int) then (if (!(((jc x0 x5).f0) == ((jc x1 x5).f0)) ||(!(((jc x0 x5).f1) == ((jc x1 x5).f1)) ||(!(((jc x0 x5).f2) == ((jc x1 x5).f2)) ||(!(((jc x0 x5).f3) == ((jc x1 x5).f3))))))=true then (some false) else (jX.l0 k x0 x1 (wrap64 (x5+1)))) else (none)) else (none)) else (some true)
def jX.f (k : Nat) (l0 : List (S52)) (l1 : List (S52)) : Option (Bool) := if (l0.length : Int) = (l1.length : Int) then (jX.l0 k l0 l1 0) else (some false)
set_option maxHeartbeats 8000000 in
set_option maxRecDepth 100000 in
theorem jX.calls (k : Nat) (A0 : Option Addr) (c0 : Nat) (l0 : List (S52)) (A1 : Option Addr) (c1 : Nat) (l1 : List (S52)) (r : Bool) (w : World) (hr0 : Kd.C k52 w A0 l0.length l0) (hc0 : l0.length ≤ c0) (hr1 : Kd.C k52 w A1 l1.length l1) (hc1 : l1.length ≤ c1) (h : jX.f k l0 l1 = some r) :
  Calls Try.prog 26 #[.slice A0 l0.length c0, .slice A1 l1.length c1] w fun e w'=>e=.returned (.bool r)∧jXa w w':=by
 have hu52:=Try.underlying52
 have HR0:=am hr0
 have HC0:=am hc0
 clear hr0 hc0
 have HR1:=am hr1
 have HC1:=am hc1
 clear hr1 hc1
 have H:(if (l0.length:Int)=(l1.length:Int) then (jX.l0 k l0 l1 0) else (some false))=some r:=h
 clear h
 by_cases c3:(l0.length:Int)=(l1.length:Int)
 ·rw [if_pos c3] at H
  have c3b0:((l0.length:Int) == (l1.length:Int))=true:=beq_iff_eq.mpr c3
  have c3b1:((l0.length:Int) != (l1.length:Int))=false:=bne_eq_false_iff_eq.mpr c3
  have c3b2:(l0.length == l1.length)=true:=by first | simpa using c3 |(simp at c3 ⊢;omega)
  clear c3
  have H':=am H
  clear H
  go_enter Try.func26,Try.ntmps26
  go_wp2
  repeat (go_quiet (fail);try go_wp2)
  go_loopg [5] k (fun kq v5 w'=>∃ (x5_1:Int),v5=.int .i64 x5_1∧jl (jX.l0 kq l0 l1 x5_1=some r)∧jl (kq≤k)∧jXa w w')
  case atStart=>exact ⟨(0),(sq),H',⟨Nat.le_refl _⟩,Y3⟩
  case round =>
   clear H'
   try clear c1
   try clear c2
   try clear p2
   try clear c3
   try clear c3b0
   try clear c3b1
   try clear c3b2
   obtain ⟨x5_1,rfl,HA,HK1,⟨m1,rfl⟩⟩:=hrel
   cases gk with
   | zero=>exact absurd HA.out (by simp [jX.l0])
   | succ k1 =>
    have H:=HA.out
    clear HA
    simp only [jX.l0] at H
    by_cases c4:x5_1<(l0.length:Int)
    ·rw [if_pos c4] at H
     have c4b0:decide (x5_1<(l0.length:Int))=true:=dzT c4
     clear c4
     by_cases c5:0≤x5_1
     ·rw [if_pos c5] at H
      have c5b0:decide (0≤x5_1)=true:=dzT c5
      clear c5
      by_cases c6:x5_1<(l1.length:Int)
      ·rw [if_pos c6] at H
       have c6b0:decide (x5_1<(l1.length:Int))=true:=dzT c6
       clear c6
       by_cases c7:(!(((jc l0 x5_1).f0) == ((jc l1 x5_1).f0)) ||(!(((jc l0 x5_1).f1) == ((jc l1 x5_1).f1)) ||(!(((jc l0 x5_1).f2) == ((jc l1 x5_1).f2)) ||(!(((jc l0 x5_1).f3) == ((jc l1 x5_1).f3))))))=true
       ·rw [if_pos c7] at H
        have c7b0:(!(((jc l0 x5_1).f0) == ((jc l1 x5_1).f0)) ||(!(((jc l0 x5_1).f1) == ((jc l1 x5_1).f1)) ||(!(((jc l0 x5_1).f2) == ((jc l1 x5_1).f2)) ||(!(((jc l0 x5_1).f3) == ((jc l1 x5_1).f3))))))=true:=c7
        clear c7
        obtain rfl:=Option.some.inj H
        have p877:0≤(x5_1:Int):=ozD (uq)
        have q877:x5_1<(l0.length:Int):=ozD (uq)
        obtain ⟨ad877,e877,hx877_0,hx877_1,hx877_2,hx877_3⟩:=jua HR0.out x5_1 p877 q877
        cases e877
        replace p877:=ezT p877
        replace q877:=ezT q877
        have p878:0≤(x5_1:Int):=ozD (uq)
        have q878:x5_1<(l1.length:Int):=ozD (uq)
        obtain ⟨ad878,e878,hx878_0,hx878_1,hx878_2,hx878_3⟩:=jua HR1.out x5_1 p878 q878
        cases e878
        replace p878:=ezT p878
        replace q878:=ezT q878
        go_wp2
        repeat (go_quiet (fail);try go_wp2)
        go_ret
        exact ⟨sq,Y3⟩
       ·rw [if_neg c7] at H
        have c7b0:(!(((jc l0 x5_1).f0) == ((jc l1 x5_1).f0)) ||(!(((jc l0 x5_1).f1) == ((jc l1 x5_1).f1)) ||(!(((jc l0 x5_1).f2) == ((jc l1 x5_1).f2)) ||(!(((jc l0 x5_1).f3) == ((jc l1 x5_1).f3))))))=false:=by simpa using c7
        clear c7
        have H':=am H
        clear H
        have p877:0≤(x5_1:Int):=ozD (uq)
        have q877:x5_1<(l0.length:Int):=ozD (uq)
        obtain ⟨ad877,e877,hx877_0,hx877_1,hx877_2,hx877_3⟩:=jua HR0.out x5_1 p877 q877
        cases e877
        replace p877:=ezT p877
        replace q877:=ezT q877
        have p878:0≤(x5_1:Int):=ozD (uq)
        have q878:x5_1<(l1.length:Int):=ozD (uq)
        obtain ⟨ad878,e878,hx878_0,hx878_1,hx878_2,hx878_3⟩:=jua HR1.out x5_1 p878 q878
        cases e878
        replace p878:=ezT p878
        replace q878:=ezT q878
        go_wp2
        repeat (go_quiet (fail);try go_wp2)
        go_roundg k1
        case measure=>have:=HK1.out;omega
        case rel=>exact ⟨(wrap64 (x5_1+1)),(sq),H',⟨by have:=HK1.out;omega⟩,Y3⟩
      ·rw [if_neg c6] at H
       exact absurd H (by simp)
     ·rw [if_neg c5] at H
      exact absurd H (by simp)
    ·rw [if_neg c4] at H
     have c4b0:decide (x5_1<(l0.length:Int))=false:=dzF c4
     clear c4
     obtain rfl:=Option.some.inj H
     go_wp2
     repeat (go_quiet (fail);try go_wp2)
     go_ret
     exact ⟨sq,Y3⟩
 ·rw [if_neg c3] at H
  have c3b0:((l0.length:Int) == (l1.length:Int))=false:=beq_eq_false_iff_ne.mpr c3
  have c3b1:((l0.length:Int) != (l1.length:Int))=true:=bne_iff_ne.mpr c3
  have c3b2:(l0.length == l1.length)=false:=by first | simpa using c3 |(simp at c3 ⊢;omega)
  obtain rfl:=Option.some.inj H
  go_enter Try.func26,Try.ntmps26
  go_wp2
  repeat (go_quiet (fail);try go_wp2)
  go_ret
  exact ⟨sq,Y3⟩
def jo.j0 : Nat → List (S52) → List (S52) → Bool → List (S78) → Option (Bool)
 | 0,_,_,_,_=>none
 | k+1,x4,x5,x28,x886000=>if x28=true then ((jT.f k x886000 x4).bind fun t894=>((jX.f k x5 t894).bind fun t897=>(some t897))) else ((jgb.f k x886000 x4).bind fun t898=>((jTa.f k x886000 t898).bind fun t901=>((jgb.f k x886000 x5).bind fun t904=>((jX.f k t901 t904).bind fun t907=>(some t907)))))
def jo.f (k : Nat) (l0 : List Int) : Option (Bool) := if (l0.length : Int) > 1048576 then (some true) else ((jhb.f k l0).bind fun bt879 => ((jTa.f k bt879.1 bt879.2).bind fun t886 => ((jT.f k bt879.1 bt879.2).bind fun t889 => ((jX.f k t886 t889).bind fun t892 => (if t892 = true then ((jy.f k bt879.1 bt879.2).bind fun t893 => (jo.j0 k bt879.2 t886 (!t893) bt879.1)) else (jo.j0 k bt879.2 t886 true bt879.1))))))
def jo.T7 : Bool × List (List Nat × List Nat) := (true, [([], []), ([], []), ([], []), ([1, 2], [1, 2]), ([0, 3, 3], [0, 3]), ([], []), ([], []), ([5, 6, 4], [5, 6]), ([4, 7, 7], [4, 7]), ([8, 8, 0, 1, 2, 3, 4, 5, 6, 7, 8], [8])])
def jo.B7 : List Nat := [0, 0, 0, 6, 15, 0, 0, 127, 255, 511]
theorem jo.tab7 : rtab .any (opsOf Try.f6 7) = jo.T7 := by kernel_rfl
theorem jo.bits7 : jCc jo.T7.2 jo.B7 = true := by kernel_rfl
set_option maxHeartbeats 8000000 in
set_option maxRecDepth 100000 in
theorem jo.calls (k : Nat) (A0 : Option Addr) (c0 : Nat) (l0 : List Int) (r : Bool) (w : World) (hr0 : Kd.C (Kd.int .u8) w A0 l0.length l0) (hc0 : l0.length ≤ c0) (hT : r = true) (h : jo.f k l0 = some r) :
  Calls Try.prog 6 #[.slice A0 l0.length c0] w fun e w'=>e=.returned (.bool r)∧Below w.heap.size w w':=by
 have hu32:=Try.underlying32
 have HR0:=am hr0
 have HC0:=am hc0
 clear hr0 hc0
 have HB:=am (Below.refl w.heap.size w)
 have H:(if (l0.length:Int) > 1048576 then (some true) else ((jhb.f k l0).bind fun bt879=>((jTa.f k bt879.1 bt879.2).bind fun t886=>((jT.f k bt879.1 bt879.2).bind fun t889=>((jX.f k t886 t889).bind fun t892=>(if t892=true then ((jy.f k bt879.1 bt879.2).bind fun t893=>(jo.j0 k bt879.2 t886 (!t893) bt879.1)) else (jo.j0 k bt879.2 t886 true bt879.1)))))))=some r:=h
 clear h
 by_cases c2:(l0.length:Int) > 1048576
 ·rw [if_pos c2] at H
  have c2b0:decide (1048576<(l0.length:Int))=true:=dzT c2
  have c2b1:decide (1048576<l0.length)=true:=dzT (by omega)
  clear c2
  obtain rfl:=Option.some.inj H
  go_enter Try.func6,Try.ntmps6
  go_wp2
  go_ret
  exact ⟨Y0,bq⟩
 ·rw [if_neg c2] at H
  have c2b0:decide (1048576<(l0.length:Int))=false:=dzF c2
  have c2b1:decide (1048576<l0.length)=false:=dzF (by omega)
  clear c2
  replace H:=bzS H
  obtain ⟨⟨t879,t882⟩,A30,H⟩:=H
  replace H:((jTa.f k t879 t882).bind fun t886=>((jT.f k t879 t882).bind fun t889=>((jX.f k t886 t889).bind fun t892=>(if t892=true then ((jy.f k t879 t882).bind fun t893=>(jo.j0 k t882 t886 (!t893) t879)) else (jo.j0 k t882 t886 true t879)))))=some r:=H
  have A3:=am A30
  clear A30
  replace H:=bzS H
  obtain ⟨t886,A40,H⟩:=H
  replace H:((jT.f k t879 t882).bind fun t889=>((jX.f k t886 t889).bind fun t892=>(if t892=true then ((jy.f k t879 t882).bind fun t893=>(jo.j0 k t882 t886 (!t893) t879)) else (jo.j0 k t882 t886 true t879))))=some r:=H
  have A4:=am A40
  clear A40
  have HC5:=am H
  clear H
  go_enter Try.func6,Try.ntmps6
  go_upto_region 5 with (first |((with_reducible refine jd (f:=25) rfl ?_);refine gL (some 11) Try.func25 #[.slice A0 l0.length c0] ?_;(with_reducible refine (jhb.calls k _ _ l0 t879 t882 _ ?side1 ?side2 A3.out).mono ?_);(case side1=>exact Y31);(case side2=>exact HC0.out);rintro e w6 ⟨v880,v883,rfl,ho0,ho1,hb⟩;refine ⟨_,rfl,?_⟩;have HO881:=am (Kd.jfa ho0 (jka (bq)));have HO884:=am (Kd.Q_lower ho1 (jka (bq)));replace HB:=am (ji (bq) hb);(try clear hb);(try clear hb2);(try clear hk);(try clear hi);(try clear ho0);(try clear ho1)) |((with_reducible refine jP (N:=3) rfl ?_);refine bE (N:=3) (cs:=#[.slice none 0 0]) (t:=32) ?_;intro gb885 hg w7 hbox hb;have BK885:=am (hbox);have GW885:=am ((Y11:w.heap.size≤gb885));have GE885:=am ((Y11:w.heap.size≤gb885));replace HO881:=am (Kd.jqa (rq HO881.out) hb);replace HO884:=am (Kd.Q_below (Y65) hb);replace HB:=am (ji (bq) hb);clear hb hbox hg;obtain ⟨Ao8,co8,eo8⟩:=Kd.jta HO881.out;subst eo8;have hcz9_0:=bc0 BK885.out;have hfz9_0:=ja BK885.out 0;obtain ⟨Ao10,co10,eo10,_⟩:=Kd.Q_slice HO884.out;subst eo10) |((with_reducible refine jd (f:=12) rfl ?_);refine gL (some 16) Try.func12 #[.agg #[.slice Ao8 t879.length co8], .slice Ao10 t882.length co10] ?_;(with_reducible refine (jTa.calls k _ _ t879 _ _ t882 t886 _ ?side1 ?side2 ?side3 ?side4 A4.out).mono ?_);(case side1=>refine (Kd.jC (e:=78) (base:=w.heap.size) (ok:=fun k_=>True) (n:=t879.length) (c:=co8) ?_).2.2;exact (Y106));(case side2=>exact (Kd.jC HO881.out).2.1);(case side3=>refine (Kd.jWb (e:=52) (base:=w.heap.size) (ok:=fun k_=>True) (n:=t882.length) (c:=co10) ?_).2.2;exact (Y87));(case side4=>exact (Kd.jWb HO884.out).2.1);rintro e w11 ⟨v887,rfl,ho0,hb⟩;refine ⟨_,rfl,?_⟩;have HO888:=am (Kd.jfa (Kd.jzb ho0 (Kd.Q_lt (Y87))) (jka (Y23)));replace HO881:=am (Kd.jqa (Y106) hb);replace HO884:=am (Kd.jNc (Y87) (Kd.jAb ho0) hb);replace BK885:=am (jr (g:=gb885) (o:=.cells #[.slice Ao8 t879.length co8] 32 (0,0)) (by (with_reducible repeat (first | refine jv ?_ _ | refine jD ?_ | refine jA ?_ _));refine jVa (cs:=#[.slice none 0 0]) ?_ 0 _ rfl;(with_reducible repeat (first | refine jv ?_ _ | refine jD ?_ | refine jA ?_ _));exact BK885.out) hb);replace HB:=am (ji (Y23) hb);(try clear hb);(try clear hb2);(try clear hk);(try clear hi);(try clear ho0)))
  (try simp only [Act.put,List.setIfInBounds_toArray,List.set_cons_zero,List.set_cons_succ])
  go_cut [28] (fun v28 wc=>∃ (kq:Nat) (x28_4:Bool),v28=.bool x28_4∧jl (jo.j0 kq t882 t886 x28_4 t879=some r)∧jl (kq≤k)∧jl (Kd.Q k52 52 wc w.heap.size (fun k_=>some k_≠(v887:Value).ownBlock) (.slice Ao10 t882.length co10) t882)∧jl (Kd.R k52 52 wc w.heap.size (fun k_=>some k_≠((.slice Ao10 t882.length co10):Value).ownBlock) v887 t886)∧jl (Kd.R k78 78 wc w.heap.size (fun _=>True) (.slice Ao8 t879.length co8) t879)∧jl (wc.heap[gb885]?=some (.cells #[(.slice Ao8 t879.length co8)] 32 (0,0)))∧jl (Below w.heap.size w wc))
  case first =>
   have H:=HC5.out
   clear HC5
   replace H:=bzS H
   obtain ⟨t889,A120,H⟩:=H
   replace H:((jX.f k t886 t889).bind fun t892=>(if t892=true then ((jy.f k t879 t882).bind fun t893=>(jo.j0 k t882 t886 (!t893) t879)) else (jo.j0 k t882 t886 true t879)))=some r:=H
   have A12:=am A120
   clear A120
   replace H:=bzS H
   obtain ⟨t892,A130,H⟩:=H
   replace H:(if t892=true then ((jy.f k t879 t882).bind fun t893=>(jo.j0 k t882 t886 (!t893) t879)) else (jo.j0 k t882 t886 true t879))=some r:=H
   have A13:=am A130
   clear A130
   by_cases c14:t892=true
   ·subst c14
    have H1:((jy.f k t879 t882).bind fun t893=>(jo.j0 k t882 t886 (!t893) t879))=some r:=by rw [if_pos rfl] at H;exact H
    clear H
    have H:=H1
    clear H1
    replace H:=bzS H
    obtain ⟨t893,A150,H⟩:=H
    replace H:(jo.j0 k t882 t886 (!t893) t879)=some r:=H
    have A15:=am A150
    clear A150
    have H':=am H
    clear H
    have hcz16_0:=bc0 BK885.out
    have hfz16_0:=ja BK885.out 0
    go_wp2_with (first |((with_reducible refine jd (f:=9) rfl ?_);refine gL (some 20) Try.func9 #[.agg #[.slice Ao8 t879.length co8], .slice Ao10 t882.length co10] ?_;(with_reducible refine (jT.calls k _ _ t879 _ _ t882 t889 _ ?side1 ?side2 ?side3 ?side4 A12.out).mono ?_);(case side1=>exact cq (Kd.jC HO881.out).2.2);(case side2=>exact (Kd.jC HO881.out).2.1);(case side3=>exact cq (Kd.jWb HO884.out).2.2);(case side4=>exact (Kd.jWb HO884.out).2.1);rintro e w17 ⟨v890,rfl,ho0,hb⟩;refine ⟨_,rfl,?_⟩;have HO891:=am (Kd.jfa (Kd.jzb (Kd.jzb ho0 (Kd.Q_lt (Y65))) (Kd.R_lt (rq HO888.out))) (jka (Y23)));replace HO881:=am (Kd.jqa (rq HO881.out) hb);replace HO884:=am (Kd.jNc (Y65) (Kd.jAb ho0) hb);replace HO888:=am (Kd.jVb (rq HO888.out) (Kd.jAb ho0) hb);replace BK885:=am (jr (g:=gb885) (o:=.cells #[.slice Ao8 t879.length co8] 32 (0,0)) (kq BK885.out) hb);replace HB:=am (ji (Y23) hb);(try clear hb);(try clear hb2);(try clear hk);(try clear hi);(try clear ho0);obtain ⟨Ao18,co18,eo18⟩:=Kd.jta HO888.out;subst eo18;obtain ⟨Ao19,co19,eo19⟩:=Kd.jta HO891.out;subst eo19) |((with_reducible refine jd (f:=26) rfl ?_);refine gL (some 21) Try.func26 #[.slice Ao18 t886.length co18, .slice Ao19 t889.length co19] ?_;(with_reducible refine (jX.calls k _ _ t886 _ _ t889 true _ ?side1 ?side2 ?side3 ?side4 A13.out).mono ?_);(case side1=>exact cq (Kd.jC HO888.out).2.2);(case side2=>exact (Kd.jC HO888.out).2.1);(case side3=>exact cq (Kd.jC HO891.out).2.2);(case side4=>exact (Kd.jC HO891.out).2.1);rintro e w' ⟨rfl,⟨nd,rfl⟩⟩;refine ⟨_,rfl,?_⟩;have hcz20_0:=bc0 BK885.out;have hfz20_0:=ja BK885.out 0) |(go_at_call 27;(with_reducible refine (jy.calls k _ _ t879 _ _ t882 t893 _ ?side1 ?side2 ?side3 ?side4 A15.out).mono ?_);(case side1=>exact cq (Kd.jC HO881.out).2.2);(case side2=>exact (Kd.jC HO881.out).2.1);(case side3=>exact cq (Kd.jWb HO884.out).2.2);(case side4=>exact (Kd.jWb HO884.out).2.1);rintro e w21 ⟨rfl,hb⟩;replace HO881:=am (Kd.jqa (rq HO881.out) hb);replace HO884:=am (Kd.Q_below (Y65) hb);replace HO888:=am (Kd.jqa (rq HO888.out) hb);replace HO891:=am (Kd.jqa (rq HO891.out) hb);replace BK885:=am (jr (g:=gb885) (o:=.cells #[.slice Ao8 t879.length co8] 32 (0,0)) (kq BK885.out) hb);replace HB:=am (ji (Y23) hb);(try clear hb);(try clear hb2);(try clear hk);(try clear hi)))
    go_meet
    case rel=>exact ⟨_,(!t893),(sq),H',⟨Y42⟩,⟨by (with_reducible repeat (first | apply Kd.Q_alloc | apply Kd.Q_drewN | apply Kd.Q_drew));exact Kd.Q_mono HO884.out (fun _ hk=>hk.1.2)⟩,⟨by (with_reducible repeat (first | apply Kd.jma | apply Kd.jla | apply Kd.jva));exact Kd.jG HO888.out (fun _ hk=>hk.1.2)⟩,⟨rq HO881.out⟩,⟨kq BK885.out⟩,⟨Y23⟩⟩
   ·replace c14:=Bool.eq_false_iff.mpr c14
    subst c14
    have H1:(jo.j0 k t882 t886 true t879)=some r:=by rw [if_neg (show ¬ (false=true) by decide)] at H;exact H
    clear H
    have H:=H1
    clear H1
    have H':=am H
    clear H
    have hcz22_0:=bc0 BK885.out
    have hfz22_0:=ja BK885.out 0
    go_wp2_with (first |((with_reducible refine jd (f:=9) rfl ?_);refine gL (some 20) Try.func9 #[.agg #[.slice Ao8 t879.length co8], .slice Ao10 t882.length co10] ?_;(with_reducible refine (jT.calls k _ _ t879 _ _ t882 t889 _ ?side1 ?side2 ?side3 ?side4 A12.out).mono ?_);(case side1=>exact cq (Kd.jC HO881.out).2.2);(case side2=>exact (Kd.jC HO881.out).2.1);(case side3=>exact cq (Kd.jWb HO884.out).2.2);(case side4=>exact (Kd.jWb HO884.out).2.1);rintro e w23 ⟨v890,rfl,ho0,hb⟩;refine ⟨_,rfl,?_⟩;have HO891:=am (Kd.jfa (Kd.jzb (Kd.jzb ho0 (Kd.Q_lt (Y65))) (Kd.R_lt (rq HO888.out))) (jka (Y23)));replace HO881:=am (Kd.jqa (rq HO881.out) hb);replace HO884:=am (Kd.jNc (Y65) (Kd.jAb ho0) hb);replace HO888:=am (Kd.jVb (rq HO888.out) (Kd.jAb ho0) hb);replace BK885:=am (jr (g:=gb885) (o:=.cells #[.slice Ao8 t879.length co8] 32 (0,0)) (kq BK885.out) hb);replace HB:=am (ji (Y23) hb);(try clear hb);(try clear hb2);(try clear hk);(try clear hi);(try clear ho0);obtain ⟨Ao24,co24,eo24⟩:=Kd.jta HO888.out;subst eo24;obtain ⟨Ao25,co25,eo25⟩:=Kd.jta HO891.out;subst eo25) |((with_reducible refine jd (f:=26) rfl ?_);refine gL (some 21) Try.func26 #[.slice Ao24 t886.length co24, .slice Ao25 t889.length co25] ?_;(with_reducible refine (jX.calls k _ _ t886 _ _ t889 false _ ?side1 ?side2 ?side3 ?side4 A13.out).mono ?_);(case side1=>exact cq (Kd.jC HO888.out).2.2);(case side2=>exact (Kd.jC HO888.out).2.1);(case side3=>exact cq (Kd.jC HO891.out).2.2);(case side4=>exact (Kd.jC HO891.out).2.1);rintro e w' ⟨rfl,⟨nd,rfl⟩⟩;refine ⟨_,rfl,?_⟩))
    go_meet
    case rel=>exact ⟨_,(true),(sq),H',⟨Y42⟩,⟨by (with_reducible repeat (first | apply Kd.Q_alloc | apply Kd.Q_drewN | apply Kd.Q_drew));exact Kd.Q_mono HO884.out (fun _ hk=>hk.1.2)⟩,⟨by (with_reducible repeat (first | apply Kd.jma | apply Kd.jla | apply Kd.jva));exact Kd.jG HO888.out (fun _ hk=>hk.1.2)⟩,⟨rq HO881.out⟩,⟨kq BK885.out⟩,⟨Y23⟩⟩
  case rest =>
   clear HC5
   try clear c1
   try clear c2
   try clear c2b0
   try clear c2b1
   try clear p2
   try clear c6
   try clear c9
   try clear c12
   try clear c14
   try clear c25
   try clear hcz16_0
   try clear hcz20_0
   try clear hcz22_0
   try clear hcz9_0
   try clear hfz16_0
   try clear hfz20_0
   try clear hfz22_0
   try clear hfz9_0
   obtain ⟨kq,x28_4,rfl,HA,HJ4,HO_4,HO_5,HO_886000,BK885,HB⟩:=hcut
   cases kq with
   | zero=>exact absurd HA.out (by simp [jo.j0])
   | succ kj4 =>
    have H:=HA.out
    clear HA
    simp only [jo.j0] at H
    by_cases c26:x28_4=true
    ·subst c26
     have H1:((jT.f kj4 t879 t882).bind fun t894=>((jX.f kj4 t886 t894).bind fun t897=>(some t897)))=some r:=by rw [if_pos rfl] at H;exact H
     clear H
     have H:=H1
     clear H1
     replace H:=bzS H
     obtain ⟨t894,A270,H⟩:=H
     replace H:((jX.f kj4 t886 t894).bind fun t897=>(some t897))=some r:=H
     have A27:=am A270
     clear A270
     replace H:=bzS H
     obtain ⟨t897,A280,H⟩:=H
     replace H:(some t897)=some r:=H
     have A28:=am A280
     clear A280
     obtain rfl:=Option.some.inj H
     have hcz29_0:=bc0 BK885.out
     have hfz29_0:=ja BK885.out 0
     go_wp2_with (first |((with_reducible refine jd (f:=9) rfl ?_);refine gL (some 32) Try.func9 #[.agg #[.slice Ao8 t879.length co8], .slice Ao10 t882.length co10] ?_;(with_reducible refine (jT.calls kj4 _ _ t879 _ _ t882 t894 _ ?side1 ?side2 ?side3 ?side4 A27.out).mono ?_);(case side1=>exact cq (Kd.jC HO_886000.out).2.2);(case side2=>exact (Kd.jC HO_886000.out).2.1);(case side3=>exact cq (Kd.jWb HO_4.out).2.2);(case side4=>exact (Kd.jWb HO_4.out).2.1);rintro e w30 ⟨v895,rfl,ho0,hb⟩;refine ⟨_,rfl,?_⟩;have HO896:=am (Kd.jfa (Kd.jzb (Kd.jzb ho0 (Kd.Q_lt (Y53))) (Kd.R_lt (rq HO_5.out))) (jka (Y23)));replace HO_4:=am (Kd.jNc (Y53) (Kd.jAb ho0) hb);replace HO_5:=am (Kd.jVb (rq HO_5.out) (Kd.jAb ho0) hb);replace HO_886000:=am (Kd.jqa (rq HO_886000.out) hb);replace BK885:=am (jr (g:=gb885) (o:=.cells #[.slice Ao8 t879.length co8] 32 (0,0)) (kq BK885.out) hb);replace HB:=am (ji (Y23) hb);(try clear hb);(try clear hb2);(try clear hk);(try clear hi);(try clear ho0);obtain ⟨Ao31,co31,eo31⟩:=Kd.jta HO_5.out;subst eo31;obtain ⟨Ao32,co32,eo32⟩:=Kd.jta HO896.out;subst eo32) |((with_reducible refine jd (f:=26) rfl ?_);refine gL (some 33) Try.func26 #[.slice Ao31 t886.length co31, .slice Ao32 t894.length co32] ?_;(with_reducible refine (jX.calls kj4 _ _ t886 _ _ t894 t897 _ ?side1 ?side2 ?side3 ?side4 A28.out).mono ?_);(case side1=>exact cq (Kd.jC HO_5.out).2.2);(case side2=>exact (Kd.jC HO_5.out).2.1);(case side3=>exact cq (Kd.jC HO896.out).2.2);(case side4=>exact (Kd.jC HO896.out).2.1);rintro e w' ⟨rfl,⟨nd,rfl⟩⟩;refine ⟨_,rfl,?_⟩))
     go_ret
     exact ⟨Y0,Y23⟩
    ·replace c26:=Bool.eq_false_iff.mpr c26
     subst c26
     have H1:((jgb.f kj4 t879 t882).bind fun t898=>((jTa.f kj4 t879 t898).bind fun t901=>((jgb.f kj4 t879 t886).bind fun t904=>((jX.f kj4 t901 t904).bind fun t907=>(some t907)))))=some r:=by rw [if_neg (show ¬ (false=true) by decide)] at H;exact H
     clear H
     have H:=H1
     clear H1
     replace H:=bzS H
     obtain ⟨t898,A330,H⟩:=H
     replace H:((jTa.f kj4 t879 t898).bind fun t901=>((jgb.f kj4 t879 t886).bind fun t904=>((jX.f kj4 t901 t904).bind fun t907=>(some t907))))=some r:=H
     have A33:=am A330
     clear A330
     replace H:=bzS H
     obtain ⟨t901,A340,H⟩:=H
     replace H:((jgb.f kj4 t879 t886).bind fun t904=>((jX.f kj4 t901 t904).bind fun t907=>(some t907)))=some r:=H
     have A34:=am A340
     clear A340
     replace H:=bzS H
     obtain ⟨t904,A350,H⟩:=H
     replace H:((jX.f kj4 t901 t904).bind fun t907=>(some t907))=some r:=H
     have A35:=am A350
     clear A350
     replace H:=bzS H
     obtain ⟨t907,A360,H⟩:=H
     replace H:(some t907)=some r:=H
     have A36:=am A360
     clear A360
     obtain rfl:=Option.some.inj H
     try go_wp2
     replace HO_4:=am (Kd.Q_drew HO_4.out)
     replace HO_5:=am (Kd.jva HO_5.out)
     replace HO_886000:=am (Kd.jva HO_886000.out)
     replace BK885:=am (jD BK885.out)
     replace HB:=am (jO HB.out)
     refine start_ (n:=10) (S:=fun w'=>w'.cell? ⟨gb885,0,none⟩=some (.slice Ao8 t879.length co8)) (ds:=[]) #[false,false,false,false,false,false,false,false,false,false] (by kernel_rfl) rfl rfl ((jJ BK885.out 0).trans rfl) (fun hHeld=>?_);refine jFc jo.tab7 jo.bits7 (fun HT_ HW_=>?_)
     generalize wc.drew=w37 at HO_4 HO_5 HO_886000 BK885 HB hHeld ⊢
     refine pq (i:=2) (N:=some 36) #[false,false,true,false,false,false,false,false,false,false] ?_
     refine pq (i:=6) (N:=some 40) #[false,false,true,false,false,false,true,false,false,false] ?_
     refine take_ (i:=0) (N:=some 34) (v:=?_) (a':=?_) #[true,false,true,false,false,false,true,false,false,false] rfl rfl (jdc HT_.out HW_.out (by kernel_rfl)) (fun _ _ _ h=>h) (Or.inl ⟨by rfl,?_⟩) hHeld ?_ ?_
     rotate_left
     ·intro w' s0
      go_simp
      with_reducible rfl
     rotate_left
     ·exact sa
     refine take_ (i:=1) (N:=some 35) (v:=?_) (a':=?_) #[true,true,true,false,false,false,true,false,false,false] rfl rfl (jdc HT_.out HW_.out (by kernel_rfl)) (fun _ _ _ h=>h) (Or.inl ⟨by rfl,?_⟩) hHeld ?_ ?_
     rotate_left
     ·intro w' s0
      go_simp
      with_reducible rfl
     rotate_left
     ·exact sa
     refine take_ (i:=5) (N:=some 39) (v:=?_) (a':=?_) #[true,true,true,false,false,true,true,false,false,false] rfl rfl (jdc HT_.out HW_.out (by kernel_rfl)) (fun _ _ _ h=>h) (Or.inl ⟨by rfl,?_⟩) hHeld ?_ ?_
     rotate_left
     ·intro w' s0
      go_simp
      with_reducible rfl
     rotate_left
     ·exact sa
     refine one_ (i:=3) (N:=some 37) #[true,true,true,true,false,true,true,false,false,false] rfl rfl (jXb HT_.out (by kernel_rfl)) (by decide) (fun K hK=>?_)
     refine goes_ Try.func19 (by kernel_rfl) rfl #[.agg #[.slice Ao8 t879.length co8], .slice Ao10 t882.length co10] (by rfl) rfl rfl (aq) ?_
     with_reducible refine (jgb.calls kj4 _ _ t879 _ _ t882 t898 _ ?side1 ?side2 ?side3 ?side4 A33.out).mono ?_
     (case side1=>exact cq (Kd.jC HO_886000.out).2.2)
     (case side2=>exact (Kd.jC HO_886000.out).2.1)
     (case side3=>exact cq (Kd.jWb HO_4.out).2.2)
     (case side4=>exact (Kd.jWb HO_4.out).2.1)
     rintro e w38 ⟨v899,rfl,ho0,hb⟩
     refine ⟨_,rfl,?_⟩
     have HO900:=am (Kd.jfa (Kd.jzb (Kd.jzb ho0 (Kd.Q_lt (Y53))) (Kd.R_lt (rq HO_5.out))) (jka (Y23)))
     replace HO_4:=am (Kd.jNc (Y53) (Kd.jAb ho0) hb)
     replace HO_5:=am (Kd.jVb (rq HO_5.out) (Kd.jAb ho0) hb)
     replace HO_886000:=am (Kd.jqa (rq HO_886000.out) hb)
     replace BK885:=am (jr (g:=gb885) (o:=.cells #[.slice Ao8 t879.length co8] 32 (0,0)) (kq BK885.out) hb)
     replace HB:=am (ji (Y23) hb)
     (try clear hb)
     (try clear hb2)
     (try clear hk)
     (try clear hi)
     (try clear ho0)
     obtain ⟨Ao39,co39,eo39⟩:=Kd.jta HO900.out
     (first | subst eo39 |(injection eo39 with f1_ f2_ f3_;have f4_:=f1_.symm;have f5_:=f3_.symm;clear f1_ f2_ f3_;subst f4_;subst f5_))
     refine hK.out _ _ ((jJ BK885.out 0).trans rfl) (fun hHeld=>?_)
     clear hK K
     refine jfc (a':=?_) ?_ ?_
     rotate_left
     ·show Act.put _ (some 37) _=_
      simp only [Act.put,List.setIfInBounds_toArray,List.set_cons_zero,List.set_cons_succ,jkb,jnb]
      rfl
     refine one_ (i:=4) (N:=some 38) #[true,true,true,true,true,true,true,false,false,false] rfl rfl (jXb HT_.out (by kernel_rfl)) (by decide) (fun K hK=>?_)
     refine goes_ Try.func12 (by kernel_rfl) rfl #[.agg #[.slice Ao8 t879.length co8], .slice Ao39 t898.length co39] (by rfl) rfl rfl (aq) ?_
     with_reducible refine (jTa.calls kj4 _ _ t879 _ _ t898 t901 _ ?side1 ?side2 ?side3 ?side4 A34.out).mono ?_
     (case side1=>exact cq (Kd.jC HO_886000.out).2.2)
     (case side2=>exact (Kd.jC HO_886000.out).2.1)
     (case side3=>exact cq (Kd.jC HO900.out).2.2)
     (case side4=>exact (Kd.jC HO900.out).2.1)
     rintro e w40 ⟨v902,rfl,ho0,hb⟩
     refine ⟨_,rfl,?_⟩
     have HO903:=am (Kd.jfa (Kd.jzb (Kd.jzb (Kd.jzb ho0 (Kd.Q_lt (Y53))) (Kd.R_lt (rq HO_5.out))) (Kd.R_lt (rq HO900.out))) (jka (Y23)))
     replace HO_4:=am (Kd.jNc (Y53) (Kd.jAb ho0) hb)
     replace HO_5:=am (Kd.jVb (rq HO_5.out) (Kd.jAb ho0) hb)
     replace HO_886000:=am (Kd.jqa (rq HO_886000.out) hb)
     replace HO900:=am (Kd.jVb (rq HO900.out) (Kd.jAb ho0) hb)
     replace BK885:=am (jr (g:=gb885) (o:=.cells #[.slice Ao8 t879.length co8] 32 (0,0)) (kq BK885.out) hb)
     replace HB:=am (ji (Y23) hb)
     (try clear hb)
     (try clear hb2)
     (try clear hk)
     (try clear hi)
     (try clear ho0)
     obtain ⟨Ao41,co41,eo41⟩:=Kd.jta HO_5.out
     (first | subst eo41 |(injection eo41 with f1_ f2_ f3_;have f4_:=f1_.symm;have f5_:=f3_.symm;clear f1_ f2_ f3_;subst f4_;subst f5_))
     refine hK.out _ _ ((jJ BK885.out 0).trans rfl) (fun hHeld=>?_)
     clear hK K
     refine jfc (a':=?_) ?_ ?_
     rotate_left
     ·show Act.put _ (some 38) _=_
      simp only [Act.put,List.setIfInBounds_toArray,List.set_cons_zero,List.set_cons_succ,jkb,jnb]
      rfl
     refine one_ (i:=7) (N:=some 41) #[true,true,true,true,true,true,true,true,false,false] rfl rfl (jXb HT_.out (by kernel_rfl)) (by decide) (fun K hK=>?_)
     refine goes_ Try.func19 (by kernel_rfl) rfl #[.agg #[.slice Ao8 t879.length co8], .slice Ao41 t886.length co41] (by rfl) rfl rfl (aq) ?_
     with_reducible refine (jgb.calls kj4 _ _ t879 _ _ t886 t904 _ ?side1 ?side2 ?side3 ?side4 A35.out).mono ?_
     (case side1=>exact cq (Kd.jC HO_886000.out).2.2)
     (case side2=>exact (Kd.jC HO_886000.out).2.1)
     (case side3=>exact cq (Kd.jC HO_5.out).2.2)
     (case side4=>exact (Kd.jC HO_5.out).2.1)
     rintro e w42 ⟨v905,rfl,ho0,hb⟩
     refine ⟨_,rfl,?_⟩
     have HO906:=am (Kd.jfa (Kd.jzb (Kd.jzb (Kd.jzb (Kd.jzb ho0 (Kd.Q_lt (Y53))) (Kd.R_lt (rq HO_5.out))) (Kd.R_lt (rq HO900.out))) (Kd.R_lt (rq HO903.out))) (jka (Y23)))
     replace HO_4:=am (Kd.jNc (Y53) (Kd.jAb ho0) hb)
     replace HO_5:=am (Kd.jVb (rq HO_5.out) (Kd.jAb ho0) hb)
     replace HO_886000:=am (Kd.jqa (rq HO_886000.out) hb)
     replace HO900:=am (Kd.jVb (rq HO900.out) (Kd.jAb ho0) hb)
     replace HO903:=am (Kd.jVb (rq HO903.out) (Kd.jAb ho0) hb)
     replace BK885:=am (jr (g:=gb885) (o:=.cells #[.slice Ao8 t879.length co8] 32 (0,0)) (kq BK885.out) hb)
     replace HB:=am (ji (Y23) hb)
     (try clear hb)
     (try clear hb2)
     (try clear hk)
     (try clear hi)
     (try clear ho0)
     obtain ⟨Ao43,co43,eo43⟩:=Kd.jta HO903.out
     (first | subst eo43 |(injection eo43 with f1_ f2_ f3_;have f4_:=f1_.symm;have f5_:=f3_.symm;clear f1_ f2_ f3_;subst f4_;subst f5_))
     obtain ⟨Ao44,co44,eo44⟩:=Kd.jta HO906.out
     (first | subst eo44 |(injection eo44 with f1_ f2_ f3_;have f4_:=f1_.symm;have f5_:=f3_.symm;clear f1_ f2_ f3_;subst f4_;subst f5_))
     refine hK.out _ _ ((jJ BK885.out 0).trans rfl) (fun hHeld=>?_)
     clear hK K
     refine jfc (a':=?_) ?_ ?_
     rotate_left
     ·show Act.put _ (some 41) _=_
      simp only [Act.put,List.setIfInBounds_toArray,List.set_cons_zero,List.set_cons_succ,jkb,jnb]
      rfl
     refine one_ (i:=8) (N:=some 42) #[true,true,true,true,true,true,true,true,true,false] rfl rfl (jXb HT_.out (by kernel_rfl)) (by decide) (fun K hK=>?_)
     refine goes_ Try.func26 (by kernel_rfl) rfl #[.slice Ao43 t901.length co43, .slice Ao44 t904.length co44] (by rfl) rfl rfl (aq) ?_
     with_reducible refine (jX.calls kj4 _ _ t901 _ _ t904 t907 _ ?side1 ?side2 ?side3 ?side4 A36.out).mono ?_
     (case side1=>exact cq (Kd.jC HO903.out).2.2)
     (case side2=>exact (Kd.jC HO903.out).2.1)
     (case side3=>exact cq (Kd.jC HO906.out).2.2)
     (case side4=>exact (Kd.jC HO906.out).2.1)
     rintro e w' ⟨rfl,⟨nd,rfl⟩⟩
     refine ⟨_,rfl,?_⟩
     refine hK.out _ _ ((jJ BK885.out 0).trans rfl) (fun hHeld=>?_)
     clear hK K
     refine jfc (a':=?_) ?_ ?_
     rotate_left
     ·show Act.put _ (some 42) _=_
      simp only [Act.put,List.setIfInBounds_toArray,List.set_cons_zero,List.set_cons_succ,jkb,jnb]
      rfl
     refine pq (i:=9) (N:=some 2) #[true,true,true,true,true,true,true,true,true,true] ?_
     refine done_ (done_of HT_.out (by kernel_rfl)) ?_
     try go_wp2
     go_ret
     exact ⟨Y0,Y23⟩
def jo.Pure : Prop := ∀ (l0 : List Int), l0.length ≤ maxLen → l0.length * 1 ≤ 140737488351232 → (∀ x ∈ l0, (Lit.int .u8 x).wf = true) → ∃ k, jo.f k l0 = some true
theorem jo.walk (P : jo.Pure) (a0 : Option Addr) (len0 cap0 : Nat) (z0 : List Int) (w : World) (w0 : (a0 = none ∧ len0 = 0 ∧ cap0 = 0 ∧ z0 = []) ∨ ∃ x, a0 = some x ∧ len0 ≤ cap0 ∧ cap0 ≤ maxLen ∧ z0.length = cap0 ∧ (∀ i, i < z0.length → w.cell? (x.add i) = some (.int .u8 (z0.getD i 0))) ∧ ∀ n ∈ z0, (Lit.int .u8 n).wf = true) (y0 : len0 * 1 ≤ 140737488351232) :
  Calls Try.prog 6 #[.slice a0 len0 cap0] w fun e w'=>e=.returned (.bool true)∧Below w.heap.size w w':=by
 obtain ⟨l0,rfl,hr0,hm0,hw0,hc0⟩:=jlb.ofRowC w0
 obtain ⟨k,h⟩:=P l0 hm0 y0 hw0
 refine (jo.calls k _ _ l0 true w (Kd.C_of_reads (d:=(0:Int)) (h1:=fun _=>rfl) hr0) hc0 rfl h).mono ?_
 rintro e w' ⟨rfl,hd⟩
 exact ⟨rfl,hd⟩
def jJb.l0 : Nat → List Int → Int → Int → Option (Bool)
 | 0,_,_,_=>none
 | k+1,x0,x1,x5=>if x5<(x0.length:Int) then (if 0≤x5 then (if (rd x0 x5)=x1 then (some true) else (jJb.l0 k x0 x1 (wrap64 (x5+1)))) else (none)) else (some false)
def jJb.f (k : Nat) (l0 : List Int) (a1 : Int) : Option (Bool) := jJb.l0 k l0 a1 0
def jZb.l0 : Nat → Int → List Int → List (S78) → Option (List Int)
 | 0,_,_,_=>none
 | k+1,x1,x5,x350000=>if x1≥0 then (if x5.length<17592186044416 then (if 0≤x1 then (if x1<(x350000.length:Int) then (jZb.l0 k ((jaa x350000 x1).f1) (x5 ++ [x1]) x350000) else (none)) else (none)) else (none)) else (some x5)
def jZb.f (k : Nat) (l0_0 : List (S78)) (a1 : Int) : Option (List Int) := jZb.l0 k a1 (([] : List Int)) l0_0
def spec_isA.f (k : Nat) (l0_0 : List (S78)) (a1 : Int) (a2 : Int) : Option (Bool) := (jZb.f k l0_0 a1).bind fun t358 => ((jJb.f k t358 a2).bind fun t361 => (some t361))
def jjb.l0 : Nat → List Int → Int → Int → List (S78) → Option (Int)
 | 0,_,_,_,_=>none
 | k+1,x1,x2,x7,x363000=>if x7<(x1.length:Int) then (if 0≤x7 then ((spec_isA.f k x363000 x2 (rd x1 x7)).bind fun t364=>(if t364=true then (some x7) else (jjb.l0 k x1 x2 (wrap64 (x7+1)) x363000))) else (none)) else (some (-1))
def jjb.f (k : Nat) (l0_0 : List (S78)) (l1 : List Int) (a2 : Int) : Option (Int) := jjb.l0 k l1 a2 0 l0_0
mutual
def jwa.l0 : Nat → List (S52) → List Int → Int → List (S78) → Option ((List (S52)))
 | 0,_,_,_,_=>none
 | k+1,x1,x5,x6,x366000=>if x6<(x1.length:Int) then (if 0≤x6 then (if ((jc x1 x6).f1)=7 then ((jCa.f k x1 x6).bind fun t370=>(jwa.l1 k x1 x5 x6 t370 (([]:List Int)) 1 x366000)) else (jwa.l0 k x1 x5 (wrap64 (x6+1)) x366000)) else (none)) else (jwa.l2 k x1 x5 (([]:List (S52))) 0)
def jwa.l1 : Nat → List (S52) → List Int → Int → List Int → List Int → Int → List (S78) → Option ((List (S52)))
 | 0,_,_,_,_,_,_,_=>none
 | k+1,x1,x5,x6,x7,x8,x9,x366000=>if x9<(x7.length:Int) then (if 0≤x9 then (if 0≤(rd x7 x9) then (if (rd x7 x9)<(x1.length:Int) then (if ((jc x1 (rd x7 x9)).f1)=8 then ((jjb.f k x366000 x8 ((jc x1 (rd x7 x9)).f2)).bind fun t380=>(if t380≥0 then (if x5.length<17592186044416 then (if x8.length<17592186044416 then (jwa.l1 k x1 (x5 ++ [rd x7 x9]) x6 x7 (x8 ++ [(jc x1 (rd x7 x9)).f2]) (wrap64 (x9+1)) x366000) else (none)) else (none)) else (if x8.length<17592186044416 then (jwa.l1 k x1 x5 x6 x7 (x8 ++ [(jc x1 (rd x7 x9)).f2]) (wrap64 (x9+1)) x366000) else (none)))) else (jwa.l1 k x1 x5 x6 x7 x8 (wrap64 (x9+1)) x366000)) else (none)) else (none)) else (none)) else (jwa.l0 k x1 x5 (wrap64 (x6+1)) x366000)
def jwa.l2 : Nat → List (S52) → List Int → List (S52) → Int → Option ((List (S52)))
 | 0,_,_,_,_=>none
 | k+1,x1,x5,x10,x11=>if x11<(x1.length:Int) then ((jJb.f k x5 x11).bind fun t398=>(if t398=true then ((joa.f k x1 x11).bind fun t399=>(jwa.l2 k x1 x5 x10 t399)) else (if 0≤x11 then (if x10.length<4398046511104 then (jwa.l2 k x1 x5 (x10 ++ [(⟨(jc x1 x11).f0,(jc x1 x11).f1,(jc x1 x11).f2,(jc x1 x11).f3⟩:S52)]) (wrap64 (x11+1))) else (none)) else (none)))) else (some x10)
end
def jwa.f (k : Nat) (l0_0 : List (S78)) (l1 : List (S52)) : Option ((List (S52))) := jwa.l0 k l1 (([] : List Int)) 0 l0_0
def spec_DropDead.f (k : Nat) (l0_0 : List (S78)) (l1 : List (S52)) : Option ((List (S52))) := (jV.f k l0_0 l1).bind fun t405 => (if t405 = true then ((jwa.f k l0_0 l1).bind fun t406 => (some t406)) else (some ([] : List (S52))))

section
attribute [local go_sem] jea jca jsa jra jR jQ jda jba jg
structure DlI (w : World) (vp : Value) (l1 : List S52) (S : Int → Bool) (e b1 n1 b2 n2 : Nat) (W : World) : Prop where
 b:Below w.heap.size w W
 p:W.cell? ⟨w.heap.size+1,0,none⟩=some vp
 e:W.cell? ⟨e,0,none⟩=some (.map (some b2))
 s1:BSet W b1 n1 (bjS l1)
 s2:BSet W b2 n2 S
theorem DlI.below {w W W' : World} {vp : Value} {l1 : List S52} {S : Int → Bool} {e b1 n1 b2 n2 : Nat} (h : DlI w vp l1 S e b1 n1 b2 n2 W) (hb : Below W.heap.size W W') : DlI w vp l1 S e b1 n1 b2 n2 W' :=
 ⟨h.b.trans (hb.mono h.b.size),jia hb h.p,jia hb h.e,h.s1.below hb,h.s2.below hb⟩
structure Dq (w : World) (vt vp : Value) (W : World) : Prop where
 b:Below w.heap.size w W
 t:W.cell? ⟨w.heap.size,0,none⟩=some vt
 p:W.heap[w.heap.size+1]?=some (.cells #[vp] 28 (0,0))
 l:w.heap.size+2≤W.heap.size
theorem Dq.below {w W W' : World} {vt vp : Value} (h : Dq w vt vp W) (hb : Below W.heap.size W W') : Dq w vt vp W' :=
 ⟨h.b.trans (hb.mono h.b.size),jia hb h.t,(hb.block _ (Nat.lt_of_lt_of_le (Nat.lt_succ_self _) h.l)).trans h.p,Nat.le_trans h.l hb.size⟩
end
end Go.Proofs.Ytkhiiiddbmgiaaa.P
end
