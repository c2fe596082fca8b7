/- One part of the proofs on this program: functions of the program as plain functions, that the code comes to them, and facts on them. -/
import Derived.Test.YtkedkinojeoeaaaYAll1
import Derived.Test.YtkedkinojeoeaaaYAll5
import Derived.Test.YtkedkinojeoeaaaYAll6
import Derived.Test.YtkedkinojeoeaaaYAll7
import Derived.Test.YtkedkinojeoeaaaYWAuto
section
namespace Go.Proofs.Ytkedkinojeoeaaa.P
open Go.RowKit Go.Proofs.YtkedkinojeoeaaaW.PrintWords Go.Proofs.YtkedkinojeoeaaaW.PrintLast Go.Proofs.YtkedkinojeoeaaaW.PrintMore
attribute [local go_sem] jqa joa jCa jBa jaa jZ jpa jna jk
set_option linter.unusedVariables false
set_option linter.unusedSimpArgs false
def jOa.l0 : Nat → Int → List Int → List (S75) → Option (List Int)
 | 0,_,_,_=>none
 | k+1,x1,x5,x786000=>if x1≥0 then (if x5.length<17592186044416 then (if 0≤x1 then (if x1<(x786000.length:Int) then (jOa.l0 k ((jma x786000 x1).f1) (x5 ++ [x1]) x786000) else (none)) else (none)) else (none)) else (some (x5))
def jOa.f (k : Nat) (l0_0 : List (S75)) (a1 : Int) : Option (List Int) := if 0 ≤ (l0_0.length : Int) then (if ((l0_0.length : Int) : Int).toNat ≤ 35184372088832 then (jOa.l0 k a1 (([] : List Int)) l0_0) else (none)) else (none)
set_option maxHeartbeats 8000000 in
set_option maxRecDepth 100000 in
theorem jOa.calls (k : Nat) (A0_0 : Option Addr) (c0_0 : Nat) (l0_0 : List (S75)) (a1 : Int) (r : List Int) (w : World) (hr0_0 : Kd.C k75 w A0_0 l0_0.length l0_0) (hc0_0 : l0_0.length ≤ c0_0) (h : jOa.f k l0_0 a1 = some r) :
  Calls Try.prog 76 #[.agg #[.slice A0_0 l0_0.length c0_0], .int .i64 a1] w fun e w'=>∃ v0_:Value,e=.returned (v0_)∧Kd.R (Kd.int .i64) 3 w' w.heap.size (fun _=>True) v0_ r∧Below w.heap.size w w':=by
 have hu25:=Try.underlying25
 have HR0_0:=am hr0_0
 have HC0_0:=am hc0_0
 clear hr0_0 hc0_0
 have HB:=am (Below.refl w.heap.size w)
 have H:(if 0≤(l0_0.length:Int) then (if ((l0_0.length:Int):Int).toNat≤35184372088832 then (jOa.l0 k a1 (([]:List Int)) l0_0) else (none)) else (none))=some r:=h
 clear h
 by_cases c3:0≤(l0_0.length:Int)
 ·rw [if_pos c3] at H
  have c3b0:=ezT c3
  have c3b1:decide (0≤(l0_0.length:Int))=true:=dzT c3
  clear c3
  by_cases c4:((l0_0.length:Int):Int).toNat≤35184372088832
  ·rw [if_pos c4] at H
   have c4b0:=ezT c4
   have c4b1:decide (((l0_0.length:Int):Int).toNat≤35184372088832)=true:=dzT c4
   clear c4
   obtain ⟨y786,hy786⟩:∃ y_:List Int,y_=(([]:List Int)):=⟨_,rfl⟩
   replace H:(jOa.l0 k a1 y786 l0_0)=some r:=by first |(rw [hy786];with_reducible exact H) |(have H2_:=(Option.bind_some _ _).symm.trans H;rw [hy786];with_reducible exact H2_) |(have H2_:=(Option.bind_some _ _).symm.trans H;with_reducible exact H2_) | with_reducible exact H |(rw [hy786];exact H) | exact H
   have Ny786:=am hy786
   clear hy786
   have H':=am H
   clear H
   go_enter Try.func76,Try.ntmps76
   go_wp2_with (first |((with_reducible refine jJ (N:=2) rfl ?_);refine bE (N:=2) (cs:=#[.slice A0_0 l0_0.length c0_0]) (t:=25) ?_;intro gb785 hg w5 hbox hb;have BK785:=am (hbox);have GW785:=am ((Y1:w.heap.size≤gb785));have GE785:=am ((Y1:w.heap.size≤gb785));replace HB:=am (jd (bq) hb);clear hb hbox hg;have hcz6_0:=bc0 BK785.out;have hfz6_0:=ja BK785.out 0) |((with_reducible refine jJ (N:=9) rfl ?_);refine Kd.R_mkcap (Kd.int .i64) _ 3 rfl (N:=9) rfl 29 _ _ rfl (l0_0.length:Int) rfl rfl Try.underlying29 (.int .i64 0) 8 info3 rfl (by decide) (by omega) (ok:=fun _=>True) trivial (ozD (uq)) (Nat.le_trans (Nat.mul_le_mul_right _ (ozD (uq):(l0_0.length:Int).toNat≤35184372088832)) (by omega)) (Below.refl _ _) (Nat.le_refl _) ?_;intro v787 w7 ho8 hb hg_ hnew_;clear hg_ hnew_;(first | rw [← Ny786.out] at ho8 |(simp only [Int.reduceToNat] at ho8;rw [← Ny786.out] at ho8));have HO788:=am (Kd.jW ho8 (jP (Y71)));replace BK785:=am (jh (g:=gb785) (o:=.cells #[.slice A0_0 l0_0.length c0_0] 25 (0,0)) (kq BK785.out) hb);replace HB:=am (jd (Y71) hb);clear hb ho8))
   go_loopg [1,5] k (fun kq v1 v5 w'=>∃ (x1_1:Int) (x5_1:List Int),v1=.int .i64 x1_1∧jo (jOa.l0 kq x1_1 x5_1 l0_0=some r)∧jo (kq≤k)∧jo (Kd.R (Kd.int .i64) 3 w' w.heap.size (fun _=>True) v5 x5_1)∧jo (w'.heap[gb785]?=some (.cells #[(.slice A0_0 l0_0.length c0_0)] 25 (0,0)))∧jo (Below w.heap.size w w'))
   case atStart=>exact ⟨(a1),(y786),(sq),H',⟨Nat.le_refl _⟩,⟨rq HO788.out⟩,⟨kq BK785.out⟩,⟨Y71⟩⟩
   case round =>
    clear H'
    try clear p2
    try clear c3
    try clear c3b0
    try clear c3b1
    try clear c4
    try clear c4b0
    try clear c4b1
    try clear c7
    try clear hcz6_0
    try clear hfz6_0
    obtain ⟨x1_1,x5_1,rfl,HA,HK1,HO_5,BK785,HB⟩:=hrel
    cases gk with
    | zero=>exact absurd HA.out (by simp [jOa.l0])
    | succ k1 =>
     have H:=HA.out
     clear HA
     simp only [jOa.l0] at H
     by_cases c9:x1_1≥0
     ·rw [if_pos c9] at H
      have c9b0:decide (0≤x1_1)=true:=dzT c9
      clear c9
      by_cases c10:x5_1.length<17592186044416
      ·rw [if_pos c10] at H
       have LMc10:=am c10
       clear c10
       obtain ⟨y789,hy789⟩:∃ y_:List Int,y_=(x5_1 ++ [x1_1]):=⟨_,rfl⟩
       replace H:(if 0≤x1_1 then (if x1_1<(l0_0.length:Int) then (jOa.l0 k1 ((jma l0_0 x1_1).f1) y789 l0_0) else (none)) else (none))=some r:=by first |(rw [hy789];with_reducible exact H) |(have H2_:=(Option.bind_some _ _).symm.trans H;rw [hy789];with_reducible exact H2_) |(have H2_:=(Option.bind_some _ _).symm.trans H;with_reducible exact H2_) | with_reducible exact H |(rw [hy789];exact H) | exact H
       have Ny789:=am hy789
       clear hy789
       by_cases c11:0≤x1_1
       ·rw [if_pos c11] at H
        have c11b0:decide (0≤x1_1)=true:=dzT c11
        clear c11
        by_cases c12:x1_1<(l0_0.length:Int)
        ·rw [if_pos c12] at H
         have c12b0:decide (x1_1<(l0_0.length:Int))=true:=dzT c12
         clear c12
         have H':=am H
         clear H
         go_wp2_with (first |((with_reducible refine jUa (b:=.append) (xs:=#[.tmp 18, .tmp 20]) rfl ?_);at_builtin;refine Kd.joc (Kd.int .i64) (w0:=w) w.heap.size rfl (.tmp 18) (.tmp 20) 29 3 (.int .i64 0) 8 rfl Try.underlying29 info3 rfl (by decide) (by omega) u5 x5_1 x1_1 [.int .i64 x1_1] (fun _=>True) (fun _=>False) rfl rfl ?aP (fun _ hk=>hk.elim) ?aF ?aO ?aB ?aS ?aL ?_;(case aP=>exact rfl);(case aB=>exact (Y71));(case aF=>exact (fun _ _=>trivial));(case aO=>exact (rq HO_5.out));(case aS=>exact (jP (Y71)));(case aL=>have:=LMc10.out;omega);intro v790 w13 ho hb hg hat;rw [← Ny789.out] at ho;have n0_:=am (jlb (g:=gb785) (o:=.cells #[.slice A0_0 l0_0.length c0_0] 25 (0,0)) (kq BK785.out) hg (Kd.R_ne HO_5.out BK785.out (by decide)));have n1_:=am (hb);have n2_:=am (ho);clear BK785 HB HO_5;have BK785:=n0_;have HB:=n1_;have HO791:=n2_;clear n0_ n1_ n2_ ho hb hg hat;have hcz14_0:=bc0 BK785.out;have hfz14_0:=ja BK785.out 0;have p792:0≤(x1_1:Int):=ozD (uq);have q792:x1_1<(l0_0.length:Int):=ozD (uq);obtain ⟨ad792,e792,hx792_0,hx792_1⟩:=at_T75 HR0_0.out x1_1 p792 q792;cases e792;replace hx792_0:=cb HB.out hx792_0;replace hx792_1:=cb HB.out hx792_1;replace p792:=ezT p792;replace q792:=ezT q792))
         go_roundg k1
         case measure=>have:=HK1.out;omega
         case rel=>exact ⟨((jma l0_0 x1_1).f1),(y789),(sq),H',⟨by have:=HK1.out;omega⟩,⟨rq HO791.out⟩,⟨kq BK785.out⟩,⟨Y71⟩⟩
        ·rw [if_neg c12] at H
         exact absurd H (by simp)
       ·rw [if_neg c11] at H
        exact absurd H (by simp)
      ·rw [if_neg c10] at H
       exact absurd H (by simp)
     ·rw [if_neg c9] at H
      have c9b0:decide (0≤x1_1)=false:=dzF c9
      clear c9
      obtain ⟨y793,hy793⟩:∃ y_:List Int,y_=(x5_1):=⟨_,rfl⟩
      replace H:(some y793)=some r:=by first |(rw [hy793];with_reducible exact H) |(have H2_:=(Option.bind_some _ _).symm.trans H;rw [hy793];with_reducible exact H2_) |(have H2_:=(Option.bind_some _ _).symm.trans H;with_reducible exact H2_) | with_reducible exact H |(rw [hy793];exact H) | exact H
      have Ny793:=am hy793
      clear hy793
      obtain rfl:=Option.some.inj H
      obtain ⟨Ao15,co15,eo15⟩:=Kd.jba HO_5.out
      subst eo15
      obtain ⟨i016,hi016,_,hsz16,_⟩:=info_parts info3
      have hy16:y793.length=x5_1.length:=(by rw [Ny793.out])
      have hcut16:=cut_clip (P:=Try.prog) 29 3 Try.underlying29 hi016 Ao15 _ co15 _ (Kd.jm HO_5.out).2.1 hy16
      have hr16:=Kd.R_clip HO_5.out Ny793.out
      clear hy16 hi016 hsz16 HO_5
      have HO795:=am hr16
      clear hr16
      go_wp2
      go_ret
      exact ⟨_,Y0,rq HO795.out,Y71⟩
  ·rw [if_neg c4] at H
   exact absurd H (by simp)
 ·rw [if_neg c3] at H
  exact absurd H (by simp)
def jxc.f (k : Nat) (l0_0 : List (S75)) (a1 : Int) (a2 : Int) : Option (Bool) := (jOa.f k l0_0 a1).bind fun t797 => ((jcb.f k t797 a2).bind fun t800 => (some t800))
set_option maxHeartbeats 8000000 in
set_option maxRecDepth 100000 in
theorem jxc.calls (k : Nat) (A0_0 : Option Addr) (c0_0 : Nat) (l0_0 : List (S75)) (a1 : Int) (a2 : Int) (r : Bool) (w : World) (hr0_0 : Kd.C k75 w A0_0 l0_0.length l0_0) (hc0_0 : l0_0.length ≤ c0_0) (h : jxc.f k l0_0 a1 a2 = some r) :
  Calls Try.prog 55 #[.agg #[.slice A0_0 l0_0.length c0_0], .int .i64 a1, .int .i64 a2] w fun e w'=>e=.returned (.bool r)∧Below w.heap.size w w':=by
 have hu25:=Try.underlying25
 have HR0_0:=am hr0_0
 have HC0_0:=am hc0_0
 clear hr0_0 hc0_0
 have HB:=am (Below.refl w.heap.size w)
 have H:((jOa.f k l0_0 a1).bind fun t797=>((jcb.f k t797 a2).bind fun t800=>(some t800)))=some r:=h
 clear h
 replace H:=bzS H
 obtain ⟨t797,A40,H⟩:=H
 replace H:((jcb.f k t797 a2).bind fun t800=>(some t800))=some r:=H
 have A4:=am A40
 clear A40
 replace H:=bzS H
 obtain ⟨t800,A50,H⟩:=H
 replace H:(some t800)=some r:=H
 have A5:=am A50
 clear A50
 obtain rfl:=Option.some.inj H
 go_enter Try.func55,Try.ntmps55
 go_wp2_with (first |((with_reducible refine jJ (N:=3) rfl ?_);refine bE (N:=3) (cs:=#[.slice A0_0 l0_0.length c0_0]) (t:=25) ?_;intro gb796 hg w6 hbox hb;have BK796:=am (hbox);have GW796:=am ((Y1:w.heap.size≤gb796));have GE796:=am ((Y1:w.heap.size≤gb796));replace HB:=am (jd (bq) hb);clear hb hbox hg;have hcz7_0:=bc0 BK796.out;have hfz7_0:=ja BK796.out 0) |((with_reducible refine jc (f:=76) rfl ?_);refine gL (some 9) Try.func76 #[.agg #[.slice A0_0 l0_0.length c0_0], .int .i64 a1] ?_;(with_reducible refine (jOa.calls k _ _ l0_0 a1 t797 _ ?side1 ?side2 A4.out).mono ?_);(case side1=>exact cq (Kd.jI HR0_0.out HB.out));(case side2=>exact HC0_0.out);rintro e w8 ⟨v798,rfl,ho0,hb⟩;refine ⟨_,rfl,?_⟩;have HO799:=am (Kd.jW ho0 (jP (Y116)));replace BK796:=am (jh (g:=gb796) (o:=.cells #[.slice A0_0 l0_0.length c0_0] 25 (0,0)) (kq BK796.out) hb);replace HB:=am (jd (Y116) hb);(try clear hb);(try clear hb2);(try clear hk);(try clear hi);(try clear ho0);obtain ⟨Ao9,co9,eo9⟩:=Kd.jba HO799.out;subst eo9) |((with_reducible refine jc (f:=75) rfl ?_);refine gL (some 11) Try.func75 #[.slice Ao9 t797.length co9, .int .i64 a2] ?_;(with_reducible refine (jcb.calls k _ _ t797 a2 t800 _ ?side1 ?side2 A5.out).mono ?_);(case side1=>exact cq (Kd.jm HO799.out).2.2);(case side2=>exact (Kd.jm HO799.out).2.1);rintro e w' ⟨rfl,⟨nd,rfl⟩⟩;refine ⟨_,rfl,?_⟩))
 go_ret
 exact ⟨Y0,Y116⟩
mutual
def jV.l0 : Nat → List (S36) → Int → List Int → Int → Int → List (S75) → Option (Int × Int)
 | 0,_,_,_,_,_,_=>none
 | k+1,x1,x3,x16,x17,x18,x802000=>if x18<x17 then (if 0≤x18 then (if x18<(x16.length:Int) then (if 0≤(rd x16 x18) then (if (rd x16 x18)<(x1.length:Int) then (if ((je x1 (rd x16 x18)).f1)=11 then (if ((je x1 (rd x16 x18)).f3)=1 then (some (rd x16 x18,rd x16 x18)) else (jV.l0 k x1 x3 x16 x17 (wrap64 (x18+1)) x802000)) else (if ((je x1 (rd x16 x18)).f1)=7 then ((jja.f k x1 (rd x16 x18)).bind fun t808=>(jV.l1 k x1 x3 (rd x16 x18) x16 x17 x18 t808 (t808.length:Int) 0 x802000)) else (jV.l0 k x1 x3 x16 x17 (wrap64 (x18+1)) x802000))) else (none)) else (none)) else (none)) else (none)) else (some ((-1),(-1)))
def jV.l1 : Nat → List (S36) → Int → Int → List Int → Int → Int → List Int → Int → Int → List (S75) → Option (Int × Int)
 | 0,_,_,_,_,_,_,_,_,_,_=>none
 | k+1,x1,x3,x11,x16,x17,x18,x41,x42,x43,x802000=>if x43<x42 then (if 0≤x43 then (if x43<(x41.length:Int) then (if 0≤(rd x41 x43) then (if (rd x41 x43)<(x1.length:Int) then (if ((je x1 (rd x41 x43)).f1)=8 then ((jxc.f k x802000 x3 ((je x1 (rd x41 x43)).f2)).bind fun t814=>(if t814=true then (some (x11,rd x41 x43)) else (jV.l1 k x1 x3 x11 x16 x17 x18 x41 x42 (wrap64 (x43+1)) x802000))) else (jV.l1 k x1 x3 x11 x16 x17 x18 x41 x42 (wrap64 (x43+1)) x802000)) else (none)) else (none)) else (none)) else (none)) else (jV.l0 k x1 x3 x16 x17 (wrap64 (x18+1)) x802000)
end
def jV.f (k : Nat) (l0_0 : List (S75)) (l1 : List (S36)) (a2 : Int) (a3 : Int) : Option (Int × Int) := (jda.f k l1 a2).bind fun t802 => (jV.l0 k l1 a3 t802 (t802.length : Int) 0 l0_0)
def jV.T12 : Bool × List (List Nat × List Nat) := (true, [([], []), ([], []), ([0, 1], [0, 1]), ([2], [2]), ([3], [3]), ([4], [4]), ([5], [5]), ([6], [6]), ([6], [6]), ([6], [6]), ([6], [6]), ([9, 10, 6], [6, 9, 10]), ([11, 6], [6, 11]), ([12, 6], [6, 12]), ([7, 8, 13, 6, 6], [6, 7, 8, 13]), ([6, 14], [6, 14])])
def jV.B12 : List Nat := [0, 0, 3, 7, 15, 31, 63, 127, 127, 127, 127, 1663, 3711, 7807, 16383, 32767]
theorem jV.tab12 : rtab .any (opsOf Try.f49 12) = jV.T12 := by kernel_rfl
theorem jV.bits12 : juc jV.T12.2 jV.B12 = true := by kernel_rfl
set_option maxHeartbeats 8000000 in
set_option maxRecDepth 100000 in
theorem jV.calls (k : Nat) (A0_0 : Option Addr) (c0_0 : Nat) (l0_0 : List (S75)) (A1 : Option Addr) (c1 : Nat) (l1 : List (S36)) (a2 : Int) (a3 : Int) (r1 : Int) (r2 : Int) (w : World) (hr0_0 : Kd.C k75 w A0_0 l0_0.length l0_0) (hc0_0 : l0_0.length ≤ c0_0) (hr1 : Kd.C k36 w A1 l1.length l1) (hc1 : l1.length ≤ c1) (h : jV.f k l0_0 l1 a2 a3 = some (r1, r2)) :
  Calls Try.prog 49 #[.agg #[.slice A0_0 l0_0.length c0_0], .slice A1 l1.length c1, .int .i64 a2, .int .i64 a3] w fun e w'=>e=.returned (.tuple #[.int .i64 r1, .int .i64 r2])∧Below w.heap.size w w':=by
 have hu25:=Try.underlying25
 have HR0_0:=am hr0_0
 have HC0_0:=am hc0_0
 clear hr0_0 hc0_0
 have HR1:=am hr1
 have HC1:=am hc1
 clear hr1 hc1
 have HB:=am (Below.refl w.heap.size w)
 have H:((jda.f k l1 a2).bind fun t802=>(jV.l0 k l1 a3 t802 (t802.length:Int) 0 l0_0))=some (r1,r2):=h
 clear h
 replace H:=bzS H
 obtain ⟨t802,A50,H⟩:=H
 replace H:(jV.l0 k l1 a3 t802 (t802.length:Int) 0 l0_0)=some (r1,r2):=H
 have A5:=am A50
 clear A50
 have H':=am H
 clear H
 go_enter Try.func49,Try.ntmps49
 go_wp2_with (first |((with_reducible refine jJ (N:=4) rfl ?_);refine bE (N:=4) (cs:=#[.slice A0_0 l0_0.length c0_0]) (t:=25) ?_;intro gb801 hg w6 hbox hb;have BK801:=am (hbox);have GW801:=am ((Y1:w.heap.size≤gb801));have GE801:=am ((Y1:w.heap.size≤gb801));replace HB:=am (jd (bq) hb);clear hb hbox hg) |((with_reducible refine jc (f:=41) rfl ?_);refine gL (some 16) Try.func41 #[.slice A1 l1.length c1, .int .i64 a2] ?_;(with_reducible refine (jda.calls k _ _ l1 a2 t802 _ ?side1 ?side2 A5.out).mono ?_);(case side1=>exact cq (Kd.jI HR1.out HB.out));(case side2=>exact HC1.out);rintro e w7 ⟨v803,rfl,ho0,hb⟩;refine ⟨_,rfl,?_⟩;have HO804:=am (Kd.jW ho0 (jP (Y33)));replace BK801:=am (jh (g:=gb801) (o:=.cells #[.slice A0_0 l0_0.length c0_0] 25 (0,0)) (kq BK801.out) hb);replace HB:=am (jd (Y33) hb);(try clear hb);(try clear hb2);(try clear hk);(try clear hi);(try clear ho0);obtain ⟨Ao8,co8,eo8⟩:=Kd.jba HO804.out;subst eo8))
 go_loopg [18] k (fun kq v18 w'=>∃ (x18_1:Int),v18=.int .i64 x18_1∧jo (jV.l0 kq l1 a3 t802 (t802.length:Int) x18_1 l0_0=some (r1,r2))∧jo (kq≤k)∧jo (Kd.R (Kd.int .i64) 3 w' w.heap.size (fun _=>True) (.slice Ao8 t802.length co8) t802)∧jo (w'.heap[gb801]?=some (.cells #[(.slice A0_0 l0_0.length c0_0)] 25 (0,0)))∧jo (Below w.heap.size w w'))
 case atStart=>exact ⟨(0),(sq),H',⟨Nat.le_refl _⟩,⟨rq HO804.out⟩,⟨kq BK801.out⟩,⟨Y33⟩⟩
 case round =>
  clear H'
  try clear c1
  try clear p2
  try clear c4
  obtain ⟨x18_1,rfl,HA,HK1,HO_16,BK801,HB⟩:=hrel
  cases gk with
  | zero=>exact absurd HA.out (by simp [jV.l0])
  | succ k1 =>
   have H:=HA.out
   clear HA
   simp only [jV.l0] at H
   by_cases c9:x18_1<(t802.length:Int)
   ·rw [if_pos c9] at H
    have c9b0:decide (x18_1<(t802.length:Int))=true:=dzT c9
    clear c9
    by_cases c10:0≤x18_1
    ·rw [if_pos c10] at H
     have c10b0:decide (0≤x18_1)=true:=dzT c10
     clear c10
     by_cases c11:x18_1<(t802.length:Int)
     ·rw [if_pos c11] at H
      have c11b0:decide (x18_1<(t802.length:Int))=true:=dzT c11
      clear c11
      by_cases c12:0≤(rd t802 x18_1)
      ·rw [if_pos c12] at H
       have c12b0:decide (0≤(rd t802 x18_1))=true:=dzT c12
       clear c12
       by_cases c13:(rd t802 x18_1)<(l1.length:Int)
       ·rw [if_pos c13] at H
        have c13b0:decide ((rd t802 x18_1)<(l1.length:Int))=true:=dzT c13
        clear c13
        by_cases c14:((je l1 (rd t802 x18_1)).f1)=11
        ·rw [if_pos c14] at H
         have c14b0:(((je l1 (rd t802 x18_1)).f1) == 11)=true:=beq_iff_eq.mpr c14
         have c14b1:(((je l1 (rd t802 x18_1)).f1) != 11)=false:=bne_eq_false_iff_eq.mpr c14
         clear c14
         by_cases c15:((je l1 (rd t802 x18_1)).f3)=1
         ·rw [if_pos c15] at H
          have c15b0:(((je l1 (rd t802 x18_1)).f3) == 1)=true:=beq_iff_eq.mpr c15
          have c15b1:(((je l1 (rd t802 x18_1)).f3) != 1)=false:=bne_eq_false_iff_eq.mpr c15
          clear c15
          simp only [Option.some.injEq,Prod.mk.injEq] at H
          obtain ⟨rfl,rfl⟩:=H
          have p805:0≤(x18_1:Int):=ozD (uq)
          have q805:x18_1<(t802.length:Int):=ozD (uq)
          obtain ⟨ad805,e805,hx805_0⟩:=Kd.jXa (Kd.jm HO_16.out).2.2 x18_1 p805 q805
          cases e805
          replace p805:=ezT p805
          replace q805:=ezT q805
          have p806:0≤((rd t802 x18_1):Int):=ozD (uq)
          have q806:(rd t802 x18_1)<(l1.length:Int):=ozD (uq)
          obtain ⟨ad806,e806,hx806_0,hx806_1,hx806_2,hx806_3⟩:=jsa HR1.out (rd t802 x18_1) p806 q806
          cases e806
          replace hx806_0:=cb HB.out hx806_0
          replace hx806_1:=cb HB.out hx806_1
          replace hx806_2:=cb HB.out hx806_2
          replace hx806_3:=cb HB.out hx806_3
          replace p806:=ezT p806
          replace q806:=ezT q806
          have p807:0≤((rd t802 x18_1):Int):=ozD (uq)
          have q807:(rd t802 x18_1)<(l1.length:Int):=ozD (uq)
          obtain ⟨ad807,e807,hx807_0,hx807_1,hx807_2,hx807_3⟩:=jsa HR1.out (rd t802 x18_1) p807 q807
          obtain rfl:ad806=ad807:=(by injection e807)
          replace hx807_0:=cb HB.out hx807_0
          replace hx807_1:=cb HB.out hx807_1
          replace hx807_2:=cb HB.out hx807_2
          replace hx807_3:=cb HB.out hx807_3
          replace p807:=ezT p807
          replace q807:=ezT q807
          go_wp2
          go_ret2
          exact ⟨Y0,Y33⟩
         ·rw [if_neg c15] at H
          have c15b0:(((je l1 (rd t802 x18_1)).f3) == 1)=false:=beq_eq_false_iff_ne.mpr c15
          have c15b1:(((je l1 (rd t802 x18_1)).f3) != 1)=true:=bne_iff_ne.mpr c15
          have H':=am H
          clear H
          have p805:0≤(x18_1:Int):=ozD (uq)
          have q805:x18_1<(t802.length:Int):=ozD (uq)
          obtain ⟨ad805,e805,hx805_0⟩:=Kd.jXa (Kd.jm HO_16.out).2.2 x18_1 p805 q805
          cases e805
          replace p805:=ezT p805
          replace q805:=ezT q805
          have p806:0≤((rd t802 x18_1):Int):=ozD (uq)
          have q806:(rd t802 x18_1)<(l1.length:Int):=ozD (uq)
          obtain ⟨ad806,e806,hx806_0,hx806_1,hx806_2,hx806_3⟩:=jsa HR1.out (rd t802 x18_1) p806 q806
          cases e806
          replace hx806_0:=cb HB.out hx806_0
          replace hx806_1:=cb HB.out hx806_1
          replace hx806_2:=cb HB.out hx806_2
          replace hx806_3:=cb HB.out hx806_3
          replace p806:=ezT p806
          replace q806:=ezT q806
          have p807:0≤((rd t802 x18_1):Int):=ozD (uq)
          have q807:(rd t802 x18_1)<(l1.length:Int):=ozD (uq)
          obtain ⟨ad807,e807,hx807_0,hx807_1,hx807_2,hx807_3⟩:=jsa HR1.out (rd t802 x18_1) p807 q807
          obtain rfl:ad806=ad807:=(by injection e807)
          replace hx807_0:=cb HB.out hx807_0
          replace hx807_1:=cb HB.out hx807_1
          replace hx807_2:=cb HB.out hx807_2
          replace hx807_3:=cb HB.out hx807_3
          replace p807:=ezT p807
          replace q807:=ezT q807
          go_wp2
          go_roundg k1
          case measure=>have:=HK1.out;omega
          case rel=>exact ⟨(wrap64 (x18_1+1)),(sq),H',⟨by have:=HK1.out;omega⟩,⟨rq HO_16.out⟩,⟨kq BK801.out⟩,⟨Y33⟩⟩
        ·rw [if_neg c14] at H
         have c14b0:(((je l1 (rd t802 x18_1)).f1) == 11)=false:=beq_eq_false_iff_ne.mpr c14
         have c14b1:(((je l1 (rd t802 x18_1)).f1) != 11)=true:=bne_iff_ne.mpr c14
         by_cases c16:((je l1 (rd t802 x18_1)).f1)=7
         ·rw [if_pos c16] at H
          have c16b0:(((je l1 (rd t802 x18_1)).f1) == 7)=true:=beq_iff_eq.mpr c16
          have c16b1:(((je l1 (rd t802 x18_1)).f1) != 7)=false:=bne_eq_false_iff_eq.mpr c16
          clear c16
          replace H:=bzS H
          obtain ⟨t808,A170,H⟩:=H
          replace H:(jV.l1 k1 l1 a3 (rd t802 x18_1) t802 (t802.length:Int) x18_1 t808 (t808.length:Int) 0 l0_0)=some (r1,r2):=H
          have A17:=am A170
          clear A170
          have H':=am H
          clear H
          have p805:0≤(x18_1:Int):=ozD (uq)
          have q805:x18_1<(t802.length:Int):=ozD (uq)
          obtain ⟨ad805,e805,hx805_0⟩:=Kd.jXa (Kd.jm HO_16.out).2.2 x18_1 p805 q805
          cases e805
          replace p805:=ezT p805
          replace q805:=ezT q805
          have p806:0≤((rd t802 x18_1):Int):=ozD (uq)
          have q806:(rd t802 x18_1)<(l1.length:Int):=ozD (uq)
          obtain ⟨ad806,e806,hx806_0,hx806_1,hx806_2,hx806_3⟩:=jsa HR1.out (rd t802 x18_1) p806 q806
          cases e806
          replace hx806_0:=cb HB.out hx806_0
          replace hx806_1:=cb HB.out hx806_1
          replace hx806_2:=cb HB.out hx806_2
          replace hx806_3:=cb HB.out hx806_3
          replace p806:=ezT p806
          replace q806:=ezT q806
          go_wp2_with (first |((with_reducible refine jc (f:=67) rfl ?_);refine gL (some 41) Try.func67 #[.slice (some ad806) l1.length c1, .int .i64 (rd t802 x18_1)] ?_;(with_reducible refine (jja.calls k1 _ _ l1 (rd t802 x18_1) t808 _ ?side1 ?side2 A17.out).mono ?_);(case side1=>exact cq (Kd.jI HR1.out HB.out));(case side2=>exact HC1.out);rintro e w18 ⟨v809,rfl,ho0,hb⟩;refine ⟨_,rfl,?_⟩;have HO810:=am (Kd.jW (Kd.jfc ho0 (Kd.R_lt (rq HO_16.out))) (jP (Y33)));replace HO_16:=am (Kd.jRb (rq HO_16.out) (Kd.jgc ho0) hb);replace BK801:=am (jh (g:=gb801) (o:=.cells #[.slice A0_0 l0_0.length c0_0] 25 (0,0)) (kq BK801.out) hb);replace HB:=am (jd (Y33) hb);(try clear hb);(try clear hb2);(try clear hk);(try clear hi);(try clear ho0);obtain ⟨Ao19,co19,eo19⟩:=Kd.jba HO810.out;subst eo19))
          go_loopg [43] k1 (fun kq v43 w'=>∃ (x43_2:Int),v43=.int .i64 x43_2∧jo (jV.l1 kq l1 a3 (rd t802 x18_1) t802 (t802.length:Int) x18_1 t808 (t808.length:Int) x43_2 l0_0=some (r1,r2))∧jo (kq≤k1)∧jo (Kd.R (Kd.int .i64) 3 w' w.heap.size (fun k_=>some k_≠((.slice Ao19 t808.length co19):Value).ownBlock) (.slice (some ad805) t802.length co8) t802)∧jo (Kd.R (Kd.int .i64) 3 w' w.heap.size (fun k_=>some k_≠((.slice (some ad805) t802.length co8):Value).ownBlock) (.slice Ao19 t808.length co19) t808)∧jo (w'.heap[gb801]?=some (.cells #[(.slice A0_0 l0_0.length c0_0)] 25 (0,0)))∧jo (Below w.heap.size w w'))
          case atStart=>exact ⟨(0),(sq),H',⟨Nat.le_refl _⟩,⟨by (with_reducible repeat (first | apply Kd.jfa | apply Kd.jea | apply Kd.jga));exact Kd.jF HO_16.out (fun _ hk=>hk.2)⟩,⟨by (with_reducible repeat (first | apply Kd.jfa | apply Kd.jea | apply Kd.jga));exact Kd.jF HO810.out (fun _ hk=>hk.2)⟩,⟨kq BK801.out⟩,⟨Y33⟩⟩
          case round =>
           clear H'
           try clear c1
           try clear p2
           try clear c4
           try clear c6
           try clear p6
           try clear p8
           try clear q8
           try clear hx8
           try clear c9
           try clear c9b0
           try clear c10
           try clear c10b0
           try clear c11
           try clear c11b0
           try clear c12
           try clear c12b0
           try clear c13
           try clear c13b0
           try clear c14
           try clear c14b0
           try clear c14b1
           try clear c15
           try clear c15b0
           try clear c15b1
           try clear c16
           try clear c16b0
           try clear c16b1
           try clear hx805_0
           try clear hx806_0
           try clear hx806_1
           try clear hx806_2
           try clear hx806_3
           try clear hx807_0
           try clear hx807_1
           try clear hx807_2
           try clear hx807_3
           try clear p2
           try clear p805
           try clear p806
           try clear p807
           try clear q805
           try clear q806
           try clear q807
           obtain ⟨x43_2,rfl,HA,HK2,HO_16,HO_41,BK801,HB⟩:=hrel
           cases gk with
           | zero=>exact absurd HA.out (by simp [jV.l1])
           | succ k2 =>
            have H:=HA.out
            clear HA
            simp only [jV.l1] at H
            by_cases c20:x43_2<(t808.length:Int)
            ·rw [if_pos c20] at H
             have c20b0:decide (x43_2<(t808.length:Int))=true:=dzT c20
             clear c20
             by_cases c21:0≤x43_2
             ·rw [if_pos c21] at H
              have c21b0:decide (0≤x43_2)=true:=dzT c21
              clear c21
              by_cases c22:x43_2<(t808.length:Int)
              ·rw [if_pos c22] at H
               have c22b0:decide (x43_2<(t808.length:Int))=true:=dzT c22
               clear c22
               by_cases c23:0≤(rd t808 x43_2)
               ·rw [if_pos c23] at H
                have c23b0:decide (0≤(rd t808 x43_2))=true:=dzT c23
                clear c23
                by_cases c24:(rd t808 x43_2)<(l1.length:Int)
                ·rw [if_pos c24] at H
                 have c24b0:decide ((rd t808 x43_2)<(l1.length:Int))=true:=dzT c24
                 clear c24
                 by_cases c25:((je l1 (rd t808 x43_2)).f1)=8
                 ·rw [if_pos c25] at H
                  have c25b0:(((je l1 (rd t808 x43_2)).f1) == 8)=true:=beq_iff_eq.mpr c25
                  have c25b1:(((je l1 (rd t808 x43_2)).f1) != 8)=false:=bne_eq_false_iff_eq.mpr c25
                  clear c25
                  replace H:=bzS H
                  obtain ⟨t814,A260,H⟩:=H
                  replace H:(if t814=true then (some ((rd t802 x18_1),rd t808 x43_2)) else (jV.l1 k2 l1 a3 (rd t802 x18_1) t802 (t802.length:Int) x18_1 t808 (t808.length:Int) (wrap64 (x43_2+1)) l0_0))=some (r1,r2):=H
                  have A26:=am A260
                  clear A260
                  by_cases c27:t814=true
                  ·subst c27
                   have H1:(some ((rd t802 x18_1),rd t808 x43_2))=some (r1,r2):=by rw [if_pos rfl] at H;exact H
                   clear H
                   have H:=H1
                   clear H1
                   simp only [Option.some.injEq,Prod.mk.injEq] at H
                   obtain ⟨rfl,rfl⟩:=H
                   have p811:0≤(x43_2:Int):=ozD (uq)
                   have q811:x43_2<(t808.length:Int):=ozD (uq)
                   obtain ⟨ad811,e811,hx811_0⟩:=Kd.jXa (Kd.jm HO_41.out).2.2 x43_2 p811 q811
                   cases e811
                   replace p811:=ezT p811
                   replace q811:=ezT q811
                   try go_wp2
                   replace HO_16:=am (Kd.jga HO_16.out)
                   replace HO_41:=am (Kd.jga HO_41.out)
                   replace BK801:=am (jA BK801.out)
                   replace HB:=am (jD HB.out)
                   have p812:0≤((rd t808 x43_2):Int):=ozD (uq)
                   have q812:(rd t808 x43_2)<(l1.length:Int):=ozD (uq)
                   obtain ⟨ad812,e812,hx812_0,hx812_1,hx812_2,hx812_3⟩:=jsa HR1.out (rd t808 x43_2) p812 q812
                   have hw812_3:=hx812_3
                   have hw812_2:=hx812_2
                   have hw812_1:=hx812_1
                   have hw812_0:=hx812_0
                   obtain rfl:ad806=ad812:=(by injection e812)
                   replace hx812_0:=cb HB.out hx812_0
                   replace hx812_1:=cb HB.out hx812_1
                   replace hx812_2:=cb HB.out hx812_2
                   replace hx812_3:=cb HB.out hx812_3
                   replace p812:=ezT p812
                   replace q812:=ezT q812
                   have p813:0≤((rd t808 x43_2):Int):=ozD (uq)
                   have q813:(rd t808 x43_2)<(l1.length:Int):=ozD (uq)
                   obtain ⟨ad813,e813,hx813_0,hx813_1,hx813_2,hx813_3⟩:=jsa HR1.out (rd t808 x43_2) p813 q813
                   have hw813_3:=hx813_3
                   have hw813_2:=hx813_2
                   have hw813_1:=hx813_1
                   have hw813_0:=hx813_0
                   obtain rfl:ad806=ad813:=(by injection e813)
                   replace hx813_0:=cb HB.out hx813_0
                   replace hx813_1:=cb HB.out hx813_1
                   replace hx813_2:=cb HB.out hx813_2
                   replace hx813_3:=cb HB.out hx813_3
                   replace p813:=ezT p813
                   replace q813:=ezT q813
                   refine jrc (n:=16) (S:=fun w'=>w'.cell? ⟨gb801,0,none⟩=some (.slice A0_0 l0_0.length c0_0)∧w'.cell? (ad806.add (((rd t808 x43_2)).toNat * 4))=some (.int .i64 ((je l1 (rd t808 x43_2)).f0))∧w'.cell? ⟨(ad806.add (((rd t808 x43_2)).toNat * 4)).block,(ad806.add (((rd t808 x43_2)).toNat * 4)).off+1,none⟩=some (.int .i64 ((je l1 (rd t808 x43_2)).f1))∧w'.cell? ⟨(ad806.add (((rd t808 x43_2)).toNat * 4)).block,(ad806.add (((rd t808 x43_2)).toNat * 4)).off+2,none⟩=some (.int .i64 ((je l1 (rd t808 x43_2)).f2))∧w'.cell? ⟨(ad806.add (((rd t808 x43_2)).toNat * 4)).block,(ad806.add (((rd t808 x43_2)).toNat * 4)).off+3,none⟩=some (.int .i64 ((je l1 (rd t808 x43_2)).f3))∧w'.cell? (ad806.add (((rd t808 x43_2)).toNat * 4))=some (.int .i64 ((je l1 (rd t808 x43_2)).f0))∧w'.cell? ⟨(ad806.add (((rd t808 x43_2)).toNat * 4)).block,(ad806.add (((rd t808 x43_2)).toNat * 4)).off+1,none⟩=some (.int .i64 ((je l1 (rd t808 x43_2)).f1))∧w'.cell? ⟨(ad806.add (((rd t808 x43_2)).toNat * 4)).block,(ad806.add (((rd t808 x43_2)).toNat * 4)).off+2,none⟩=some (.int .i64 ((je l1 (rd t808 x43_2)).f2))∧w'.cell? ⟨(ad806.add (((rd t808 x43_2)).toNat * 4)).block,(ad806.add (((rd t808 x43_2)).toNat * 4)).off+3,none⟩=some (.int .i64 ((je l1 (rd t808 x43_2)).f3))) (ds:=[]) #[false,false,false,false,false,false,false,false,false,false,false,false,false,false,false,false] (by kernel_rfl) rfl rfl ⟨(jH BK801.out 0).trans rfl,((HB.out.cell (World.block_lt_of_cell? w _ hw812_0)).trans hw812_0),((HB.out.cell (World.block_lt_of_cell? w _ hw812_1)).trans hw812_1),((HB.out.cell (World.block_lt_of_cell? w _ hw812_2)).trans hw812_2),((HB.out.cell (World.block_lt_of_cell? w _ hw812_3)).trans hw812_3),((HB.out.cell (World.block_lt_of_cell? w _ hw813_0)).trans hw813_0),((HB.out.cell (World.block_lt_of_cell? w _ hw813_1)).trans hw813_1),((HB.out.cell (World.block_lt_of_cell? w _ hw813_2)).trans hw813_2),((HB.out.cell (World.block_lt_of_cell? w _ hw813_3)).trans hw813_3)⟩ (fun hHeld=>?_);refine jpb jV.tab12 jV.bits12 (fun HT_ HW_=>?_)
                   generalize wr.drew=w28 at HO_16 HO_41 BK801 HB hx812_0 hx812_1 hx812_2 hx812_3 hx813_0 hx813_1 hx813_2 hx813_3 hHeld ⊢
                   refine pq (i:=0) (N:=some 47) #[true,false,false,false,false,false,false,false,false,false,false,false,false,false,false,false] ?_
                   refine pq (i:=1) (N:=some 48) #[true,true,false,false,false,false,false,false,false,false,false,false,false,false,false,false] ?_
                   refine pq (i:=2) (N:=some 49) #[true,true,true,false,false,false,false,false,false,false,false,false,false,false,false,false] ?_
                   refine pq (i:=3) (N:=some 50) #[true,true,true,true,false,false,false,false,false,false,false,false,false,false,false,false] ?_
                   refine jXb (i:=4) (N:=some 51) (v:=?_) (a':=?_) #[true,true,true,true,true,false,false,false,false,false,false,false,false,false,false,false] rfl rfl (jIa HT_.out HW_.out (by kernel_rfl)) (fun _ _ _ h=>h) (Or.inl ⟨by rfl,?_⟩) hHeld ?_ ?_
                   rotate_left
                   ·rintro w' ⟨s0,s1,s2,s3,s4,s5,s6,s7,s8⟩
                    go_simp
                    with_reducible rfl
                   rotate_left
                   ·exact sa
                   refine pq (i:=5) (N:=some 52) #[true,true,true,true,true,true,false,false,false,false,false,false,false,false,false,false] ?_
                   refine pq (i:=6) (N:=some 53) #[true,true,true,true,true,true,true,false,false,false,false,false,false,false,false,false] ?_
                   refine pq (i:=8) (N:=some 55) #[true,true,true,true,true,true,true,false,true,false,false,false,false,false,false,false] ?_
                   refine pq (i:=9) (N:=some 56) #[true,true,true,true,true,true,true,false,true,true,false,false,false,false,false,false] ?_
                   refine pq (i:=10) (N:=some 57) #[true,true,true,true,true,true,true,false,true,true,true,false,false,false,false,false] ?_
                   refine pq (i:=11) (N:=some 58) #[true,true,true,true,true,true,true,false,true,true,true,true,false,false,false,false] ?_
                   refine pq (i:=12) (N:=some 59) #[true,true,true,true,true,true,true,false,true,true,true,true,true,false,false,false] ?_
                   refine jXb (i:=7) (N:=some 54) (v:=?_) (a':=?_) #[true,true,true,true,true,true,true,true,true,true,true,true,true,false,false,false] rfl rfl (jIa HT_.out HW_.out (by kernel_rfl)) (fun _ _ _ h=>h) (Or.inl ⟨by rfl,?_⟩) hHeld ?_ ?_
                   rotate_left
                   ·rintro w' ⟨s0,s1,s2,s3,s4,s5,s6,s7,s8⟩
                    go_simp
                    with_reducible rfl
                   rotate_left
                   ·exact sa
                   refine jXb (i:=13) (N:=some 60) (v:=?_) (a':=?_) #[true,true,true,true,true,true,true,true,true,true,true,true,true,true,false,false] rfl rfl (jIa HT_.out HW_.out (by kernel_rfl)) (fun _ _ _ h=>h) (Or.inl ⟨by rfl,?_⟩) hHeld ?_ ?_
                   rotate_left
                   ·rintro w' ⟨s0,s1,s2,s3,s4,s5,s6,s7,s8⟩
                    go_simp
                    with_reducible rfl
                   rotate_left
                   ·exact sa
                   refine one_ (i:=14) (N:=some 61) #[true,true,true,true,true,true,true,true,true,true,true,true,true,true,true,false] rfl rfl (jNb HT_.out (by kernel_rfl)) (by decide) (fun K hK=>?_)
                   refine jSc Try.func55 (by kernel_rfl) rfl #[.agg #[.slice A0_0 l0_0.length c0_0], .int .i64 a3, .int .i64 ((je l1 (rd t808 x43_2)).f2)] (by rfl) rfl rfl (aq) ?_
                   with_reducible refine (jxc.calls k2 _ _ l0_0 a3 ((je l1 (rd t808 x43_2)).f2) true _ ?side1 ?side2 A26.out).mono ?_
                   (case side1=>exact cq (Kd.jI HR0_0.out HB.out))
                   (case side2=>exact HC0_0.out)
                   rintro e w29 ⟨rfl,hb⟩
                   refine ⟨_,rfl,?_⟩
                   replace HO_16:=am (Kd.jU (rq HO_16.out) hb)
                   replace HO_41:=am (Kd.jU (rq HO_41.out) hb)
                   replace BK801:=am (jh (g:=gb801) (o:=.cells #[.slice A0_0 l0_0.length c0_0] 25 (0,0)) (kq BK801.out) hb)
                   replace HB:=am (jd (Y33) hb)
                   (try clear hb)
                   (try clear hb2)
                   (try clear hk)
                   (try clear hi)
                   refine hK.out _ _ ⟨(jH BK801.out 0).trans rfl,((HB.out.cell (World.block_lt_of_cell? w _ hw812_0)).trans hw812_0),((HB.out.cell (World.block_lt_of_cell? w _ hw812_1)).trans hw812_1),((HB.out.cell (World.block_lt_of_cell? w _ hw812_2)).trans hw812_2),((HB.out.cell (World.block_lt_of_cell? w _ hw812_3)).trans hw812_3),((HB.out.cell (World.block_lt_of_cell? w _ hw813_0)).trans hw813_0),((HB.out.cell (World.block_lt_of_cell? w _ hw813_1)).trans hw813_1),((HB.out.cell (World.block_lt_of_cell? w _ hw813_2)).trans hw813_2),((HB.out.cell (World.block_lt_of_cell? w _ hw813_3)).trans hw813_3)⟩ (fun hHeld=>?_)
                   clear hK K
                   refine jmc (a':=?_) ?_ ?_
                   rotate_left
                   ·show Act.put _ (some 61) _=_
                    simp only [Act.put,List.setIfInBounds_toArray,List.set_cons_zero,List.set_cons_succ,jkb,job]
                    rfl
                   refine pq (i:=15) (N:=some 62) #[true,true,true,true,true,true,true,true,true,true,true,true,true,true,true,true] ?_
                   refine jQc (jZb HT_.out (by kernel_rfl)) ?_
                   try go_wp2
                   go_ret2
                   exact ⟨Y0,Y33⟩
                  ·replace c27:=Bool.eq_false_iff.mpr c27
                   subst c27
                   have H1:(jV.l1 k2 l1 a3 (rd t802 x18_1) t802 (t802.length:Int) x18_1 t808 (t808.length:Int) (wrap64 (x43_2+1)) l0_0)=some (r1,r2):=by rw [if_neg (show ¬ (false=true) by decide)] at H;exact H
                   clear H
                   have H:=H1
                   clear H1
                   have H':=am H
                   clear H
                   have p811:0≤(x43_2:Int):=ozD (uq)
                   have q811:x43_2<(t808.length:Int):=ozD (uq)
                   obtain ⟨ad811,e811,hx811_0⟩:=Kd.jXa (Kd.jm HO_41.out).2.2 x43_2 p811 q811
                   cases e811
                   replace p811:=ezT p811
                   replace q811:=ezT q811
                   try go_wp2
                   replace HO_16:=am (Kd.jga HO_16.out)
                   replace HO_41:=am (Kd.jga HO_41.out)
                   replace BK801:=am (jA BK801.out)
                   replace HB:=am (jD HB.out)
                   have p812:0≤((rd t808 x43_2):Int):=ozD (uq)
                   have q812:(rd t808 x43_2)<(l1.length:Int):=ozD (uq)
                   obtain ⟨ad812,e812,hx812_0,hx812_1,hx812_2,hx812_3⟩:=jsa HR1.out (rd t808 x43_2) p812 q812
                   have hw812_3:=hx812_3
                   have hw812_2:=hx812_2
                   have hw812_1:=hx812_1
                   have hw812_0:=hx812_0
                   obtain rfl:ad806=ad812:=(by injection e812)
                   replace hx812_0:=cb HB.out hx812_0
                   replace hx812_1:=cb HB.out hx812_1
                   replace hx812_2:=cb HB.out hx812_2
                   replace hx812_3:=cb HB.out hx812_3
                   replace p812:=ezT p812
                   replace q812:=ezT q812
                   have p813:0≤((rd t808 x43_2):Int):=ozD (uq)
                   have q813:(rd t808 x43_2)<(l1.length:Int):=ozD (uq)
                   obtain ⟨ad813,e813,hx813_0,hx813_1,hx813_2,hx813_3⟩:=jsa HR1.out (rd t808 x43_2) p813 q813
                   have hw813_3:=hx813_3
                   have hw813_2:=hx813_2
                   have hw813_1:=hx813_1
                   have hw813_0:=hx813_0
                   obtain rfl:ad806=ad813:=(by injection e813)
                   replace hx813_0:=cb HB.out hx813_0
                   replace hx813_1:=cb HB.out hx813_1
                   replace hx813_2:=cb HB.out hx813_2
                   replace hx813_3:=cb HB.out hx813_3
                   replace p813:=ezT p813
                   replace q813:=ezT q813
                   refine jrc (n:=16) (S:=fun w'=>w'.cell? ⟨gb801,0,none⟩=some (.slice A0_0 l0_0.length c0_0)∧w'.cell? (ad806.add (((rd t808 x43_2)).toNat * 4))=some (.int .i64 ((je l1 (rd t808 x43_2)).f0))∧w'.cell? ⟨(ad806.add (((rd t808 x43_2)).toNat * 4)).block,(ad806.add (((rd t808 x43_2)).toNat * 4)).off+1,none⟩=some (.int .i64 ((je l1 (rd t808 x43_2)).f1))∧w'.cell? ⟨(ad806.add (((rd t808 x43_2)).toNat * 4)).block,(ad806.add (((rd t808 x43_2)).toNat * 4)).off+2,none⟩=some (.int .i64 ((je l1 (rd t808 x43_2)).f2))∧w'.cell? ⟨(ad806.add (((rd t808 x43_2)).toNat * 4)).block,(ad806.add (((rd t808 x43_2)).toNat * 4)).off+3,none⟩=some (.int .i64 ((je l1 (rd t808 x43_2)).f3))∧w'.cell? (ad806.add (((rd t808 x43_2)).toNat * 4))=some (.int .i64 ((je l1 (rd t808 x43_2)).f0))∧w'.cell? ⟨(ad806.add (((rd t808 x43_2)).toNat * 4)).block,(ad806.add (((rd t808 x43_2)).toNat * 4)).off+1,none⟩=some (.int .i64 ((je l1 (rd t808 x43_2)).f1))∧w'.cell? ⟨(ad806.add (((rd t808 x43_2)).toNat * 4)).block,(ad806.add (((rd t808 x43_2)).toNat * 4)).off+2,none⟩=some (.int .i64 ((je l1 (rd t808 x43_2)).f2))∧w'.cell? ⟨(ad806.add (((rd t808 x43_2)).toNat * 4)).block,(ad806.add (((rd t808 x43_2)).toNat * 4)).off+3,none⟩=some (.int .i64 ((je l1 (rd t808 x43_2)).f3))) (ds:=[]) #[false,false,false,false,false,false,false,false,false,false,false,false,false,false,false,false] (by kernel_rfl) rfl rfl ⟨(jH BK801.out 0).trans rfl,((HB.out.cell (World.block_lt_of_cell? w _ hw812_0)).trans hw812_0),((HB.out.cell (World.block_lt_of_cell? w _ hw812_1)).trans hw812_1),((HB.out.cell (World.block_lt_of_cell? w _ hw812_2)).trans hw812_2),((HB.out.cell (World.block_lt_of_cell? w _ hw812_3)).trans hw812_3),((HB.out.cell (World.block_lt_of_cell? w _ hw813_0)).trans hw813_0),((HB.out.cell (World.block_lt_of_cell? w _ hw813_1)).trans hw813_1),((HB.out.cell (World.block_lt_of_cell? w _ hw813_2)).trans hw813_2),((HB.out.cell (World.block_lt_of_cell? w _ hw813_3)).trans hw813_3)⟩ (fun hHeld=>?_);refine jpb jV.tab12 jV.bits12 (fun HT_ HW_=>?_)
                   generalize wr.drew=w30 at HO_16 HO_41 BK801 HB hx812_0 hx812_1 hx812_2 hx812_3 hx813_0 hx813_1 hx813_2 hx813_3 hHeld ⊢
                   refine pq (i:=0) (N:=some 47) #[true,false,false,false,false,false,false,false,false,false,false,false,false,false,false,false] ?_
                   refine pq (i:=1) (N:=some 48) #[true,true,false,false,false,false,false,false,false,false,false,false,false,false,false,false] ?_
                   refine pq (i:=2) (N:=some 49) #[true,true,true,false,false,false,false,false,false,false,false,false,false,false,false,false] ?_
                   refine pq (i:=3) (N:=some 50) #[true,true,true,true,false,false,false,false,false,false,false,false,false,false,false,false] ?_
                   refine jXb (i:=4) (N:=some 51) (v:=?_) (a':=?_) #[true,true,true,true,true,false,false,false,false,false,false,false,false,false,false,false] rfl rfl (jIa HT_.out HW_.out (by kernel_rfl)) (fun _ _ _ h=>h) (Or.inl ⟨by rfl,?_⟩) hHeld ?_ ?_
                   rotate_left
                   ·rintro w' ⟨s0,s1,s2,s3,s4,s5,s6,s7,s8⟩
                    go_simp
                    with_reducible rfl
                   rotate_left
                   ·exact sa
                   refine pq (i:=5) (N:=some 52) #[true,true,true,true,true,true,false,false,false,false,false,false,false,false,false,false] ?_
                   refine pq (i:=6) (N:=some 53) #[true,true,true,true,true,true,true,false,false,false,false,false,false,false,false,false] ?_
                   refine pq (i:=8) (N:=some 55) #[true,true,true,true,true,true,true,false,true,false,false,false,false,false,false,false] ?_
                   refine pq (i:=9) (N:=some 56) #[true,true,true,true,true,true,true,false,true,true,false,false,false,false,false,false] ?_
                   refine pq (i:=10) (N:=some 57) #[true,true,true,true,true,true,true,false,true,true,true,false,false,false,false,false] ?_
                   refine pq (i:=11) (N:=some 58) #[true,true,true,true,true,true,true,false,true,true,true,true,false,false,false,false] ?_
                   refine pq (i:=12) (N:=some 59) #[true,true,true,true,true,true,true,false,true,true,true,true,true,false,false,false] ?_
                   refine jXb (i:=7) (N:=some 54) (v:=?_) (a':=?_) #[true,true,true,true,true,true,true,true,true,true,true,true,true,false,false,false] rfl rfl (jIa HT_.out HW_.out (by kernel_rfl)) (fun _ _ _ h=>h) (Or.inl ⟨by rfl,?_⟩) hHeld ?_ ?_
                   rotate_left
                   ·rintro w' ⟨s0,s1,s2,s3,s4,s5,s6,s7,s8⟩
                    go_simp
                    with_reducible rfl
                   rotate_left
                   ·exact sa
                   refine jXb (i:=13) (N:=some 60) (v:=?_) (a':=?_) #[true,true,true,true,true,true,true,true,true,true,true,true,true,true,false,false] rfl rfl (jIa HT_.out HW_.out (by kernel_rfl)) (fun _ _ _ h=>h) (Or.inl ⟨by rfl,?_⟩) hHeld ?_ ?_
                   rotate_left
                   ·rintro w' ⟨s0,s1,s2,s3,s4,s5,s6,s7,s8⟩
                    go_simp
                    with_reducible rfl
                   rotate_left
                   ·exact sa
                   refine one_ (i:=14) (N:=some 61) #[true,true,true,true,true,true,true,true,true,true,true,true,true,true,true,false] rfl rfl (jNb HT_.out (by kernel_rfl)) (by decide) (fun K hK=>?_)
                   refine jSc Try.func55 (by kernel_rfl) rfl #[.agg #[.slice A0_0 l0_0.length c0_0], .int .i64 a3, .int .i64 ((je l1 (rd t808 x43_2)).f2)] (by rfl) rfl rfl (aq) ?_
                   with_reducible refine (jxc.calls k2 _ _ l0_0 a3 ((je l1 (rd t808 x43_2)).f2) false _ ?side1 ?side2 A26.out).mono ?_
                   (case side1=>exact cq (Kd.jI HR0_0.out HB.out))
                   (case side2=>exact HC0_0.out)
                   rintro e w31 ⟨rfl,hb⟩
                   refine ⟨_,rfl,?_⟩
                   replace HO_16:=am (Kd.jU (rq HO_16.out) hb)
                   replace HO_41:=am (Kd.jU (rq HO_41.out) hb)
                   replace BK801:=am (jh (g:=gb801) (o:=.cells #[.slice A0_0 l0_0.length c0_0] 25 (0,0)) (kq BK801.out) hb)
                   replace HB:=am (jd (Y33) hb)
                   (try clear hb)
                   (try clear hb2)
                   (try clear hk)
                   (try clear hi)
                   refine hK.out _ _ ⟨(jH BK801.out 0).trans rfl,((HB.out.cell (World.block_lt_of_cell? w _ hw812_0)).trans hw812_0),((HB.out.cell (World.block_lt_of_cell? w _ hw812_1)).trans hw812_1),((HB.out.cell (World.block_lt_of_cell? w _ hw812_2)).trans hw812_2),((HB.out.cell (World.block_lt_of_cell? w _ hw812_3)).trans hw812_3),((HB.out.cell (World.block_lt_of_cell? w _ hw813_0)).trans hw813_0),((HB.out.cell (World.block_lt_of_cell? w _ hw813_1)).trans hw813_1),((HB.out.cell (World.block_lt_of_cell? w _ hw813_2)).trans hw813_2),((HB.out.cell (World.block_lt_of_cell? w _ hw813_3)).trans hw813_3)⟩ (fun hHeld=>?_)
                   clear hK K
                   refine jmc (a':=?_) ?_ ?_
                   rotate_left
                   ·show Act.put _ (some 61) _=_
                    simp only [Act.put,List.setIfInBounds_toArray,List.set_cons_zero,List.set_cons_succ,jkb,job]
                    rfl
                   refine pq (i:=15) (N:=some 62) #[true,true,true,true,true,true,true,true,true,true,true,true,true,true,true,true] ?_
                   refine jQc (jZb HT_.out (by kernel_rfl)) ?_
                   try go_wp2
                   go_roundg k2
                   case measure=>have:=HK1.out;have:=HK2.out;omega
                   case rel=>exact ⟨(wrap64 (x43_2+1)),(sq),H',⟨by have:=HK1.out;have:=HK2.out;omega⟩,⟨rq HO_16.out⟩,⟨rq HO_41.out⟩,⟨kq BK801.out⟩,⟨Y33⟩⟩
                 ·rw [if_neg c25] at H
                  have c25b0:(((je l1 (rd t808 x43_2)).f1) == 8)=false:=beq_eq_false_iff_ne.mpr c25
                  have c25b1:(((je l1 (rd t808 x43_2)).f1) != 8)=true:=bne_iff_ne.mpr c25
                  have H':=am H
                  clear H
                  have p811:0≤(x43_2:Int):=ozD (uq)
                  have q811:x43_2<(t808.length:Int):=ozD (uq)
                  obtain ⟨ad811,e811,hx811_0⟩:=Kd.jXa (Kd.jm HO_41.out).2.2 x43_2 p811 q811
                  cases e811
                  replace p811:=ezT p811
                  replace q811:=ezT q811
                  try go_wp2
                  replace HO_16:=am (Kd.jga HO_16.out)
                  replace HO_41:=am (Kd.jga HO_41.out)
                  replace BK801:=am (jA BK801.out)
                  replace HB:=am (jD HB.out)
                  have p812:0≤((rd t808 x43_2):Int):=ozD (uq)
                  have q812:(rd t808 x43_2)<(l1.length:Int):=ozD (uq)
                  obtain ⟨ad812,e812,hx812_0,hx812_1,hx812_2,hx812_3⟩:=jsa HR1.out (rd t808 x43_2) p812 q812
                  have hw812_3:=hx812_3
                  have hw812_2:=hx812_2
                  have hw812_1:=hx812_1
                  have hw812_0:=hx812_0
                  obtain rfl:ad806=ad812:=(by injection e812)
                  replace hx812_0:=cb HB.out hx812_0
                  replace hx812_1:=cb HB.out hx812_1
                  replace hx812_2:=cb HB.out hx812_2
                  replace hx812_3:=cb HB.out hx812_3
                  replace p812:=ezT p812
                  replace q812:=ezT q812
                  refine jrc (n:=16) (S:=fun w'=>w'.cell? (ad806.add (((rd t808 x43_2)).toNat * 4))=some (.int .i64 ((je l1 (rd t808 x43_2)).f0))∧w'.cell? ⟨(ad806.add (((rd t808 x43_2)).toNat * 4)).block,(ad806.add (((rd t808 x43_2)).toNat * 4)).off+1,none⟩=some (.int .i64 ((je l1 (rd t808 x43_2)).f1))∧w'.cell? ⟨(ad806.add (((rd t808 x43_2)).toNat * 4)).block,(ad806.add (((rd t808 x43_2)).toNat * 4)).off+2,none⟩=some (.int .i64 ((je l1 (rd t808 x43_2)).f2))∧w'.cell? ⟨(ad806.add (((rd t808 x43_2)).toNat * 4)).block,(ad806.add (((rd t808 x43_2)).toNat * 4)).off+3,none⟩=some (.int .i64 ((je l1 (rd t808 x43_2)).f3))) (ds:=[]) #[false,false,false,false,false,false,false,false,false,false,false,false,false,false,false,false] (by kernel_rfl) rfl rfl ⟨((HB.out.cell (World.block_lt_of_cell? w _ hw812_0)).trans hw812_0),((HB.out.cell (World.block_lt_of_cell? w _ hw812_1)).trans hw812_1),((HB.out.cell (World.block_lt_of_cell? w _ hw812_2)).trans hw812_2),((HB.out.cell (World.block_lt_of_cell? w _ hw812_3)).trans hw812_3)⟩ (fun hHeld=>?_);refine jpb jV.tab12 jV.bits12 (fun HT_ HW_=>?_)
                  generalize wr.drew=w32 at HO_16 HO_41 BK801 HB hx812_0 hx812_1 hx812_2 hx812_3 hHeld ⊢
                  refine pq (i:=0) (N:=some 47) #[true,false,false,false,false,false,false,false,false,false,false,false,false,false,false,false] ?_
                  refine pq (i:=1) (N:=some 48) #[true,true,false,false,false,false,false,false,false,false,false,false,false,false,false,false] ?_
                  refine pq (i:=2) (N:=some 49) #[true,true,true,false,false,false,false,false,false,false,false,false,false,false,false,false] ?_
                  refine pq (i:=3) (N:=some 50) #[true,true,true,true,false,false,false,false,false,false,false,false,false,false,false,false] ?_
                  refine jXb (i:=4) (N:=some 51) (v:=?_) (a':=?_) #[true,true,true,true,true,false,false,false,false,false,false,false,false,false,false,false] rfl rfl (jIa HT_.out HW_.out (by kernel_rfl)) (fun _ _ _ h=>h) (Or.inl ⟨by rfl,?_⟩) hHeld ?_ ?_
                  rotate_left
                  ·rintro w' ⟨s0,s1,s2,s3⟩
                   go_simp
                   with_reducible rfl
                  rotate_left
                  ·exact sa
                  refine pq (i:=5) (N:=some 52) #[true,true,true,true,true,true,false,false,false,false,false,false,false,false,false,false] ?_
                  refine pq (i:=6) (N:=some 53) #[true,true,true,true,true,true,true,false,false,false,false,false,false,false,false,false] ?_
                  refine jac (i:=7) (N:=some 54) (v:=undef) (a':=?_) #[true,true,true,true,true,true,true,true,false,false,false,false,false,false,false,false] rfl rfl (jub HT_.out (by kernel_rfl)) (fun _ _ _ h=>h) (Or.inr ⟨by rfl,rfl⟩) ?_ ?_
                  rotate_left
                  ·exact sa
                  refine jac (i:=8) (N:=some 55) (v:=undef) (a':=?_) #[true,true,true,true,true,true,true,true,true,false,false,false,false,false,false,false] rfl rfl (jub HT_.out (by kernel_rfl)) (fun _ _ _ h=>h) (Or.inr ⟨by rfl,rfl⟩) ?_ ?_
                  rotate_left
                  ·exact sa
                  refine jac (i:=9) (N:=some 56) (v:=undef) (a':=?_) #[true,true,true,true,true,true,true,true,true,true,false,false,false,false,false,false] rfl rfl (jub HT_.out (by kernel_rfl)) (fun _ _ _ h=>h) (Or.inr ⟨by rfl,rfl⟩) ?_ ?_
                  rotate_left
                  ·exact sa
                  refine jac (i:=10) (N:=some 57) (v:=undef) (a':=?_) #[true,true,true,true,true,true,true,true,true,true,true,false,false,false,false,false] rfl rfl (jub HT_.out (by kernel_rfl)) (fun _ _ _ h=>h) (Or.inr ⟨by rfl,rfl⟩) ?_ ?_
                  rotate_left
                  ·exact sa
                  refine jac (i:=11) (N:=some 58) (v:=undef) (a':=?_) #[true,true,true,true,true,true,true,true,true,true,true,true,false,false,false,false] rfl rfl (jub HT_.out (by kernel_rfl)) (fun _ _ _ h=>h) (Or.inr ⟨by rfl,rfl⟩) ?_ ?_
                  rotate_left
                  ·exact sa
                  refine jac (i:=12) (N:=some 59) (v:=undef) (a':=?_) #[true,true,true,true,true,true,true,true,true,true,true,true,true,false,false,false] rfl rfl (jub HT_.out (by kernel_rfl)) (fun _ _ _ h=>h) (Or.inr ⟨by rfl,rfl⟩) ?_ ?_
                  rotate_left
                  ·exact sa
                  refine jac (i:=13) (N:=some 60) (v:=undef) (a':=?_) #[true,true,true,true,true,true,true,true,true,true,true,true,true,true,false,false] rfl rfl (jub HT_.out (by kernel_rfl)) (fun _ _ _ h=>h) (Or.inr ⟨by rfl,rfl⟩) ?_ ?_
                  rotate_left
                  ·exact sa
                  refine jac (i:=14) (N:=some 61) (v:=undef) (a':=?_) #[true,true,true,true,true,true,true,true,true,true,true,true,true,true,true,false] rfl rfl (jub HT_.out (by kernel_rfl)) (fun _ _ _ h=>h) (Or.inr ⟨by rfl,rfl⟩) ?_ ?_
                  rotate_left
                  ·exact sa
                  refine pq (i:=15) (N:=some 62) #[true,true,true,true,true,true,true,true,true,true,true,true,true,true,true,true] ?_
                  refine jQc (jZb HT_.out (by kernel_rfl)) ?_
                  try go_wp2
                  go_roundg k2
                  case measure=>have:=HK1.out;have:=HK2.out;omega
                  case rel=>exact ⟨(wrap64 (x43_2+1)),(sq),H',⟨by have:=HK1.out;have:=HK2.out;omega⟩,⟨rq HO_16.out⟩,⟨rq HO_41.out⟩,⟨kq BK801.out⟩,⟨Y33⟩⟩
                ·rw [if_neg c24] at H
                 exact absurd H (by simp)
               ·rw [if_neg c23] at H
                exact absurd H (by simp)
              ·rw [if_neg c22] at H
               exact absurd H (by simp)
             ·rw [if_neg c21] at H
              exact absurd H (by simp)
            ·rw [if_neg c20] at H
             have c20b0:decide (x43_2<(t808.length:Int))=false:=dzF c20
             clear c20
             have H':=am H
             clear H
             go_wp2
             go_roundg k2
             case measure=>have:=HK1.out;have:=HK2.out;omega
             case rel=>exact ⟨(wrap64 (x18_1+1)),(sq),H',⟨by have:=HK1.out;have:=HK2.out;omega⟩,⟨by (with_reducible repeat (first | apply Kd.jfa | apply Kd.jea | apply Kd.jga));exact Kd.jF HO_16.out (fun _ hk=>trivial)⟩,⟨kq BK801.out⟩,⟨Y33⟩⟩
         ·rw [if_neg c16] at H
          have c16b0:(((je l1 (rd t802 x18_1)).f1) == 7)=false:=beq_eq_false_iff_ne.mpr c16
          have c16b1:(((je l1 (rd t802 x18_1)).f1) != 7)=true:=bne_iff_ne.mpr c16
          have H':=am H
          clear H
          have p805:0≤(x18_1:Int):=ozD (uq)
          have q805:x18_1<(t802.length:Int):=ozD (uq)
          obtain ⟨ad805,e805,hx805_0⟩:=Kd.jXa (Kd.jm HO_16.out).2.2 x18_1 p805 q805
          cases e805
          replace p805:=ezT p805
          replace q805:=ezT q805
          have p806:0≤((rd t802 x18_1):Int):=ozD (uq)
          have q806:(rd t802 x18_1)<(l1.length:Int):=ozD (uq)
          obtain ⟨ad806,e806,hx806_0,hx806_1,hx806_2,hx806_3⟩:=jsa HR1.out (rd t802 x18_1) p806 q806
          cases e806
          replace hx806_0:=cb HB.out hx806_0
          replace hx806_1:=cb HB.out hx806_1
          replace hx806_2:=cb HB.out hx806_2
          replace hx806_3:=cb HB.out hx806_3
          replace p806:=ezT p806
          replace q806:=ezT q806
          go_wp2
          go_roundg k1
          case measure=>have:=HK1.out;omega
          case rel=>exact ⟨(wrap64 (x18_1+1)),(sq),H',⟨by have:=HK1.out;omega⟩,⟨rq HO_16.out⟩,⟨kq BK801.out⟩,⟨Y33⟩⟩
       ·rw [if_neg c13] at H
        exact absurd H (by simp)
      ·rw [if_neg c12] at H
       exact absurd H (by simp)
     ·rw [if_neg c11] at H
      exact absurd H (by simp)
    ·rw [if_neg c10] at H
     exact absurd H (by simp)
   ·rw [if_neg c9] at H
    have c9b0:decide (x18_1<(t802.length:Int))=false:=dzF c9
    clear c9
    simp only [Option.some.injEq,Prod.mk.injEq] at H
    obtain ⟨rfl,rfl⟩:=H
    go_wp2
    go_ret2
    exact ⟨Y0,Y33⟩
def jGa.f (k : Nat) (l0_0 : List (S75)) (l1 : List (S36)) (a2 : Int) (a3 : Int) : Option (Int) := (jTa.f k l0_0 l1 a2).bind fun t816 => (if t816 = true then ((jNa.f l0_0 a3).bind fun t817 => (if t817 = true then ((jV.f k l0_0 l1 a2 a3).bind fun bt818 => (some bt818.2)) else (some (-1)))) else (some (-1)))
set_option maxHeartbeats 8000000 in
set_option maxRecDepth 100000 in
theorem jGa.calls (k : Nat) (A0_0 : Option Addr) (c0_0 : Nat) (l0_0 : List (S75)) (A1 : Option Addr) (c1 : Nat) (l1 : List (S36)) (a2 : Int) (a3 : Int) (r : Int) (w : World) (hr0_0 : Kd.C k75 w A0_0 l0_0.length l0_0) (hc0_0 : l0_0.length ≤ c0_0) (hr1 : Kd.C k36 w A1 l1.length l1) (hc1 : l1.length ≤ c1) (h : jGa.f k l0_0 l1 a2 a3 = some r) :
  Calls Try.prog 19 #[.agg #[.slice A0_0 l0_0.length c0_0], .slice A1 l1.length c1, .int .i64 a2, .int .i64 a3] w fun e w'=>e=.returned (.int .i64 r)∧Below w.heap.size w w':=by
 have hu25:=Try.underlying25
 have HR0_0:=am hr0_0
 have HC0_0:=am hc0_0
 clear hr0_0 hc0_0
 have HR1:=am hr1
 have HC1:=am hc1
 clear hr1 hc1
 have HB:=am (Below.refl w.heap.size w)
 have H:((jTa.f k l0_0 l1 a2).bind fun t816=>(if t816=true then ((jNa.f l0_0 a3).bind fun t817=>(if t817=true then ((jV.f k l0_0 l1 a2 a3).bind fun bt818=>(some bt818.2)) else (some (-1)))) else (some (-1))))=some r:=h
 clear h
 replace H:=bzS H
 obtain ⟨t816,A50,H⟩:=H
 replace H:(if t816=true then ((jNa.f l0_0 a3).bind fun t817=>(if t817=true then ((jV.f k l0_0 l1 a2 a3).bind fun bt818=>(some bt818.2)) else (some (-1)))) else (some (-1)))=some r:=H
 have A5:=am A50
 clear A50
 by_cases c6:t816=true
 ·subst c6
  have H1:((jNa.f l0_0 a3).bind fun t817=>(if t817=true then ((jV.f k l0_0 l1 a2 a3).bind fun bt818=>(some bt818.2)) else (some (-1))))=some r:=by rw [if_pos rfl] at H;exact H
  clear H
  have H:=H1
  clear H1
  replace H:=bzS H
  obtain ⟨t817,A70,H⟩:=H
  replace H:(if t817=true then ((jV.f k l0_0 l1 a2 a3).bind fun bt818=>(some bt818.2)) else (some (-1)))=some r:=H
  have A7:=am A70
  clear A70
  by_cases c8:t817=true
  ·subst c8
   have H1:((jV.f k l0_0 l1 a2 a3).bind fun bt818=>(some bt818.2))=some r:=by rw [if_pos rfl] at H;exact H
   clear H
   have H:=H1
   clear H1
   replace H:=bzS H
   obtain ⟨⟨t818,t819⟩,A90,H⟩:=H
   replace H:(some t819)=some r:=H
   have A9:=am A90
   clear A90
   obtain rfl:=Option.some.inj H
   go_enter Try.func19,Try.ntmps19
   go_wp2_with (first |((with_reducible refine jJ (N:=4) rfl ?_);refine bE (N:=4) (cs:=#[.slice A0_0 l0_0.length c0_0]) (t:=25) ?_;intro gb815 hg w10 hbox hb;have BK815:=am (hbox);have GW815:=am ((Y1:w.heap.size≤gb815));have GE815:=am ((Y1:w.heap.size≤gb815));replace HB:=am (jd (bq) hb);clear hb hbox hg;have hcz11_0:=bc0 BK815.out;have hfz11_0:=ja BK815.out 0) |((with_reducible refine jc (f:=31) rfl ?_);refine gL (some 14) Try.func31 #[.agg #[.slice A0_0 l0_0.length c0_0], .slice A1 l1.length c1, .int .i64 a2] ?_;(with_reducible refine (jTa.calls k _ _ l0_0 _ _ l1 a2 true _ ?side1 ?side2 ?side3 ?side4 A5.out).mono ?_);(case side1=>exact cq (Kd.jI HR0_0.out HB.out));(case side2=>exact HC0_0.out);(case side3=>exact cq (Kd.jI HR1.out HB.out));(case side4=>exact HC1.out);rintro e w12 ⟨rfl,hb⟩;refine ⟨_,rfl,?_⟩;replace BK815:=am (jh (g:=gb815) (o:=.cells #[.slice A0_0 l0_0.length c0_0] 25 (0,0)) (kq BK815.out) hb);replace HB:=am (jd (Y53) hb);(try clear hb);(try clear hb2);(try clear hk);(try clear hi);have hcz13_0:=bc0 BK815.out;have hfz13_0:=ja BK815.out 0) |(go_at_call 48;(with_reducible refine (jNa.calls _ _ l0_0 a3 true _ ?side1 ?side2 A7.out).mono ?_);(case side1=>exact cq (Kd.jI HR0_0.out HB.out));(case side2=>exact HC0_0.out);rintro e w14 ⟨rfl,hb⟩;replace BK815:=am (jh (g:=gb815) (o:=.cells #[.slice A0_0 l0_0.length c0_0] 25 (0,0)) (kq BK815.out) hb);replace HB:=am (jd (Y53) hb);(try clear hb);(try clear hb2);(try clear hk);(try clear hi);have hcz15_0:=bc0 BK815.out;have hfz15_0:=ja BK815.out 0) |((with_reducible refine jc (f:=49) rfl ?_);refine gL (some 27) Try.func49 #[.agg #[.slice A0_0 l0_0.length c0_0], .slice A1 l1.length c1, .int .i64 a2, .int .i64 a3] ?_;(with_reducible refine (jV.calls k _ _ l0_0 _ _ l1 a2 a3 t818 t819 _ ?side1 ?side2 ?side3 ?side4 A9.out).mono ?_);(case side1=>exact cq (Kd.jI HR0_0.out HB.out));(case side2=>exact HC0_0.out);(case side3=>exact cq (Kd.jI HR1.out HB.out));(case side4=>exact HC1.out);rintro e w16 ⟨rfl,hb⟩;refine ⟨_,rfl,?_⟩;replace BK815:=am (jh (g:=gb815) (o:=.cells #[.slice A0_0 l0_0.length c0_0] 25 (0,0)) (kq BK815.out) hb);replace HB:=am (jd (Y53) hb);(try clear hb);(try clear hb2);(try clear hk);(try clear hi)))
   go_ret
   exact ⟨Y0,Y53⟩
  ·replace c8:=Bool.eq_false_iff.mpr c8
   subst c8
   have H1:(some (-1))=some r:=by rw [if_neg (show ¬ (false=true) by decide)] at H;exact H
   clear H
   have H:=H1
   clear H1
   obtain rfl:=Option.some.inj H
   go_enter Try.func19,Try.ntmps19
   go_wp2_with (first |((with_reducible refine jJ (N:=4) rfl ?_);refine bE (N:=4) (cs:=#[.slice A0_0 l0_0.length c0_0]) (t:=25) ?_;intro gb815 hg w17 hbox hb;have BK815:=am (hbox);have GW815:=am ((Y1:w.heap.size≤gb815));have GE815:=am ((Y1:w.heap.size≤gb815));replace HB:=am (jd (bq) hb);clear hb hbox hg;have hcz18_0:=bc0 BK815.out;have hfz18_0:=ja BK815.out 0) |((with_reducible refine jc (f:=31) rfl ?_);refine gL (some 14) Try.func31 #[.agg #[.slice A0_0 l0_0.length c0_0], .slice A1 l1.length c1, .int .i64 a2] ?_;(with_reducible refine (jTa.calls k _ _ l0_0 _ _ l1 a2 true _ ?side1 ?side2 ?side3 ?side4 A5.out).mono ?_);(case side1=>exact cq (Kd.jI HR0_0.out HB.out));(case side2=>exact HC0_0.out);(case side3=>exact cq (Kd.jI HR1.out HB.out));(case side4=>exact HC1.out);rintro e w19 ⟨rfl,hb⟩;refine ⟨_,rfl,?_⟩;replace BK815:=am (jh (g:=gb815) (o:=.cells #[.slice A0_0 l0_0.length c0_0] 25 (0,0)) (kq BK815.out) hb);replace HB:=am (jd (Y53) hb);(try clear hb);(try clear hb2);(try clear hk);(try clear hi);have hcz20_0:=bc0 BK815.out;have hfz20_0:=ja BK815.out 0) |(go_at_call 48;(with_reducible refine (jNa.calls _ _ l0_0 a3 false _ ?side1 ?side2 A7.out).mono ?_);(case side1=>exact cq (Kd.jI HR0_0.out HB.out));(case side2=>exact HC0_0.out);rintro e w21 ⟨rfl,hb⟩;replace BK815:=am (jh (g:=gb815) (o:=.cells #[.slice A0_0 l0_0.length c0_0] 25 (0,0)) (kq BK815.out) hb);replace HB:=am (jd (Y53) hb);(try clear hb);(try clear hb2);(try clear hk);(try clear hi)))
   go_ret
   exact ⟨Y0,Y53⟩
 ·replace c6:=Bool.eq_false_iff.mpr c6
  subst c6
  have H1:(some (-1))=some r:=by rw [if_neg (show ¬ (false=true) by decide)] at H;exact H
  clear H
  have H:=H1
  clear H1
  obtain rfl:=Option.some.inj H
  go_enter Try.func19,Try.ntmps19
  go_wp2_with (first |((with_reducible refine jJ (N:=4) rfl ?_);refine bE (N:=4) (cs:=#[.slice A0_0 l0_0.length c0_0]) (t:=25) ?_;intro gb815 hg w22 hbox hb;have BK815:=am (hbox);have GW815:=am ((Y1:w.heap.size≤gb815));have GE815:=am ((Y1:w.heap.size≤gb815));replace HB:=am (jd (bq) hb);clear hb hbox hg;have hcz23_0:=bc0 BK815.out;have hfz23_0:=ja BK815.out 0) |((with_reducible refine jc (f:=31) rfl ?_);refine gL (some 14) Try.func31 #[.agg #[.slice A0_0 l0_0.length c0_0], .slice A1 l1.length c1, .int .i64 a2] ?_;(with_reducible refine (jTa.calls k _ _ l0_0 _ _ l1 a2 false _ ?side1 ?side2 ?side3 ?side4 A5.out).mono ?_);(case side1=>exact cq (Kd.jI HR0_0.out HB.out));(case side2=>exact HC0_0.out);(case side3=>exact cq (Kd.jI HR1.out HB.out));(case side4=>exact HC1.out);rintro e w24 ⟨rfl,hb⟩;refine ⟨_,rfl,?_⟩;replace BK815:=am (jh (g:=gb815) (o:=.cells #[.slice A0_0 l0_0.length c0_0] 25 (0,0)) (kq BK815.out) hb);replace HB:=am (jd (Y53) hb);(try clear hb);(try clear hb2);(try clear hk);(try clear hi)))
  go_ret
  exact ⟨Y0,Y53⟩
def jAb.f (k : Nat) (l0_0 : List (S75)) (l1 : List (S36)) (a2 : Int) (a3 : Int) : Option (Bool) := (jQb.f k l0_0 l1 a2).bind fun t821 => (if t821 = true then ((jbb.f l0_0 a3).bind fun t822 => (some t822)) else (some false))
set_option maxHeartbeats 8000000 in
set_option maxRecDepth 100000 in
theorem jAb.calls (k : Nat) (A0_0 : Option Addr) (c0_0 : Nat) (l0_0 : List (S75)) (A1 : Option Addr) (c1 : Nat) (l1 : List (S36)) (a2 : Int) (a3 : Int) (r : Bool) (w : World) (hr0_0 : Kd.C k75 w A0_0 l0_0.length l0_0) (hc0_0 : l0_0.length ≤ c0_0) (hr1 : Kd.C k36 w A1 l1.length l1) (hc1 : l1.length ≤ c1) (h : jAb.f k l0_0 l1 a2 a3 = some r) :
  Calls Try.prog 50 #[.agg #[.slice A0_0 l0_0.length c0_0], .slice A1 l1.length c1, .int .i64 a2, .int .i64 a3] w fun e w'=>e=.returned (.bool r)∧Below w.heap.size w w':=by
 have hu25:=Try.underlying25
 have HR0_0:=am hr0_0
 have HC0_0:=am hc0_0
 clear hr0_0 hc0_0
 have HR1:=am hr1
 have HC1:=am hc1
 clear hr1 hc1
 have HB:=am (Below.refl w.heap.size w)
 have H:((jQb.f k l0_0 l1 a2).bind fun t821=>(if t821=true then ((jbb.f l0_0 a3).bind fun t822=>(some t822)) else (some false)))=some r:=h
 clear h
 replace H:=bzS H
 obtain ⟨t821,A50,H⟩:=H
 replace H:(if t821=true then ((jbb.f l0_0 a3).bind fun t822=>(some t822)) else (some false))=some r:=H
 have A5:=am A50
 clear A50
 by_cases c6:t821=true
 ·subst c6
  have H1:((jbb.f l0_0 a3).bind fun t822=>(some t822))=some r:=by rw [if_pos rfl] at H;exact H
  clear H
  have H:=H1
  clear H1
  replace H:=bzS H
  obtain ⟨t822,A70,H⟩:=H
  replace H:(some t822)=some r:=H
  have A7:=am A70
  clear A70
  obtain rfl:=Option.some.inj H
  go_enter Try.func50,Try.ntmps50
  go_wp2_with (first |((with_reducible refine jJ (N:=4) rfl ?_);refine bE (N:=4) (cs:=#[.slice A0_0 l0_0.length c0_0]) (t:=25) ?_;intro gb820 hg w8 hbox hb;have BK820:=am (hbox);have GW820:=am ((Y1:w.heap.size≤gb820));have GE820:=am ((Y1:w.heap.size≤gb820));replace HB:=am (jd (bq) hb);clear hb hbox hg;have hcz9_0:=bc0 BK820.out;have hfz9_0:=ja BK820.out 0) |((with_reducible refine jc (f:=33) rfl ?_);refine gL (some 12) Try.func33 #[.agg #[.slice A0_0 l0_0.length c0_0], .slice A1 l1.length c1, .int .i64 a2] ?_;(with_reducible refine (jQb.calls k _ _ l0_0 _ _ l1 a2 true _ ?side1 ?side2 ?side3 ?side4 A5.out).mono ?_);(case side1=>exact cq (Kd.jI HR0_0.out HB.out));(case side2=>exact HC0_0.out);(case side3=>exact cq (Kd.jI HR1.out HB.out));(case side4=>exact HC1.out);rintro e w10 ⟨rfl,hb⟩;refine ⟨_,rfl,?_⟩;replace BK820:=am (jh (g:=gb820) (o:=.cells #[.slice A0_0 l0_0.length c0_0] 25 (0,0)) (kq BK820.out) hb);replace HB:=am (jd (Y88) hb);(try clear hb);(try clear hb2);(try clear hk);(try clear hi);have hcz11_0:=bc0 BK820.out;have hfz11_0:=ja BK820.out 0) |(go_at_call 70;(with_reducible refine (jbb.calls _ _ l0_0 a3 t822 _ ?side1 ?side2 A7.out).mono ?_);(case side1=>exact cq (Kd.jI HR0_0.out HB.out));(case side2=>exact HC0_0.out);rintro e w12 ⟨rfl,hb⟩;replace BK820:=am (jh (g:=gb820) (o:=.cells #[.slice A0_0 l0_0.length c0_0] 25 (0,0)) (kq BK820.out) hb);replace HB:=am (jd (Y88) hb);(try clear hb);(try clear hb2);(try clear hk);(try clear hi)))
  go_ret
  exact ⟨Y0,Y88⟩
 ·replace c6:=Bool.eq_false_iff.mpr c6
  subst c6
  have H1:(some false)=some r:=by rw [if_neg (show ¬ (false=true) by decide)] at H;exact H
  clear H
  have H:=H1
  clear H1
  obtain rfl:=Option.some.inj H
  go_enter Try.func50,Try.ntmps50
  go_wp2_with (first |((with_reducible refine jJ (N:=4) rfl ?_);refine bE (N:=4) (cs:=#[.slice A0_0 l0_0.length c0_0]) (t:=25) ?_;intro gb820 hg w13 hbox hb;have BK820:=am (hbox);have GW820:=am ((Y1:w.heap.size≤gb820));have GE820:=am ((Y1:w.heap.size≤gb820));replace HB:=am (jd (bq) hb);clear hb hbox hg;have hcz14_0:=bc0 BK820.out;have hfz14_0:=ja BK820.out 0) |((with_reducible refine jc (f:=33) rfl ?_);refine gL (some 12) Try.func33 #[.agg #[.slice A0_0 l0_0.length c0_0], .slice A1 l1.length c1, .int .i64 a2] ?_;(with_reducible refine (jQb.calls k _ _ l0_0 _ _ l1 a2 false _ ?side1 ?side2 ?side3 ?side4 A5.out).mono ?_);(case side1=>exact cq (Kd.jI HR0_0.out HB.out));(case side2=>exact HC0_0.out);(case side3=>exact cq (Kd.jI HR1.out HB.out));(case side4=>exact HC1.out);rintro e w15 ⟨rfl,hb⟩;refine ⟨_,rfl,?_⟩;replace BK820:=am (jh (g:=gb820) (o:=.cells #[.slice A0_0 l0_0.length c0_0] 25 (0,0)) (kq BK820.out) hb);replace HB:=am (jd (Y88) hb);(try clear hb);(try clear hb2);(try clear hk);(try clear hi)))
  go_ret
  exact ⟨Y0,Y88⟩
def jzb.l0 : Nat → List Int → Int → Int → Option (Bool)
 | 0,_,_,_=>none
 | k+1,x0,x1,x5=>if x5<(x0.length:Int) then (if 0≤x5 then (if (rd x0 x5)=x1 then (some true) else (jzb.l0 k x0 x1 (wrap64 (x5+1)))) else (none)) else (some false)
def jzb.f (k : Nat) (l0 : List Int) (a1 : Int) : Option (Bool) := jzb.l0 k l0 a1 0
set_option maxHeartbeats 8000000 in
set_option maxRecDepth 100000 in
theorem jzb.calls (k : Nat) (A0 : Option Addr) (c0 : Nat) (l0 : List Int) (a1 : Int) (r : Bool) (w : World) (hr0 : Kd.C (Kd.int .i64) w A0 l0.length l0) (hc0 : l0.length ≤ c0) (h : jzb.f k l0 a1 = some r) :
  Calls Try.prog 86 #[.slice A0 l0.length c0, .int .i64 a1] w fun e w'=>e=.returned (.bool r)∧jwb w w':=by
 have HR0:=am hr0
 have HC0:=am hc0
 clear hr0 hc0
 have H:(jzb.l0 k l0 a1 0)=some r:=h
 clear h
 have H':=am H
 clear H
 go_enter Try.func86,Try.ntmps86
 go_wp2
 go_loopg [5] k (fun kq v5 w'=>∃ (x5_1:Int),v5=.int .i64 x5_1∧jo (jzb.l0 kq l0 a1 x5_1=some r)∧jo (kq≤k)∧jwb w w')
 case atStart=>exact ⟨(0),(sq),H',⟨Nat.le_refl _⟩,Y4⟩
 case round =>
  clear H'
  try clear p2
  obtain ⟨x5_1,rfl,HA,HK1,⟨m1,rfl⟩⟩:=hrel
  cases gk with
  | zero=>exact absurd HA.out (by simp [jzb.l0])
  | succ k1 =>
   have H:=HA.out
   clear HA
   simp only [jzb.l0] at H
   by_cases c3:x5_1<(l0.length:Int)
   ·rw [if_pos c3] at H
    have c3b0:decide (x5_1<(l0.length:Int))=true:=dzT c3
    clear c3
    by_cases c4:0≤x5_1
    ·rw [if_pos c4] at H
     have c4b0:decide (0≤x5_1)=true:=dzT c4
     clear c4
     by_cases c5:(rd l0 x5_1)=a1
     ·rw [if_pos c5] at H
      have c5b0:((rd l0 x5_1) == a1)=true:=beq_iff_eq.mpr c5
      have c5b1:((rd l0 x5_1) != a1)=false:=bne_eq_false_iff_eq.mpr c5
      clear c5
      obtain rfl:=Option.some.inj H
      have p823:0≤(x5_1:Int):=ozD (uq)
      have q823:x5_1<(l0.length:Int):=ozD (uq)
      obtain ⟨ad823,e823,hx823_0⟩:=Kd.jXa HR0.out x5_1 p823 q823
      cases e823
      replace p823:=ezT p823
      replace q823:=ezT q823
      go_wp2
      go_ret
      exact ⟨sq,Y4⟩
     ·rw [if_neg c5] at H
      have c5b0:((rd l0 x5_1) == a1)=false:=beq_eq_false_iff_ne.mpr c5
      have c5b1:((rd l0 x5_1) != a1)=true:=bne_iff_ne.mpr c5
      have H':=am H
      clear H
      have p823:0≤(x5_1:Int):=ozD (uq)
      have q823:x5_1<(l0.length:Int):=ozD (uq)
      obtain ⟨ad823,e823,hx823_0⟩:=Kd.jXa HR0.out x5_1 p823 q823
      cases e823
      replace p823:=ezT p823
      replace q823:=ezT q823
      go_wp2
      go_roundg k1
      case measure=>have:=HK1.out;omega
      case rel=>exact ⟨(wrap64 (x5_1+1)),(sq),H',⟨by have:=HK1.out;omega⟩,Y4⟩
    ·rw [if_neg c4] at H
     exact absurd H (by simp)
   ·rw [if_neg c3] at H
    have c3b0:decide (x5_1<(l0.length:Int))=false:=dzF c3
    clear c3
    obtain rfl:=Option.some.inj H
    go_wp2
    go_ret
    exact ⟨sq,Y4⟩
def jFb.l0 : Nat → Int → List Int → List (S75) → Option (List Int)
 | 0,_,_,_=>none
 | k+1,x1,x5,x825000=>if x1≥0 then (if x5.length<17592186044416 then (if 0≤x1 then (if x1<(x825000.length:Int) then (jFb.l0 k ((jma x825000 x1).f1) (x5 ++ [x1]) x825000) else (none)) else (none)) else (none)) else (some x5)
def jFb.f (k : Nat) (l0_0 : List (S75)) (a1 : Int) : Option (List Int) := jFb.l0 k a1 (([] : List Int)) l0_0
set_option maxHeartbeats 8000000 in
set_option maxRecDepth 100000 in
theorem jFb.calls (k : Nat) (A0_0 : Option Addr) (c0_0 : Nat) (l0_0 : List (S75)) (a1 : Int) (r : List Int) (w : World) (hr0_0 : Kd.C k75 w A0_0 l0_0.length l0_0) (hc0_0 : l0_0.length ≤ c0_0) (h : jFb.f k l0_0 a1 = some r) :
  Calls Try.prog 87 #[.agg #[.slice A0_0 l0_0.length c0_0], .int .i64 a1] w fun e w'=>∃ v0_:Value,e=.returned (v0_)∧Kd.R (Kd.int .i64) 3 w' w.heap.size (fun _=>True) v0_ r∧Below w.heap.size w w':=by
 have hu25:=Try.underlying25
 have HR0_0:=am hr0_0
 have HC0_0:=am hc0_0
 clear hr0_0 hc0_0
 have HB:=am (Below.refl w.heap.size w)
 have H:(jFb.l0 k a1 (([]:List Int)) l0_0)=some r:=h
 clear h
 obtain ⟨y825,hy825⟩:∃ y_:List Int,y_=(([]:List Int)):=⟨_,rfl⟩
 replace H:(jFb.l0 k a1 y825 l0_0)=some r:=by first |(rw [hy825];with_reducible exact H) |(have H2_:=(Option.bind_some _ _).symm.trans H;rw [hy825];with_reducible exact H2_) |(have H2_:=(Option.bind_some _ _).symm.trans H;with_reducible exact H2_) | with_reducible exact H |(rw [hy825];exact H) | exact H
 have Ny825:=am hy825
 clear hy825
 have H':=am H
 clear H
 go_enter Try.func87,Try.ntmps87
 go_wp2_with (first |((with_reducible refine jJ (N:=2) rfl ?_);refine bE (N:=2) (cs:=#[.slice A0_0 l0_0.length c0_0]) (t:=25) ?_;intro gb824 hg w3 hbox hb;have BK824:=am (hbox);have GW824:=am ((Y1:w.heap.size≤gb824));have GE824:=am ((Y1:w.heap.size≤gb824));replace HB:=am (jd (bq) hb);clear hb hbox hg) |((with_reducible refine jJ (N:=6) rfl ?_);refine Kd.jAc (Kd.int .i64) _ 3 ?hg (N:=6) ?hd (xs:=([]:List Int)) (inner:=[]) (ok:=fun _=>True) (okp:=fun _=>True) ?hr ?hp (fun _ hk=>hk) trivial (Below.refl _ _) (Nat.le_refl _) (by simp) ?_;(case hd=>rfl);(case hg=>rfl);(case hr=>exact Y6);(case hp=>exact (Reps.none _ _));intro v826 w4 ho5 hb hg_ hnew_;clear hg_ hnew_;(first | rw [← Ny825.out] at ho5 |(simp only [Int.reduceToNat] at ho5;rw [← Ny825.out] at ho5));have HO827:=am (Kd.jW ho5 (jP (Y72)));replace BK824:=am (jh (g:=gb824) (o:=.cells #[.slice A0_0 l0_0.length c0_0] 25 (0,0)) (kq BK824.out) hb);replace HB:=am (jd (Y72) hb);clear hb ho5))
 go_loopg [1,5] k (fun kq v1 v5 w'=>∃ (x1_1:Int) (x5_1:List Int),v1=.int .i64 x1_1∧jo (jFb.l0 kq x1_1 x5_1 l0_0=some r)∧jo (kq≤k)∧jo (Kd.R (Kd.int .i64) 3 w' w.heap.size (fun _=>True) v5 x5_1)∧jo (w'.heap[gb824]?=some (.cells #[(.slice A0_0 l0_0.length c0_0)] 25 (0,0)))∧jo (Below w.heap.size w w'))
 case atStart=>exact ⟨(a1),(y825),(sq),H',⟨Nat.le_refl _⟩,⟨rq HO827.out⟩,⟨kq BK824.out⟩,⟨Y72⟩⟩
 case round =>
  clear H'
  try clear p2
  obtain ⟨x1_1,x5_1,rfl,HA,HK1,HO_5,BK824,HB⟩:=hrel
  cases gk with
  | zero=>exact absurd HA.out (by simp [jFb.l0])
  | succ k1 =>
   have H:=HA.out
   clear HA
   simp only [jFb.l0] at H
   by_cases c6:x1_1≥0
   ·rw [if_pos c6] at H
    have c6b0:decide (0≤x1_1)=true:=dzT c6
    clear c6
    by_cases c7:x5_1.length<17592186044416
    ·rw [if_pos c7] at H
     have LMc7:=am c7
     clear c7
     obtain ⟨y828,hy828⟩:∃ y_:List Int,y_=(x5_1 ++ [x1_1]):=⟨_,rfl⟩
     replace H:(if 0≤x1_1 then (if x1_1<(l0_0.length:Int) then (jFb.l0 k1 ((jma l0_0 x1_1).f1) y828 l0_0) else (none)) else (none))=some r:=by first |(rw [hy828];with_reducible exact H) |(have H2_:=(Option.bind_some _ _).symm.trans H;rw [hy828];with_reducible exact H2_) |(have H2_:=(Option.bind_some _ _).symm.trans H;with_reducible exact H2_) | with_reducible exact H |(rw [hy828];exact H) | exact H
     have Ny828:=am hy828
     clear hy828
     by_cases c8:0≤x1_1
     ·rw [if_pos c8] at H
      have c8b0:decide (0≤x1_1)=true:=dzT c8
      clear c8
      by_cases c9:x1_1<(l0_0.length:Int)
      ·rw [if_pos c9] at H
       have c9b0:decide (x1_1<(l0_0.length:Int))=true:=dzT c9
       clear c9
       have H':=am H
       clear H
       go_wp2_with (first |((with_reducible refine jUa (b:=.append) (xs:=#[.tmp 15, .tmp 17]) rfl ?_);at_builtin;refine Kd.joc (Kd.int .i64) (w0:=w) w.heap.size rfl (.tmp 15) (.tmp 17) 29 3 (.int .i64 0) 8 rfl Try.underlying29 info3 rfl (by decide) (by omega) u5 x5_1 x1_1 [.int .i64 x1_1] (fun _=>True) (fun _=>False) rfl rfl ?aP (fun _ hk=>hk.elim) ?aF ?aO ?aB ?aS ?aL ?_;(case aP=>exact rfl);(case aB=>exact (Y72));(case aF=>exact (fun _ _=>trivial));(case aO=>exact (rq HO_5.out));(case aS=>exact (jP (Y72)));(case aL=>have:=LMc7.out;omega);intro v829 w10 ho hb hg hat;rw [← Ny828.out] at ho;have n0_:=am (jlb (g:=gb824) (o:=.cells #[.slice A0_0 l0_0.length c0_0] 25 (0,0)) (kq BK824.out) hg (Kd.R_ne HO_5.out BK824.out (by decide)));have n1_:=am (hb);have n2_:=am (ho);clear BK824 HB HO_5;have BK824:=n0_;have HB:=n1_;have HO830:=n2_;clear n0_ n1_ n2_ ho hb hg hat;have hcz11_0:=bc0 BK824.out;have hfz11_0:=ja BK824.out 0;have p831:0≤(x1_1:Int):=ozD (uq);have q831:x1_1<(l0_0.length:Int):=ozD (uq);obtain ⟨ad831,e831,hx831_0,hx831_1⟩:=at_T75 HR0_0.out x1_1 p831 q831;cases e831;replace hx831_0:=cb HB.out hx831_0;replace hx831_1:=cb HB.out hx831_1;replace p831:=ezT p831;replace q831:=ezT q831))
       go_roundg k1
       case measure=>have:=HK1.out;omega
       case rel=>exact ⟨((jma l0_0 x1_1).f1),(y828),(sq),H',⟨by have:=HK1.out;omega⟩,⟨rq HO830.out⟩,⟨kq BK824.out⟩,⟨Y72⟩⟩
      ·rw [if_neg c9] at H
       exact absurd H (by simp)
     ·rw [if_neg c8] at H
      exact absurd H (by simp)
    ·rw [if_neg c7] at H
     exact absurd H (by simp)
   ·rw [if_neg c6] at H
    have c6b0:decide (0≤x1_1)=false:=dzF c6
    clear c6
    obtain rfl:=Option.some.inj H
    go_wp2
    go_ret
    exact ⟨_,Y0,rq HO_5.out,Y72⟩
def jpd.f (k : Nat) (l0_0 : List (S75)) (a1 : Int) (a2 : Int) : Option (Bool) := (jFb.f k l0_0 a1).bind fun t833 => ((jzb.f k t833 a2).bind fun t836 => (some t836))
set_option maxHeartbeats 8000000 in
set_option maxRecDepth 100000 in
theorem jpd.calls (k : Nat) (A0_0 : Option Addr) (c0_0 : Nat) (l0_0 : List (S75)) (a1 : Int) (a2 : Int) (r : Bool) (w : World) (hr0_0 : Kd.C k75 w A0_0 l0_0.length l0_0) (hc0_0 : l0_0.length ≤ c0_0) (h : jpd.f k l0_0 a1 a2 = some r) :
  Calls Try.prog 72 #[.agg #[.slice A0_0 l0_0.length c0_0], .int .i64 a1, .int .i64 a2] w fun e w'=>e=.returned (.bool r)∧Below w.heap.size w w':=by
 have hu25:=Try.underlying25
 have HR0_0:=am hr0_0
 have HC0_0:=am hc0_0
 clear hr0_0 hc0_0
 have HB:=am (Below.refl w.heap.size w)
 have H:((jFb.f k l0_0 a1).bind fun t833=>((jzb.f k t833 a2).bind fun t836=>(some t836)))=some r:=h
 clear h
 replace H:=bzS H
 obtain ⟨t833,A40,H⟩:=H
 replace H:((jzb.f k t833 a2).bind fun t836=>(some t836))=some r:=H
 have A4:=am A40
 clear A40
 replace H:=bzS H
 obtain ⟨t836,A50,H⟩:=H
 replace H:(some t836)=some r:=H
 have A5:=am A50
 clear A50
 obtain rfl:=Option.some.inj H
 go_enter Try.func72,Try.ntmps72
 go_wp2_with (first |((with_reducible refine jJ (N:=3) rfl ?_);refine bE (N:=3) (cs:=#[.slice A0_0 l0_0.length c0_0]) (t:=25) ?_;intro gb832 hg w6 hbox hb;have BK832:=am (hbox);have GW832:=am ((Y1:w.heap.size≤gb832));have GE832:=am ((Y1:w.heap.size≤gb832));replace HB:=am (jd (bq) hb);clear hb hbox hg;have hcz7_0:=bc0 BK832.out;have hfz7_0:=ja BK832.out 0) |((with_reducible refine jc (f:=87) rfl ?_);refine gL (some 9) Try.func87 #[.agg #[.slice A0_0 l0_0.length c0_0], .int .i64 a1] ?_;(with_reducible refine (jFb.calls k _ _ l0_0 a1 t833 _ ?side1 ?side2 A4.out).mono ?_);(case side1=>exact cq (Kd.jI HR0_0.out HB.out));(case side2=>exact HC0_0.out);rintro e w8 ⟨v834,rfl,ho0,hb⟩;refine ⟨_,rfl,?_⟩;have HO835:=am (Kd.jW ho0 (jP (Y117)));replace BK832:=am (jh (g:=gb832) (o:=.cells #[.slice A0_0 l0_0.length c0_0] 25 (0,0)) (kq BK832.out) hb);replace HB:=am (jd (Y117) hb);(try clear hb);(try clear hb2);(try clear hk);(try clear hi);(try clear ho0);obtain ⟨Ao9,co9,eo9⟩:=Kd.jba HO835.out;subst eo9) |((with_reducible refine jc (f:=86) rfl ?_);refine gL (some 11) Try.func86 #[.slice Ao9 t833.length co9, .int .i64 a2] ?_;(with_reducible refine (jzb.calls k _ _ t833 a2 t836 _ ?side1 ?side2 A5.out).mono ?_);(case side1=>exact cq (Kd.jm HO835.out).2.2);(case side2=>exact (Kd.jm HO835.out).2.1);rintro e w' ⟨rfl,⟨nd,rfl⟩⟩;refine ⟨_,rfl,?_⟩))
 go_ret
 exact ⟨Y0,Y117⟩
mutual
def jca.j0 : Nat → List (S36) → Int → Int → Bool → List (S75) → Option (Int)
 | 0,_,_,_,_,_=>none
 | k+1,x1,x2,x3,x24,x838000=>if x24=true then (some x2) else (if 0≤x2 then (if x2<(x1.length:Int) then (if ((je x1 x2).f1)=7 then ((jDa.f k x1 x2).bind fun t841=>(jca.l0 k x1 x3 t841 1 x838000)) else (some (-1))) else (none)) else (none))
def jca.l0 : Nat → List (S36) → Int → List Int → Int → List (S75) → Option (Int)
 | 0,_,_,_,_,_=>none
 | k+1,x1,x3,x9,x10,x838000=>if x10<(x9.length:Int) then (if 0≤x10 then (if 0≤(rd x9 x10) then (if (rd x9 x10)<(x1.length:Int) then (if ((je x1 (rd x9 x10)).f1)=8 then ((jpd.f k x838000 x3 ((je x1 (rd x9 x10)).f2)).bind fun t848=>(if t848=true then (some (rd x9 x10)) else (jca.l0 k x1 x3 x9 (wrap64 (x10+1)) x838000))) else (jca.l0 k x1 x3 x9 (wrap64 (x10+1)) x838000)) else (none)) else (none)) else (none)) else (some (-1))
end
def jca.f (k : Nat) (l0_0 : List (S75)) (l1 : List (S36)) (a2 : Int) (a3 : Int) : Option (Int) := if 0 ≤ a2 then (if a2 < (l1.length : Int) then (if ((je l1 a2).f1) = 11 then (jca.j0 k l1 a2 a3 (((je l1 a2).f3) == 1) l0_0) else (jca.j0 k l1 a2 a3 false l0_0)) else (none)) else (none)
def jca.T9 : Bool × List (List Nat × List Nat) := (true, [([], []), ([], []), ([], []), ([1, 2], [1, 2]), ([3], [3]), ([0, 4], [0, 4]), ([5], [5]), ([6], [6]), ([7], [7]), ([8], [8]), ([9], [9]), ([9], [9]), ([9], [9]), ([9], [9]), ([9], [9]), ([13, 14, 9], [9, 13, 14]), ([15, 9], [9, 15]), ([12, 16, 9], [9, 12, 16]), ([17, 9], [9, 17]), ([18, 9], [9, 18]), ([10, 11, 19, 9, 9], [9, 10, 11, 19]), ([9, 20], [9, 20])])
def jca.B9 : List Nat := [0, 0, 0, 6, 14, 31, 63, 127, 255, 511, 1023, 1023, 1023, 1023, 1023, 25599, 58367, 127999, 259071, 521215, 1048575, 2097151]
theorem jca.tab9 : rtab .any (opsOf Try.f51 9) = jca.T9 := by kernel_rfl
theorem jca.bits9 : juc jca.T9.2 jca.B9 = true := by kernel_rfl
set_option maxHeartbeats 8000000 in
set_option maxRecDepth 100000 in
theorem jca.calls (k : Nat) (A0_0 : Option Addr) (c0_0 : Nat) (l0_0 : List (S75)) (A1 : Option Addr) (c1 : Nat) (l1 : List (S36)) (a2 : Int) (a3 : Int) (r : Int) (w : World) (hr0_0 : Kd.C k75 w A0_0 l0_0.length l0_0) (hc0_0 : l0_0.length ≤ c0_0) (hr1 : Kd.C k36 w A1 l1.length l1) (hc1 : l1.length ≤ c1) (h : jca.f k l0_0 l1 a2 a3 = some r) :
  Calls Try.prog 51 #[.agg #[.slice A0_0 l0_0.length c0_0], .slice A1 l1.length c1, .int .i64 a2, .int .i64 a3] w fun e w'=>e=.returned (.int .i64 r)∧Below w.heap.size w w':=by
 have hu25:=Try.underlying25
 have HR0_0:=am hr0_0
 have HC0_0:=am hc0_0
 clear hr0_0 hc0_0
 have HR1:=am hr1
 have HC1:=am hc1
 clear hr1 hc1
 have HB:=am (Below.refl w.heap.size w)
 have H:(if 0≤a2 then (if a2<(l1.length:Int) then (if ((je l1 a2).f1)=11 then (jca.j0 k l1 a2 a3 (((je l1 a2).f3) == 1) l0_0) else (jca.j0 k l1 a2 a3 false l0_0)) else (none)) else (none))=some r:=h
 clear h
 have HC5:=am H
 clear H
 go_enter Try.func51,Try.ntmps51
 go_upto_region 1 with (first |((with_reducible refine jJ (N:=4) rfl ?_);refine bE (N:=4) (cs:=#[.slice A0_0 l0_0.length c0_0]) (t:=25) ?_;intro gb837 hg w6 hbox hb;have BK837:=am (hbox);have GW837:=am ((Y1:w.heap.size≤gb837));have GE837:=am ((Y1:w.heap.size≤gb837));replace HB:=am (jd (bq) hb);clear hb hbox hg))
 (try simp only [Act.put,List.setIfInBounds_toArray,List.set_cons_zero,List.set_cons_succ])
 go_cut [24] (fun v24 wc=>∃ (kq:Nat) (x24_4:Bool),v24=.bool x24_4∧jo (jca.j0 kq l1 a2 a3 x24_4 l0_0=some r)∧jo (kq≤k)∧jo (wc.heap[gb837]?=some (.cells #[(.slice A0_0 l0_0.length c0_0)] 25 (0,0)))∧jo (Below w.heap.size w wc))
 case first =>
  have H:=HC5.out
  clear HC5
  by_cases c7:0≤a2
  ·rw [if_pos c7] at H
   have c7b0:decide (0≤a2)=true:=dzT c7
   clear c7
   (first | rw [c7b0] |(simp only [jkb,job];rw [c7b0]) | skip)
   by_cases c8:a2<(l1.length:Int)
   ·rw [if_pos c8] at H
    have c8b0:decide (a2<(l1.length:Int))=true:=dzT c8
    clear c8
    by_cases c9:((je l1 a2).f1)=11
    ·rw [if_pos c9] at H
     have c9b0:(((je l1 a2).f1) == 11)=true:=beq_iff_eq.mpr c9
     have c9b1:(((je l1 a2).f1) != 11)=false:=bne_eq_false_iff_eq.mpr c9
     clear c9
     have H':=am H
     clear H
     have p838:0≤(a2:Int):=ozD (uq)
     have q838:a2<(l1.length:Int):=ozD (uq)
     obtain ⟨ad838,e838,hx838_0,hx838_1,hx838_2,hx838_3⟩:=jsa HR1.out a2 p838 q838
     cases e838
     replace hx838_0:=cb HB.out hx838_0
     replace hx838_1:=cb HB.out hx838_1
     replace hx838_2:=cb HB.out hx838_2
     replace hx838_3:=cb HB.out hx838_3
     replace p838:=ezT p838
     replace q838:=ezT q838
     have p839:0≤(a2:Int):=ozD (uq)
     have q839:a2<(l1.length:Int):=ozD (uq)
     obtain ⟨ad839,e839,hx839_0,hx839_1,hx839_2,hx839_3⟩:=jsa HR1.out a2 p839 q839
     obtain rfl:ad838=ad839:=(by injection e839)
     replace hx839_0:=cb HB.out hx839_0
     replace hx839_1:=cb HB.out hx839_1
     replace hx839_2:=cb HB.out hx839_2
     replace hx839_3:=cb HB.out hx839_3
     replace p839:=ezT p839
     replace q839:=ezT q839
     go_wp2
     go_meet
     case rel=>exact ⟨_,((((je l1 a2).f3) == 1)),(sq),H',⟨Y20⟩,⟨kq BK837.out⟩,⟨Y39⟩⟩
    ·rw [if_neg c9] at H
     have c9b0:(((je l1 a2).f1) == 11)=false:=beq_eq_false_iff_ne.mpr c9
     have c9b1:(((je l1 a2).f1) != 11)=true:=bne_iff_ne.mpr c9
     have H':=am H
     clear H
     have p838:0≤(a2:Int):=ozD (uq)
     have q838:a2<(l1.length:Int):=ozD (uq)
     obtain ⟨ad838,e838,hx838_0,hx838_1,hx838_2,hx838_3⟩:=jsa HR1.out a2 p838 q838
     cases e838
     replace hx838_0:=cb HB.out hx838_0
     replace hx838_1:=cb HB.out hx838_1
     replace hx838_2:=cb HB.out hx838_2
     replace hx838_3:=cb HB.out hx838_3
     replace p838:=ezT p838
     replace q838:=ezT q838
     go_wp2
     go_meet
     case rel=>exact ⟨_,(false),(sq),H',⟨Y20⟩,⟨kq BK837.out⟩,⟨Y39⟩⟩
   ·rw [if_neg c8] at H
    exact absurd H (by simp)
  ·rw [if_neg c7] at H
   exact absurd H (by simp)
 case rest =>
  clear HC5
  try clear c1
  try clear p2
  try clear c5
  try clear c7
  try clear c7b0
  try clear c8
  try clear c8b0
  try clear p8
  try clear q8
  try clear hx8
  try clear c9
  try clear c9b0
  try clear c9b1
  try clear hx838_0
  try clear hx838_1
  try clear hx838_2
  try clear hx838_3
  try clear hx839_0
  try clear hx839_1
  try clear hx839_2
  try clear hx839_3
  try clear p838
  try clear p839
  try clear q838
  try clear q839
  obtain ⟨kq,x24_4,rfl,HA,HJ4,BK837,HB⟩:=hcut
  cases kq with
  | zero=>exact absurd HA.out (by simp [jca.j0])
  | succ kj4 =>
   have H:=HA.out
   clear HA
   simp only [jca.j0] at H
   by_cases c10:x24_4=true
   ·subst c10
    have H1:(some a2)=some r:=by rw [if_pos rfl] at H;exact H
    clear H
    have H:=H1
    clear H1
    obtain rfl:=Option.some.inj H
    go_wp2
    go_ret
    exact ⟨Y0,Y39⟩
   ·replace c10:=Bool.eq_false_iff.mpr c10
    subst c10
    have H1:(if 0≤a2 then (if a2<(l1.length:Int) then (if ((je l1 a2).f1)=7 then ((jDa.f kj4 l1 a2).bind fun t841=>(jca.l0 kj4 l1 a3 t841 1 l0_0)) else (some (-1))) else (none)) else (none))=some r:=by rw [if_neg (show ¬ (false=true) by decide)] at H;exact H
    clear H
    have H:=H1
    clear H1
    by_cases c11:0≤a2
    ·rw [if_pos c11] at H
     have c11b0:decide (0≤a2)=true:=dzT c11
     clear c11
     by_cases c12:a2<(l1.length:Int)
     ·rw [if_pos c12] at H
      have c12b0:decide (a2<(l1.length:Int))=true:=dzT c12
      clear c12
      by_cases c13:((je l1 a2).f1)=7
      ·rw [if_pos c13] at H
       have c13b0:(((je l1 a2).f1) == 7)=true:=beq_iff_eq.mpr c13
       have c13b1:(((je l1 a2).f1) != 7)=false:=bne_eq_false_iff_eq.mpr c13
       clear c13
       replace H:=bzS H
       obtain ⟨t841,A140,H⟩:=H
       replace H:(jca.l0 kj4 l1 a3 t841 1 l0_0)=some r:=H
       have A14:=am A140
       clear A140
       have H':=am H
       clear H
       have p840:0≤(a2:Int):=ozD (uq)
       have q840:a2<(l1.length:Int):=ozD (uq)
       obtain ⟨ad840,e840,hx840_0,hx840_1,hx840_2,hx840_3⟩:=jsa HR1.out a2 p840 q840
       cases e840
       replace hx840_0:=cb HB.out hx840_0
       replace hx840_1:=cb HB.out hx840_1
       replace hx840_2:=cb HB.out hx840_2
       replace hx840_3:=cb HB.out hx840_3
       replace p840:=ezT p840
       replace q840:=ezT q840
       go_wp2_with (first |((with_reducible refine jc (f:=71) rfl ?_);refine gL (some 34) Try.func71 #[.slice (some ad840) l1.length c1, .int .i64 a2] ?_;(with_reducible refine (jDa.calls kj4 _ _ l1 a2 t841 _ ?side1 ?side2 A14.out).mono ?_);(case side1=>exact cq (Kd.jI HR1.out HB.out));(case side2=>exact HC1.out);rintro e w15 ⟨v842,rfl,ho0,hb⟩;refine ⟨_,rfl,?_⟩;have HO843:=am (Kd.jW ho0 (jP (Y39)));replace BK837:=am (jh (g:=gb837) (o:=.cells #[.slice A0_0 l0_0.length c0_0] 25 (0,0)) (kq BK837.out) hb);replace HB:=am (jd (Y39) hb);(try clear hb);(try clear hb2);(try clear hk);(try clear hi);(try clear ho0)))
       go_loopg [10] kj4 (fun kq v10 w'=>∃ (x10_2:Int),v10=.int .i64 x10_2∧jo (jca.l0 kq l1 a3 t841 x10_2 l0_0=some r)∧jo (kq≤kj4)∧jo (Kd.R (Kd.int .i64) 3 w' w.heap.size (fun _=>True) v842 t841)∧jo (w'.heap[gb837]?=some (.cells #[(.slice A0_0 l0_0.length c0_0)] 25 (0,0)))∧jo (Below w.heap.size w w'))
       case atStart=>exact ⟨(1),(sq),H',⟨Nat.le_refl _⟩,⟨rq HO843.out⟩,⟨kq BK837.out⟩,⟨Y39⟩⟩
       case round =>
        clear H'
        try clear c1
        try clear p2
        try clear c5
        try clear c7
        try clear c7b0
        try clear c8
        try clear c8b0
        try clear p8
        try clear q8
        try clear hx8
        try clear c9
        try clear c9b0
        try clear c9b1
        try clear c10
        try clear c11
        try clear c11b0
        try clear c12
        try clear c12b0
        try clear c13
        try clear c13b0
        try clear c13b1
        try clear hx838_0
        try clear hx838_1
        try clear hx838_2
        try clear hx838_3
        try clear hx839_0
        try clear hx839_1
        try clear hx839_2
        try clear hx839_3
        try clear hx840_0
        try clear hx840_1
        try clear hx840_2
        try clear hx840_3
        try clear p2
        try clear p8
        try clear p838
        try clear p839
        try clear p840
        try clear q8
        try clear q838
        try clear q839
        try clear q840
        obtain ⟨x10_2,rfl,HA,HK2,HO_9,BK837,HB⟩:=hrel
        cases gk with
        | zero=>exact absurd HA.out (by simp [jca.l0])
        | succ k2 =>
         have H:=HA.out
         clear HA
         simp only [jca.l0] at H
         by_cases c16:x10_2<(t841.length:Int)
         ·rw [if_pos c16] at H
          have c16b0:decide (x10_2<(t841.length:Int))=true:=dzT c16
          clear c16
          by_cases c17:0≤x10_2
          ·rw [if_pos c17] at H
           have c17b0:decide (0≤x10_2)=true:=dzT c17
           clear c17
           by_cases c18:0≤(rd t841 x10_2)
           ·rw [if_pos c18] at H
            have c18b0:decide (0≤(rd t841 x10_2))=true:=dzT c18
            clear c18
            by_cases c19:(rd t841 x10_2)<(l1.length:Int)
            ·rw [if_pos c19] at H
             have c19b0:decide ((rd t841 x10_2)<(l1.length:Int))=true:=dzT c19
             clear c19
             by_cases c20:((je l1 (rd t841 x10_2)).f1)=8
             ·rw [if_pos c20] at H
              have c20b0:(((je l1 (rd t841 x10_2)).f1) == 8)=true:=beq_iff_eq.mpr c20
              have c20b1:(((je l1 (rd t841 x10_2)).f1) != 8)=false:=bne_eq_false_iff_eq.mpr c20
              clear c20
              replace H:=bzS H
              obtain ⟨t848,A210,H⟩:=H
              replace H:(if t848=true then (some (rd t841 x10_2)) else (jca.l0 k2 l1 a3 t841 (wrap64 (x10_2+1)) l0_0))=some r:=H
              have A21:=am A210
              clear A210
              by_cases c22:t848=true
              ·subst c22
               have H1:(some (rd t841 x10_2))=some r:=by rw [if_pos rfl] at H;exact H
               clear H
               have H:=H1
               clear H1
               obtain rfl:=Option.some.inj H
               obtain ⟨Ao23,co23,eo23⟩:=Kd.jba HO_9.out
               subst eo23
               try go_wp2
               replace HO_9:=am (Kd.jga HO_9.out)
               replace BK837:=am (jA BK837.out)
               replace HB:=am (jD HB.out)
               have p844:0≤(x10_2:Int):=ozD (uq)
               have q844:x10_2<(t841.length:Int):=ozD (uq)
               obtain ⟨ad844,e844,hx844_0⟩:=Kd.jXa (Kd.jm HO_9.out).2.2 x10_2 p844 q844
               cases e844
               replace p844:=ezT p844
               replace q844:=ezT q844
               have p845:0≤((rd t841 x10_2):Int):=ozD (uq)
               have q845:(rd t841 x10_2)<(l1.length:Int):=ozD (uq)
               obtain ⟨ad845,e845,hx845_0,hx845_1,hx845_2,hx845_3⟩:=jsa HR1.out (rd t841 x10_2) p845 q845
               have hw845_3:=hx845_3
               have hw845_2:=hx845_2
               have hw845_1:=hx845_1
               have hw845_0:=hx845_0
               obtain rfl:ad840=ad845:=(by injection e845)
               replace hx845_0:=cb HB.out hx845_0
               replace hx845_1:=cb HB.out hx845_1
               replace hx845_2:=cb HB.out hx845_2
               replace hx845_3:=cb HB.out hx845_3
               replace p845:=ezT p845
               replace q845:=ezT q845
               have p846:0≤(x10_2:Int):=ozD (uq)
               have q846:x10_2<(t841.length:Int):=ozD (uq)
               obtain ⟨ad846,e846,hx846_0⟩:=Kd.jXa (Kd.jm HO_9.out).2.2 x10_2 p846 q846
               obtain rfl:ad844=ad846:=(by injection e846)
               replace p846:=ezT p846
               replace q846:=ezT q846
               have p847:0≤((rd t841 x10_2):Int):=ozD (uq)
               have q847:(rd t841 x10_2)<(l1.length:Int):=ozD (uq)
               obtain ⟨ad847,e847,hx847_0,hx847_1,hx847_2,hx847_3⟩:=jsa HR1.out (rd t841 x10_2) p847 q847
               have hw847_3:=hx847_3
               have hw847_2:=hx847_2
               have hw847_1:=hx847_1
               have hw847_0:=hx847_0
               obtain rfl:ad840=ad847:=(by injection e847)
               replace hx847_0:=cb HB.out hx847_0
               replace hx847_1:=cb HB.out hx847_1
               replace hx847_2:=cb HB.out hx847_2
               replace hx847_3:=cb HB.out hx847_3
               replace p847:=ezT p847
               replace q847:=ezT q847
               refine jrc (n:=22) (S:=fun w'=>w'.cell? ⟨gb837,0,none⟩=some (.slice A0_0 l0_0.length c0_0)∧w'.cell? (ad844.add (x10_2).toNat)=some (.int .i64 (rd t841 x10_2))∧w'.cell? (ad840.add (((rd t841 x10_2)).toNat * 4))=some (.int .i64 ((je l1 (rd t841 x10_2)).f0))∧w'.cell? ⟨(ad840.add (((rd t841 x10_2)).toNat * 4)).block,(ad840.add (((rd t841 x10_2)).toNat * 4)).off+1,none⟩=some (.int .i64 ((je l1 (rd t841 x10_2)).f1))∧w'.cell? ⟨(ad840.add (((rd t841 x10_2)).toNat * 4)).block,(ad840.add (((rd t841 x10_2)).toNat * 4)).off+2,none⟩=some (.int .i64 ((je l1 (rd t841 x10_2)).f2))∧w'.cell? ⟨(ad840.add (((rd t841 x10_2)).toNat * 4)).block,(ad840.add (((rd t841 x10_2)).toNat * 4)).off+3,none⟩=some (.int .i64 ((je l1 (rd t841 x10_2)).f3))∧w'.cell? (ad844.add (x10_2).toNat)=some (.int .i64 (rd t841 x10_2))∧w'.cell? (ad840.add (((rd t841 x10_2)).toNat * 4))=some (.int .i64 ((je l1 (rd t841 x10_2)).f0))∧w'.cell? ⟨(ad840.add (((rd t841 x10_2)).toNat * 4)).block,(ad840.add (((rd t841 x10_2)).toNat * 4)).off+1,none⟩=some (.int .i64 ((je l1 (rd t841 x10_2)).f1))∧w'.cell? ⟨(ad840.add (((rd t841 x10_2)).toNat * 4)).block,(ad840.add (((rd t841 x10_2)).toNat * 4)).off+2,none⟩=some (.int .i64 ((je l1 (rd t841 x10_2)).f2))∧w'.cell? ⟨(ad840.add (((rd t841 x10_2)).toNat * 4)).block,(ad840.add (((rd t841 x10_2)).toNat * 4)).off+3,none⟩=some (.int .i64 ((je l1 (rd t841 x10_2)).f3))) (ds:=[]) #[false,false,false,false,false,false,false,false,false,false,false,false,false,false,false,false,false,false,false,false,false,false] (by kernel_rfl) rfl rfl ⟨(jH BK837.out 0).trans rfl,hx844_0,((HB.out.cell (World.block_lt_of_cell? w _ hw845_0)).trans hw845_0),((HB.out.cell (World.block_lt_of_cell? w _ hw845_1)).trans hw845_1),((HB.out.cell (World.block_lt_of_cell? w _ hw845_2)).trans hw845_2),((HB.out.cell (World.block_lt_of_cell? w _ hw845_3)).trans hw845_3),hx846_0,((HB.out.cell (World.block_lt_of_cell? w _ hw847_0)).trans hw847_0),((HB.out.cell (World.block_lt_of_cell? w _ hw847_1)).trans hw847_1),((HB.out.cell (World.block_lt_of_cell? w _ hw847_2)).trans hw847_2),((HB.out.cell (World.block_lt_of_cell? w _ hw847_3)).trans hw847_3)⟩ (fun hHeld=>?_);refine jpb jca.tab9 jca.bits9 (fun HT_ HW_=>?_)
               generalize wr.drew=w24 at HO_9 BK837 HB hx844_0 hx845_0 hx845_1 hx845_2 hx845_3 hx846_0 hx847_0 hx847_1 hx847_2 hx847_3 hHeld ⊢
               refine pq (i:=0) (N:=some 41) #[true,false,false,false,false,false,false,false,false,false,false,false,false,false,false,false,false,false,false,false,false,false] ?_
               refine pq (i:=1) (N:=some 42) #[true,true,false,false,false,false,false,false,false,false,false,false,false,false,false,false,false,false,false,false,false,false] ?_
               refine pq (i:=2) (N:=some 43) #[true,true,true,false,false,false,false,false,false,false,false,false,false,false,false,false,false,false,false,false,false,false] ?_
               refine pq (i:=3) (N:=some 44) #[true,true,true,true,false,false,false,false,false,false,false,false,false,false,false,false,false,false,false,false,false,false] ?_
               refine jXb (i:=4) (N:=some 45) (v:=?_) (a':=?_) #[true,true,true,true,true,false,false,false,false,false,false,false,false,false,false,false,false,false,false,false,false,false] rfl rfl (jIa HT_.out HW_.out (by kernel_rfl)) (fun _ _ _ h=>h) (Or.inl ⟨by rfl,?_⟩) hHeld ?_ ?_
               rotate_left
               ·rintro w' ⟨s0,s1,s2,s3,s4,s5,s6,s7,s8,s9,s10⟩
                go_simp
                with_reducible rfl
               rotate_left
               ·exact sa
               refine pq (i:=5) (N:=some 46) #[true,true,true,true,true,true,false,false,false,false,false,false,false,false,false,false,false,false,false,false,false,false] ?_
               refine pq (i:=6) (N:=some 47) #[true,true,true,true,true,true,true,false,false,false,false,false,false,false,false,false,false,false,false,false,false,false] ?_
               refine jXb (i:=7) (N:=some 48) (v:=?_) (a':=?_) #[true,true,true,true,true,true,true,true,false,false,false,false,false,false,false,false,false,false,false,false,false,false] rfl rfl (jIa HT_.out HW_.out (by kernel_rfl)) (fun _ _ _ h=>h) (Or.inl ⟨by rfl,?_⟩) hHeld ?_ ?_
               rotate_left
               ·rintro w' ⟨s0,s1,s2,s3,s4,s5,s6,s7,s8,s9,s10⟩
                go_simp
                with_reducible rfl
               rotate_left
               ·exact sa
               refine pq (i:=8) (N:=some 49) #[true,true,true,true,true,true,true,true,true,false,false,false,false,false,false,false,false,false,false,false,false,false] ?_
               refine pq (i:=9) (N:=some 50) #[true,true,true,true,true,true,true,true,true,true,false,false,false,false,false,false,false,false,false,false,false,false] ?_
               refine pq (i:=11) (N:=some 52) #[true,true,true,true,true,true,true,true,true,true,false,true,false,false,false,false,false,false,false,false,false,false] ?_
               refine pq (i:=12) (N:=some 53) #[true,true,true,true,true,true,true,true,true,true,false,true,true,false,false,false,false,false,false,false,false,false] ?_
               refine pq (i:=13) (N:=some 54) #[true,true,true,true,true,true,true,true,true,true,false,true,true,true,false,false,false,false,false,false,false,false] ?_
               refine pq (i:=14) (N:=some 55) #[true,true,true,true,true,true,true,true,true,true,false,true,true,true,true,false,false,false,false,false,false,false] ?_
               refine pq (i:=15) (N:=some 56) #[true,true,true,true,true,true,true,true,true,true,false,true,true,true,true,true,false,false,false,false,false,false] ?_
               refine jXb (i:=10) (N:=some 51) (v:=?_) (a':=?_) #[true,true,true,true,true,true,true,true,true,true,true,true,true,true,true,true,false,false,false,false,false,false] rfl rfl (jIa HT_.out HW_.out (by kernel_rfl)) (fun _ _ _ h=>h) (Or.inl ⟨by rfl,?_⟩) hHeld ?_ ?_
               rotate_left
               ·rintro w' ⟨s0,s1,s2,s3,s4,s5,s6,s7,s8,s9,s10⟩
                go_simp
                with_reducible rfl
               rotate_left
               ·exact sa
               refine jXb (i:=16) (N:=some 57) (v:=?_) (a':=?_) #[true,true,true,true,true,true,true,true,true,true,true,true,true,true,true,true,true,false,false,false,false,false] rfl rfl (jIa HT_.out HW_.out (by kernel_rfl)) (fun _ _ _ h=>h) (Or.inl ⟨by rfl,?_⟩) hHeld ?_ ?_
               rotate_left
               ·rintro w' ⟨s0,s1,s2,s3,s4,s5,s6,s7,s8,s9,s10⟩
                go_simp
                with_reducible rfl
               rotate_left
               ·exact sa
               refine pq (i:=17) (N:=some 58) #[true,true,true,true,true,true,true,true,true,true,true,true,true,true,true,true,true,true,false,false,false,false] ?_
               refine pq (i:=18) (N:=some 59) #[true,true,true,true,true,true,true,true,true,true,true,true,true,true,true,true,true,true,true,false,false,false] ?_
               refine jXb (i:=19) (N:=some 60) (v:=?_) (a':=?_) #[true,true,true,true,true,true,true,true,true,true,true,true,true,true,true,true,true,true,true,true,false,false] rfl rfl (jIa HT_.out HW_.out (by kernel_rfl)) (fun _ _ _ h=>h) (Or.inl ⟨by rfl,?_⟩) hHeld ?_ ?_
               rotate_left
               ·rintro w' ⟨s0,s1,s2,s3,s4,s5,s6,s7,s8,s9,s10⟩
                go_simp
                with_reducible rfl
               rotate_left
               ·exact sa
               refine one_ (i:=20) (N:=some 61) #[true,true,true,true,true,true,true,true,true,true,true,true,true,true,true,true,true,true,true,true,true,false] rfl rfl (jNb HT_.out (by kernel_rfl)) (by decide) (fun K hK=>?_)
               refine jSc Try.func72 (by kernel_rfl) rfl #[.agg #[.slice A0_0 l0_0.length c0_0], .int .i64 a3, .int .i64 ((je l1 (rd t841 x10_2)).f2)] (by rfl) rfl rfl (aq) ?_
               with_reducible refine (jpd.calls k2 _ _ l0_0 a3 ((je l1 (rd t841 x10_2)).f2) true _ ?side1 ?side2 A21.out).mono ?_
               (case side1=>exact cq (Kd.jI HR0_0.out HB.out))
               (case side2=>exact HC0_0.out)
               rintro e w25 ⟨rfl,hb⟩
               have HS1_:=(hb.cell (World.block_lt_of_cell? _ _ (hHeld.2.1))).trans (hHeld.2.1)
               have HS6_:=(hb.cell (World.block_lt_of_cell? _ _ (hHeld.2.2.2.2.2.2.1))).trans (hHeld.2.2.2.2.2.2.1)
               refine ⟨_,rfl,?_⟩
               replace HO_9:=am (Kd.jU (rq HO_9.out) hb)
               replace BK837:=am (jh (g:=gb837) (o:=.cells #[.slice A0_0 l0_0.length c0_0] 25 (0,0)) (kq BK837.out) hb)
               replace HB:=am (jd (Y39) hb)
               (try clear hb)
               (try clear hb2)
               (try clear hk)
               (try clear hi)
               refine hK.out _ _ ⟨(jH BK837.out 0).trans rfl,HS1_,((HB.out.cell (World.block_lt_of_cell? w _ hw845_0)).trans hw845_0),((HB.out.cell (World.block_lt_of_cell? w _ hw845_1)).trans hw845_1),((HB.out.cell (World.block_lt_of_cell? w _ hw845_2)).trans hw845_2),((HB.out.cell (World.block_lt_of_cell? w _ hw845_3)).trans hw845_3),HS6_,((HB.out.cell (World.block_lt_of_cell? w _ hw847_0)).trans hw847_0),((HB.out.cell (World.block_lt_of_cell? w _ hw847_1)).trans hw847_1),((HB.out.cell (World.block_lt_of_cell? w _ hw847_2)).trans hw847_2),((HB.out.cell (World.block_lt_of_cell? w _ hw847_3)).trans hw847_3)⟩ (fun hHeld=>?_)
               clear hK K
               refine jmc (a':=?_) ?_ ?_
               rotate_left
               ·show Act.put _ (some 61) _=_
                simp only [Act.put,List.setIfInBounds_toArray,List.set_cons_zero,List.set_cons_succ,jkb,job]
                rfl
               refine pq (i:=21) (N:=some 62) #[true,true,true,true,true,true,true,true,true,true,true,true,true,true,true,true,true,true,true,true,true,true] ?_
               refine jQc (jZb HT_.out (by kernel_rfl)) ?_
               have p849:0≤(x10_2:Int):=ozD (uq)
               have q849:x10_2<(t841.length:Int):=ozD (uq)
               obtain ⟨ad849,e849,hx849_0⟩:=Kd.jXa (Kd.jm HO_9.out).2.2 x10_2 p849 q849
               obtain rfl:ad844=ad849:=(by injection e849)
               replace p849:=ezT p849
               replace q849:=ezT q849
               try go_wp2
               go_ret
               exact ⟨Y0,Y39⟩
              ·replace c22:=Bool.eq_false_iff.mpr c22
               subst c22
               have H1:(jca.l0 k2 l1 a3 t841 (wrap64 (x10_2+1)) l0_0)=some r:=by rw [if_neg (show ¬ (false=true) by decide)] at H;exact H
               clear H
               have H:=H1
               clear H1
               have H':=am H
               clear H
               obtain ⟨Ao26,co26,eo26⟩:=Kd.jba HO_9.out
               subst eo26
               try go_wp2
               replace HO_9:=am (Kd.jga HO_9.out)
               replace BK837:=am (jA BK837.out)
               replace HB:=am (jD HB.out)
               have p844:0≤(x10_2:Int):=ozD (uq)
               have q844:x10_2<(t841.length:Int):=ozD (uq)
               obtain ⟨ad844,e844,hx844_0⟩:=Kd.jXa (Kd.jm HO_9.out).2.2 x10_2 p844 q844
               cases e844
               replace p844:=ezT p844
               replace q844:=ezT q844
               have p845:0≤((rd t841 x10_2):Int):=ozD (uq)
               have q845:(rd t841 x10_2)<(l1.length:Int):=ozD (uq)
               obtain ⟨ad845,e845,hx845_0,hx845_1,hx845_2,hx845_3⟩:=jsa HR1.out (rd t841 x10_2) p845 q845
               have hw845_3:=hx845_3
               have hw845_2:=hx845_2
               have hw845_1:=hx845_1
               have hw845_0:=hx845_0
               obtain rfl:ad840=ad845:=(by injection e845)
               replace hx845_0:=cb HB.out hx845_0
               replace hx845_1:=cb HB.out hx845_1
               replace hx845_2:=cb HB.out hx845_2
               replace hx845_3:=cb HB.out hx845_3
               replace p845:=ezT p845
               replace q845:=ezT q845
               have p846:0≤(x10_2:Int):=ozD (uq)
               have q846:x10_2<(t841.length:Int):=ozD (uq)
               obtain ⟨ad846,e846,hx846_0⟩:=Kd.jXa (Kd.jm HO_9.out).2.2 x10_2 p846 q846
               obtain rfl:ad844=ad846:=(by injection e846)
               replace p846:=ezT p846
               replace q846:=ezT q846
               have p847:0≤((rd t841 x10_2):Int):=ozD (uq)
               have q847:(rd t841 x10_2)<(l1.length:Int):=ozD (uq)
               obtain ⟨ad847,e847,hx847_0,hx847_1,hx847_2,hx847_3⟩:=jsa HR1.out (rd t841 x10_2) p847 q847
               have hw847_3:=hx847_3
               have hw847_2:=hx847_2
               have hw847_1:=hx847_1
               have hw847_0:=hx847_0
               obtain rfl:ad840=ad847:=(by injection e847)
               replace hx847_0:=cb HB.out hx847_0
               replace hx847_1:=cb HB.out hx847_1
               replace hx847_2:=cb HB.out hx847_2
               replace hx847_3:=cb HB.out hx847_3
               replace p847:=ezT p847
               replace q847:=ezT q847
               refine jrc (n:=22) (S:=fun w'=>w'.cell? ⟨gb837,0,none⟩=some (.slice A0_0 l0_0.length c0_0)∧w'.cell? (ad844.add (x10_2).toNat)=some (.int .i64 (rd t841 x10_2))∧w'.cell? (ad840.add (((rd t841 x10_2)).toNat * 4))=some (.int .i64 ((je l1 (rd t841 x10_2)).f0))∧w'.cell? ⟨(ad840.add (((rd t841 x10_2)).toNat * 4)).block,(ad840.add (((rd t841 x10_2)).toNat * 4)).off+1,none⟩=some (.int .i64 ((je l1 (rd t841 x10_2)).f1))∧w'.cell? ⟨(ad840.add (((rd t841 x10_2)).toNat * 4)).block,(ad840.add (((rd t841 x10_2)).toNat * 4)).off+2,none⟩=some (.int .i64 ((je l1 (rd t841 x10_2)).f2))∧w'.cell? ⟨(ad840.add (((rd t841 x10_2)).toNat * 4)).block,(ad840.add (((rd t841 x10_2)).toNat * 4)).off+3,none⟩=some (.int .i64 ((je l1 (rd t841 x10_2)).f3))∧w'.cell? (ad844.add (x10_2).toNat)=some (.int .i64 (rd t841 x10_2))∧w'.cell? (ad840.add (((rd t841 x10_2)).toNat * 4))=some (.int .i64 ((je l1 (rd t841 x10_2)).f0))∧w'.cell? ⟨(ad840.add (((rd t841 x10_2)).toNat * 4)).block,(ad840.add (((rd t841 x10_2)).toNat * 4)).off+1,none⟩=some (.int .i64 ((je l1 (rd t841 x10_2)).f1))∧w'.cell? ⟨(ad840.add (((rd t841 x10_2)).toNat * 4)).block,(ad840.add (((rd t841 x10_2)).toNat * 4)).off+2,none⟩=some (.int .i64 ((je l1 (rd t841 x10_2)).f2))∧w'.cell? ⟨(ad840.add (((rd t841 x10_2)).toNat * 4)).block,(ad840.add (((rd t841 x10_2)).toNat * 4)).off+3,none⟩=some (.int .i64 ((je l1 (rd t841 x10_2)).f3))) (ds:=[]) #[false,false,false,false,false,false,false,false,false,false,false,false,false,false,false,false,false,false,false,false,false,false] (by kernel_rfl) rfl rfl ⟨(jH BK837.out 0).trans rfl,hx844_0,((HB.out.cell (World.block_lt_of_cell? w _ hw845_0)).trans hw845_0),((HB.out.cell (World.block_lt_of_cell? w _ hw845_1)).trans hw845_1),((HB.out.cell (World.block_lt_of_cell? w _ hw845_2)).trans hw845_2),((HB.out.cell (World.block_lt_of_cell? w _ hw845_3)).trans hw845_3),hx846_0,((HB.out.cell (World.block_lt_of_cell? w _ hw847_0)).trans hw847_0),((HB.out.cell (World.block_lt_of_cell? w _ hw847_1)).trans hw847_1),((HB.out.cell (World.block_lt_of_cell? w _ hw847_2)).trans hw847_2),((HB.out.cell (World.block_lt_of_cell? w _ hw847_3)).trans hw847_3)⟩ (fun hHeld=>?_);refine jpb jca.tab9 jca.bits9 (fun HT_ HW_=>?_)
               generalize wr.drew=w27 at HO_9 BK837 HB hx844_0 hx845_0 hx845_1 hx845_2 hx845_3 hx846_0 hx847_0 hx847_1 hx847_2 hx847_3 hHeld ⊢
               refine pq (i:=0) (N:=some 41) #[true,false,false,false,false,false,false,false,false,false,false,false,false,false,false,false,false,false,false,false,false,false] ?_
               refine pq (i:=1) (N:=some 42) #[true,true,false,false,false,false,false,false,false,false,false,false,false,false,false,false,false,false,false,false,false,false] ?_
               refine pq (i:=2) (N:=some 43) #[true,true,true,false,false,false,false,false,false,false,false,false,false,false,false,false,false,false,false,false,false,false] ?_
               refine pq (i:=3) (N:=some 44) #[true,true,true,true,false,false,false,false,false,false,false,false,false,false,false,false,false,false,false,false,false,false] ?_
               refine jXb (i:=4) (N:=some 45) (v:=?_) (a':=?_) #[true,true,true,true,true,false,false,false,false,false,false,false,false,false,false,false,false,false,false,false,false,false] rfl rfl (jIa HT_.out HW_.out (by kernel_rfl)) (fun _ _ _ h=>h) (Or.inl ⟨by rfl,?_⟩) hHeld ?_ ?_
               rotate_left
               ·rintro w' ⟨s0,s1,s2,s3,s4,s5,s6,s7,s8,s9,s10⟩
                go_simp
                with_reducible rfl
               rotate_left
               ·exact sa
               refine pq (i:=5) (N:=some 46) #[true,true,true,true,true,true,false,false,false,false,false,false,false,false,false,false,false,false,false,false,false,false] ?_
               refine pq (i:=6) (N:=some 47) #[true,true,true,true,true,true,true,false,false,false,false,false,false,false,false,false,false,false,false,false,false,false] ?_
               refine jXb (i:=7) (N:=some 48) (v:=?_) (a':=?_) #[true,true,true,true,true,true,true,true,false,false,false,false,false,false,false,false,false,false,false,false,false,false] rfl rfl (jIa HT_.out HW_.out (by kernel_rfl)) (fun _ _ _ h=>h) (Or.inl ⟨by rfl,?_⟩) hHeld ?_ ?_
               rotate_left
               ·rintro w' ⟨s0,s1,s2,s3,s4,s5,s6,s7,s8,s9,s10⟩
                go_simp
                with_reducible rfl
               rotate_left
               ·exact sa
               refine pq (i:=8) (N:=some 49) #[true,true,true,true,true,true,true,true,true,false,false,false,false,false,false,false,false,false,false,false,false,false] ?_
               refine pq (i:=9) (N:=some 50) #[true,true,true,true,true,true,true,true,true,true,false,false,false,false,false,false,false,false,false,false,false,false] ?_
               refine pq (i:=11) (N:=some 52) #[true,true,true,true,true,true,true,true,true,true,false,true,false,false,false,false,false,false,false,false,false,false] ?_
               refine pq (i:=12) (N:=some 53) #[true,true,true,true,true,true,true,true,true,true,false,true,true,false,false,false,false,false,false,false,false,false] ?_
               refine pq (i:=13) (N:=some 54) #[true,true,true,true,true,true,true,true,true,true,false,true,true,true,false,false,false,false,false,false,false,false] ?_
               refine pq (i:=14) (N:=some 55) #[true,true,true,true,true,true,true,true,true,true,false,true,true,true,true,false,false,false,false,false,false,false] ?_
               refine pq (i:=15) (N:=some 56) #[true,true,true,true,true,true,true,true,true,true,false,true,true,true,true,true,false,false,false,false,false,false] ?_
               refine jXb (i:=10) (N:=some 51) (v:=?_) (a':=?_) #[true,true,true,true,true,true,true,true,true,true,true,true,true,true,true,true,false,false,false,false,false,false] rfl rfl (jIa HT_.out HW_.out (by kernel_rfl)) (fun _ _ _ h=>h) (Or.inl ⟨by rfl,?_⟩) hHeld ?_ ?_
               rotate_left
               ·rintro w' ⟨s0,s1,s2,s3,s4,s5,s6,s7,s8,s9,s10⟩
                go_simp
                with_reducible rfl
               rotate_left
               ·exact sa
               refine jXb (i:=16) (N:=some 57) (v:=?_) (a':=?_) #[true,true,true,true,true,true,true,true,true,true,true,true,true,true,true,true,true,false,false,false,false,false] rfl rfl (jIa HT_.out HW_.out (by kernel_rfl)) (fun _ _ _ h=>h) (Or.inl ⟨by rfl,?_⟩) hHeld ?_ ?_
               rotate_left
               ·rintro w' ⟨s0,s1,s2,s3,s4,s5,s6,s7,s8,s9,s10⟩
                go_simp
                with_reducible rfl
               rotate_left
               ·exact sa
               refine pq (i:=17) (N:=some 58) #[true,true,true,true,true,true,true,true,true,true,true,true,true,true,true,true,true,true,false,false,false,false] ?_
               refine pq (i:=18) (N:=some 59) #[true,true,true,true,true,true,true,true,true,true,true,true,true,true,true,true,true,true,true,false,false,false] ?_
               refine jXb (i:=19) (N:=some 60) (v:=?_) (a':=?_) #[true,true,true,true,true,true,true,true,true,true,true,true,true,true,true,true,true,true,true,true,false,false] rfl rfl (jIa HT_.out HW_.out (by kernel_rfl)) (fun _ _ _ h=>h) (Or.inl ⟨by rfl,?_⟩) hHeld ?_ ?_
               rotate_left
               ·rintro w' ⟨s0,s1,s2,s3,s4,s5,s6,s7,s8,s9,s10⟩
                go_simp
                with_reducible rfl
               rotate_left
               ·exact sa
               refine one_ (i:=20) (N:=some 61) #[true,true,true,true,true,true,true,true,true,true,true,true,true,true,true,true,true,true,true,true,true,false] rfl rfl (jNb HT_.out (by kernel_rfl)) (by decide) (fun K hK=>?_)
               refine jSc Try.func72 (by kernel_rfl) rfl #[.agg #[.slice A0_0 l0_0.length c0_0], .int .i64 a3, .int .i64 ((je l1 (rd t841 x10_2)).f2)] (by rfl) rfl rfl (aq) ?_
               with_reducible refine (jpd.calls k2 _ _ l0_0 a3 ((je l1 (rd t841 x10_2)).f2) false _ ?side1 ?side2 A21.out).mono ?_
               (case side1=>exact cq (Kd.jI HR0_0.out HB.out))
               (case side2=>exact HC0_0.out)
               rintro e w28 ⟨rfl,hb⟩
               have HS1_:=(hb.cell (World.block_lt_of_cell? _ _ (hHeld.2.1))).trans (hHeld.2.1)
               have HS6_:=(hb.cell (World.block_lt_of_cell? _ _ (hHeld.2.2.2.2.2.2.1))).trans (hHeld.2.2.2.2.2.2.1)
               refine ⟨_,rfl,?_⟩
               replace HO_9:=am (Kd.jU (rq HO_9.out) hb)
               replace BK837:=am (jh (g:=gb837) (o:=.cells #[.slice A0_0 l0_0.length c0_0] 25 (0,0)) (kq BK837.out) hb)
               replace HB:=am (jd (Y39) hb)
               (try clear hb)
               (try clear hb2)
               (try clear hk)
               (try clear hi)
               refine hK.out _ _ ⟨(jH BK837.out 0).trans rfl,HS1_,((HB.out.cell (World.block_lt_of_cell? w _ hw845_0)).trans hw845_0),((HB.out.cell (World.block_lt_of_cell? w _ hw845_1)).trans hw845_1),((HB.out.cell (World.block_lt_of_cell? w _ hw845_2)).trans hw845_2),((HB.out.cell (World.block_lt_of_cell? w _ hw845_3)).trans hw845_3),HS6_,((HB.out.cell (World.block_lt_of_cell? w _ hw847_0)).trans hw847_0),((HB.out.cell (World.block_lt_of_cell? w _ hw847_1)).trans hw847_1),((HB.out.cell (World.block_lt_of_cell? w _ hw847_2)).trans hw847_2),((HB.out.cell (World.block_lt_of_cell? w _ hw847_3)).trans hw847_3)⟩ (fun hHeld=>?_)
               clear hK K
               refine jmc (a':=?_) ?_ ?_
               rotate_left
               ·show Act.put _ (some 61) _=_
                simp only [Act.put,List.setIfInBounds_toArray,List.set_cons_zero,List.set_cons_succ,jkb,job]
                rfl
               refine pq (i:=21) (N:=some 62) #[true,true,true,true,true,true,true,true,true,true,true,true,true,true,true,true,true,true,true,true,true,true] ?_
               refine jQc (jZb HT_.out (by kernel_rfl)) ?_
               try go_wp2
               go_roundg k2
               case measure=>have:=HJ4.out;have:=HK2.out;omega
               case rel=>exact ⟨(wrap64 (x10_2+1)),(sq),H',⟨by have:=HJ4.out;have:=HK2.out;omega⟩,⟨rq HO_9.out⟩,⟨kq BK837.out⟩,⟨Y39⟩⟩
             ·rw [if_neg c20] at H
              have c20b0:(((je l1 (rd t841 x10_2)).f1) == 8)=false:=beq_eq_false_iff_ne.mpr c20
              have c20b1:(((je l1 (rd t841 x10_2)).f1) != 8)=true:=bne_iff_ne.mpr c20
              have H':=am H
              clear H
              obtain ⟨Ao29,co29,eo29⟩:=Kd.jba HO_9.out
              subst eo29
              try go_wp2
              replace HO_9:=am (Kd.jga HO_9.out)
              replace BK837:=am (jA BK837.out)
              replace HB:=am (jD HB.out)
              have p844:0≤(x10_2:Int):=ozD (uq)
              have q844:x10_2<(t841.length:Int):=ozD (uq)
              obtain ⟨ad844,e844,hx844_0⟩:=Kd.jXa (Kd.jm HO_9.out).2.2 x10_2 p844 q844
              cases e844
              replace p844:=ezT p844
              replace q844:=ezT q844
              have p845:0≤((rd t841 x10_2):Int):=ozD (uq)
              have q845:(rd t841 x10_2)<(l1.length:Int):=ozD (uq)
              obtain ⟨ad845,e845,hx845_0,hx845_1,hx845_2,hx845_3⟩:=jsa HR1.out (rd t841 x10_2) p845 q845
              have hw845_3:=hx845_3
              have hw845_2:=hx845_2
              have hw845_1:=hx845_1
              have hw845_0:=hx845_0
              obtain rfl:ad840=ad845:=(by injection e845)
              replace hx845_0:=cb HB.out hx845_0
              replace hx845_1:=cb HB.out hx845_1
              replace hx845_2:=cb HB.out hx845_2
              replace hx845_3:=cb HB.out hx845_3
              replace p845:=ezT p845
              replace q845:=ezT q845
              refine jrc (n:=22) (S:=fun w'=>w'.cell? (ad844.add (x10_2).toNat)=some (.int .i64 (rd t841 x10_2))∧w'.cell? (ad840.add (((rd t841 x10_2)).toNat * 4))=some (.int .i64 ((je l1 (rd t841 x10_2)).f0))∧w'.cell? ⟨(ad840.add (((rd t841 x10_2)).toNat * 4)).block,(ad840.add (((rd t841 x10_2)).toNat * 4)).off+1,none⟩=some (.int .i64 ((je l1 (rd t841 x10_2)).f1))∧w'.cell? ⟨(ad840.add (((rd t841 x10_2)).toNat * 4)).block,(ad840.add (((rd t841 x10_2)).toNat * 4)).off+2,none⟩=some (.int .i64 ((je l1 (rd t841 x10_2)).f2))∧w'.cell? ⟨(ad840.add (((rd t841 x10_2)).toNat * 4)).block,(ad840.add (((rd t841 x10_2)).toNat * 4)).off+3,none⟩=some (.int .i64 ((je l1 (rd t841 x10_2)).f3))) (ds:=[]) #[false,false,false,false,false,false,false,false,false,false,false,false,false,false,false,false,false,false,false,false,false,false] (by kernel_rfl) rfl rfl ⟨hx844_0,((HB.out.cell (World.block_lt_of_cell? w _ hw845_0)).trans hw845_0),((HB.out.cell (World.block_lt_of_cell? w _ hw845_1)).trans hw845_1),((HB.out.cell (World.block_lt_of_cell? w _ hw845_2)).trans hw845_2),((HB.out.cell (World.block_lt_of_cell? w _ hw845_3)).trans hw845_3)⟩ (fun hHeld=>?_);refine jpb jca.tab9 jca.bits9 (fun HT_ HW_=>?_)
              generalize wr.drew=w30 at HO_9 BK837 HB hx844_0 hx845_0 hx845_1 hx845_2 hx845_3 hHeld ⊢
              refine pq (i:=0) (N:=some 41) #[true,false,false,false,false,false,false,false,false,false,false,false,false,false,false,false,false,false,false,false,false,false] ?_
              refine pq (i:=1) (N:=some 42) #[true,true,false,false,false,false,false,false,false,false,false,false,false,false,false,false,false,false,false,false,false,false] ?_
              refine pq (i:=2) (N:=some 43) #[true,true,true,false,false,false,false,false,false,false,false,false,false,false,false,false,false,false,false,false,false,false] ?_
              refine pq (i:=3) (N:=some 44) #[true,true,true,true,false,false,false,false,false,false,false,false,false,false,false,false,false,false,false,false,false,false] ?_
              refine jXb (i:=4) (N:=some 45) (v:=?_) (a':=?_) #[true,true,true,true,true,false,false,false,false,false,false,false,false,false,false,false,false,false,false,false,false,false] rfl rfl (jIa HT_.out HW_.out (by kernel_rfl)) (fun _ _ _ h=>h) (Or.inl ⟨by rfl,?_⟩) hHeld ?_ ?_
              rotate_left
              ·rintro w' ⟨s0,s1,s2,s3,s4⟩
               go_simp
               with_reducible rfl
              rotate_left
              ·exact sa
              refine pq (i:=5) (N:=some 46) #[true,true,true,true,true,true,false,false,false,false,false,false,false,false,false,false,false,false,false,false,false,false] ?_
              refine pq (i:=6) (N:=some 47) #[true,true,true,true,true,true,true,false,false,false,false,false,false,false,false,false,false,false,false,false,false,false] ?_
              refine jXb (i:=7) (N:=some 48) (v:=?_) (a':=?_) #[true,true,true,true,true,true,true,true,false,false,false,false,false,false,false,false,false,false,false,false,false,false] rfl rfl (jIa HT_.out HW_.out (by kernel_rfl)) (fun _ _ _ h=>h) (Or.inl ⟨by rfl,?_⟩) hHeld ?_ ?_
              rotate_left
              ·rintro w' ⟨s0,s1,s2,s3,s4⟩
               go_simp
               with_reducible rfl
              rotate_left
              ·exact sa
              refine pq (i:=8) (N:=some 49) #[true,true,true,true,true,true,true,true,true,false,false,false,false,false,false,false,false,false,false,false,false,false] ?_
              refine pq (i:=9) (N:=some 50) #[true,true,true,true,true,true,true,true,true,true,false,false,false,false,false,false,false,false,false,false,false,false] ?_
              refine jac (i:=10) (N:=some 51) (v:=undef) (a':=?_) #[true,true,true,true,true,true,true,true,true,true,true,false,false,false,false,false,false,false,false,false,false,false] rfl rfl (jub HT_.out (by kernel_rfl)) (fun _ _ _ h=>h) (Or.inr ⟨by rfl,rfl⟩) ?_ ?_
              rotate_left
              ·exact sa
              refine jac (i:=11) (N:=some 52) (v:=undef) (a':=?_) #[true,true,true,true,true,true,true,true,true,true,true,true,false,false,false,false,false,false,false,false,false,false] rfl rfl (jub HT_.out (by kernel_rfl)) (fun _ _ _ h=>h) (Or.inr ⟨by rfl,rfl⟩) ?_ ?_
              rotate_left
              ·exact sa
              refine jac (i:=12) (N:=some 53) (v:=undef) (a':=?_) #[true,true,true,true,true,true,true,true,true,true,true,true,true,false,false,false,false,false,false,false,false,false] rfl rfl (jub HT_.out (by kernel_rfl)) (fun _ _ _ h=>h) (Or.inr ⟨by rfl,rfl⟩) ?_ ?_
              rotate_left
              ·exact sa
              refine jac (i:=13) (N:=some 54) (v:=undef) (a':=?_) #[true,true,true,true,true,true,true,true,true,true,true,true,true,true,false,false,false,false,false,false,false,false] rfl rfl (jub HT_.out (by kernel_rfl)) (fun _ _ _ h=>h) (Or.inr ⟨by rfl,rfl⟩) ?_ ?_
              rotate_left
              ·exact sa
              refine jac (i:=14) (N:=some 55) (v:=undef) (a':=?_) #[true,true,true,true,true,true,true,true,true,true,true,true,true,true,true,false,false,false,false,false,false,false] rfl rfl (jub HT_.out (by kernel_rfl)) (fun _ _ _ h=>h) (Or.inr ⟨by rfl,rfl⟩) ?_ ?_
              rotate_left
              ·exact sa
              refine jac (i:=15) (N:=some 56) (v:=undef) (a':=?_) #[true,true,true,true,true,true,true,true,true,true,true,true,true,true,true,true,false,false,false,false,false,false] rfl rfl (jub HT_.out (by kernel_rfl)) (fun _ _ _ h=>h) (Or.inr ⟨by rfl,rfl⟩) ?_ ?_
              rotate_left
              ·exact sa
              refine jac (i:=16) (N:=some 57) (v:=undef) (a':=?_) #[true,true,true,true,true,true,true,true,true,true,true,true,true,true,true,true,true,false,false,false,false,false] rfl rfl (jub HT_.out (by kernel_rfl)) (fun _ _ _ h=>h) (Or.inr ⟨by rfl,rfl⟩) ?_ ?_
              rotate_left
              ·exact sa
              refine jac (i:=17) (N:=some 58) (v:=undef) (a':=?_) #[true,true,true,true,true,true,true,true,true,true,true,true,true,true,true,true,true,true,false,false,false,false] rfl rfl (jub HT_.out (by kernel_rfl)) (fun _ _ _ h=>h) (Or.inr ⟨by rfl,rfl⟩) ?_ ?_
              rotate_left
              ·exact sa
              refine jac (i:=18) (N:=some 59) (v:=undef) (a':=?_) #[true,true,true,true,true,true,true,true,true,true,true,true,true,true,true,true,true,true,true,false,false,false] rfl rfl (jub HT_.out (by kernel_rfl)) (fun _ _ _ h=>h) (Or.inr ⟨by rfl,rfl⟩) ?_ ?_
              rotate_left
              ·exact sa
              refine jac (i:=19) (N:=some 60) (v:=undef) (a':=?_) #[true,true,true,true,true,true,true,true,true,true,true,true,true,true,true,true,true,true,true,true,false,false] rfl rfl (jub HT_.out (by kernel_rfl)) (fun _ _ _ h=>h) (Or.inr ⟨by rfl,rfl⟩) ?_ ?_
              rotate_left
              ·exact sa
              refine jac (i:=20) (N:=some 61) (v:=undef) (a':=?_) #[true,true,true,true,true,true,true,true,true,true,true,true,true,true,true,true,true,true,true,true,true,false] rfl rfl (jub HT_.out (by kernel_rfl)) (fun _ _ _ h=>h) (Or.inr ⟨by rfl,rfl⟩) ?_ ?_
              rotate_left
              ·exact sa
              refine pq (i:=21) (N:=some 62) #[true,true,true,true,true,true,true,true,true,true,true,true,true,true,true,true,true,true,true,true,true,true] ?_
              refine jQc (jZb HT_.out (by kernel_rfl)) ?_
              try go_wp2
              go_roundg k2
              case measure=>have:=HJ4.out;have:=HK2.out;omega
              case rel=>exact ⟨(wrap64 (x10_2+1)),(sq),H',⟨by have:=HJ4.out;have:=HK2.out;omega⟩,⟨rq HO_9.out⟩,⟨kq BK837.out⟩,⟨Y39⟩⟩
            ·rw [if_neg c19] at H
             exact absurd H (by simp)
           ·rw [if_neg c18] at H
            exact absurd H (by simp)
          ·rw [if_neg c17] at H
           exact absurd H (by simp)
         ·rw [if_neg c16] at H
          have c16b0:decide (x10_2<(t841.length:Int))=false:=dzF c16
          clear c16
          obtain rfl:=Option.some.inj H
          obtain ⟨Ao31,co31,eo31⟩:=Kd.jba HO_9.out
          subst eo31
          go_wp2
          go_ret
          exact ⟨Y0,Y39⟩
      ·rw [if_neg c13] at H
       have c13b0:(((je l1 a2).f1) == 7)=false:=beq_eq_false_iff_ne.mpr c13
       have c13b1:(((je l1 a2).f1) != 7)=true:=bne_iff_ne.mpr c13
       obtain rfl:=Option.some.inj H
       have p840:0≤(a2:Int):=ozD (uq)
       have q840:a2<(l1.length:Int):=ozD (uq)
       obtain ⟨ad840,e840,hx840_0,hx840_1,hx840_2,hx840_3⟩:=jsa HR1.out a2 p840 q840
       cases e840
       replace hx840_0:=cb HB.out hx840_0
       replace hx840_1:=cb HB.out hx840_1
       replace hx840_2:=cb HB.out hx840_2
       replace hx840_3:=cb HB.out hx840_3
       replace p840:=ezT p840
       replace q840:=ezT q840
       go_wp2
       go_ret
       exact ⟨Y0,Y39⟩
     ·rw [if_neg c12] at H
      exact absurd H (by simp)
    ·rw [if_neg c11] at H
     exact absurd H (by simp)
end Go.Proofs.Ytkedkinojeoeaaa.P
end
