/- One part of the proofs on this program: functions of the program as plain functions, that the code comes to them, and facts on them. -/
import Derived.Test.YtkedkinojeoeaaaYAll1
import Derived.Test.YtkedkinojeoeaaaYAll6
import Derived.Test.YtkedkinojeoeaaaYAll7
import Derived.Test.YtkedkinojeoeaaaYAll8
import Derived.Test.YtkedkinojeoeaaaYWAuto
section
namespace Go.Proofs.Ytkedkinojeoeaaa.P
open Go.RowKit Go.Proofs.YtkedkinojeoeaaaW.PrintWords Go.Proofs.YtkedkinojeoeaaaW.PrintLast Go.Proofs.YtkedkinojeoeaaaW.PrintMore
attribute [local go_sem] joa jma jya jxa jZ jY jna jla ji
set_option linter.unusedVariables false
set_option linter.unusedSimpArgs false
def jyb.l0 : Nat → Int → List Int → List (S75) → Option (List Int)
 | 0,_,_,_=>none
 | k+1,x1,x5,x825000=>if x1≥0 then (if x5.length<17592186044416 then (if 0≤x1 then (if x1<(x825000.length:Int) then (jyb.l0 k ((jka x825000 x1).f1) (x5 ++ [x1]) x825000) else (none)) else (none)) else (none)) else (some x5)
def jyb.f (k : Nat) (l0_0 : List (S75)) (a1 : Int) : Option (List Int) := jyb.l0 k a1 (([] : List Int)) l0_0
set_option maxHeartbeats 8000000 in
set_option maxRecDepth 100000 in
theorem jyb.calls (k : Nat) (A0_0 : Option Addr) (c0_0 : Nat) (l0_0 : List (S75)) (a1 : Int) (r : List Int) (w : World) (hr0_0 : Kd.C k75 w A0_0 l0_0.length l0_0) (hc0_0 : l0_0.length ≤ c0_0) (h : jyb.f k l0_0 a1 = some r) :
  Calls Try.prog 87 #[.agg #[.slice A0_0 l0_0.length c0_0], .int .i64 a1] w fun e w'=>∃ v0_:Value,e=.returned (v0_)∧Kd.R (Kd.int .i64) 3 w' w.heap.size (fun _=>True) v0_ r∧Below w.heap.size w w':=by
 have hu25:=Try.underlying25
 have HR0_0:=am hr0_0
 have HC0_0:=am hc0_0
 clear hr0_0 hc0_0
 have HB:=am (Below.refl w.heap.size w)
 have H:(jyb.l0 k a1 (([]:List Int)) l0_0)=some r:=h
 clear h
 obtain ⟨y825,hy825⟩:∃ y_:List Int,y_=(([]:List Int)):=⟨_,rfl⟩
 replace H:(jyb.l0 k a1 y825 l0_0)=some r:=by first |(rw [hy825];with_reducible exact H) |(have H2_:=(Option.bind_some _ _).symm.trans H;rw [hy825];with_reducible exact H2_) |(have H2_:=(Option.bind_some _ _).symm.trans H;with_reducible exact H2_) | with_reducible exact H |(rw [hy825];exact H) | exact H
 have Ny825:=am hy825
 clear hy825
 have H':=am H
 clear H
 go_enter Try.func87,Try.ntmps87
 go_wp2_with (first |((with_reducible refine jJ (N:=2) rfl ?_);refine bE (N:=2) (cs:=#[.slice A0_0 l0_0.length c0_0]) (t:=25) ?_;intro gb824 hg w3 hbox hb;have BK824:=am (hbox);have GW824:=am ((Y3:w.heap.size≤gb824));have GE824:=am ((Y3:w.heap.size≤gb824));replace HB:=am (je (bq) hb);clear hb hbox hg) |((with_reducible refine jJ (N:=6) rfl ?_);refine Kd.jtc (Kd.int .i64) _ 3 ?hg (N:=6) ?hd (xs:=([]:List Int)) (inner:=[]) (ok:=fun _=>True) (okp:=fun _=>True) ?hr ?hp (fun _ hk=>hk) trivial (Below.refl _ _) (Nat.le_refl _) (by simp) ?_;(case hd=>rfl);(case hg=>rfl);(case hr=>exact Y6);(case hp=>exact (Reps.none _ _));intro v826 w4 ho5 hb hg_ hnew_;clear hg_ hnew_;(first | rw [← Ny825.out] at ho5 |(simp only [Int.reduceToNat] at ho5;rw [← Ny825.out] at ho5));have HO827:=am (Kd.jV ho5 (jT (Y66)));replace BK824:=am (jk (g:=gb824) (o:=.cells #[.slice A0_0 l0_0.length c0_0] 25 (0,0)) (kq BK824.out) hb);replace HB:=am (je (Y66) hb);clear hb ho5))
 go_loopg [1,5] k (fun kq v1 v5 w'=>∃ (x1_1:Int) (x5_1:List Int),v1=.int .i64 x1_1∧jl (jyb.l0 kq x1_1 x5_1 l0_0=some r)∧jl (kq≤k)∧jl (Kd.R (Kd.int .i64) 3 w' w.heap.size (fun _=>True) v5 x5_1)∧jl (w'.heap[gb824]?=some (.cells #[(.slice A0_0 l0_0.length c0_0)] 25 (0,0)))∧jl (Below w.heap.size w w'))
 case atStart=>exact ⟨(a1),(y825),(sq),H',⟨Nat.le_refl _⟩,⟨rq HO827.out⟩,⟨kq BK824.out⟩,⟨Y66⟩⟩
 case round =>
  clear H'
  try clear p2
  obtain ⟨x1_1,x5_1,rfl,HA,HK1,HO_5,BK824,HB⟩:=hrel
  cases gk with
  | zero=>exact absurd HA.out (by simp [jyb.l0])
  | succ k1 =>
   have H:=HA.out
   clear HA
   simp only [jyb.l0] at H
   by_cases c6:x1_1≥0
   ·rw [if_pos c6] at H
    have c6b0:decide (0≤x1_1)=true:=dzT c6
    clear c6
    by_cases c7:x5_1.length<17592186044416
    ·rw [if_pos c7] at H
     have LMc7:=am c7
     clear c7
     obtain ⟨y828,hy828⟩:∃ y_:List Int,y_=(x5_1 ++ [x1_1]):=⟨_,rfl⟩
     replace H:(if 0≤x1_1 then (if x1_1<(l0_0.length:Int) then (jyb.l0 k1 ((jka l0_0 x1_1).f1) y828 l0_0) else (none)) else (none))=some r:=by first |(rw [hy828];with_reducible exact H) |(have H2_:=(Option.bind_some _ _).symm.trans H;rw [hy828];with_reducible exact H2_) |(have H2_:=(Option.bind_some _ _).symm.trans H;with_reducible exact H2_) | with_reducible exact H |(rw [hy828];exact H) | exact H
     have Ny828:=am hy828
     clear hy828
     by_cases c8:0≤x1_1
     ·rw [if_pos c8] at H
      have c8b0:decide (0≤x1_1)=true:=dzT c8
      clear c8
      by_cases c9:x1_1<(l0_0.length:Int)
      ·rw [if_pos c9] at H
       have c9b0:decide (x1_1<(l0_0.length:Int))=true:=dzT c9
       clear c9
       have H':=am H
       clear H
       go_wp2_with (first |((with_reducible refine jNa (b:=.append) (xs:=#[.tmp 15, .tmp 17]) rfl ?_);at_builtin;refine Kd.jbc (Kd.int .i64) (w0:=w) w.heap.size rfl (.tmp 15) (.tmp 17) 29 3 (.int .i64 0) 8 rfl Try.underlying29 info3 rfl (by decide) (by omega) u5 x5_1 x1_1 [.int .i64 x1_1] (fun _=>True) (fun _=>False) rfl rfl ?aP (fun _ hk=>hk.elim) ?aF ?aO ?aB ?aS ?aL ?_;(case aP=>exact rfl);(case aB=>exact (Y66));(case aF=>exact (fun _ _=>trivial));(case aO=>exact (rq HO_5.out));(case aS=>exact (jT (Y66)));(case aL=>have:=LMc7.out;omega);intro v829 w10 ho hb hg hat;rw [← Ny828.out] at ho;have n0_:=am (jdb (g:=gb824) (o:=.cells #[.slice A0_0 l0_0.length c0_0] 25 (0,0)) (kq BK824.out) hg (Kd.R_ne HO_5.out BK824.out (by decide)));have n1_:=am (hb);have n2_:=am (ho);clear BK824 HB HO_5;have BK824:=n0_;have HB:=n1_;have HO830:=n2_;clear n0_ n1_ n2_ ho hb hg hat;have hcz11_0:=bc0 BK824.out;have hfz11_0:=ja BK824.out 0;have p831:0≤(x1_1:Int):=ozD (uq);have q831:x1_1<(l0_0.length:Int):=ozD (uq);obtain ⟨ad831,e831,hx831_0,hx831_1⟩:=at_T75 HR0_0.out x1_1 p831 q831;cases e831;replace hx831_0:=cb HB.out hx831_0;replace hx831_1:=cb HB.out hx831_1;replace p831:=ezT p831;replace q831:=ezT q831))
       go_roundg k1
       case measure=>have:=HK1.out;omega
       case rel=>exact ⟨((jka l0_0 x1_1).f1),(y828),(sq),H',⟨by have:=HK1.out;omega⟩,⟨rq HO830.out⟩,⟨kq BK824.out⟩,⟨Y66⟩⟩
      ·rw [if_neg c9] at H
       exact absurd H (by simp)
     ·rw [if_neg c8] at H
      exact absurd H (by simp)
    ·rw [if_neg c7] at H
     exact absurd H (by simp)
   ·rw [if_neg c6] at H
    have c6b0:decide (0≤x1_1)=false:=dzF c6
    clear c6
    obtain rfl:=Option.some.inj H
    go_wp2
    go_ret
    exact ⟨_,Y0,rq HO_5.out,Y66⟩
def jhd.f (k : Nat) (l0_0 : List (S75)) (a1 : Int) (a2 : Int) : Option (Bool) := (jyb.f k l0_0 a1).bind fun t833 => ((job.f k t833 a2).bind fun t836 => (some t836))
set_option maxHeartbeats 8000000 in
set_option maxRecDepth 100000 in
theorem jhd.calls (k : Nat) (A0_0 : Option Addr) (c0_0 : Nat) (l0_0 : List (S75)) (a1 : Int) (a2 : Int) (r : Bool) (w : World) (hr0_0 : Kd.C k75 w A0_0 l0_0.length l0_0) (hc0_0 : l0_0.length ≤ c0_0) (h : jhd.f k l0_0 a1 a2 = some r) :
  Calls Try.prog 72 #[.agg #[.slice A0_0 l0_0.length c0_0], .int .i64 a1, .int .i64 a2] w fun e w'=>e=.returned (.bool r)∧Below w.heap.size w w':=by
 have hu25:=Try.underlying25
 have HR0_0:=am hr0_0
 have HC0_0:=am hc0_0
 clear hr0_0 hc0_0
 have HB:=am (Below.refl w.heap.size w)
 have H:((jyb.f k l0_0 a1).bind fun t833=>((job.f k t833 a2).bind fun t836=>(some t836)))=some r:=h
 clear h
 replace H:=bzS H
 obtain ⟨t833,A40,H⟩:=H
 replace H:((job.f k t833 a2).bind fun t836=>(some t836))=some r:=H
 have A4:=am A40
 clear A40
 replace H:=bzS H
 obtain ⟨t836,A50,H⟩:=H
 replace H:(some t836)=some r:=H
 have A5:=am A50
 clear A50
 obtain rfl:=Option.some.inj H
 go_enter Try.func72,Try.ntmps72
 go_wp2_with (first |((with_reducible refine jJ (N:=3) rfl ?_);refine bE (N:=3) (cs:=#[.slice A0_0 l0_0.length c0_0]) (t:=25) ?_;intro gb832 hg w6 hbox hb;have BK832:=am (hbox);have GW832:=am ((Y3:w.heap.size≤gb832));have GE832:=am ((Y3:w.heap.size≤gb832));replace HB:=am (je (bq) hb);clear hb hbox hg;have hcz7_0:=bc0 BK832.out;have hfz7_0:=ja BK832.out 0) |((with_reducible refine jd (f:=87) rfl ?_);refine gL (some 9) Try.func87 #[.agg #[.slice A0_0 l0_0.length c0_0], .int .i64 a1] ?_;(with_reducible refine (jyb.calls k _ _ l0_0 a1 t833 _ ?side1 ?side2 A4.out).mono ?_);(case side1=>exact cq (Kd.jN HR0_0.out HB.out));(case side2=>exact HC0_0.out);rintro e w8 ⟨v834,rfl,ho0,hb⟩;refine ⟨_,rfl,?_⟩;have HO835:=am (Kd.jV ho0 (jT (Y112)));replace BK832:=am (jk (g:=gb832) (o:=.cells #[.slice A0_0 l0_0.length c0_0] 25 (0,0)) (kq BK832.out) hb);replace HB:=am (je (Y112) hb);(try clear hb);(try clear hb2);(try clear hk);(try clear hi);(try clear ho0);obtain ⟨Ao9,co9,eo9⟩:=Kd.jca HO835.out;subst eo9) |((with_reducible refine jd (f:=86) rfl ?_);refine gL (some 11) Try.func86 #[.slice Ao9 t833.length co9, .int .i64 a2] ?_;(with_reducible refine (job.calls k _ _ t833 a2 t836 _ ?side1 ?side2 A5.out).mono ?_);(case side1=>exact cq (Kd.jq HO835.out).2.2);(case side2=>exact (Kd.jq HO835.out).2.1);rintro e w' ⟨rfl,⟨nd,rfl⟩⟩;refine ⟨_,rfl,?_⟩))
 go_ret
 exact ⟨Y0,Y112⟩
mutual
def jaa.j0 : Nat → List (S36) → Int → Int → Bool → List (S75) → Option (Int)
 | 0,_,_,_,_,_=>none
 | k+1,x1,x2,x3,x24,x838000=>if x24=true then (some x2) else (if 0≤x2 then (if x2<(x1.length:Int) then (if ((jc x1 x2).f1)=7 then ((jwa.f k x1 x2).bind fun t841=>(jaa.l0 k x1 x3 t841 1 x838000)) else (some (-1))) else (none)) else (none))
def jaa.l0 : Nat → List (S36) → Int → List Int → Int → List (S75) → Option (Int)
 | 0,_,_,_,_,_=>none
 | k+1,x1,x3,x9,x10,x838000=>if x10<(x9.length:Int) then (if 0≤x10 then (if 0≤(rd x9 x10) then (if (rd x9 x10)<(x1.length:Int) then (if ((jc x1 (rd x9 x10)).f1)=8 then ((jhd.f k x838000 x3 ((jc x1 (rd x9 x10)).f2)).bind fun t848=>(if t848=true then (some (rd x9 x10)) else (jaa.l0 k x1 x3 x9 (wrap64 (x10+1)) x838000))) else (jaa.l0 k x1 x3 x9 (wrap64 (x10+1)) x838000)) else (none)) else (none)) else (none)) else (some (-1))
end
def jaa.f (k : Nat) (l0_0 : List (S75)) (l1 : List (S36)) (a2 : Int) (a3 : Int) : Option (Int) := if 0 ≤ a2 then (if a2 < (l1.length : Int) then (if ((jc l1 a2).f1) = 11 then (jaa.j0 k l1 a2 a3 (((jc l1 a2).f3) == 1) l0_0) else (jaa.j0 k l1 a2 a3 false l0_0)) else (none)) else (none)
def jaa.T9 : Bool × List (List Nat × List Nat) := (true, [([], []), ([], []), ([], []), ([1, 2], [1, 2]), ([3], [3]), ([0, 4], [0, 4]), ([5], [5]), ([6], [6]), ([7], [7]), ([8], [8]), ([9], [9]), ([9], [9]), ([9], [9]), ([9], [9]), ([9], [9]), ([13, 14, 9], [9, 13, 14]), ([15, 9], [9, 15]), ([12, 16, 9], [9, 12, 16]), ([17, 9], [9, 17]), ([18, 9], [9, 18]), ([10, 11, 19, 9, 9], [9, 10, 11, 19]), ([9, 20], [9, 20])])
def jaa.B9 : List Nat := [0, 0, 0, 6, 14, 31, 63, 127, 255, 511, 1023, 1023, 1023, 1023, 1023, 25599, 58367, 127999, 259071, 521215, 1048575, 2097151]
theorem jaa.tab9 : rtab .any (opsOf Try.f51 9) = jaa.T9 := by kernel_rfl
theorem jaa.bits9 : jzc jaa.T9.2 jaa.B9 = true := by kernel_rfl
set_option maxHeartbeats 8000000 in
set_option maxRecDepth 100000 in
theorem jaa.calls (k : Nat) (A0_0 : Option Addr) (c0_0 : Nat) (l0_0 : List (S75)) (A1 : Option Addr) (c1 : Nat) (l1 : List (S36)) (a2 : Int) (a3 : Int) (r : Int) (w : World) (hr0_0 : Kd.C k75 w A0_0 l0_0.length l0_0) (hc0_0 : l0_0.length ≤ c0_0) (hr1 : Kd.C k36 w A1 l1.length l1) (hc1 : l1.length ≤ c1) (h : jaa.f k l0_0 l1 a2 a3 = some r) :
  Calls Try.prog 51 #[.agg #[.slice A0_0 l0_0.length c0_0], .slice A1 l1.length c1, .int .i64 a2, .int .i64 a3] w fun e w'=>e=.returned (.int .i64 r)∧Below w.heap.size w w':=by
 have hu25:=Try.underlying25
 have HR0_0:=am hr0_0
 have HC0_0:=am hc0_0
 clear hr0_0 hc0_0
 have HR1:=am hr1
 have HC1:=am hc1
 clear hr1 hc1
 have HB:=am (Below.refl w.heap.size w)
 have H:(if 0≤a2 then (if a2<(l1.length:Int) then (if ((jc l1 a2).f1)=11 then (jaa.j0 k l1 a2 a3 (((jc l1 a2).f3) == 1) l0_0) else (jaa.j0 k l1 a2 a3 false l0_0)) else (none)) else (none))=some r:=h
 clear h
 have HC5:=am H
 clear H
 go_enter Try.func51,Try.ntmps51
 go_upto_region 1 with (first |((with_reducible refine jJ (N:=4) rfl ?_);refine bE (N:=4) (cs:=#[.slice A0_0 l0_0.length c0_0]) (t:=25) ?_;intro gb837 hg w6 hbox hb;have BK837:=am (hbox);have GW837:=am ((Y3:w.heap.size≤gb837));have GE837:=am ((Y3:w.heap.size≤gb837));replace HB:=am (je (bq) hb);clear hb hbox hg))
 (try simp only [Act.put,List.setIfInBounds_toArray,List.set_cons_zero,List.set_cons_succ])
 go_cut [24] (fun v24 wc=>∃ (kq:Nat) (x24_4:Bool),v24=.bool x24_4∧jl (jaa.j0 kq l1 a2 a3 x24_4 l0_0=some r)∧jl (kq≤k)∧jl (wc.heap[gb837]?=some (.cells #[(.slice A0_0 l0_0.length c0_0)] 25 (0,0)))∧jl (Below w.heap.size w wc))
 case first =>
  have H:=HC5.out
  clear HC5
  by_cases c7:0≤a2
  ·rw [if_pos c7] at H
   have c7b0:decide (0≤a2)=true:=dzT c7
   clear c7
   (first | rw [c7b0] |(simp only [jmb,jub];rw [c7b0]) | skip)
   by_cases c8:a2<(l1.length:Int)
   ·rw [if_pos c8] at H
    have c8b0:decide (a2<(l1.length:Int))=true:=dzT c8
    clear c8
    by_cases c9:((jc l1 a2).f1)=11
    ·rw [if_pos c9] at H
     have c9b0:(((jc l1 a2).f1) == 11)=true:=beq_iff_eq.mpr c9
     have c9b1:(((jc l1 a2).f1) != 11)=false:=bne_eq_false_iff_eq.mpr c9
     clear c9
     have H':=am H
     clear H
     have p838:0≤(a2:Int):=ozD (uq)
     have q838:a2<(l1.length:Int):=ozD (uq)
     obtain ⟨ad838,e838,hx838_0,hx838_1,hx838_2,hx838_3⟩:=jpa HR1.out a2 p838 q838
     cases e838
     replace hx838_0:=cb HB.out hx838_0
     replace hx838_1:=cb HB.out hx838_1
     replace hx838_2:=cb HB.out hx838_2
     replace hx838_3:=cb HB.out hx838_3
     replace p838:=ezT p838
     replace q838:=ezT q838
     have p839:0≤(a2:Int):=ozD (uq)
     have q839:a2<(l1.length:Int):=ozD (uq)
     obtain ⟨ad839,e839,hx839_0,hx839_1,hx839_2,hx839_3⟩:=jpa HR1.out a2 p839 q839
     obtain rfl:ad838=ad839:=(by injection e839)
     replace hx839_0:=cb HB.out hx839_0
     replace hx839_1:=cb HB.out hx839_1
     replace hx839_2:=cb HB.out hx839_2
     replace hx839_3:=cb HB.out hx839_3
     replace p839:=ezT p839
     replace q839:=ezT q839
     go_wp2
     go_meet
     case rel=>exact ⟨_,((((jc l1 a2).f3) == 1)),(sq),H',⟨Y21⟩,⟨kq BK837.out⟩,⟨Y37⟩⟩
    ·rw [if_neg c9] at H
     have c9b0:(((jc l1 a2).f1) == 11)=false:=beq_eq_false_iff_ne.mpr c9
     have c9b1:(((jc l1 a2).f1) != 11)=true:=bne_iff_ne.mpr c9
     have H':=am H
     clear H
     have p838:0≤(a2:Int):=ozD (uq)
     have q838:a2<(l1.length:Int):=ozD (uq)
     obtain ⟨ad838,e838,hx838_0,hx838_1,hx838_2,hx838_3⟩:=jpa HR1.out a2 p838 q838
     cases e838
     replace hx838_0:=cb HB.out hx838_0
     replace hx838_1:=cb HB.out hx838_1
     replace hx838_2:=cb HB.out hx838_2
     replace hx838_3:=cb HB.out hx838_3
     replace p838:=ezT p838
     replace q838:=ezT q838
     go_wp2
     go_meet
     case rel=>exact ⟨_,(false),(sq),H',⟨Y21⟩,⟨kq BK837.out⟩,⟨Y37⟩⟩
   ·rw [if_neg c8] at H
    exact absurd H (by simp)
  ·rw [if_neg c7] at H
   exact absurd H (by simp)
 case rest =>
  clear HC5
  try clear c1
  try clear p2
  try clear c5
  try clear c7
  try clear c7b0
  try clear c8
  try clear c8b0
  try clear p8
  try clear q8
  try clear hx8
  try clear c9
  try clear c9b0
  try clear c9b1
  try clear hx838_0
  try clear hx838_1
  try clear hx838_2
  try clear hx838_3
  try clear hx839_0
  try clear hx839_1
  try clear hx839_2
  try clear hx839_3
  try clear p838
  try clear p839
  try clear q838
  try clear q839
  obtain ⟨kq,x24_4,rfl,HA,HJ4,BK837,HB⟩:=hcut
  cases kq with
  | zero=>exact absurd HA.out (by simp [jaa.j0])
  | succ kj4 =>
   have H:=HA.out
   clear HA
   simp only [jaa.j0] at H
   by_cases c10:x24_4=true
   ·subst c10
    have H1:(some a2)=some r:=by rw [if_pos rfl] at H;exact H
    clear H
    have H:=H1
    clear H1
    obtain rfl:=Option.some.inj H
    go_wp2
    go_ret
    exact ⟨Y0,Y37⟩
   ·replace c10:=Bool.eq_false_iff.mpr c10
    subst c10
    have H1:(if 0≤a2 then (if a2<(l1.length:Int) then (if ((jc l1 a2).f1)=7 then ((jwa.f kj4 l1 a2).bind fun t841=>(jaa.l0 kj4 l1 a3 t841 1 l0_0)) else (some (-1))) else (none)) else (none))=some r:=by rw [if_neg (show ¬ (false=true) by decide)] at H;exact H
    clear H
    have H:=H1
    clear H1
    by_cases c11:0≤a2
    ·rw [if_pos c11] at H
     have c11b0:decide (0≤a2)=true:=dzT c11
     clear c11
     by_cases c12:a2<(l1.length:Int)
     ·rw [if_pos c12] at H
      have c12b0:decide (a2<(l1.length:Int))=true:=dzT c12
      clear c12
      by_cases c13:((jc l1 a2).f1)=7
      ·rw [if_pos c13] at H
       have c13b0:(((jc l1 a2).f1) == 7)=true:=beq_iff_eq.mpr c13
       have c13b1:(((jc l1 a2).f1) != 7)=false:=bne_eq_false_iff_eq.mpr c13
       clear c13
       replace H:=bzS H
       obtain ⟨t841,A140,H⟩:=H
       replace H:(jaa.l0 kj4 l1 a3 t841 1 l0_0)=some r:=H
       have A14:=am A140
       clear A140
       have H':=am H
       clear H
       have p840:0≤(a2:Int):=ozD (uq)
       have q840:a2<(l1.length:Int):=ozD (uq)
       obtain ⟨ad840,e840,hx840_0,hx840_1,hx840_2,hx840_3⟩:=jpa HR1.out a2 p840 q840
       cases e840
       replace hx840_0:=cb HB.out hx840_0
       replace hx840_1:=cb HB.out hx840_1
       replace hx840_2:=cb HB.out hx840_2
       replace hx840_3:=cb HB.out hx840_3
       replace p840:=ezT p840
       replace q840:=ezT q840
       go_wp2_with (first |((with_reducible refine jd (f:=71) rfl ?_);refine gL (some 34) Try.func71 #[.slice (some ad840) l1.length c1, .int .i64 a2] ?_;(with_reducible refine (jwa.calls kj4 _ _ l1 a2 t841 _ ?side1 ?side2 A14.out).mono ?_);(case side1=>exact cq (Kd.jN HR1.out HB.out));(case side2=>exact HC1.out);rintro e w15 ⟨v842,rfl,ho0,hb⟩;refine ⟨_,rfl,?_⟩;have HO843:=am (Kd.jV ho0 (jT (Y37)));replace BK837:=am (jk (g:=gb837) (o:=.cells #[.slice A0_0 l0_0.length c0_0] 25 (0,0)) (kq BK837.out) hb);replace HB:=am (je (Y37) hb);(try clear hb);(try clear hb2);(try clear hk);(try clear hi);(try clear ho0)))
       go_loopg [10] kj4 (fun kq v10 w'=>∃ (x10_2:Int),v10=.int .i64 x10_2∧jl (jaa.l0 kq l1 a3 t841 x10_2 l0_0=some r)∧jl (kq≤kj4)∧jl (Kd.R (Kd.int .i64) 3 w' w.heap.size (fun _=>True) v842 t841)∧jl (w'.heap[gb837]?=some (.cells #[(.slice A0_0 l0_0.length c0_0)] 25 (0,0)))∧jl (Below w.heap.size w w'))
       case atStart=>exact ⟨(1),(sq),H',⟨Nat.le_refl _⟩,⟨rq HO843.out⟩,⟨kq BK837.out⟩,⟨Y37⟩⟩
       case round =>
        clear H'
        try clear c1
        try clear p2
        try clear c5
        try clear c7
        try clear c7b0
        try clear c8
        try clear c8b0
        try clear p8
        try clear q8
        try clear hx8
        try clear c9
        try clear c9b0
        try clear c9b1
        try clear c10
        try clear c11
        try clear c11b0
        try clear c12
        try clear c12b0
        try clear c13
        try clear c13b0
        try clear c13b1
        try clear hx838_0
        try clear hx838_1
        try clear hx838_2
        try clear hx838_3
        try clear hx839_0
        try clear hx839_1
        try clear hx839_2
        try clear hx839_3
        try clear hx840_0
        try clear hx840_1
        try clear hx840_2
        try clear hx840_3
        try clear p2
        try clear p8
        try clear p838
        try clear p839
        try clear p840
        try clear q8
        try clear q838
        try clear q839
        try clear q840
        obtain ⟨x10_2,rfl,HA,HK2,HO_9,BK837,HB⟩:=hrel
        cases gk with
        | zero=>exact absurd HA.out (by simp [jaa.l0])
        | succ k2 =>
         have H:=HA.out
         clear HA
         simp only [jaa.l0] at H
         by_cases c16:x10_2<(t841.length:Int)
         ·rw [if_pos c16] at H
          have c16b0:decide (x10_2<(t841.length:Int))=true:=dzT c16
          clear c16
          by_cases c17:0≤x10_2
          ·rw [if_pos c17] at H
           have c17b0:decide (0≤x10_2)=true:=dzT c17
           clear c17
           by_cases c18:0≤(rd t841 x10_2)
           ·rw [if_pos c18] at H
            have c18b0:decide (0≤(rd t841 x10_2))=true:=dzT c18
            clear c18
            by_cases c19:(rd t841 x10_2)<(l1.length:Int)
            ·rw [if_pos c19] at H
             have c19b0:decide ((rd t841 x10_2)<(l1.length:Int))=true:=dzT c19
             clear c19
             by_cases c20:((jc l1 (rd t841 x10_2)).f1)=8
             ·rw [if_pos c20] at H
              have c20b0:(((jc l1 (rd t841 x10_2)).f1) == 8)=true:=beq_iff_eq.mpr c20
              have c20b1:(((jc l1 (rd t841 x10_2)).f1) != 8)=false:=bne_eq_false_iff_eq.mpr c20
              clear c20
              replace H:=bzS H
              obtain ⟨t848,A210,H⟩:=H
              replace H:(if t848=true then (some (rd t841 x10_2)) else (jaa.l0 k2 l1 a3 t841 (wrap64 (x10_2+1)) l0_0))=some r:=H
              have A21:=am A210
              clear A210
              by_cases c22:t848=true
              ·subst c22
               have H1:(some (rd t841 x10_2))=some r:=by rw [if_pos rfl] at H;exact H
               clear H
               have H:=H1
               clear H1
               obtain rfl:=Option.some.inj H
               obtain ⟨Ao23,co23,eo23⟩:=Kd.jca HO_9.out
               subst eo23
               try go_wp2
               replace HO_9:=am (Kd.jia HO_9.out)
               replace BK837:=am (jA BK837.out)
               replace HB:=am (jF HB.out)
               have p844:0≤(x10_2:Int):=ozD (uq)
               have q844:x10_2<(t841.length:Int):=ozD (uq)
               obtain ⟨ad844,e844,hx844_0⟩:=Kd.jhb (Kd.jq HO_9.out).2.2 x10_2 p844 q844
               cases e844
               replace p844:=ezT p844
               replace q844:=ezT q844
               have p845:0≤((rd t841 x10_2):Int):=ozD (uq)
               have q845:(rd t841 x10_2)<(l1.length:Int):=ozD (uq)
               obtain ⟨ad845,e845,hx845_0,hx845_1,hx845_2,hx845_3⟩:=jpa HR1.out (rd t841 x10_2) p845 q845
               have hw845_3:=hx845_3
               have hw845_2:=hx845_2
               have hw845_1:=hx845_1
               have hw845_0:=hx845_0
               obtain rfl:ad840=ad845:=(by injection e845)
               replace hx845_0:=cb HB.out hx845_0
               replace hx845_1:=cb HB.out hx845_1
               replace hx845_2:=cb HB.out hx845_2
               replace hx845_3:=cb HB.out hx845_3
               replace p845:=ezT p845
               replace q845:=ezT q845
               have p846:0≤(x10_2:Int):=ozD (uq)
               have q846:x10_2<(t841.length:Int):=ozD (uq)
               obtain ⟨ad846,e846,hx846_0⟩:=Kd.jhb (Kd.jq HO_9.out).2.2 x10_2 p846 q846
               obtain rfl:ad844=ad846:=(by injection e846)
               replace p846:=ezT p846
               replace q846:=ezT q846
               have p847:0≤((rd t841 x10_2):Int):=ozD (uq)
               have q847:(rd t841 x10_2)<(l1.length:Int):=ozD (uq)
               obtain ⟨ad847,e847,hx847_0,hx847_1,hx847_2,hx847_3⟩:=jpa HR1.out (rd t841 x10_2) p847 q847
               have hw847_3:=hx847_3
               have hw847_2:=hx847_2
               have hw847_1:=hx847_1
               have hw847_0:=hx847_0
               obtain rfl:ad840=ad847:=(by injection e847)
               replace hx847_0:=cb HB.out hx847_0
               replace hx847_1:=cb HB.out hx847_1
               replace hx847_2:=cb HB.out hx847_2
               replace hx847_3:=cb HB.out hx847_3
               replace p847:=ezT p847
               replace q847:=ezT q847
               refine jHc (n:=22) (S:=fun w'=>w'.cell? ⟨gb837,0,none⟩=some (.slice A0_0 l0_0.length c0_0)∧w'.cell? (ad844.add (x10_2).toNat)=some (.int .i64 (rd t841 x10_2))∧w'.cell? (ad840.add (((rd t841 x10_2)).toNat * 4))=some (.int .i64 ((jc l1 (rd t841 x10_2)).f0))∧w'.cell? ⟨(ad840.add (((rd t841 x10_2)).toNat * 4)).block,(ad840.add (((rd t841 x10_2)).toNat * 4)).off+1,none⟩=some (.int .i64 ((jc l1 (rd t841 x10_2)).f1))∧w'.cell? ⟨(ad840.add (((rd t841 x10_2)).toNat * 4)).block,(ad840.add (((rd t841 x10_2)).toNat * 4)).off+2,none⟩=some (.int .i64 ((jc l1 (rd t841 x10_2)).f2))∧w'.cell? ⟨(ad840.add (((rd t841 x10_2)).toNat * 4)).block,(ad840.add (((rd t841 x10_2)).toNat * 4)).off+3,none⟩=some (.int .i64 ((jc l1 (rd t841 x10_2)).f3))∧w'.cell? (ad844.add (x10_2).toNat)=some (.int .i64 (rd t841 x10_2))∧w'.cell? (ad840.add (((rd t841 x10_2)).toNat * 4))=some (.int .i64 ((jc l1 (rd t841 x10_2)).f0))∧w'.cell? ⟨(ad840.add (((rd t841 x10_2)).toNat * 4)).block,(ad840.add (((rd t841 x10_2)).toNat * 4)).off+1,none⟩=some (.int .i64 ((jc l1 (rd t841 x10_2)).f1))∧w'.cell? ⟨(ad840.add (((rd t841 x10_2)).toNat * 4)).block,(ad840.add (((rd t841 x10_2)).toNat * 4)).off+2,none⟩=some (.int .i64 ((jc l1 (rd t841 x10_2)).f2))∧w'.cell? ⟨(ad840.add (((rd t841 x10_2)).toNat * 4)).block,(ad840.add (((rd t841 x10_2)).toNat * 4)).off+3,none⟩=some (.int .i64 ((jc l1 (rd t841 x10_2)).f3))) (ds:=[]) #[false,false,false,false,false,false,false,false,false,false,false,false,false,false,false,false,false,false,false,false,false,false] (by kernel_rfl) rfl rfl ⟨(jI BK837.out 0).trans rfl,hx844_0,((HB.out.cell (World.block_lt_of_cell? w _ hw845_0)).trans hw845_0),((HB.out.cell (World.block_lt_of_cell? w _ hw845_1)).trans hw845_1),((HB.out.cell (World.block_lt_of_cell? w _ hw845_2)).trans hw845_2),((HB.out.cell (World.block_lt_of_cell? w _ hw845_3)).trans hw845_3),hx846_0,((HB.out.cell (World.block_lt_of_cell? w _ hw847_0)).trans hw847_0),((HB.out.cell (World.block_lt_of_cell? w _ hw847_1)).trans hw847_1),((HB.out.cell (World.block_lt_of_cell? w _ hw847_2)).trans hw847_2),((HB.out.cell (World.block_lt_of_cell? w _ hw847_3)).trans hw847_3)⟩ (fun hHeld=>?_);refine jIb jaa.tab9 jaa.bits9 (fun HT_ HW_=>?_)
               generalize wr.drew=w24 at HO_9 BK837 HB hx844_0 hx845_0 hx845_1 hx845_2 hx845_3 hx846_0 hx847_0 hx847_1 hx847_2 hx847_3 hHeld ⊢
               refine pq (i:=0) (N:=some 41) #[true,false,false,false,false,false,false,false,false,false,false,false,false,false,false,false,false,false,false,false,false,false] ?_
               refine pq (i:=1) (N:=some 42) #[true,true,false,false,false,false,false,false,false,false,false,false,false,false,false,false,false,false,false,false,false,false] ?_
               refine pq (i:=2) (N:=some 43) #[true,true,true,false,false,false,false,false,false,false,false,false,false,false,false,false,false,false,false,false,false,false] ?_
               refine pq (i:=3) (N:=some 44) #[true,true,true,true,false,false,false,false,false,false,false,false,false,false,false,false,false,false,false,false,false,false] ?_
               refine jhc (i:=4) (N:=some 45) (v:=?_) (a':=?_) #[true,true,true,true,true,false,false,false,false,false,false,false,false,false,false,false,false,false,false,false,false,false] rfl rfl (jTa HT_.out HW_.out (by kernel_rfl)) (fun _ _ _ h=>h) (Or.inl ⟨by rfl,?_⟩) hHeld ?_ ?_
               rotate_left
               ·rintro w' ⟨s0,s1,s2,s3,s4,s5,s6,s7,s8,s9,s10⟩
                go_simp
                with_reducible rfl
               rotate_left
               ·exact sa
               refine pq (i:=5) (N:=some 46) #[true,true,true,true,true,true,false,false,false,false,false,false,false,false,false,false,false,false,false,false,false,false] ?_
               refine pq (i:=6) (N:=some 47) #[true,true,true,true,true,true,true,false,false,false,false,false,false,false,false,false,false,false,false,false,false,false] ?_
               refine jhc (i:=7) (N:=some 48) (v:=?_) (a':=?_) #[true,true,true,true,true,true,true,true,false,false,false,false,false,false,false,false,false,false,false,false,false,false] rfl rfl (jTa HT_.out HW_.out (by kernel_rfl)) (fun _ _ _ h=>h) (Or.inl ⟨by rfl,?_⟩) hHeld ?_ ?_
               rotate_left
               ·rintro w' ⟨s0,s1,s2,s3,s4,s5,s6,s7,s8,s9,s10⟩
                go_simp
                with_reducible rfl
               rotate_left
               ·exact sa
               refine pq (i:=8) (N:=some 49) #[true,true,true,true,true,true,true,true,true,false,false,false,false,false,false,false,false,false,false,false,false,false] ?_
               refine pq (i:=9) (N:=some 50) #[true,true,true,true,true,true,true,true,true,true,false,false,false,false,false,false,false,false,false,false,false,false] ?_
               refine pq (i:=11) (N:=some 52) #[true,true,true,true,true,true,true,true,true,true,false,true,false,false,false,false,false,false,false,false,false,false] ?_
               refine pq (i:=12) (N:=some 53) #[true,true,true,true,true,true,true,true,true,true,false,true,true,false,false,false,false,false,false,false,false,false] ?_
               refine pq (i:=13) (N:=some 54) #[true,true,true,true,true,true,true,true,true,true,false,true,true,true,false,false,false,false,false,false,false,false] ?_
               refine pq (i:=14) (N:=some 55) #[true,true,true,true,true,true,true,true,true,true,false,true,true,true,true,false,false,false,false,false,false,false] ?_
               refine pq (i:=15) (N:=some 56) #[true,true,true,true,true,true,true,true,true,true,false,true,true,true,true,true,false,false,false,false,false,false] ?_
               refine jhc (i:=10) (N:=some 51) (v:=?_) (a':=?_) #[true,true,true,true,true,true,true,true,true,true,true,true,true,true,true,true,false,false,false,false,false,false] rfl rfl (jTa HT_.out HW_.out (by kernel_rfl)) (fun _ _ _ h=>h) (Or.inl ⟨by rfl,?_⟩) hHeld ?_ ?_
               rotate_left
               ·rintro w' ⟨s0,s1,s2,s3,s4,s5,s6,s7,s8,s9,s10⟩
                go_simp
                with_reducible rfl
               rotate_left
               ·exact sa
               refine jhc (i:=16) (N:=some 57) (v:=?_) (a':=?_) #[true,true,true,true,true,true,true,true,true,true,true,true,true,true,true,true,true,false,false,false,false,false] rfl rfl (jTa HT_.out HW_.out (by kernel_rfl)) (fun _ _ _ h=>h) (Or.inl ⟨by rfl,?_⟩) hHeld ?_ ?_
               rotate_left
               ·rintro w' ⟨s0,s1,s2,s3,s4,s5,s6,s7,s8,s9,s10⟩
                go_simp
                with_reducible rfl
               rotate_left
               ·exact sa
               refine pq (i:=17) (N:=some 58) #[true,true,true,true,true,true,true,true,true,true,true,true,true,true,true,true,true,true,false,false,false,false] ?_
               refine pq (i:=18) (N:=some 59) #[true,true,true,true,true,true,true,true,true,true,true,true,true,true,true,true,true,true,true,false,false,false] ?_
               refine jhc (i:=19) (N:=some 60) (v:=?_) (a':=?_) #[true,true,true,true,true,true,true,true,true,true,true,true,true,true,true,true,true,true,true,true,false,false] rfl rfl (jTa HT_.out HW_.out (by kernel_rfl)) (fun _ _ _ h=>h) (Or.inl ⟨by rfl,?_⟩) hHeld ?_ ?_
               rotate_left
               ·rintro w' ⟨s0,s1,s2,s3,s4,s5,s6,s7,s8,s9,s10⟩
                go_simp
                with_reducible rfl
               rotate_left
               ·exact sa
               refine one_ (i:=20) (N:=some 61) #[true,true,true,true,true,true,true,true,true,true,true,true,true,true,true,true,true,true,true,true,true,false] rfl rfl (jSb HT_.out (by kernel_rfl)) (by decide) (fun K hK=>?_)
               refine goes_ Try.func72 (by kernel_rfl) rfl #[.agg #[.slice A0_0 l0_0.length c0_0], .int .i64 a3, .int .i64 ((jc l1 (rd t841 x10_2)).f2)] (by rfl) rfl rfl (aq) ?_
               with_reducible refine (jhd.calls k2 _ _ l0_0 a3 ((jc l1 (rd t841 x10_2)).f2) true _ ?side1 ?side2 A21.out).mono ?_
               (case side1=>exact cq (Kd.jN HR0_0.out HB.out))
               (case side2=>exact HC0_0.out)
               rintro e w25 ⟨rfl,hb⟩
               have HS1_:=(hb.cell (World.block_lt_of_cell? _ _ (hHeld.2.1))).trans (hHeld.2.1)
               have HS6_:=(hb.cell (World.block_lt_of_cell? _ _ (hHeld.2.2.2.2.2.2.1))).trans (hHeld.2.2.2.2.2.2.1)
               refine ⟨_,rfl,?_⟩
               replace HO_9:=am (Kd.jda (rq HO_9.out) hb)
               replace BK837:=am (jk (g:=gb837) (o:=.cells #[.slice A0_0 l0_0.length c0_0] 25 (0,0)) (kq BK837.out) hb)
               replace HB:=am (je (Y37) hb)
               (try clear hb)
               (try clear hb2)
               (try clear hk)
               (try clear hi)
               refine hK.out _ _ ⟨(jI BK837.out 0).trans rfl,HS1_,((HB.out.cell (World.block_lt_of_cell? w _ hw845_0)).trans hw845_0),((HB.out.cell (World.block_lt_of_cell? w _ hw845_1)).trans hw845_1),((HB.out.cell (World.block_lt_of_cell? w _ hw845_2)).trans hw845_2),((HB.out.cell (World.block_lt_of_cell? w _ hw845_3)).trans hw845_3),HS6_,((HB.out.cell (World.block_lt_of_cell? w _ hw847_0)).trans hw847_0),((HB.out.cell (World.block_lt_of_cell? w _ hw847_1)).trans hw847_1),((HB.out.cell (World.block_lt_of_cell? w _ hw847_2)).trans hw847_2),((HB.out.cell (World.block_lt_of_cell? w _ hw847_3)).trans hw847_3)⟩ (fun hHeld=>?_)
               clear hK K
               refine jnc (a':=?_) ?_ ?_
               rotate_left
               ·show Act.put _ (some 61) _=_
                simp only [Act.put,List.setIfInBounds_toArray,List.set_cons_zero,List.set_cons_succ,jmb,jub]
                rfl
               refine pq (i:=21) (N:=some 62) #[true,true,true,true,true,true,true,true,true,true,true,true,true,true,true,true,true,true,true,true,true,true] ?_
               refine done_ (jsc HT_.out (by kernel_rfl)) ?_
               have p849:0≤(x10_2:Int):=ozD (uq)
               have q849:x10_2<(t841.length:Int):=ozD (uq)
               obtain ⟨ad849,e849,hx849_0⟩:=Kd.jhb (Kd.jq HO_9.out).2.2 x10_2 p849 q849
               obtain rfl:ad844=ad849:=(by injection e849)
               replace p849:=ezT p849
               replace q849:=ezT q849
               try go_wp2
               go_ret
               exact ⟨Y0,Y37⟩
              ·replace c22:=Bool.eq_false_iff.mpr c22
               subst c22
               have H1:(jaa.l0 k2 l1 a3 t841 (wrap64 (x10_2+1)) l0_0)=some r:=by rw [if_neg (show ¬ (false=true) by decide)] at H;exact H
               clear H
               have H:=H1
               clear H1
               have H':=am H
               clear H
               obtain ⟨Ao26,co26,eo26⟩:=Kd.jca HO_9.out
               subst eo26
               try go_wp2
               replace HO_9:=am (Kd.jia HO_9.out)
               replace BK837:=am (jA BK837.out)
               replace HB:=am (jF HB.out)
               have p844:0≤(x10_2:Int):=ozD (uq)
               have q844:x10_2<(t841.length:Int):=ozD (uq)
               obtain ⟨ad844,e844,hx844_0⟩:=Kd.jhb (Kd.jq HO_9.out).2.2 x10_2 p844 q844
               cases e844
               replace p844:=ezT p844
               replace q844:=ezT q844
               have p845:0≤((rd t841 x10_2):Int):=ozD (uq)
               have q845:(rd t841 x10_2)<(l1.length:Int):=ozD (uq)
               obtain ⟨ad845,e845,hx845_0,hx845_1,hx845_2,hx845_3⟩:=jpa HR1.out (rd t841 x10_2) p845 q845
               have hw845_3:=hx845_3
               have hw845_2:=hx845_2
               have hw845_1:=hx845_1
               have hw845_0:=hx845_0
               obtain rfl:ad840=ad845:=(by injection e845)
               replace hx845_0:=cb HB.out hx845_0
               replace hx845_1:=cb HB.out hx845_1
               replace hx845_2:=cb HB.out hx845_2
               replace hx845_3:=cb HB.out hx845_3
               replace p845:=ezT p845
               replace q845:=ezT q845
               have p846:0≤(x10_2:Int):=ozD (uq)
               have q846:x10_2<(t841.length:Int):=ozD (uq)
               obtain ⟨ad846,e846,hx846_0⟩:=Kd.jhb (Kd.jq HO_9.out).2.2 x10_2 p846 q846
               obtain rfl:ad844=ad846:=(by injection e846)
               replace p846:=ezT p846
               replace q846:=ezT q846
               have p847:0≤((rd t841 x10_2):Int):=ozD (uq)
               have q847:(rd t841 x10_2)<(l1.length:Int):=ozD (uq)
               obtain ⟨ad847,e847,hx847_0,hx847_1,hx847_2,hx847_3⟩:=jpa HR1.out (rd t841 x10_2) p847 q847
               have hw847_3:=hx847_3
               have hw847_2:=hx847_2
               have hw847_1:=hx847_1
               have hw847_0:=hx847_0
               obtain rfl:ad840=ad847:=(by injection e847)
               replace hx847_0:=cb HB.out hx847_0
               replace hx847_1:=cb HB.out hx847_1
               replace hx847_2:=cb HB.out hx847_2
               replace hx847_3:=cb HB.out hx847_3
               replace p847:=ezT p847
               replace q847:=ezT q847
               refine jHc (n:=22) (S:=fun w'=>w'.cell? ⟨gb837,0,none⟩=some (.slice A0_0 l0_0.length c0_0)∧w'.cell? (ad844.add (x10_2).toNat)=some (.int .i64 (rd t841 x10_2))∧w'.cell? (ad840.add (((rd t841 x10_2)).toNat * 4))=some (.int .i64 ((jc l1 (rd t841 x10_2)).f0))∧w'.cell? ⟨(ad840.add (((rd t841 x10_2)).toNat * 4)).block,(ad840.add (((rd t841 x10_2)).toNat * 4)).off+1,none⟩=some (.int .i64 ((jc l1 (rd t841 x10_2)).f1))∧w'.cell? ⟨(ad840.add (((rd t841 x10_2)).toNat * 4)).block,(ad840.add (((rd t841 x10_2)).toNat * 4)).off+2,none⟩=some (.int .i64 ((jc l1 (rd t841 x10_2)).f2))∧w'.cell? ⟨(ad840.add (((rd t841 x10_2)).toNat * 4)).block,(ad840.add (((rd t841 x10_2)).toNat * 4)).off+3,none⟩=some (.int .i64 ((jc l1 (rd t841 x10_2)).f3))∧w'.cell? (ad844.add (x10_2).toNat)=some (.int .i64 (rd t841 x10_2))∧w'.cell? (ad840.add (((rd t841 x10_2)).toNat * 4))=some (.int .i64 ((jc l1 (rd t841 x10_2)).f0))∧w'.cell? ⟨(ad840.add (((rd t841 x10_2)).toNat * 4)).block,(ad840.add (((rd t841 x10_2)).toNat * 4)).off+1,none⟩=some (.int .i64 ((jc l1 (rd t841 x10_2)).f1))∧w'.cell? ⟨(ad840.add (((rd t841 x10_2)).toNat * 4)).block,(ad840.add (((rd t841 x10_2)).toNat * 4)).off+2,none⟩=some (.int .i64 ((jc l1 (rd t841 x10_2)).f2))∧w'.cell? ⟨(ad840.add (((rd t841 x10_2)).toNat * 4)).block,(ad840.add (((rd t841 x10_2)).toNat * 4)).off+3,none⟩=some (.int .i64 ((jc l1 (rd t841 x10_2)).f3))) (ds:=[]) #[false,false,false,false,false,false,false,false,false,false,false,false,false,false,false,false,false,false,false,false,false,false] (by kernel_rfl) rfl rfl ⟨(jI BK837.out 0).trans rfl,hx844_0,((HB.out.cell (World.block_lt_of_cell? w _ hw845_0)).trans hw845_0),((HB.out.cell (World.block_lt_of_cell? w _ hw845_1)).trans hw845_1),((HB.out.cell (World.block_lt_of_cell? w _ hw845_2)).trans hw845_2),((HB.out.cell (World.block_lt_of_cell? w _ hw845_3)).trans hw845_3),hx846_0,((HB.out.cell (World.block_lt_of_cell? w _ hw847_0)).trans hw847_0),((HB.out.cell (World.block_lt_of_cell? w _ hw847_1)).trans hw847_1),((HB.out.cell (World.block_lt_of_cell? w _ hw847_2)).trans hw847_2),((HB.out.cell (World.block_lt_of_cell? w _ hw847_3)).trans hw847_3)⟩ (fun hHeld=>?_);refine jIb jaa.tab9 jaa.bits9 (fun HT_ HW_=>?_)
               generalize wr.drew=w27 at HO_9 BK837 HB hx844_0 hx845_0 hx845_1 hx845_2 hx845_3 hx846_0 hx847_0 hx847_1 hx847_2 hx847_3 hHeld ⊢
               refine pq (i:=0) (N:=some 41) #[true,false,false,false,false,false,false,false,false,false,false,false,false,false,false,false,false,false,false,false,false,false] ?_
               refine pq (i:=1) (N:=some 42) #[true,true,false,false,false,false,false,false,false,false,false,false,false,false,false,false,false,false,false,false,false,false] ?_
               refine pq (i:=2) (N:=some 43) #[true,true,true,false,false,false,false,false,false,false,false,false,false,false,false,false,false,false,false,false,false,false] ?_
               refine pq (i:=3) (N:=some 44) #[true,true,true,true,false,false,false,false,false,false,false,false,false,false,false,false,false,false,false,false,false,false] ?_
               refine jhc (i:=4) (N:=some 45) (v:=?_) (a':=?_) #[true,true,true,true,true,false,false,false,false,false,false,false,false,false,false,false,false,false,false,false,false,false] rfl rfl (jTa HT_.out HW_.out (by kernel_rfl)) (fun _ _ _ h=>h) (Or.inl ⟨by rfl,?_⟩) hHeld ?_ ?_
               rotate_left
               ·rintro w' ⟨s0,s1,s2,s3,s4,s5,s6,s7,s8,s9,s10⟩
                go_simp
                with_reducible rfl
               rotate_left
               ·exact sa
               refine pq (i:=5) (N:=some 46) #[true,true,true,true,true,true,false,false,false,false,false,false,false,false,false,false,false,false,false,false,false,false] ?_
               refine pq (i:=6) (N:=some 47) #[true,true,true,true,true,true,true,false,false,false,false,false,false,false,false,false,false,false,false,false,false,false] ?_
               refine jhc (i:=7) (N:=some 48) (v:=?_) (a':=?_) #[true,true,true,true,true,true,true,true,false,false,false,false,false,false,false,false,false,false,false,false,false,false] rfl rfl (jTa HT_.out HW_.out (by kernel_rfl)) (fun _ _ _ h=>h) (Or.inl ⟨by rfl,?_⟩) hHeld ?_ ?_
               rotate_left
               ·rintro w' ⟨s0,s1,s2,s3,s4,s5,s6,s7,s8,s9,s10⟩
                go_simp
                with_reducible rfl
               rotate_left
               ·exact sa
               refine pq (i:=8) (N:=some 49) #[true,true,true,true,true,true,true,true,true,false,false,false,false,false,false,false,false,false,false,false,false,false] ?_
               refine pq (i:=9) (N:=some 50) #[true,true,true,true,true,true,true,true,true,true,false,false,false,false,false,false,false,false,false,false,false,false] ?_
               refine pq (i:=11) (N:=some 52) #[true,true,true,true,true,true,true,true,true,true,false,true,false,false,false,false,false,false,false,false,false,false] ?_
               refine pq (i:=12) (N:=some 53) #[true,true,true,true,true,true,true,true,true,true,false,true,true,false,false,false,false,false,false,false,false,false] ?_
               refine pq (i:=13) (N:=some 54) #[true,true,true,true,true,true,true,true,true,true,false,true,true,true,false,false,false,false,false,false,false,false] ?_
               refine pq (i:=14) (N:=some 55) #[true,true,true,true,true,true,true,true,true,true,false,true,true,true,true,false,false,false,false,false,false,false] ?_
               refine pq (i:=15) (N:=some 56) #[true,true,true,true,true,true,true,true,true,true,false,true,true,true,true,true,false,false,false,false,false,false] ?_
               refine jhc (i:=10) (N:=some 51) (v:=?_) (a':=?_) #[true,true,true,true,true,true,true,true,true,true,true,true,true,true,true,true,false,false,false,false,false,false] rfl rfl (jTa HT_.out HW_.out (by kernel_rfl)) (fun _ _ _ h=>h) (Or.inl ⟨by rfl,?_⟩) hHeld ?_ ?_
               rotate_left
               ·rintro w' ⟨s0,s1,s2,s3,s4,s5,s6,s7,s8,s9,s10⟩
                go_simp
                with_reducible rfl
               rotate_left
               ·exact sa
               refine jhc (i:=16) (N:=some 57) (v:=?_) (a':=?_) #[true,true,true,true,true,true,true,true,true,true,true,true,true,true,true,true,true,false,false,false,false,false] rfl rfl (jTa HT_.out HW_.out (by kernel_rfl)) (fun _ _ _ h=>h) (Or.inl ⟨by rfl,?_⟩) hHeld ?_ ?_
               rotate_left
               ·rintro w' ⟨s0,s1,s2,s3,s4,s5,s6,s7,s8,s9,s10⟩
                go_simp
                with_reducible rfl
               rotate_left
               ·exact sa
               refine pq (i:=17) (N:=some 58) #[true,true,true,true,true,true,true,true,true,true,true,true,true,true,true,true,true,true,false,false,false,false] ?_
               refine pq (i:=18) (N:=some 59) #[true,true,true,true,true,true,true,true,true,true,true,true,true,true,true,true,true,true,true,false,false,false] ?_
               refine jhc (i:=19) (N:=some 60) (v:=?_) (a':=?_) #[true,true,true,true,true,true,true,true,true,true,true,true,true,true,true,true,true,true,true,true,false,false] rfl rfl (jTa HT_.out HW_.out (by kernel_rfl)) (fun _ _ _ h=>h) (Or.inl ⟨by rfl,?_⟩) hHeld ?_ ?_
               rotate_left
               ·rintro w' ⟨s0,s1,s2,s3,s4,s5,s6,s7,s8,s9,s10⟩
                go_simp
                with_reducible rfl
               rotate_left
               ·exact sa
               refine one_ (i:=20) (N:=some 61) #[true,true,true,true,true,true,true,true,true,true,true,true,true,true,true,true,true,true,true,true,true,false] rfl rfl (jSb HT_.out (by kernel_rfl)) (by decide) (fun K hK=>?_)
               refine goes_ Try.func72 (by kernel_rfl) rfl #[.agg #[.slice A0_0 l0_0.length c0_0], .int .i64 a3, .int .i64 ((jc l1 (rd t841 x10_2)).f2)] (by rfl) rfl rfl (aq) ?_
               with_reducible refine (jhd.calls k2 _ _ l0_0 a3 ((jc l1 (rd t841 x10_2)).f2) false _ ?side1 ?side2 A21.out).mono ?_
               (case side1=>exact cq (Kd.jN HR0_0.out HB.out))
               (case side2=>exact HC0_0.out)
               rintro e w28 ⟨rfl,hb⟩
               have HS1_:=(hb.cell (World.block_lt_of_cell? _ _ (hHeld.2.1))).trans (hHeld.2.1)
               have HS6_:=(hb.cell (World.block_lt_of_cell? _ _ (hHeld.2.2.2.2.2.2.1))).trans (hHeld.2.2.2.2.2.2.1)
               refine ⟨_,rfl,?_⟩
               replace HO_9:=am (Kd.jda (rq HO_9.out) hb)
               replace BK837:=am (jk (g:=gb837) (o:=.cells #[.slice A0_0 l0_0.length c0_0] 25 (0,0)) (kq BK837.out) hb)
               replace HB:=am (je (Y37) hb)
               (try clear hb)
               (try clear hb2)
               (try clear hk)
               (try clear hi)
               refine hK.out _ _ ⟨(jI BK837.out 0).trans rfl,HS1_,((HB.out.cell (World.block_lt_of_cell? w _ hw845_0)).trans hw845_0),((HB.out.cell (World.block_lt_of_cell? w _ hw845_1)).trans hw845_1),((HB.out.cell (World.block_lt_of_cell? w _ hw845_2)).trans hw845_2),((HB.out.cell (World.block_lt_of_cell? w _ hw845_3)).trans hw845_3),HS6_,((HB.out.cell (World.block_lt_of_cell? w _ hw847_0)).trans hw847_0),((HB.out.cell (World.block_lt_of_cell? w _ hw847_1)).trans hw847_1),((HB.out.cell (World.block_lt_of_cell? w _ hw847_2)).trans hw847_2),((HB.out.cell (World.block_lt_of_cell? w _ hw847_3)).trans hw847_3)⟩ (fun hHeld=>?_)
               clear hK K
               refine jnc (a':=?_) ?_ ?_
               rotate_left
               ·show Act.put _ (some 61) _=_
                simp only [Act.put,List.setIfInBounds_toArray,List.set_cons_zero,List.set_cons_succ,jmb,jub]
                rfl
               refine pq (i:=21) (N:=some 62) #[true,true,true,true,true,true,true,true,true,true,true,true,true,true,true,true,true,true,true,true,true,true] ?_
               refine done_ (jsc HT_.out (by kernel_rfl)) ?_
               try go_wp2
               go_roundg k2
               case measure=>have:=HJ4.out;have:=HK2.out;omega
               case rel=>exact ⟨(wrap64 (x10_2+1)),(sq),H',⟨by have:=HJ4.out;have:=HK2.out;omega⟩,⟨rq HO_9.out⟩,⟨kq BK837.out⟩,⟨Y37⟩⟩
             ·rw [if_neg c20] at H
              have c20b0:(((jc l1 (rd t841 x10_2)).f1) == 8)=false:=beq_eq_false_iff_ne.mpr c20
              have c20b1:(((jc l1 (rd t841 x10_2)).f1) != 8)=true:=bne_iff_ne.mpr c20
              have H':=am H
              clear H
              obtain ⟨Ao29,co29,eo29⟩:=Kd.jca HO_9.out
              subst eo29
              try go_wp2
              replace HO_9:=am (Kd.jia HO_9.out)
              replace BK837:=am (jA BK837.out)
              replace HB:=am (jF HB.out)
              have p844:0≤(x10_2:Int):=ozD (uq)
              have q844:x10_2<(t841.length:Int):=ozD (uq)
              obtain ⟨ad844,e844,hx844_0⟩:=Kd.jhb (Kd.jq HO_9.out).2.2 x10_2 p844 q844
              cases e844
              replace p844:=ezT p844
              replace q844:=ezT q844
              have p845:0≤((rd t841 x10_2):Int):=ozD (uq)
              have q845:(rd t841 x10_2)<(l1.length:Int):=ozD (uq)
              obtain ⟨ad845,e845,hx845_0,hx845_1,hx845_2,hx845_3⟩:=jpa HR1.out (rd t841 x10_2) p845 q845
              have hw845_3:=hx845_3
              have hw845_2:=hx845_2
              have hw845_1:=hx845_1
              have hw845_0:=hx845_0
              obtain rfl:ad840=ad845:=(by injection e845)
              replace hx845_0:=cb HB.out hx845_0
              replace hx845_1:=cb HB.out hx845_1
              replace hx845_2:=cb HB.out hx845_2
              replace hx845_3:=cb HB.out hx845_3
              replace p845:=ezT p845
              replace q845:=ezT q845
              refine jHc (n:=22) (S:=fun w'=>w'.cell? (ad844.add (x10_2).toNat)=some (.int .i64 (rd t841 x10_2))∧w'.cell? (ad840.add (((rd t841 x10_2)).toNat * 4))=some (.int .i64 ((jc l1 (rd t841 x10_2)).f0))∧w'.cell? ⟨(ad840.add (((rd t841 x10_2)).toNat * 4)).block,(ad840.add (((rd t841 x10_2)).toNat * 4)).off+1,none⟩=some (.int .i64 ((jc l1 (rd t841 x10_2)).f1))∧w'.cell? ⟨(ad840.add (((rd t841 x10_2)).toNat * 4)).block,(ad840.add (((rd t841 x10_2)).toNat * 4)).off+2,none⟩=some (.int .i64 ((jc l1 (rd t841 x10_2)).f2))∧w'.cell? ⟨(ad840.add (((rd t841 x10_2)).toNat * 4)).block,(ad840.add (((rd t841 x10_2)).toNat * 4)).off+3,none⟩=some (.int .i64 ((jc l1 (rd t841 x10_2)).f3))) (ds:=[]) #[false,false,false,false,false,false,false,false,false,false,false,false,false,false,false,false,false,false,false,false,false,false] (by kernel_rfl) rfl rfl ⟨hx844_0,((HB.out.cell (World.block_lt_of_cell? w _ hw845_0)).trans hw845_0),((HB.out.cell (World.block_lt_of_cell? w _ hw845_1)).trans hw845_1),((HB.out.cell (World.block_lt_of_cell? w _ hw845_2)).trans hw845_2),((HB.out.cell (World.block_lt_of_cell? w _ hw845_3)).trans hw845_3)⟩ (fun hHeld=>?_);refine jIb jaa.tab9 jaa.bits9 (fun HT_ HW_=>?_)
              generalize wr.drew=w30 at HO_9 BK837 HB hx844_0 hx845_0 hx845_1 hx845_2 hx845_3 hHeld ⊢
              refine pq (i:=0) (N:=some 41) #[true,false,false,false,false,false,false,false,false,false,false,false,false,false,false,false,false,false,false,false,false,false] ?_
              refine pq (i:=1) (N:=some 42) #[true,true,false,false,false,false,false,false,false,false,false,false,false,false,false,false,false,false,false,false,false,false] ?_
              refine pq (i:=2) (N:=some 43) #[true,true,true,false,false,false,false,false,false,false,false,false,false,false,false,false,false,false,false,false,false,false] ?_
              refine pq (i:=3) (N:=some 44) #[true,true,true,true,false,false,false,false,false,false,false,false,false,false,false,false,false,false,false,false,false,false] ?_
              refine jhc (i:=4) (N:=some 45) (v:=?_) (a':=?_) #[true,true,true,true,true,false,false,false,false,false,false,false,false,false,false,false,false,false,false,false,false,false] rfl rfl (jTa HT_.out HW_.out (by kernel_rfl)) (fun _ _ _ h=>h) (Or.inl ⟨by rfl,?_⟩) hHeld ?_ ?_
              rotate_left
              ·rintro w' ⟨s0,s1,s2,s3,s4⟩
               go_simp
               with_reducible rfl
              rotate_left
              ·exact sa
              refine pq (i:=5) (N:=some 46) #[true,true,true,true,true,true,false,false,false,false,false,false,false,false,false,false,false,false,false,false,false,false] ?_
              refine pq (i:=6) (N:=some 47) #[true,true,true,true,true,true,true,false,false,false,false,false,false,false,false,false,false,false,false,false,false,false] ?_
              refine jhc (i:=7) (N:=some 48) (v:=?_) (a':=?_) #[true,true,true,true,true,true,true,true,false,false,false,false,false,false,false,false,false,false,false,false,false,false] rfl rfl (jTa HT_.out HW_.out (by kernel_rfl)) (fun _ _ _ h=>h) (Or.inl ⟨by rfl,?_⟩) hHeld ?_ ?_
              rotate_left
              ·rintro w' ⟨s0,s1,s2,s3,s4⟩
               go_simp
               with_reducible rfl
              rotate_left
              ·exact sa
              refine pq (i:=8) (N:=some 49) #[true,true,true,true,true,true,true,true,true,false,false,false,false,false,false,false,false,false,false,false,false,false] ?_
              refine pq (i:=9) (N:=some 50) #[true,true,true,true,true,true,true,true,true,true,false,false,false,false,false,false,false,false,false,false,false,false] ?_
              refine jEc (i:=10) (N:=some 51) (v:=undef) (a':=?_) #[true,true,true,true,true,true,true,true,true,true,true,false,false,false,false,false,false,false,false,false,false,false] rfl rfl (jWb HT_.out (by kernel_rfl)) (fun _ _ _ h=>h) (Or.inr ⟨by rfl,rfl⟩) ?_ ?_
              rotate_left
              ·exact sa
              refine jEc (i:=11) (N:=some 52) (v:=undef) (a':=?_) #[true,true,true,true,true,true,true,true,true,true,true,true,false,false,false,false,false,false,false,false,false,false] rfl rfl (jWb HT_.out (by kernel_rfl)) (fun _ _ _ h=>h) (Or.inr ⟨by rfl,rfl⟩) ?_ ?_
              rotate_left
              ·exact sa
              refine jEc (i:=12) (N:=some 53) (v:=undef) (a':=?_) #[true,true,true,true,true,true,true,true,true,true,true,true,true,false,false,false,false,false,false,false,false,false] rfl rfl (jWb HT_.out (by kernel_rfl)) (fun _ _ _ h=>h) (Or.inr ⟨by rfl,rfl⟩) ?_ ?_
              rotate_left
              ·exact sa
              refine jEc (i:=13) (N:=some 54) (v:=undef) (a':=?_) #[true,true,true,true,true,true,true,true,true,true,true,true,true,true,false,false,false,false,false,false,false,false] rfl rfl (jWb HT_.out (by kernel_rfl)) (fun _ _ _ h=>h) (Or.inr ⟨by rfl,rfl⟩) ?_ ?_
              rotate_left
              ·exact sa
              refine jEc (i:=14) (N:=some 55) (v:=undef) (a':=?_) #[true,true,true,true,true,true,true,true,true,true,true,true,true,true,true,false,false,false,false,false,false,false] rfl rfl (jWb HT_.out (by kernel_rfl)) (fun _ _ _ h=>h) (Or.inr ⟨by rfl,rfl⟩) ?_ ?_
              rotate_left
              ·exact sa
              refine jEc (i:=15) (N:=some 56) (v:=undef) (a':=?_) #[true,true,true,true,true,true,true,true,true,true,true,true,true,true,true,true,false,false,false,false,false,false] rfl rfl (jWb HT_.out (by kernel_rfl)) (fun _ _ _ h=>h) (Or.inr ⟨by rfl,rfl⟩) ?_ ?_
              rotate_left
              ·exact sa
              refine jEc (i:=16) (N:=some 57) (v:=undef) (a':=?_) #[true,true,true,true,true,true,true,true,true,true,true,true,true,true,true,true,true,false,false,false,false,false] rfl rfl (jWb HT_.out (by kernel_rfl)) (fun _ _ _ h=>h) (Or.inr ⟨by rfl,rfl⟩) ?_ ?_
              rotate_left
              ·exact sa
              refine jEc (i:=17) (N:=some 58) (v:=undef) (a':=?_) #[true,true,true,true,true,true,true,true,true,true,true,true,true,true,true,true,true,true,false,false,false,false] rfl rfl (jWb HT_.out (by kernel_rfl)) (fun _ _ _ h=>h) (Or.inr ⟨by rfl,rfl⟩) ?_ ?_
              rotate_left
              ·exact sa
              refine jEc (i:=18) (N:=some 59) (v:=undef) (a':=?_) #[true,true,true,true,true,true,true,true,true,true,true,true,true,true,true,true,true,true,true,false,false,false] rfl rfl (jWb HT_.out (by kernel_rfl)) (fun _ _ _ h=>h) (Or.inr ⟨by rfl,rfl⟩) ?_ ?_
              rotate_left
              ·exact sa
              refine jEc (i:=19) (N:=some 60) (v:=undef) (a':=?_) #[true,true,true,true,true,true,true,true,true,true,true,true,true,true,true,true,true,true,true,true,false,false] rfl rfl (jWb HT_.out (by kernel_rfl)) (fun _ _ _ h=>h) (Or.inr ⟨by rfl,rfl⟩) ?_ ?_
              rotate_left
              ·exact sa
              refine jEc (i:=20) (N:=some 61) (v:=undef) (a':=?_) #[true,true,true,true,true,true,true,true,true,true,true,true,true,true,true,true,true,true,true,true,true,false] rfl rfl (jWb HT_.out (by kernel_rfl)) (fun _ _ _ h=>h) (Or.inr ⟨by rfl,rfl⟩) ?_ ?_
              rotate_left
              ·exact sa
              refine pq (i:=21) (N:=some 62) #[true,true,true,true,true,true,true,true,true,true,true,true,true,true,true,true,true,true,true,true,true,true] ?_
              refine done_ (jsc HT_.out (by kernel_rfl)) ?_
              try go_wp2
              go_roundg k2
              case measure=>have:=HJ4.out;have:=HK2.out;omega
              case rel=>exact ⟨(wrap64 (x10_2+1)),(sq),H',⟨by have:=HJ4.out;have:=HK2.out;omega⟩,⟨rq HO_9.out⟩,⟨kq BK837.out⟩,⟨Y37⟩⟩
            ·rw [if_neg c19] at H
             exact absurd H (by simp)
           ·rw [if_neg c18] at H
            exact absurd H (by simp)
          ·rw [if_neg c17] at H
           exact absurd H (by simp)
         ·rw [if_neg c16] at H
          have c16b0:decide (x10_2<(t841.length:Int))=false:=dzF c16
          clear c16
          obtain rfl:=Option.some.inj H
          obtain ⟨Ao31,co31,eo31⟩:=Kd.jca HO_9.out
          subst eo31
          go_wp2
          go_ret
          exact ⟨Y0,Y37⟩
      ·rw [if_neg c13] at H
       have c13b0:(((jc l1 a2).f1) == 7)=false:=beq_eq_false_iff_ne.mpr c13
       have c13b1:(((jc l1 a2).f1) != 7)=true:=bne_iff_ne.mpr c13
       obtain rfl:=Option.some.inj H
       have p840:0≤(a2:Int):=ozD (uq)
       have q840:a2<(l1.length:Int):=ozD (uq)
       obtain ⟨ad840,e840,hx840_0,hx840_1,hx840_2,hx840_3⟩:=jpa HR1.out a2 p840 q840
       cases e840
       replace hx840_0:=cb HB.out hx840_0
       replace hx840_1:=cb HB.out hx840_1
       replace hx840_2:=cb HB.out hx840_2
       replace hx840_3:=cb HB.out hx840_3
       replace p840:=ezT p840
       replace q840:=ezT q840
       go_wp2
       go_ret
       exact ⟨Y0,Y37⟩
     ·rw [if_neg c12] at H
      exact absurd H (by simp)
    ·rw [if_neg c11] at H
     exact absurd H (by simp)
def jO.l0 : Nat → List (S36) → Int → List Int → Int → List (S75) → Option (List Int)
 | 0,_,_,_,_,_=>none
 | k+1,x1,x3,x9,x10,x931000=>if x10<(x9.length:Int) then (if 0≤x10 then ((jaa.f k x931000 x1 (rd x9 x10) x3).bind fun t936=>(if t936<0 then (jO.l0 k x1 x3 x9 (wrap64 (x10+1)) x931000) else (if x10≤(x9.length:Int) then ((jLa.f k x1 (x9.take (x10:Int).toNat)).bind fun t941=>(some t941)) else (none)))) else (none)) else (if 0≤x10 then (if x10≤(x9.length:Int) then ((jLa.f k x1 (x9.take (x10:Int).toNat)).bind fun t948=>(some t948)) else (none)) else (none))
def jO.f (k : Nat) (l0_0 : List (S75)) (l1 : List (S36)) (a2 : Int) (a3 : Int) : Option (List Int) := (jGb.f k l0_0 l1 a2 a3).bind fun t931 => (if t931 = true then ((jza.f k l1 a2).bind fun t932 => (jO.l0 k l1 a3 t932 0 l0_0)) else (some ([] : List Int)))
def jO.T5 : Bool × List (List Nat × List Nat) := (true, [([], []), ([], []), ([1], [1]), ([0, 2], [0, 2]), ([3], [3]), ([4], [4]), ([4], [4]), ([4], [4]), ([4], [4]), ([7, 8, 4], [4, 7, 8]), ([9, 4], [4, 9]), ([4], [4]), ([5, 6, 10, 11, 4, 4], [4, 5, 6, 10, 11]), ([12, 4], [4, 12]), ([4, 13], [4, 13])])
def jO.B5 : List Nat := [0, 0, 2, 7, 15, 31, 31, 31, 31, 415, 927, 31, 4095, 8191, 16383]
theorem jO.tab5 : rtab .any (opsOf Try.f28 5) = jO.T5 := by kernel_rfl
theorem jO.bits5 : jzc jO.T5.2 jO.B5 = true := by kernel_rfl
set_option maxHeartbeats 8000000 in
set_option maxRecDepth 100000 in
theorem jO.calls (k : Nat) (A0_0 : Option Addr) (c0_0 : Nat) (l0_0 : List (S75)) (A1 : Option Addr) (c1 : Nat) (l1 : List (S36)) (a2 : Int) (a3 : Int) (r : List Int) (w : World) (hr0_0 : Kd.C k75 w A0_0 l0_0.length l0_0) (hc0_0 : l0_0.length ≤ c0_0) (hr1 : Kd.C k36 w A1 l1.length l1) (hc1 : l1.length ≤ c1) (h : jO.f k l0_0 l1 a2 a3 = some r) :
  Calls Try.prog 28 #[.agg #[.slice A0_0 l0_0.length c0_0], .slice A1 l1.length c1, .int .i64 a2, .int .i64 a3] w fun e w'=>∃ v0_:Value,e=.returned (v0_)∧Kd.R (Kd.int .i64) 3 w' w.heap.size (fun _=>True) v0_ r∧Below w.heap.size w w':=by
 have hu25:=Try.underlying25
 have HR0_0:=am hr0_0
 have HC0_0:=am hc0_0
 clear hr0_0 hc0_0
 have HR1:=am hr1
 have HC1:=am hc1
 clear hr1 hc1
 have HB:=am (Below.refl w.heap.size w)
 have H:((jGb.f k l0_0 l1 a2 a3).bind fun t931=>(if t931=true then ((jza.f k l1 a2).bind fun t932=>(jO.l0 k l1 a3 t932 0 l0_0)) else (some ([]:List Int))))=some r:=h
 clear h
 replace H:=bzS H
 obtain ⟨t931,A50,H⟩:=H
 replace H:(if t931=true then ((jza.f k l1 a2).bind fun t932=>(jO.l0 k l1 a3 t932 0 l0_0)) else (some ([]:List Int)))=some r:=H
 have A5:=am A50
 clear A50
 by_cases c6:t931=true
 ·subst c6
  have H1:((jza.f k l1 a2).bind fun t932=>(jO.l0 k l1 a3 t932 0 l0_0))=some r:=by rw [if_pos rfl] at H;exact H
  clear H
  have H:=H1
  clear H1
  replace H:=bzS H
  obtain ⟨t932,A70,H⟩:=H
  replace H:(jO.l0 k l1 a3 t932 0 l0_0)=some r:=H
  have A7:=am A70
  clear A70
  have H':=am H
  clear H
  go_enter Try.func28,Try.ntmps28
  go_wp2_with (first |((with_reducible refine jJ (N:=4) rfl ?_);refine bE (N:=4) (cs:=#[.slice A0_0 l0_0.length c0_0]) (t:=25) ?_;intro gb930 hg w8 hbox hb;have BK930:=am (hbox);have GW930:=am ((Y3:w.heap.size≤gb930));have GE930:=am ((Y3:w.heap.size≤gb930));replace HB:=am (je (bq) hb);clear hb hbox hg;have hcz9_0:=bc0 BK930.out;have hfz9_0:=ja BK930.out 0) |((with_reducible refine jd (f:=50) rfl ?_);refine gL (some 15) Try.func50 #[.agg #[.slice A0_0 l0_0.length c0_0], .slice A1 l1.length c1, .int .i64 a2, .int .i64 a3] ?_;(with_reducible refine (jGb.calls k _ _ l0_0 _ _ l1 a2 a3 true _ ?side1 ?side2 ?side3 ?side4 A5.out).mono ?_);(case side1=>exact cq (Kd.jN HR0_0.out HB.out));(case side2=>exact HC0_0.out);(case side3=>exact cq (Kd.jN HR1.out HB.out));(case side4=>exact HC1.out);rintro e w10 ⟨rfl,hb⟩;refine ⟨_,rfl,?_⟩;replace BK930:=am (jk (g:=gb930) (o:=.cells #[.slice A0_0 l0_0.length c0_0] 25 (0,0)) (kq BK930.out) hb);replace HB:=am (je (Y34) hb);(try clear hb);(try clear hb2);(try clear hk);(try clear hi)) |((with_reducible refine jd (f:=35) rfl ?_);refine gL (some 19) Try.func35 #[.slice A1 l1.length c1, .int .i64 a2] ?_;(with_reducible refine (jza.calls k _ _ l1 a2 t932 _ ?side1 ?side2 A7.out).mono ?_);(case side1=>exact cq (Kd.jN HR1.out HB.out));(case side2=>exact HC1.out);rintro e w11 ⟨v933,rfl,ho0,hb⟩;refine ⟨_,rfl,?_⟩;have HO934:=am (Kd.jV ho0 (jT (Y34)));replace BK930:=am (jk (g:=gb930) (o:=.cells #[.slice A0_0 l0_0.length c0_0] 25 (0,0)) (kq BK930.out) hb);replace HB:=am (je (Y34) hb);(try clear hb);(try clear hb2);(try clear hk);(try clear hi);(try clear ho0)))
  go_loopg [10] k (fun kq v10 w'=>∃ (x10_1:Int),v10=.int .i64 x10_1∧jl (jO.l0 kq l1 a3 t932 x10_1 l0_0=some r)∧jl (kq≤k)∧jl (Kd.R (Kd.int .i64) 3 w' w.heap.size (fun _=>True) v933 t932)∧jl (w'.heap[gb930]?=some (.cells #[(.slice A0_0 l0_0.length c0_0)] 25 (0,0)))∧jl (Below w.heap.size w w'))
  case atStart=>exact ⟨(0),(sq),H',⟨Nat.le_refl _⟩,⟨rq HO934.out⟩,⟨kq BK930.out⟩,⟨Y34⟩⟩
  case round =>
   clear H'
   try clear c1
   try clear c2
   try clear p2
   try clear c3
   try clear c5
   try clear c6
   try clear hcz9_0
   try clear hfz9_0
   obtain ⟨x10_1,rfl,HA,HK1,HO_9,BK930,HB⟩:=hrel
   cases gk with
   | zero=>exact absurd HA.out (by simp [jO.l0])
   | succ k1 =>
    have H:=HA.out
    clear HA
    simp only [jO.l0] at H
    by_cases c12:x10_1<(t932.length:Int)
    ·rw [if_pos c12] at H
     have c12b0:decide (x10_1<(t932.length:Int))=true:=dzT c12
     clear c12
     by_cases c13:0≤x10_1
     ·rw [if_pos c13] at H
      have c13b0:decide (0≤x10_1)=true:=dzT c13
      clear c13
      replace H:=bzS H
      obtain ⟨t936,A140,H⟩:=H
      replace H:(if t936<0 then (jO.l0 k1 l1 a3 t932 (wrap64 (x10_1+1)) l0_0) else (if x10_1≤(t932.length:Int) then ((jLa.f k1 l1 (t932.take (x10_1:Int).toNat)).bind fun t941=>(some t941)) else (none)))=some r:=H
      have A14:=am A140
      clear A140
      by_cases c15:t936<0
      ·rw [if_pos c15] at H
       have c15b0:decide (t936<0)=true:=dzT c15
       clear c15
       have H':=am H
       clear H
       try go_wp2
       replace HO_9:=am (Kd.jia HO_9.out)
       replace BK930:=am (jA BK930.out)
       replace HB:=am (jF HB.out)
       obtain ⟨Ao17,co17,eo17⟩:=Kd.jca HO_9.out
       (first | subst eo17 |(injection eo17 with f1_ f2_ f3_;have f4_:=f1_.symm;have f5_:=f3_.symm;clear f1_ f2_ f3_;subst f4_;subst f5_))
       have p935:0≤(x10_1:Int):=ozD (uq)
       have q935:x10_1<(t932.length:Int):=ozD (uq)
       obtain ⟨ad935,e935,hx935_0⟩:=Kd.jhb (Kd.jq HO_9.out).2.2 x10_1 p935 q935
       cases e935
       replace p935:=ezT p935
       replace q935:=ezT q935
       refine jHc (n:=15) (S:=fun w'=>w'.cell? ⟨gb930,0,none⟩=some (.slice A0_0 l0_0.length c0_0)∧w'.cell? (ad935.add (x10_1).toNat)=some (.int .i64 (rd t932 x10_1))) (ds:=[]) #[false,false,false,false,false,false,false,false,false,false,false,false,false,false,false] (by kernel_rfl) rfl rfl ⟨(jI BK930.out 0).trans rfl,hx935_0⟩ (fun hHeld=>?_);refine jIb jO.tab5 jO.bits5 (fun HT_ HW_=>?_)
       generalize wr.drew=w16 at HO_9 BK930 HB hx935_0 hHeld ⊢
       refine pq (i:=0) (N:=some 20) #[true,false,false,false,false,false,false,false,false,false,false,false,false,false,false] ?_
       refine pq (i:=1) (N:=some 21) #[true,true,false,false,false,false,false,false,false,false,false,false,false,false,false] ?_
       refine pq (i:=2) (N:=some 22) #[true,true,true,false,false,false,false,false,false,false,false,false,false,false,false] ?_
       refine pq (i:=3) (N:=some 23) #[true,true,true,true,false,false,false,false,false,false,false,false,false,false,false] ?_
       refine pq (i:=4) (N:=some 24) #[true,true,true,true,true,false,false,false,false,false,false,false,false,false,false] ?_
       refine pq (i:=6) (N:=some 26) #[true,true,true,true,true,false,true,false,false,false,false,false,false,false,false] ?_
       refine pq (i:=7) (N:=some 27) #[true,true,true,true,true,false,true,true,false,false,false,false,false,false,false] ?_
       refine pq (i:=8) (N:=some 28) #[true,true,true,true,true,false,true,true,true,false,false,false,false,false,false] ?_
       refine pq (i:=9) (N:=some 29) #[true,true,true,true,true,false,true,true,true,true,false,false,false,false,false] ?_
       refine pq (i:=11) (N:=some 31) #[true,true,true,true,true,false,true,true,true,true,false,true,false,false,false] ?_
       refine jhc (i:=5) (N:=some 25) (v:=?_) (a':=?_) #[true,true,true,true,true,true,true,true,true,true,false,true,false,false,false] rfl rfl (jTa HT_.out HW_.out (by kernel_rfl)) (fun _ _ _ h=>h) (Or.inl ⟨by rfl,?_⟩) hHeld ?_ ?_
       rotate_left
       ·rintro w' ⟨s0,s1⟩
        go_simp
        with_reducible rfl
       rotate_left
       ·exact sa
       refine jhc (i:=10) (N:=some 30) (v:=?_) (a':=?_) #[true,true,true,true,true,true,true,true,true,true,true,true,false,false,false] rfl rfl (jTa HT_.out HW_.out (by kernel_rfl)) (fun _ _ _ h=>h) (Or.inl ⟨by rfl,?_⟩) hHeld ?_ ?_
       rotate_left
       ·rintro w' ⟨s0,s1⟩
        go_simp
        with_reducible rfl
       rotate_left
       ·exact sa
       refine one_ (i:=12) (N:=some 32) #[true,true,true,true,true,true,true,true,true,true,true,true,true,false,false] rfl rfl (jSb HT_.out (by kernel_rfl)) (by decide) (fun K hK=>?_)
       refine goes_ Try.func51 (by kernel_rfl) rfl #[.agg #[.slice A0_0 l0_0.length c0_0], .slice A1 l1.length c1, .int .i64 (rd t932 x10_1), .int .i64 a3] (by rfl) rfl rfl (aq) ?_
       with_reducible refine (jaa.calls k1 _ _ l0_0 _ _ l1 (rd t932 x10_1) a3 t936 _ ?side1 ?side2 ?side3 ?side4 A14.out).mono ?_
       (case side1=>exact cq (Kd.jN HR0_0.out HB.out))
       (case side2=>exact HC0_0.out)
       (case side3=>exact cq (Kd.jN HR1.out HB.out))
       (case side4=>exact HC1.out)
       rintro e w18 ⟨rfl,hb⟩
       have HS1_:=(hb.cell (World.block_lt_of_cell? _ _ (hHeld.2))).trans (hHeld.2)
       refine ⟨_,rfl,?_⟩
       replace HO_9:=am (Kd.jda (rq HO_9.out) hb)
       replace BK930:=am (jk (g:=gb930) (o:=.cells #[.slice A0_0 l0_0.length c0_0] 25 (0,0)) (kq BK930.out) hb)
       replace HB:=am (je (Y34) hb)
       (try clear hb)
       (try clear hb2)
       (try clear hk)
       (try clear hi)
       refine hK.out _ _ ⟨(jI BK930.out 0).trans rfl,HS1_⟩ (fun hHeld=>?_)
       clear hK K
       refine jnc (a':=?_) ?_ ?_
       rotate_left
       ·show Act.put _ (some 32) _=_
        simp only [Act.put,List.setIfInBounds_toArray,List.set_cons_zero,List.set_cons_succ,jmb,jub]
        rfl
       refine pq (i:=13) (N:=some 33) #[true,true,true,true,true,true,true,true,true,true,true,true,true,true,false] ?_
       refine pq (i:=14) (N:=some 34) #[true,true,true,true,true,true,true,true,true,true,true,true,true,true,true] ?_
       refine done_ (jsc HT_.out (by kernel_rfl)) ?_
       try go_wp2
       go_roundg k1
       case measure=>have:=HK1.out;omega
       case rel=>exact ⟨(wrap64 (x10_1+1)),(sq),H',⟨by have:=HK1.out;omega⟩,⟨rq HO_9.out⟩,⟨kq BK930.out⟩,⟨Y34⟩⟩
      ·rw [if_neg c15] at H
       have c15b0:decide (t936<0)=false:=dzF c15
       clear c15
       have c19b0:=ezT (ozD (uq):0≤x10_1)
       by_cases c20:x10_1≤(t932.length:Int)
       ·rw [if_pos c20] at H
        have c20b0:=ezT c20
        have c20b1:decide (x10_1≤(t932.length:Int))=true:=dzT c20
        clear c20
        obtain ⟨y937,hy937⟩:∃ y_:List Int,y_=(t932.take (x10_1:Int).toNat):=⟨_,rfl⟩
        replace H:((jLa.f k1 l1 y937).bind fun t941=>(some t941))=some r:=by first |(rw [hy937];with_reducible exact H) |(have H2_:=(Option.bind_some _ _).symm.trans H;rw [hy937];with_reducible exact H2_) |(have H2_:=(Option.bind_some _ _).symm.trans H;with_reducible exact H2_) | with_reducible exact H |(rw [hy937];exact H) | exact H
        have Ny937:=am hy937
        clear hy937
        replace H:=bzS H
        obtain ⟨t941,A210,H⟩:=H
        replace H:(some t941)=some r:=H
        have A21:=am A210
        clear A210
        obtain rfl:=Option.some.inj H
        try go_wp2
        replace HO_9:=am (Kd.jia HO_9.out)
        replace BK930:=am (jA BK930.out)
        replace HB:=am (jF HB.out)
        obtain ⟨Ao23,co23,eo23⟩:=Kd.jca HO_9.out
        (first | subst eo23 |(injection eo23 with f1_ f2_ f3_;have f4_:=f1_.symm;have f5_:=f3_.symm;clear f1_ f2_ f3_;subst f4_;subst f5_))
        have p935:0≤(x10_1:Int):=ozD (uq)
        have q935:x10_1<(t932.length:Int):=ozD (uq)
        obtain ⟨ad935,e935,hx935_0⟩:=Kd.jhb (Kd.jq HO_9.out).2.2 x10_1 p935 q935
        cases e935
        replace p935:=ezT p935
        replace q935:=ezT q935
        refine jHc (n:=15) (S:=fun w'=>w'.cell? ⟨gb930,0,none⟩=some (.slice A0_0 l0_0.length c0_0)∧w'.cell? (ad935.add (x10_1).toNat)=some (.int .i64 (rd t932 x10_1))) (ds:=[]) #[false,false,false,false,false,false,false,false,false,false,false,false,false,false,false] (by kernel_rfl) rfl rfl ⟨(jI BK930.out 0).trans rfl,hx935_0⟩ (fun hHeld=>?_);refine jIb jO.tab5 jO.bits5 (fun HT_ HW_=>?_)
        generalize wr.drew=w22 at HO_9 BK930 HB hx935_0 hHeld ⊢
        refine pq (i:=0) (N:=some 20) #[true,false,false,false,false,false,false,false,false,false,false,false,false,false,false] ?_
        refine pq (i:=1) (N:=some 21) #[true,true,false,false,false,false,false,false,false,false,false,false,false,false,false] ?_
        refine pq (i:=2) (N:=some 22) #[true,true,true,false,false,false,false,false,false,false,false,false,false,false,false] ?_
        refine pq (i:=3) (N:=some 23) #[true,true,true,true,false,false,false,false,false,false,false,false,false,false,false] ?_
        refine pq (i:=4) (N:=some 24) #[true,true,true,true,true,false,false,false,false,false,false,false,false,false,false] ?_
        refine pq (i:=6) (N:=some 26) #[true,true,true,true,true,false,true,false,false,false,false,false,false,false,false] ?_
        refine pq (i:=7) (N:=some 27) #[true,true,true,true,true,false,true,true,false,false,false,false,false,false,false] ?_
        refine pq (i:=8) (N:=some 28) #[true,true,true,true,true,false,true,true,true,false,false,false,false,false,false] ?_
        refine pq (i:=9) (N:=some 29) #[true,true,true,true,true,false,true,true,true,true,false,false,false,false,false] ?_
        refine pq (i:=11) (N:=some 31) #[true,true,true,true,true,false,true,true,true,true,false,true,false,false,false] ?_
        refine jhc (i:=5) (N:=some 25) (v:=?_) (a':=?_) #[true,true,true,true,true,true,true,true,true,true,false,true,false,false,false] rfl rfl (jTa HT_.out HW_.out (by kernel_rfl)) (fun _ _ _ h=>h) (Or.inl ⟨by rfl,?_⟩) hHeld ?_ ?_
        rotate_left
        ·rintro w' ⟨s0,s1⟩
         go_simp
         with_reducible rfl
        rotate_left
        ·exact sa
        refine jhc (i:=10) (N:=some 30) (v:=?_) (a':=?_) #[true,true,true,true,true,true,true,true,true,true,true,true,false,false,false] rfl rfl (jTa HT_.out HW_.out (by kernel_rfl)) (fun _ _ _ h=>h) (Or.inl ⟨by rfl,?_⟩) hHeld ?_ ?_
        rotate_left
        ·rintro w' ⟨s0,s1⟩
         go_simp
         with_reducible rfl
        rotate_left
        ·exact sa
        refine one_ (i:=12) (N:=some 32) #[true,true,true,true,true,true,true,true,true,true,true,true,true,false,false] rfl rfl (jSb HT_.out (by kernel_rfl)) (by decide) (fun K hK=>?_)
        refine goes_ Try.func51 (by kernel_rfl) rfl #[.agg #[.slice A0_0 l0_0.length c0_0], .slice A1 l1.length c1, .int .i64 (rd t932 x10_1), .int .i64 a3] (by rfl) rfl rfl (aq) ?_
        with_reducible refine (jaa.calls k1 _ _ l0_0 _ _ l1 (rd t932 x10_1) a3 t936 _ ?side1 ?side2 ?side3 ?side4 A14.out).mono ?_
        (case side1=>exact cq (Kd.jN HR0_0.out HB.out))
        (case side2=>exact HC0_0.out)
        (case side3=>exact cq (Kd.jN HR1.out HB.out))
        (case side4=>exact HC1.out)
        rintro e w24 ⟨rfl,hb⟩
        have HS1_:=(hb.cell (World.block_lt_of_cell? _ _ (hHeld.2))).trans (hHeld.2)
        refine ⟨_,rfl,?_⟩
        replace HO_9:=am (Kd.jda (rq HO_9.out) hb)
        replace BK930:=am (jk (g:=gb930) (o:=.cells #[.slice A0_0 l0_0.length c0_0] 25 (0,0)) (kq BK930.out) hb)
        replace HB:=am (je (Y34) hb)
        (try clear hb)
        (try clear hb2)
        (try clear hk)
        (try clear hi)
        refine hK.out _ _ ⟨(jI BK930.out 0).trans rfl,HS1_⟩ (fun hHeld=>?_)
        clear hK K
        refine jnc (a':=?_) ?_ ?_
        rotate_left
        ·show Act.put _ (some 32) _=_
         simp only [Act.put,List.setIfInBounds_toArray,List.set_cons_zero,List.set_cons_succ,jmb,jub]
         rfl
        refine pq (i:=13) (N:=some 33) #[true,true,true,true,true,true,true,true,true,true,true,true,true,true,false] ?_
        refine pq (i:=14) (N:=some 34) #[true,true,true,true,true,true,true,true,true,true,true,true,true,true,true] ?_
        refine done_ (jsc HT_.out (by kernel_rfl)) ?_
        have q25:(x10_1:Int)≤((t932.length:Int):Int):=ozD (uq)
        obtain ⟨i025,hi025,_,hsz25,_⟩:=info_parts info3
        have hroom25:t932.length≤co23:=(Kd.jq HO_9.out).2.1
        have hC25:Kd.C (Kd.int .i64) _ (some ad935) t932.length t932:=(Kd.jq HO_9.out).2.2
        have hcut25:=cut_to (P:=Try.prog) 29 3 .i64 Try.underlying29 hi025 (some ad935) t932.length co23 x10_1 (ozD (uq)) q25 hroom25
        have hr25:=Kd.C_take (m:=(x10_1:Int).toNat) hC25 (by omega)
        have hy25:y937.length=(x10_1:Int).toNat:=(by rw [Ny937.out,List.length_take];omega)
        rw [← Ny937.out] at hr25
        rw [← hy25] at hcut25
        have HR940:=am hr25
        have HC940:=am (show y937.length≤co23 from by omega)
        clear hr25 hC25 hroom25 hi025 hsz25
        have KY25:=am hy25
        clear hy25
        have KL25:=am (show (x10_1:Int).toNat≤t932.length from by omega)
        replace q25:=ezT q25
        try go_wp2_with (first |((with_reducible refine jd (f:=34) rfl ?_);refine gL (some 41) Try.func34 #[.slice A1 l1.length c1, .slice (some ad935) y937.length co23] ?_;(with_reducible refine (jLa.calls k1 _ _ l1 _ _ y937 t941 _ ?side1 ?side2 ?side3 ?side4 A21.out).mono ?_);(case side1=>exact cq (Kd.jN HR1.out HB.out));(case side2=>exact HC1.out);(case side3=>repeat (first | exact (by repeat (first |(with_reducible exact HR940.out) |(with_reducible refine Kd.jcc ?_ _) |(with_reducible refine Kd.jZb ?_ _) |(with_reducible refine Kd.jCc ?_) | exact HR940.out)) |(with_reducible refine Kd.jcc ?_ _) |(with_reducible refine Kd.jZb ?_ _) |(with_reducible refine Kd.jCc ?_)));(case side4=>exact HC940.out);rintro e w26 ⟨v942,rfl,ho0,hb⟩;refine ⟨_,rfl,?_⟩;have HO943:=am (Kd.jV (Kd.jUb ho0 (Kd.R_lt (rq HO_9.out))) (jT (Y34)));replace HO_9:=am (Kd.jMb (rq HO_9.out) (Kd.jVb ho0) hb);replace BK930:=am (jk (g:=gb930) (o:=.cells #[.slice A0_0 l0_0.length c0_0] 25 (0,0)) (kq BK930.out) hb);replace HR940:=am (Kd.jN (by repeat (first |(with_reducible exact HR940.out) |(with_reducible refine Kd.jcc ?_ _) |(with_reducible refine Kd.jZb ?_ _) |(with_reducible refine Kd.jCc ?_) | exact HR940.out)) hb);replace HB:=am (je (Y34) hb);(try clear hb);(try clear hb2);(try clear hk);(try clear hi);(try clear ho0)))
        go_ret
        exact ⟨_,Y0,by (with_reducible repeat (first | apply Kd.jX | apply Kd.jW | apply Kd.jia));exact Kd.jD HO943.out (fun _ hk=>trivial),Y34⟩
       ·rw [if_neg c20] at H
        exact absurd H (by simp)
     ·rw [if_neg c13] at H
      exact absurd H (by simp)
    ·rw [if_neg c12] at H
     have c12b0:decide (x10_1<(t932.length:Int))=false:=dzF c12
     clear c12
     by_cases c27:0≤x10_1
     ·rw [if_pos c27] at H
      have c27b0:=ezT c27
      have c27b1:decide (0≤x10_1)=true:=dzT c27
      clear c27
      by_cases c28:x10_1≤(t932.length:Int)
      ·rw [if_pos c28] at H
       have c28b0:=ezT c28
       have c28b1:decide (x10_1≤(t932.length:Int))=true:=dzT c28
       clear c28
       obtain ⟨y944,hy944⟩:∃ y_:List Int,y_=(t932.take (x10_1:Int).toNat):=⟨_,rfl⟩
       replace H:((jLa.f k1 l1 y944).bind fun t948=>(some t948))=some r:=by first |(rw [hy944];with_reducible exact H) |(have H2_:=(Option.bind_some _ _).symm.trans H;rw [hy944];with_reducible exact H2_) |(have H2_:=(Option.bind_some _ _).symm.trans H;with_reducible exact H2_) | with_reducible exact H |(rw [hy944];exact H) | exact H
       have Ny944:=am hy944
       clear hy944
       replace H:=bzS H
       obtain ⟨t948,A290,H⟩:=H
       replace H:(some t948)=some r:=H
       have A29:=am A290
       clear A290
       obtain rfl:=Option.some.inj H
       try go_wp2
       replace HO_9:=am (Kd.jia HO_9.out)
       replace BK930:=am (jA BK930.out)
       replace HB:=am (jF HB.out)
       obtain ⟨Ao31,co31,eo31⟩:=Kd.jca HO_9.out
       (first | subst eo31 |(injection eo31 with f1_ f2_ f3_;have f4_:=f1_.symm;have f5_:=f3_.symm;clear f1_ f2_ f3_;subst f4_;subst f5_))
       refine jHc (n:=15) (S:=fun w'=>True) (ds:=[]) #[false,false,false,false,false,false,false,false,false,false,false,false,false,false,false] (by kernel_rfl) rfl rfl trivial (fun hHeld=>?_);refine jIb jO.tab5 jO.bits5 (fun HT_ HW_=>?_)
       generalize wr.drew=w30 at HO_9 BK930 HB hHeld ⊢
       refine pq (i:=0) (N:=some 20) #[true,false,false,false,false,false,false,false,false,false,false,false,false,false,false] ?_
       refine pq (i:=1) (N:=some 21) #[true,true,false,false,false,false,false,false,false,false,false,false,false,false,false] ?_
       refine pq (i:=2) (N:=some 22) #[true,true,true,false,false,false,false,false,false,false,false,false,false,false,false] ?_
       refine pq (i:=3) (N:=some 23) #[true,true,true,true,false,false,false,false,false,false,false,false,false,false,false] ?_
       refine pq (i:=4) (N:=some 24) #[true,true,true,true,true,false,false,false,false,false,false,false,false,false,false] ?_
       refine jEc (i:=5) (N:=some 25) (v:=undef) (a':=?_) #[true,true,true,true,true,true,false,false,false,false,false,false,false,false,false] rfl rfl (jWb HT_.out (by kernel_rfl)) (fun _ _ _ h=>h) (Or.inr ⟨by rfl,rfl⟩) ?_ ?_
       rotate_left
       ·exact sa
       refine jEc (i:=6) (N:=some 26) (v:=undef) (a':=?_) #[true,true,true,true,true,true,true,false,false,false,false,false,false,false,false] rfl rfl (jWb HT_.out (by kernel_rfl)) (fun _ _ _ h=>h) (Or.inr ⟨by rfl,rfl⟩) ?_ ?_
       rotate_left
       ·exact sa
       refine jEc (i:=7) (N:=some 27) (v:=undef) (a':=?_) #[true,true,true,true,true,true,true,true,false,false,false,false,false,false,false] rfl rfl (jWb HT_.out (by kernel_rfl)) (fun _ _ _ h=>h) (Or.inr ⟨by rfl,rfl⟩) ?_ ?_
       rotate_left
       ·exact sa
       refine jEc (i:=8) (N:=some 28) (v:=undef) (a':=?_) #[true,true,true,true,true,true,true,true,true,false,false,false,false,false,false] rfl rfl (jWb HT_.out (by kernel_rfl)) (fun _ _ _ h=>h) (Or.inr ⟨by rfl,rfl⟩) ?_ ?_
       rotate_left
       ·exact sa
       refine jEc (i:=9) (N:=some 29) (v:=undef) (a':=?_) #[true,true,true,true,true,true,true,true,true,true,false,false,false,false,false] rfl rfl (jWb HT_.out (by kernel_rfl)) (fun _ _ _ h=>h) (Or.inr ⟨by rfl,rfl⟩) ?_ ?_
       rotate_left
       ·exact sa
       refine jEc (i:=10) (N:=some 30) (v:=undef) (a':=?_) #[true,true,true,true,true,true,true,true,true,true,true,false,false,false,false] rfl rfl (jWb HT_.out (by kernel_rfl)) (fun _ _ _ h=>h) (Or.inr ⟨by rfl,rfl⟩) ?_ ?_
       rotate_left
       ·exact sa
       refine jEc (i:=11) (N:=some 31) (v:=undef) (a':=?_) #[true,true,true,true,true,true,true,true,true,true,true,true,false,false,false] rfl rfl (jWb HT_.out (by kernel_rfl)) (fun _ _ _ h=>h) (Or.inr ⟨by rfl,rfl⟩) ?_ ?_
       rotate_left
       ·exact sa
       refine jEc (i:=12) (N:=some 32) (v:=undef) (a':=?_) #[true,true,true,true,true,true,true,true,true,true,true,true,true,false,false] rfl rfl (jWb HT_.out (by kernel_rfl)) (fun _ _ _ h=>h) (Or.inr ⟨by rfl,rfl⟩) ?_ ?_
       rotate_left
       ·exact sa
       refine jEc (i:=13) (N:=some 33) (v:=undef) (a':=?_) #[true,true,true,true,true,true,true,true,true,true,true,true,true,true,false] rfl rfl (jWb HT_.out (by kernel_rfl)) (fun _ _ _ h=>h) (Or.inr ⟨by rfl,rfl⟩) ?_ ?_
       rotate_left
       ·exact sa
       refine pq (i:=14) (N:=some 34) #[true,true,true,true,true,true,true,true,true,true,true,true,true,true,true] ?_
       refine done_ (jsc HT_.out (by kernel_rfl)) ?_
       have q32:(x10_1:Int)≤((t932.length:Int):Int):=ozD (uq)
       obtain ⟨i032,hi032,_,hsz32,_⟩:=info_parts info3
       have hroom32:t932.length≤co31:=(Kd.jq HO_9.out).2.1
       have hC32:Kd.C (Kd.int .i64) _ Ao31 t932.length t932:=(Kd.jq HO_9.out).2.2
       have hcut32:=cut_to (P:=Try.prog) 29 3 .i64 Try.underlying29 hi032 Ao31 t932.length co31 x10_1 (ozD (uq)) q32 hroom32
       have hr32:=Kd.C_take (m:=(x10_1:Int).toNat) hC32 (by omega)
       have hy32:y944.length=(x10_1:Int).toNat:=(by rw [Ny944.out,List.length_take];omega)
       rw [← Ny944.out] at hr32
       rw [← hy32] at hcut32
       have HR947:=am hr32
       have HC947:=am (show y944.length≤co31 from by omega)
       clear hr32 hC32 hroom32 hi032 hsz32
       have KY32:=am hy32
       clear hy32
       have KL32:=am (show (x10_1:Int).toNat≤t932.length from by omega)
       replace q32:=ezT q32
       try go_wp2_with (first |((with_reducible refine jd (f:=34) rfl ?_);refine gL (some 41) Try.func34 #[.slice A1 l1.length c1, .slice Ao31 y944.length co31] ?_;(with_reducible refine (jLa.calls k1 _ _ l1 _ _ y944 t948 _ ?side1 ?side2 ?side3 ?side4 A29.out).mono ?_);(case side1=>exact cq (Kd.jN HR1.out HB.out));(case side2=>exact HC1.out);(case side3=>repeat (first | exact (by repeat (first |(with_reducible exact HR947.out) |(with_reducible refine Kd.jcc ?_ _) |(with_reducible refine Kd.jZb ?_ _) |(with_reducible refine Kd.jCc ?_) | exact HR947.out)) |(with_reducible refine Kd.jcc ?_ _) |(with_reducible refine Kd.jZb ?_ _) |(with_reducible refine Kd.jCc ?_)));(case side4=>exact HC947.out);rintro e w33 ⟨v949,rfl,ho0,hb⟩;refine ⟨_,rfl,?_⟩;have HO950:=am (Kd.jV (Kd.jUb ho0 (Kd.R_lt (rq HO_9.out))) (jT (Y34)));replace HO_9:=am (Kd.jMb (rq HO_9.out) (Kd.jVb ho0) hb);replace BK930:=am (jk (g:=gb930) (o:=.cells #[.slice A0_0 l0_0.length c0_0] 25 (0,0)) (kq BK930.out) hb);replace HR947:=am (Kd.jN (by repeat (first |(with_reducible exact HR947.out) |(with_reducible refine Kd.jcc ?_ _) |(with_reducible refine Kd.jZb ?_ _) |(with_reducible refine Kd.jCc ?_) | exact HR947.out)) hb);replace HB:=am (je (Y34) hb);(try clear hb);(try clear hb2);(try clear hk);(try clear hi);(try clear ho0)))
       go_ret
       exact ⟨_,Y0,by (with_reducible repeat (first | apply Kd.jX | apply Kd.jW | apply Kd.jia));exact Kd.jD HO950.out (fun _ hk=>trivial),Y34⟩
      ·rw [if_neg c28] at H
       exact absurd H (by simp)
     ·rw [if_neg c27] at H
      exact absurd H (by simp)
 ·replace c6:=Bool.eq_false_iff.mpr c6
  subst c6
  have H1:(some ([]:List Int))=some r:=by rw [if_neg (show ¬ (false=true) by decide)] at H;exact H
  clear H
  have H:=H1
  clear H1
  obtain rfl:=Option.some.inj H
  go_enter Try.func28,Try.ntmps28
  go_wp2_with (first |((with_reducible refine jJ (N:=4) rfl ?_);refine bE (N:=4) (cs:=#[.slice A0_0 l0_0.length c0_0]) (t:=25) ?_;intro gb930 hg w34 hbox hb;have BK930:=am (hbox);have GW930:=am ((Y3:w.heap.size≤gb930));have GE930:=am ((Y3:w.heap.size≤gb930));replace HB:=am (je (bq) hb);clear hb hbox hg;have hcz35_0:=bc0 BK930.out;have hfz35_0:=ja BK930.out 0) |((with_reducible refine jd (f:=50) rfl ?_);refine gL (some 15) Try.func50 #[.agg #[.slice A0_0 l0_0.length c0_0], .slice A1 l1.length c1, .int .i64 a2, .int .i64 a3] ?_;(with_reducible refine (jGb.calls k _ _ l0_0 _ _ l1 a2 a3 false _ ?side1 ?side2 ?side3 ?side4 A5.out).mono ?_);(case side1=>exact cq (Kd.jN HR0_0.out HB.out));(case side2=>exact HC0_0.out);(case side3=>exact cq (Kd.jN HR1.out HB.out));(case side4=>exact HC1.out);rintro e w36 ⟨rfl,hb⟩;refine ⟨_,rfl,?_⟩;replace BK930:=am (jk (g:=gb930) (o:=.cells #[.slice A0_0 l0_0.length c0_0] 25 (0,0)) (kq BK930.out) hb);replace HB:=am (je (Y34) hb);(try clear hb);(try clear hb2);(try clear hk);(try clear hi)))
  go_ret
  exact ⟨_,Y0,Y79,Y34⟩
def jr.j0 : Nat → List (S36) → Int → Int → List Int → Bool → List (S75) → Option (Bool)
 | 0,_,_,_,_,_,_=>none
 | k+1,x4,x5,x6,x7,x53,x960000=>if x53=true then ((jO.f k x960000 x4 x5 x6).bind fun t969=>((jga.f k x7 t969).bind fun t972=>(some t972))) else ((joc.f k x960000 x4 x5).bind fun t973=>(if (x7.length:Int)≤(t973.length:Int) then (if 0≤(x7.length:Int) then ((jga.f k (t973.take ((x7.length:Int):Int).toNat) x7).bind fun t980=>(if t980=true then ((jsb.f k x960000 x4 x5 x6).bind fun t981=>(if t981≥0 then (some true) else (some ((x7.length:Int) == (t973.length:Int))))) else (some false))) else (none)) else (some false)))
def jr.f (k : Nat) (l0 : List Int) : Option (Bool) := if (l0.length : Int) > 1048576 then (some true) else ((jAb.f k l0).bind fun bt951 => ((jva.f k bt951.1 bt951.2.1 bt951.2.2.1 bt951.2.2.2).bind fun t960 => ((jO.f k bt951.1 bt951.2.1 bt951.2.2.1 bt951.2.2.2).bind fun t963 => ((jga.f k t960 t963).bind fun t966 => (if t966 = true then ((jB.f k bt951.1 bt951.2.1).bind fun t967 => (if t967 = true then (if bt951.2.2.1 < 0 then (jr.j0 k bt951.2.1 bt951.2.2.1 bt951.2.2.2 t960 true bt951.1) else (if bt951.2.2.1 ≥ (bt951.2.1.length : Int) then (jr.j0 k bt951.2.1 bt951.2.2.1 bt951.2.2.2 t960 true bt951.1) else ((jlc.f bt951.1 bt951.2.2.2).bind fun t968 => (jr.j0 k bt951.2.1 bt951.2.2.1 bt951.2.2.2 t960 (!t968) bt951.1)))) else (jr.j0 k bt951.2.1 bt951.2.2.1 bt951.2.2.2 t960 true bt951.1))) else (jr.j0 k bt951.2.1 bt951.2.2.1 bt951.2.2.2 t960 true bt951.1))))))
set_option maxHeartbeats 8000000 in
set_option maxRecDepth 100000 in
theorem jr.calls (k : Nat) (A0 : Option Addr) (c0 : Nat) (l0 : List Int) (r : Bool) (w : World) (hr0 : Kd.C (Kd.int .u8) w A0 l0.length l0) (hc0 : l0.length ≤ c0) (hT : r = true) (h : jr.f k l0 = some r) :
  Calls Try.prog 7 #[.slice A0 l0.length c0] w fun e w'=>e=.returned (.bool r)∧Below w.heap.size w w':=by
 have hu25:=Try.underlying25
 have HR0:=am hr0
 have HC0:=am hc0
 clear hr0 hc0
 have HB:=am (Below.refl w.heap.size w)
 have H:(if (l0.length:Int) > 1048576 then (some true) else ((jAb.f k l0).bind fun bt951=>((jva.f k bt951.1 bt951.2.1 bt951.2.2.1 bt951.2.2.2).bind fun t960=>((jO.f k bt951.1 bt951.2.1 bt951.2.2.1 bt951.2.2.2).bind fun t963=>((jga.f k t960 t963).bind fun t966=>(if t966=true then ((jB.f k bt951.1 bt951.2.1).bind fun t967=>(if t967=true then (if bt951.2.2.1<0 then (jr.j0 k bt951.2.1 bt951.2.2.1 bt951.2.2.2 t960 true bt951.1) else (if bt951.2.2.1≥(bt951.2.1.length:Int) then (jr.j0 k bt951.2.1 bt951.2.2.1 bt951.2.2.2 t960 true bt951.1) else ((jlc.f bt951.1 bt951.2.2.2).bind fun t968=>(jr.j0 k bt951.2.1 bt951.2.2.1 bt951.2.2.2 t960 (!t968) bt951.1)))) else (jr.j0 k bt951.2.1 bt951.2.2.1 bt951.2.2.2 t960 true bt951.1))) else (jr.j0 k bt951.2.1 bt951.2.2.1 bt951.2.2.2 t960 true bt951.1)))))))=some r:=h
 clear h
 by_cases c2:(l0.length:Int) > 1048576
 ·rw [if_pos c2] at H
  have c2b0:decide (1048576<(l0.length:Int))=true:=dzT c2
  have c2b1:decide (1048576<l0.length)=true:=dzT (by omega)
  clear c2
  obtain rfl:=Option.some.inj H
  go_enter Try.func7,Try.ntmps7
  go_wp2
  go_ret
  exact ⟨Y0,bq⟩
 ·rw [if_neg c2] at H
  have c2b0:decide (1048576<(l0.length:Int))=false:=dzF c2
  have c2b1:decide (1048576<l0.length)=false:=dzF (by omega)
  clear c2
  replace H:=bzS H
  obtain ⟨⟨t951,t954,t957,t958⟩,A30,H⟩:=H
  replace H:((jva.f k t951 t954 t957 t958).bind fun t960=>((jO.f k t951 t954 t957 t958).bind fun t963=>((jga.f k t960 t963).bind fun t966=>(if t966=true then ((jB.f k t951 t954).bind fun t967=>(if t967=true then (if t957<0 then (jr.j0 k t954 t957 t958 t960 true t951) else (if t957≥(t954.length:Int) then (jr.j0 k t954 t957 t958 t960 true t951) else ((jlc.f t951 t958).bind fun t968=>(jr.j0 k t954 t957 t958 t960 (!t968) t951)))) else (jr.j0 k t954 t957 t958 t960 true t951))) else (jr.j0 k t954 t957 t958 t960 true t951)))))=some r:=H
  have A3:=am A30
  clear A30
  replace H:=bzS H
  obtain ⟨t960,A40,H⟩:=H
  replace H:((jO.f k t951 t954 t957 t958).bind fun t963=>((jga.f k t960 t963).bind fun t966=>(if t966=true then ((jB.f k t951 t954).bind fun t967=>(if t967=true then (if t957<0 then (jr.j0 k t954 t957 t958 t960 true t951) else (if t957≥(t954.length:Int) then (jr.j0 k t954 t957 t958 t960 true t951) else ((jlc.f t951 t958).bind fun t968=>(jr.j0 k t954 t957 t958 t960 (!t968) t951)))) else (jr.j0 k t954 t957 t958 t960 true t951))) else (jr.j0 k t954 t957 t958 t960 true t951))))=some r:=H
  have A4:=am A40
  clear A40
  have HC5:=am H
  clear H
  go_enter Try.func7,Try.ntmps7
  go_upto_region 5 with (first |((with_reducible refine jd (f:=26) rfl ?_);refine gL (some 14) Try.func26 #[.slice A0 l0.length c0] ?_;(with_reducible refine (jAb.calls k _ _ l0 t951 t954 t957 t958 _ ?side1 ?side2 A3.out).mono ?_);(case side1=>exact Y35);(case side2=>exact HC0.out);rintro e w6 ⟨v952,v955,rfl,ho0,ho1,hb⟩;refine ⟨_,rfl,?_⟩;have HO953:=am (Kd.jV ho0 (jT (bq)));have HO956:=am (Kd.Q_lower ho1 (jT (bq)));replace HB:=am (je (bq) hb);(try clear hb);(try clear hb2);(try clear hk);(try clear hi);(try clear ho0);(try clear ho1)) |((with_reducible refine jJ (N:=3) rfl ?_);(try (refine jAc (by rfl) ?_;dsimp only));refine jGc ?hg (N:=3) ?hd (cs:=#[.slice none 0 0]) (t:=25) ?hr ?_;(case hd=>rfl);(case hg=>rfl);(case hr=>exact Y6);intro gb959 hg w7 hbox hb;have BK959:=am (hbox);have GW959:=am ((Y3:w.heap.size≤gb959));have GE959:=am ((Y3:w.heap.size≤gb959));replace HO953:=am (Kd.jda (rq HO953.out) hb);replace HO956:=am (Kd.jPb (Y44) hb);replace HB:=am (je (bq) hb);clear hb hbox hg;obtain ⟨Ao8,co8,eo8⟩:=Kd.jca HO953.out;subst eo8;have hcz9_0:=bc0 BK959.out;have hfz9_0:=ja BK959.out 0;obtain ⟨Ao10,co10,eo10,_⟩:=Kd.Q_slice HO956.out;subst eo10) |((with_reducible refine jd (f:=27) rfl ?_);refine gL (some 23) Try.func27 #[.agg #[.slice Ao8 t951.length co8], .slice Ao10 t954.length co10, .int .i64 t957, .int .i64 t958] ?_;(with_reducible refine (jva.calls k _ _ t951 _ _ t954 t957 t958 t960 _ ?side1 ?side2 ?side3 ?side4 A4.out).mono ?_);(case side1=>refine (Kd.jq (e:=75) (base:=w.heap.size) (ok:=fun k_=>True) (n:=t951.length) (c:=co8) ?_).2.2;exact (Y136));(case side2=>exact (Kd.jq HO953.out).2.1);(case side3=>refine (Kd.jgb (e:=36) (base:=w.heap.size) (ok:=fun k_=>True) (n:=t954.length) (c:=co10) ?_).2.2;exact (Y137));(case side4=>exact (Kd.jgb HO956.out).2.1);rintro e w11 ⟨v961,rfl,ho0,hb⟩;refine ⟨_,rfl,?_⟩;have HO962:=am (Kd.jV ho0 (jT (Y12)));replace HO953:=am (Kd.jda (Y136) hb);replace HO956:=am (Kd.jPb (Y137) hb);replace BK959:=am (jk (g:=gb959) (o:=.cells #[.slice Ao8 t951.length co8] 25 (0,0)) (by (with_reducible repeat (first | refine jv ?_ _ | refine jA ?_ | refine jy ?_ _));refine jcb (cs:=#[.slice none 0 0]) ?_ 0 _ rfl;(with_reducible repeat (first | refine jv ?_ _ | refine jA ?_ | refine jy ?_ _));exact BK959.out) hb);replace HB:=am (je (Y12) hb);(try clear hb);(try clear hb2);(try clear hk);(try clear hi);(try clear ho0)))
  (try simp only [Act.put,List.setIfInBounds_toArray,List.set_cons_zero,List.set_cons_succ])
  go_cut [53] (fun v53 wc=>∃ (kq:Nat) (x53_4:Bool),v53=.bool x53_4∧jl (jr.j0 kq t954 t957 t958 t960 x53_4 t951=some r)∧jl (kq≤k)∧jl (Kd.Q k36 36 wc w.heap.size (fun _=>True) (.slice Ao10 t954.length co10) t954)∧jl (Kd.R (Kd.int .i64) 3 wc w.heap.size (fun _=>True) v961 t960)∧jl (Kd.R k75 75 wc w.heap.size (fun _=>True) (.slice Ao8 t951.length co8) t951)∧jl (wc.heap[gb959]?=some (.cells #[(.slice Ao8 t951.length co8)] 25 (0,0)))∧jl (Below w.heap.size w wc))
  case first =>
   have H:=HC5.out
   clear HC5
   replace H:=bzS H
   obtain ⟨t963,A120,H⟩:=H
   replace H:((jga.f k t960 t963).bind fun t966=>(if t966=true then ((jB.f k t951 t954).bind fun t967=>(if t967=true then (if t957<0 then (jr.j0 k t954 t957 t958 t960 true t951) else (if t957≥(t954.length:Int) then (jr.j0 k t954 t957 t958 t960 true t951) else ((jlc.f t951 t958).bind fun t968=>(jr.j0 k t954 t957 t958 t960 (!t968) t951)))) else (jr.j0 k t954 t957 t958 t960 true t951))) else (jr.j0 k t954 t957 t958 t960 true t951)))=some r:=H
   have A12:=am A120
   clear A120
   replace H:=bzS H
   obtain ⟨t966,A130,H⟩:=H
   replace H:(if t966=true then ((jB.f k t951 t954).bind fun t967=>(if t967=true then (if t957<0 then (jr.j0 k t954 t957 t958 t960 true t951) else (if t957≥(t954.length:Int) then (jr.j0 k t954 t957 t958 t960 true t951) else ((jlc.f t951 t958).bind fun t968=>(jr.j0 k t954 t957 t958 t960 (!t968) t951)))) else (jr.j0 k t954 t957 t958 t960 true t951))) else (jr.j0 k t954 t957 t958 t960 true t951))=some r:=H
   have A13:=am A130
   clear A130
   by_cases c14:t966=true
   ·subst c14
    have H1:((jB.f k t951 t954).bind fun t967=>(if t967=true then (if t957<0 then (jr.j0 k t954 t957 t958 t960 true t951) else (if t957≥(t954.length:Int) then (jr.j0 k t954 t957 t958 t960 true t951) else ((jlc.f t951 t958).bind fun t968=>(jr.j0 k t954 t957 t958 t960 (!t968) t951)))) else (jr.j0 k t954 t957 t958 t960 true t951)))=some r:=by rw [if_pos rfl] at H;exact H
    clear H
    have H:=H1
    clear H1
    replace H:=bzS H
    obtain ⟨t967,A150,H⟩:=H
    replace H:(if t967=true then (if t957<0 then (jr.j0 k t954 t957 t958 t960 true t951) else (if t957≥(t954.length:Int) then (jr.j0 k t954 t957 t958 t960 true t951) else ((jlc.f t951 t958).bind fun t968=>(jr.j0 k t954 t957 t958 t960 (!t968) t951)))) else (jr.j0 k t954 t957 t958 t960 true t951))=some r:=H
    have A15:=am A150
    clear A150
    by_cases c16:t967=true
    ·subst c16
     have H1:(if t957<0 then (jr.j0 k t954 t957 t958 t960 true t951) else (if t957≥(t954.length:Int) then (jr.j0 k t954 t957 t958 t960 true t951) else ((jlc.f t951 t958).bind fun t968=>(jr.j0 k t954 t957 t958 t960 (!t968) t951))))=some r:=by rw [if_pos rfl] at H;exact H
     clear H
     have H:=H1
     clear H1
     by_cases c17:t957<0
     ·rw [if_pos c17] at H
      have c17b0:decide (t957<0)=true:=dzT c17
      clear c17
      (first | rw [c17b0] |(simp only [jmb,jub];rw [c17b0]) | skip)
      have H':=am H
      clear H
      have hcz18_0:=bc0 BK959.out
      have hfz18_0:=ja BK959.out 0
      go_wp2_with (first |((with_reducible refine jd (f:=28) rfl ?_);refine gL (some 29) Try.func28 #[.agg #[.slice Ao8 t951.length co8], .slice Ao10 t954.length co10, .int .i64 t957, .int .i64 t958] ?_;(with_reducible refine (jO.calls k _ _ t951 _ _ t954 t957 t958 t963 _ ?side1 ?side2 ?side3 ?side4 A12.out).mono ?_);(case side1=>exact cq (Kd.jq HO953.out).2.2);(case side2=>exact (Kd.jq HO953.out).2.1);(case side3=>exact cq (Kd.jgb HO956.out).2.2);(case side4=>exact (Kd.jgb HO956.out).2.1);rintro e w19 ⟨v964,rfl,ho0,hb⟩;refine ⟨_,rfl,?_⟩;have HO965:=am (Kd.jV (Kd.jUb ho0 (Kd.R_lt (rq HO962.out))) (jT (Y12)));replace HO953:=am (Kd.jda (rq HO953.out) hb);replace HO956:=am (Kd.jPb (Y44) hb);replace HO962:=am (Kd.jMb (rq HO962.out) (Kd.jVb ho0) hb);replace BK959:=am (jk (g:=gb959) (o:=.cells #[.slice Ao8 t951.length co8] 25 (0,0)) (kq BK959.out) hb);replace HB:=am (je (Y12) hb);(try clear hb);(try clear hb2);(try clear hk);(try clear hi);(try clear ho0);obtain ⟨Ao20,co20,eo20⟩:=Kd.jca HO962.out;subst eo20;obtain ⟨Ao21,co21,eo21⟩:=Kd.jca HO965.out;subst eo21) |((with_reducible refine jd (f:=10) rfl ?_);refine gL (some 30) Try.func10 #[.slice Ao20 t960.length co20, .slice Ao21 t963.length co21] ?_;(with_reducible refine (jga.calls k _ _ t960 _ _ t963 true _ ?side1 ?side2 ?side3 ?side4 A13.out).mono ?_);(case side1=>exact cq (Kd.jq HO962.out).2.2);(case side2=>exact (Kd.jq HO962.out).2.1);(case side3=>exact cq (Kd.jq HO965.out).2.2);(case side4=>exact (Kd.jq HO965.out).2.1);rintro e w' ⟨rfl,⟨nd,rfl⟩⟩;refine ⟨_,rfl,?_⟩;have hcz22_0:=bc0 BK959.out;have hfz22_0:=ja BK959.out 0) |(go_at_call 12;(with_reducible refine (jB.calls k _ _ t951 _ _ t954 true _ ?side1 ?side2 ?side3 ?side4 A15.out).mono ?_);(case side1=>exact cq (Kd.jq HO953.out).2.2);(case side2=>exact (Kd.jq HO953.out).2.1);(case side3=>exact cq (Kd.jgb HO956.out).2.2);(case side4=>exact (Kd.jgb HO956.out).2.1);rintro e w23 ⟨rfl,hb⟩;replace HO953:=am (Kd.jda (rq HO953.out) hb);replace HO956:=am (Kd.jPb (Y44) hb);replace HO962:=am (Kd.jda (rq HO962.out) hb);replace HO965:=am (Kd.jda (rq HO965.out) hb);replace BK959:=am (jk (g:=gb959) (o:=.cells #[.slice Ao8 t951.length co8] 25 (0,0)) (kq BK959.out) hb);replace HB:=am (je (Y12) hb);(try clear hb);(try clear hb2);(try clear hk);(try clear hi)))
      go_meet
      case rel=>exact ⟨_,(true),(sq),H',⟨Y21⟩,⟨by (with_reducible repeat (first | apply Kd.jgc | apply Kd.jfc | apply Kd.jwc));exact HO956.out⟩,⟨by (with_reducible repeat (first | apply Kd.jX | apply Kd.jW | apply Kd.jia));exact Kd.jD HO962.out (fun _ hk=>trivial)⟩,⟨rq HO953.out⟩,⟨kq BK959.out⟩,⟨Y12⟩⟩
     ·rw [if_neg c17] at H
      have c17b0:decide (t957<0)=false:=dzF c17
      clear c17
      (first | rw [c17b0] |(simp only [jmb,jub];rw [c17b0]) | skip)
      by_cases c24:t957≥(t954.length:Int)
      ·rw [if_pos c24] at H
       have c24b0:decide ((t954.length:Int)≤t957)=true:=dzT c24
       clear c24
       have H':=am H
       clear H
       have hcz25_0:=bc0 BK959.out
       have hfz25_0:=ja BK959.out 0
       go_wp2_with (first |((with_reducible refine jd (f:=28) rfl ?_);refine gL (some 29) Try.func28 #[.agg #[.slice Ao8 t951.length co8], .slice Ao10 t954.length co10, .int .i64 t957, .int .i64 t958] ?_;(with_reducible refine (jO.calls k _ _ t951 _ _ t954 t957 t958 t963 _ ?side1 ?side2 ?side3 ?side4 A12.out).mono ?_);(case side1=>exact cq (Kd.jq HO953.out).2.2);(case side2=>exact (Kd.jq HO953.out).2.1);(case side3=>exact cq (Kd.jgb HO956.out).2.2);(case side4=>exact (Kd.jgb HO956.out).2.1);rintro e w26 ⟨v964,rfl,ho0,hb⟩;refine ⟨_,rfl,?_⟩;have HO965:=am (Kd.jV (Kd.jUb ho0 (Kd.R_lt (rq HO962.out))) (jT (Y12)));replace HO953:=am (Kd.jda (rq HO953.out) hb);replace HO956:=am (Kd.jPb (Y44) hb);replace HO962:=am (Kd.jMb (rq HO962.out) (Kd.jVb ho0) hb);replace BK959:=am (jk (g:=gb959) (o:=.cells #[.slice Ao8 t951.length co8] 25 (0,0)) (kq BK959.out) hb);replace HB:=am (je (Y12) hb);(try clear hb);(try clear hb2);(try clear hk);(try clear hi);(try clear ho0);obtain ⟨Ao27,co27,eo27⟩:=Kd.jca HO962.out;subst eo27;obtain ⟨Ao28,co28,eo28⟩:=Kd.jca HO965.out;subst eo28) |((with_reducible refine jd (f:=10) rfl ?_);refine gL (some 30) Try.func10 #[.slice Ao27 t960.length co27, .slice Ao28 t963.length co28] ?_;(with_reducible refine (jga.calls k _ _ t960 _ _ t963 true _ ?side1 ?side2 ?side3 ?side4 A13.out).mono ?_);(case side1=>exact cq (Kd.jq HO962.out).2.2);(case side2=>exact (Kd.jq HO962.out).2.1);(case side3=>exact cq (Kd.jq HO965.out).2.2);(case side4=>exact (Kd.jq HO965.out).2.1);rintro e w' ⟨rfl,⟨nd,rfl⟩⟩;refine ⟨_,rfl,?_⟩;have hcz29_0:=bc0 BK959.out;have hfz29_0:=ja BK959.out 0) |(go_at_call 12;(with_reducible refine (jB.calls k _ _ t951 _ _ t954 true _ ?side1 ?side2 ?side3 ?side4 A15.out).mono ?_);(case side1=>exact cq (Kd.jq HO953.out).2.2);(case side2=>exact (Kd.jq HO953.out).2.1);(case side3=>exact cq (Kd.jgb HO956.out).2.2);(case side4=>exact (Kd.jgb HO956.out).2.1);rintro e w30 ⟨rfl,hb⟩;replace HO953:=am (Kd.jda (rq HO953.out) hb);replace HO956:=am (Kd.jPb (Y44) hb);replace HO962:=am (Kd.jda (rq HO962.out) hb);replace HO965:=am (Kd.jda (rq HO965.out) hb);replace BK959:=am (jk (g:=gb959) (o:=.cells #[.slice Ao8 t951.length co8] 25 (0,0)) (kq BK959.out) hb);replace HB:=am (je (Y12) hb);(try clear hb);(try clear hb2);(try clear hk);(try clear hi)))
       go_meet
       case rel=>exact ⟨_,(true),(sq),H',⟨Y21⟩,⟨by (with_reducible repeat (first | apply Kd.jgc | apply Kd.jfc | apply Kd.jwc));exact HO956.out⟩,⟨by (with_reducible repeat (first | apply Kd.jX | apply Kd.jW | apply Kd.jia));exact Kd.jD HO962.out (fun _ hk=>trivial)⟩,⟨rq HO953.out⟩,⟨kq BK959.out⟩,⟨Y12⟩⟩
      ·rw [if_neg c24] at H
       have c24b0:decide ((t954.length:Int)≤t957)=false:=dzF c24
       clear c24
       replace H:=bzS H
       obtain ⟨t968,A310,H⟩:=H
       replace H:(jr.j0 k t954 t957 t958 t960 (!t968) t951)=some r:=H
       have A31:=am A310
       clear A310
       have H':=am H
       clear H
       have hcz32_0:=bc0 BK959.out
       have hfz32_0:=ja BK959.out 0
       go_wp2_with (first |((with_reducible refine jd (f:=28) rfl ?_);refine gL (some 29) Try.func28 #[.agg #[.slice Ao8 t951.length co8], .slice Ao10 t954.length co10, .int .i64 t957, .int .i64 t958] ?_;(with_reducible refine (jO.calls k _ _ t951 _ _ t954 t957 t958 t963 _ ?side1 ?side2 ?side3 ?side4 A12.out).mono ?_);(case side1=>exact cq (Kd.jq HO953.out).2.2);(case side2=>exact (Kd.jq HO953.out).2.1);(case side3=>exact cq (Kd.jgb HO956.out).2.2);(case side4=>exact (Kd.jgb HO956.out).2.1);rintro e w33 ⟨v964,rfl,ho0,hb⟩;refine ⟨_,rfl,?_⟩;have HO965:=am (Kd.jV (Kd.jUb ho0 (Kd.R_lt (rq HO962.out))) (jT (Y12)));replace HO953:=am (Kd.jda (rq HO953.out) hb);replace HO956:=am (Kd.jPb (Y44) hb);replace HO962:=am (Kd.jMb (rq HO962.out) (Kd.jVb ho0) hb);replace BK959:=am (jk (g:=gb959) (o:=.cells #[.slice Ao8 t951.length co8] 25 (0,0)) (kq BK959.out) hb);replace HB:=am (je (Y12) hb);(try clear hb);(try clear hb2);(try clear hk);(try clear hi);(try clear ho0);obtain ⟨Ao34,co34,eo34⟩:=Kd.jca HO962.out;subst eo34;obtain ⟨Ao35,co35,eo35⟩:=Kd.jca HO965.out;subst eo35) |((with_reducible refine jd (f:=10) rfl ?_);refine gL (some 30) Try.func10 #[.slice Ao34 t960.length co34, .slice Ao35 t963.length co35] ?_;(with_reducible refine (jga.calls k _ _ t960 _ _ t963 true _ ?side1 ?side2 ?side3 ?side4 A13.out).mono ?_);(case side1=>exact cq (Kd.jq HO962.out).2.2);(case side2=>exact (Kd.jq HO962.out).2.1);(case side3=>exact cq (Kd.jq HO965.out).2.2);(case side4=>exact (Kd.jq HO965.out).2.1);rintro e w' ⟨rfl,⟨nd,rfl⟩⟩;refine ⟨_,rfl,?_⟩;have hcz36_0:=bc0 BK959.out;have hfz36_0:=ja BK959.out 0) |(go_at_call 12;(with_reducible refine (jB.calls k _ _ t951 _ _ t954 true _ ?side1 ?side2 ?side3 ?side4 A15.out).mono ?_);(case side1=>exact cq (Kd.jq HO953.out).2.2);(case side2=>exact (Kd.jq HO953.out).2.1);(case side3=>exact cq (Kd.jgb HO956.out).2.2);(case side4=>exact (Kd.jgb HO956.out).2.1);rintro e w37 ⟨rfl,hb⟩;replace HO953:=am (Kd.jda (rq HO953.out) hb);replace HO956:=am (Kd.jPb (Y44) hb);replace HO962:=am (Kd.jda (rq HO962.out) hb);replace HO965:=am (Kd.jda (rq HO965.out) hb);replace BK959:=am (jk (g:=gb959) (o:=.cells #[.slice Ao8 t951.length co8] 25 (0,0)) (kq BK959.out) hb);replace HB:=am (je (Y12) hb);(try clear hb);(try clear hb2);(try clear hk);(try clear hi);have hcz38_0:=bc0 BK959.out;have hfz38_0:=ja BK959.out 0) |(go_at_call 21;(with_reducible refine (jlc.calls _ _ t951 t958 t968 _ ?side1 ?side2 A31.out).mono ?_);(case side1=>exact cq (Kd.jq HO953.out).2.2);(case side2=>exact (Kd.jq HO953.out).2.1);rintro e w39 ⟨rfl,hb⟩;replace HO953:=am (Kd.jda (rq HO953.out) hb);replace HO956:=am (Kd.jPb (Y44) hb);replace HO962:=am (Kd.jda (rq HO962.out) hb);replace HO965:=am (Kd.jda (rq HO965.out) hb);replace BK959:=am (jk (g:=gb959) (o:=.cells #[.slice Ao8 t951.length co8] 25 (0,0)) (kq BK959.out) hb);replace HB:=am (je (Y12) hb);(try clear hb);(try clear hb2);(try clear hk);(try clear hi)))
       go_meet
       case rel=>exact ⟨_,(!t968),(sq),H',⟨Y21⟩,⟨by (with_reducible repeat (first | apply Kd.jgc | apply Kd.jfc | apply Kd.jwc));exact HO956.out⟩,⟨by (with_reducible repeat (first | apply Kd.jX | apply Kd.jW | apply Kd.jia));exact Kd.jD HO962.out (fun _ hk=>trivial)⟩,⟨rq HO953.out⟩,⟨kq BK959.out⟩,⟨Y12⟩⟩
    ·replace c16:=Bool.eq_false_iff.mpr c16
     subst c16
     have H1:(jr.j0 k t954 t957 t958 t960 true t951)=some r:=by rw [if_neg (show ¬ (false=true) by decide)] at H;exact H
     clear H
     have H:=H1
     clear H1
     have H':=am H
     clear H
     have hcz40_0:=bc0 BK959.out
     have hfz40_0:=ja BK959.out 0
     go_wp2_with (first |((with_reducible refine jd (f:=28) rfl ?_);refine gL (some 29) Try.func28 #[.agg #[.slice Ao8 t951.length co8], .slice Ao10 t954.length co10, .int .i64 t957, .int .i64 t958] ?_;(with_reducible refine (jO.calls k _ _ t951 _ _ t954 t957 t958 t963 _ ?side1 ?side2 ?side3 ?side4 A12.out).mono ?_);(case side1=>exact cq (Kd.jq HO953.out).2.2);(case side2=>exact (Kd.jq HO953.out).2.1);(case side3=>exact cq (Kd.jgb HO956.out).2.2);(case side4=>exact (Kd.jgb HO956.out).2.1);rintro e w41 ⟨v964,rfl,ho0,hb⟩;refine ⟨_,rfl,?_⟩;have HO965:=am (Kd.jV (Kd.jUb ho0 (Kd.R_lt (rq HO962.out))) (jT (Y12)));replace HO953:=am (Kd.jda (rq HO953.out) hb);replace HO956:=am (Kd.jPb (Y44) hb);replace HO962:=am (Kd.jMb (rq HO962.out) (Kd.jVb ho0) hb);replace BK959:=am (jk (g:=gb959) (o:=.cells #[.slice Ao8 t951.length co8] 25 (0,0)) (kq BK959.out) hb);replace HB:=am (je (Y12) hb);(try clear hb);(try clear hb2);(try clear hk);(try clear hi);(try clear ho0);obtain ⟨Ao42,co42,eo42⟩:=Kd.jca HO962.out;subst eo42;obtain ⟨Ao43,co43,eo43⟩:=Kd.jca HO965.out;subst eo43) |((with_reducible refine jd (f:=10) rfl ?_);refine gL (some 30) Try.func10 #[.slice Ao42 t960.length co42, .slice Ao43 t963.length co43] ?_;(with_reducible refine (jga.calls k _ _ t960 _ _ t963 true _ ?side1 ?side2 ?side3 ?side4 A13.out).mono ?_);(case side1=>exact cq (Kd.jq HO962.out).2.2);(case side2=>exact (Kd.jq HO962.out).2.1);(case side3=>exact cq (Kd.jq HO965.out).2.2);(case side4=>exact (Kd.jq HO965.out).2.1);rintro e w' ⟨rfl,⟨nd,rfl⟩⟩;refine ⟨_,rfl,?_⟩;have hcz44_0:=bc0 BK959.out;have hfz44_0:=ja BK959.out 0) |(go_at_call 12;(with_reducible refine (jB.calls k _ _ t951 _ _ t954 false _ ?side1 ?side2 ?side3 ?side4 A15.out).mono ?_);(case side1=>exact cq (Kd.jq HO953.out).2.2);(case side2=>exact (Kd.jq HO953.out).2.1);(case side3=>exact cq (Kd.jgb HO956.out).2.2);(case side4=>exact (Kd.jgb HO956.out).2.1);rintro e w45 ⟨rfl,hb⟩;replace HO953:=am (Kd.jda (rq HO953.out) hb);replace HO956:=am (Kd.jPb (Y44) hb);replace HO962:=am (Kd.jda (rq HO962.out) hb);replace HO965:=am (Kd.jda (rq HO965.out) hb);replace BK959:=am (jk (g:=gb959) (o:=.cells #[.slice Ao8 t951.length co8] 25 (0,0)) (kq BK959.out) hb);replace HB:=am (je (Y12) hb);(try clear hb);(try clear hb2);(try clear hk);(try clear hi)))
     go_meet
     case rel=>exact ⟨_,(true),(sq),H',⟨Y21⟩,⟨by (with_reducible repeat (first | apply Kd.jgc | apply Kd.jfc | apply Kd.jwc));exact HO956.out⟩,⟨by (with_reducible repeat (first | apply Kd.jX | apply Kd.jW | apply Kd.jia));exact Kd.jD HO962.out (fun _ hk=>trivial)⟩,⟨rq HO953.out⟩,⟨kq BK959.out⟩,⟨Y12⟩⟩
   ·replace c14:=Bool.eq_false_iff.mpr c14
    subst c14
    have H1:(jr.j0 k t954 t957 t958 t960 true t951)=some r:=by rw [if_neg (show ¬ (false=true) by decide)] at H;exact H
    clear H
    have H:=H1
    clear H1
    have H':=am H
    clear H
    have hcz46_0:=bc0 BK959.out
    have hfz46_0:=ja BK959.out 0
    go_wp2_with (first |((with_reducible refine jd (f:=28) rfl ?_);refine gL (some 29) Try.func28 #[.agg #[.slice Ao8 t951.length co8], .slice Ao10 t954.length co10, .int .i64 t957, .int .i64 t958] ?_;(with_reducible refine (jO.calls k _ _ t951 _ _ t954 t957 t958 t963 _ ?side1 ?side2 ?side3 ?side4 A12.out).mono ?_);(case side1=>exact cq (Kd.jq HO953.out).2.2);(case side2=>exact (Kd.jq HO953.out).2.1);(case side3=>exact cq (Kd.jgb HO956.out).2.2);(case side4=>exact (Kd.jgb HO956.out).2.1);rintro e w47 ⟨v964,rfl,ho0,hb⟩;refine ⟨_,rfl,?_⟩;have HO965:=am (Kd.jV (Kd.jUb ho0 (Kd.R_lt (rq HO962.out))) (jT (Y12)));replace HO953:=am (Kd.jda (rq HO953.out) hb);replace HO956:=am (Kd.jPb (Y44) hb);replace HO962:=am (Kd.jMb (rq HO962.out) (Kd.jVb ho0) hb);replace BK959:=am (jk (g:=gb959) (o:=.cells #[.slice Ao8 t951.length co8] 25 (0,0)) (kq BK959.out) hb);replace HB:=am (je (Y12) hb);(try clear hb);(try clear hb2);(try clear hk);(try clear hi);(try clear ho0);obtain ⟨Ao48,co48,eo48⟩:=Kd.jca HO962.out;subst eo48;obtain ⟨Ao49,co49,eo49⟩:=Kd.jca HO965.out;subst eo49) |((with_reducible refine jd (f:=10) rfl ?_);refine gL (some 30) Try.func10 #[.slice Ao48 t960.length co48, .slice Ao49 t963.length co49] ?_;(with_reducible refine (jga.calls k _ _ t960 _ _ t963 false _ ?side1 ?side2 ?side3 ?side4 A13.out).mono ?_);(case side1=>exact cq (Kd.jq HO962.out).2.2);(case side2=>exact (Kd.jq HO962.out).2.1);(case side3=>exact cq (Kd.jq HO965.out).2.2);(case side4=>exact (Kd.jq HO965.out).2.1);rintro e w' ⟨rfl,⟨nd,rfl⟩⟩;refine ⟨_,rfl,?_⟩))
    go_meet
    case rel=>exact ⟨_,(true),(sq),H',⟨Y21⟩,⟨by (with_reducible repeat (first | apply Kd.jgc | apply Kd.jfc | apply Kd.jwc));exact HO956.out⟩,⟨by (with_reducible repeat (first | apply Kd.jX | apply Kd.jW | apply Kd.jia));exact Kd.jD HO962.out (fun _ hk=>trivial)⟩,⟨rq HO953.out⟩,⟨kq BK959.out⟩,⟨Y12⟩⟩
  case rest =>
   clear HC5
   try clear c1
   try clear c2
   try clear c2b0
   try clear c2b1
   try clear p2
   try clear c7
   try clear c10
   try clear c14
   try clear c16
   try clear c17
   try clear c17b0
   try clear c24
   try clear c24b0
   try clear c26
   try clear c27
   try clear c28
   try clear hcz18_0
   try clear hcz22_0
   try clear hcz25_0
   try clear hcz29_0
   try clear hcz32_0
   try clear hcz36_0
   try clear hcz38_0
   try clear hcz40_0
   try clear hcz44_0
   try clear hcz46_0
   try clear hcz9_0
   try clear hfz18_0
   try clear hfz22_0
   try clear hfz25_0
   try clear hfz29_0
   try clear hfz32_0
   try clear hfz36_0
   try clear hfz38_0
   try clear hfz40_0
   try clear hfz44_0
   try clear hfz46_0
   try clear hfz9_0
   obtain ⟨kq,x53_4,rfl,HA,HJ4,HO_4,HO_7,HO_960000,BK959,HB⟩:=hcut
   cases kq with
   | zero=>exact absurd HA.out (by simp [jr.j0])
   | succ kj4 =>
    have H:=HA.out
    clear HA
    simp only [jr.j0] at H
    by_cases c50:x53_4=true
    ·subst c50
     have H1:((jO.f kj4 t951 t954 t957 t958).bind fun t969=>((jga.f kj4 t960 t969).bind fun t972=>(some t972)))=some r:=by rw [if_pos rfl] at H;exact H
     clear H
     have H:=H1
     clear H1
     replace H:=bzS H
     obtain ⟨t969,A510,H⟩:=H
     replace H:((jga.f kj4 t960 t969).bind fun t972=>(some t972))=some r:=H
     have A51:=am A510
     clear A510
     replace H:=bzS H
     obtain ⟨t972,A520,H⟩:=H
     replace H:(some t972)=some r:=H
     have A52:=am A520
     clear A520
     obtain rfl:=Option.some.inj H
     have hcz53_0:=bc0 BK959.out
     have hfz53_0:=ja BK959.out 0
     go_wp2_with (first |((with_reducible refine jd (f:=28) rfl ?_);refine gL (some 59) Try.func28 #[.agg #[.slice Ao8 t951.length co8], .slice Ao10 t954.length co10, .int .i64 t957, .int .i64 t958] ?_;(with_reducible refine (jO.calls kj4 _ _ t951 _ _ t954 t957 t958 t969 _ ?side1 ?side2 ?side3 ?side4 A51.out).mono ?_);(case side1=>exact cq (Kd.jq HO_960000.out).2.2);(case side2=>exact (Kd.jq HO_960000.out).2.1);(case side3=>exact cq (Kd.jgb HO_4.out).2.2);(case side4=>exact (Kd.jgb HO_4.out).2.1);rintro e w54 ⟨v970,rfl,ho0,hb⟩;refine ⟨_,rfl,?_⟩;have HO971:=am (Kd.jV (Kd.jUb ho0 (Kd.R_lt (rq HO_7.out))) (jT (Y12)));replace HO_4:=am (Kd.jPb (Y83) hb);replace HO_7:=am (Kd.jMb (rq HO_7.out) (Kd.jVb ho0) hb);replace HO_960000:=am (Kd.jda (rq HO_960000.out) hb);replace BK959:=am (jk (g:=gb959) (o:=.cells #[.slice Ao8 t951.length co8] 25 (0,0)) (kq BK959.out) hb);replace HB:=am (je (Y12) hb);(try clear hb);(try clear hb2);(try clear hk);(try clear hi);(try clear ho0);obtain ⟨Ao55,co55,eo55⟩:=Kd.jca HO_7.out;subst eo55;obtain ⟨Ao56,co56,eo56⟩:=Kd.jca HO971.out;subst eo56) |((with_reducible refine jd (f:=10) rfl ?_);refine gL (some 60) Try.func10 #[.slice Ao55 t960.length co55, .slice Ao56 t969.length co56] ?_;(with_reducible refine (jga.calls kj4 _ _ t960 _ _ t969 t972 _ ?side1 ?side2 ?side3 ?side4 A52.out).mono ?_);(case side1=>exact cq (Kd.jq HO_7.out).2.2);(case side2=>exact (Kd.jq HO_7.out).2.1);(case side3=>exact cq (Kd.jq HO971.out).2.2);(case side4=>exact (Kd.jq HO971.out).2.1);rintro e w' ⟨rfl,⟨nd,rfl⟩⟩;refine ⟨_,rfl,?_⟩))
     go_ret
     exact ⟨Y0,Y12⟩
    ·replace c50:=Bool.eq_false_iff.mpr c50
     subst c50
     have H1:((joc.f kj4 t951 t954 t957).bind fun t973=>(if (t960.length:Int)≤(t973.length:Int) then (if 0≤(t960.length:Int) then ((jga.f kj4 (t973.take ((t960.length:Int):Int).toNat) t960).bind fun t980=>(if t980=true then ((jsb.f kj4 t951 t954 t957 t958).bind fun t981=>(if t981≥0 then (some true) else (some ((t960.length:Int) == (t973.length:Int))))) else (some false))) else (none)) else (some false)))=some r:=by rw [if_neg (show ¬ (false=true) by decide)] at H;exact H
     clear H
     have H:=H1
     clear H1
     replace H:=bzS H
     obtain ⟨t973,A570,H⟩:=H
     replace H:(if (t960.length:Int)≤(t973.length:Int) then (if 0≤(t960.length:Int) then ((jga.f kj4 (t973.take ((t960.length:Int):Int).toNat) t960).bind fun t980=>(if t980=true then ((jsb.f kj4 t951 t954 t957 t958).bind fun t981=>(if t981≥0 then (some true) else (some ((t960.length:Int) == (t973.length:Int))))) else (some false))) else (none)) else (some false))=some r:=H
     have A57:=am A570
     clear A570
     by_cases c58:(t960.length:Int)≤(t973.length:Int)
     ·rw [if_pos c58] at H
      have c58b0:decide ((t960.length:Int)≤(t973.length:Int))=true:=dzT c58
      have c58b1:decide (t960.length≤t973.length)=true:=dzT (Int.ofNat_le.mp c58)
      clear c58
      by_cases c59:0≤(t960.length:Int)
      ·rw [if_pos c59] at H
       have c59b0:=ezT c59
       have c59b1:decide (0≤(t960.length:Int))=true:=dzT c59
       clear c59
       have c60b0:=ezT (ozD (uq):(t960.length:Int)≤(t973.length:Int))
       obtain ⟨y976,hy976⟩:∃ y_:List Int,y_=(t973.take ((t960.length:Int):Int).toNat):=⟨_,rfl⟩
       replace H:((jga.f kj4 y976 t960).bind fun t980=>(if t980=true then ((jsb.f kj4 t951 t954 t957 t958).bind fun t981=>(if t981≥0 then (some true) else (some ((t960.length:Int) == (t973.length:Int))))) else (some false)))=some r:=by first |(rw [hy976];with_reducible exact H) |(have H2_:=(Option.bind_some _ _).symm.trans H;rw [hy976];with_reducible exact H2_) |(have H2_:=(Option.bind_some _ _).symm.trans H;with_reducible exact H2_) | with_reducible exact H |(rw [hy976];exact H) | exact H
       have Ny976:=am hy976
       clear hy976
       replace H:=bzS H
       obtain ⟨t980,A610,H⟩:=H
       replace H:(if t980=true then ((jsb.f kj4 t951 t954 t957 t958).bind fun t981=>(if t981≥0 then (some true) else (some ((t960.length:Int) == (t973.length:Int))))) else (some false))=some r:=H
       have A61:=am A610
       clear A610
       by_cases c62:t980=true
       ·subst c62
        have H1:((jsb.f kj4 t951 t954 t957 t958).bind fun t981=>(if t981≥0 then (some true) else (some ((t960.length:Int) == (t973.length:Int)))))=some r:=by rw [if_pos rfl] at H;exact H
        clear H
        have H:=H1
        clear H1
        replace H:=bzS H
        obtain ⟨t981,A630,H⟩:=H
        replace H:(if t981≥0 then (some true) else (some ((t960.length:Int) == (t973.length:Int))))=some r:=H
        have A63:=am A630
        clear A630
        by_cases c64:t981≥0
        ·rw [if_pos c64] at H
         have c64b0:decide (0≤t981)=true:=dzT c64
         clear c64
         obtain rfl:=Option.some.inj H
         have hcz65_0:=bc0 BK959.out
         have hfz65_0:=ja BK959.out 0
         go_wp2_with (first |((with_reducible refine jd (f:=9) rfl ?_);refine gL (some 64) Try.func9 #[.agg #[.slice Ao8 t951.length co8], .slice Ao10 t954.length co10, .int .i64 t957] ?_;(with_reducible refine (joc.calls kj4 _ _ t951 _ _ t954 t957 t973 _ ?side1 ?side2 ?side3 ?side4 A57.out).mono ?_);(case side1=>exact cq (Kd.jq HO_960000.out).2.2);(case side2=>exact (Kd.jq HO_960000.out).2.1);(case side3=>exact cq (Kd.jgb HO_4.out).2.2);(case side4=>exact (Kd.jgb HO_4.out).2.1);rintro e w66 ⟨v974,rfl,ho0,hb⟩;refine ⟨_,rfl,?_⟩;have HO975:=am (Kd.jV (Kd.jUb ho0 (Kd.R_lt (rq HO_7.out))) (jT (Y12)));replace HO_4:=am (Kd.jPb (Y83) hb);replace HO_7:=am (Kd.jMb (rq HO_7.out) (Kd.jVb ho0) hb);replace HO_960000:=am (Kd.jda (rq HO_960000.out) hb);replace BK959:=am (jk (g:=gb959) (o:=.cells #[.slice Ao8 t951.length co8] 25 (0,0)) (kq BK959.out) hb);replace HB:=am (je (Y12) hb);(try clear hb);(try clear hb2);(try clear hk);(try clear hi);(try clear ho0);obtain ⟨Ao67,co67,eo67⟩:=Kd.jca HO_7.out;subst eo67;obtain ⟨Ao68,co68,eo68⟩:=Kd.jca HO975.out;subst eo68;have q69:((t960.length:Int):Int)≤((t973.length:Int):Int):=ozD (uq);obtain ⟨i069,hi069,_,hsz69,_⟩:=info_parts info3;have hroom69:t973.length≤co68:=(Kd.jq HO975.out).2.1;have hC69:Kd.C (Kd.int .i64) _ Ao68 t973.length t973:=(Kd.jq HO975.out).2.2;have hcut69:=cut_to (P:=Try.prog) 29 3 .i64 Try.underlying29 hi069 Ao68 t973.length co68 (t960.length:Int) (ozD (uq)) q69 hroom69;have hr69:=Kd.C_take (m:=((t960.length:Int):Int).toNat) hC69 (by omega);have hy69:y976.length=((t960.length:Int):Int).toNat:=(by rw [Ny976.out,List.length_take];omega);rw [← Ny976.out] at hr69;rw [← hy69] at hcut69;have HR979:=am hr69;have HC979:=am (show y976.length≤co68 from by omega);clear hr69 hC69 hroom69 hi069 hsz69;have KY69:=am hy69;clear hy69;have KL69:=am (show ((t960.length:Int):Int).toNat≤t973.length from by omega);replace q69:=ezT q69) |(go_at_call 10;(with_reducible refine (jga.calls kj4 _ _ y976 _ _ t960 true _ ?side1 ?side2 ?side3 ?side4 A61.out).mono ?_);(case side1=>exact Y138);(case side2=>exact HC979.out);(case side3=>exact cq (Kd.jq HO_7.out).2.2);(case side4=>exact (Kd.jq HO_7.out).2.1);rintro e w' ⟨rfl,⟨nd,rfl⟩⟩;have hcz70_0:=bc0 BK959.out;have hfz70_0:=ja BK959.out 0) |(go_at_call 19;(with_reducible refine (jsb.calls kj4 _ _ t951 _ _ t954 t957 t958 t981 _ ?side1 ?side2 ?side3 ?side4 A63.out).mono ?_);(case side1=>exact cq (Kd.jq HO_960000.out).2.2);(case side2=>exact (Kd.jq HO_960000.out).2.1);(case side3=>exact cq (Kd.jgb HO_4.out).2.2);(case side4=>exact (Kd.jgb HO_4.out).2.1);rintro e w71 ⟨rfl,hb⟩;replace HO_4:=am (Kd.jPb (Y83) hb);replace HO_7:=am (Kd.jda (rq HO_7.out) hb);replace HO_960000:=am (Kd.jda (rq HO_960000.out) hb);replace HO975:=am (Kd.jda (rq HO975.out) hb);replace BK959:=am (jk (g:=gb959) (o:=.cells #[.slice Ao8 t951.length co8] 25 (0,0)) (kq BK959.out) hb);replace HR979:=am (Kd.jN (Y139) hb);replace HB:=am (je (Y12) hb);(try clear hb);(try clear hb2);(try clear hk);(try clear hi)))
         go_ret
         exact ⟨Y0,Y12⟩
        ·rw [if_neg c64] at H
         have c64b0:decide (0≤t981)=false:=dzF c64
         clear c64
         obtain rfl:=Option.some.inj H
         have hcz72_0:=bc0 BK959.out
         have hfz72_0:=ja BK959.out 0
         go_wp2_with (first |((with_reducible refine jd (f:=9) rfl ?_);refine gL (some 64) Try.func9 #[.agg #[.slice Ao8 t951.length co8], .slice Ao10 t954.length co10, .int .i64 t957] ?_;(with_reducible refine (joc.calls kj4 _ _ t951 _ _ t954 t957 t973 _ ?side1 ?side2 ?side3 ?side4 A57.out).mono ?_);(case side1=>exact cq (Kd.jq HO_960000.out).2.2);(case side2=>exact (Kd.jq HO_960000.out).2.1);(case side3=>exact cq (Kd.jgb HO_4.out).2.2);(case side4=>exact (Kd.jgb HO_4.out).2.1);rintro e w73 ⟨v974,rfl,ho0,hb⟩;refine ⟨_,rfl,?_⟩;have HO975:=am (Kd.jV (Kd.jUb ho0 (Kd.R_lt (rq HO_7.out))) (jT (Y12)));replace HO_4:=am (Kd.jPb (Y83) hb);replace HO_7:=am (Kd.jMb (rq HO_7.out) (Kd.jVb ho0) hb);replace HO_960000:=am (Kd.jda (rq HO_960000.out) hb);replace BK959:=am (jk (g:=gb959) (o:=.cells #[.slice Ao8 t951.length co8] 25 (0,0)) (kq BK959.out) hb);replace HB:=am (je (Y12) hb);(try clear hb);(try clear hb2);(try clear hk);(try clear hi);(try clear ho0);obtain ⟨Ao74,co74,eo74⟩:=Kd.jca HO_7.out;subst eo74;obtain ⟨Ao75,co75,eo75⟩:=Kd.jca HO975.out;subst eo75;have q76:((t960.length:Int):Int)≤((t973.length:Int):Int):=ozD (uq);obtain ⟨i076,hi076,_,hsz76,_⟩:=info_parts info3;have hroom76:t973.length≤co75:=(Kd.jq HO975.out).2.1;have hC76:Kd.C (Kd.int .i64) _ Ao75 t973.length t973:=(Kd.jq HO975.out).2.2;have hcut76:=cut_to (P:=Try.prog) 29 3 .i64 Try.underlying29 hi076 Ao75 t973.length co75 (t960.length:Int) (ozD (uq)) q76 hroom76;have hr76:=Kd.C_take (m:=((t960.length:Int):Int).toNat) hC76 (by omega);have hy76:y976.length=((t960.length:Int):Int).toNat:=(by rw [Ny976.out,List.length_take];omega);rw [← Ny976.out] at hr76;rw [← hy76] at hcut76;have HR979:=am hr76;have HC979:=am (show y976.length≤co75 from by omega);clear hr76 hC76 hroom76 hi076 hsz76;have KY76:=am hy76;clear hy76;have KL76:=am (show ((t960.length:Int):Int).toNat≤t973.length from by omega);replace q76:=ezT q76) |(go_at_call 10;(with_reducible refine (jga.calls kj4 _ _ y976 _ _ t960 true _ ?side1 ?side2 ?side3 ?side4 A61.out).mono ?_);(case side1=>exact Y138);(case side2=>exact HC979.out);(case side3=>exact cq (Kd.jq HO_7.out).2.2);(case side4=>exact (Kd.jq HO_7.out).2.1);rintro e w' ⟨rfl,⟨nd,rfl⟩⟩;have hcz77_0:=bc0 BK959.out;have hfz77_0:=ja BK959.out 0) |(go_at_call 19;(with_reducible refine (jsb.calls kj4 _ _ t951 _ _ t954 t957 t958 t981 _ ?side1 ?side2 ?side3 ?side4 A63.out).mono ?_);(case side1=>exact cq (Kd.jq HO_960000.out).2.2);(case side2=>exact (Kd.jq HO_960000.out).2.1);(case side3=>exact cq (Kd.jgb HO_4.out).2.2);(case side4=>exact (Kd.jgb HO_4.out).2.1);rintro e w78 ⟨rfl,hb⟩;replace HO_4:=am (Kd.jPb (Y83) hb);replace HO_7:=am (Kd.jda (rq HO_7.out) hb);replace HO_960000:=am (Kd.jda (rq HO_960000.out) hb);replace HO975:=am (Kd.jda (rq HO975.out) hb);replace BK959:=am (jk (g:=gb959) (o:=.cells #[.slice Ao8 t951.length co8] 25 (0,0)) (kq BK959.out) hb);replace HR979:=am (Kd.jN (Y139) hb);replace HB:=am (je (Y12) hb);(try clear hb);(try clear hb2);(try clear hk);(try clear hi)))
         go_ret
         exact ⟨Y0,Y12⟩
       ·replace c62:=Bool.eq_false_iff.mpr c62
        subst c62
        have H1:(some false)=some r:=by rw [if_neg (show ¬ (false=true) by decide)] at H;exact H
        clear H
        have H:=H1
        clear H1
        exact absurd ((Option.some.inj H).trans hT) Bool.false_ne_true
      ·rw [if_neg c59] at H
       exact absurd H (by simp)
     ·rw [if_neg c58] at H
      have c58b0:decide ((t960.length:Int)≤(t973.length:Int))=false:=dzF c58
      have c58b1:decide (t960.length≤t973.length)=false:=dzF (fun h=>c58 (Int.ofNat_le.mpr h))
      clear c58
      exact absurd ((Option.some.inj H).trans hT) Bool.false_ne_true
def jr.Pure : Prop := ∀ (l0 : List Int), l0.length ≤ maxLen → l0.length * 1 ≤ 140737488351232 → (∀ x ∈ l0, (Lit.int .u8 x).wf = true) → ∃ k, jr.f k l0 = some true
theorem jr.walk (P : jr.Pure) (a0 : Option Addr) (len0 cap0 : Nat) (z0 : List Int) (w : World) (w0 : (a0 = none ∧ len0 = 0 ∧ cap0 = 0 ∧ z0 = []) ∨ ∃ x, a0 = some x ∧ len0 ≤ cap0 ∧ cap0 ≤ maxLen ∧ z0.length = cap0 ∧ (∀ i, i < z0.length → w.cell? (x.add i) = some (.int .u8 (z0.getD i 0))) ∧ ∀ n ∈ z0, (Lit.int .u8 n).wf = true) (y0 : len0 * 1 ≤ 140737488351232) :
  Calls Try.prog 7 #[.slice a0 len0 cap0] w fun e w'=>e=.returned (.bool true)∧Below w.heap.size w w':=by
 obtain ⟨l0,rfl,hr0,hm0,hw0,hc0⟩:=jCb.ofRowC w0
 obtain ⟨k,h⟩:=P l0 hm0 y0 hw0
 refine (jr.calls k _ _ l0 true w (Kd.C_of_reads (d:=(0:Int)) (h1:=fun _=>rfl) hr0) hc0 rfl h).mono ?_
 rintro e w' ⟨rfl,hd⟩
 exact ⟨rfl,hd⟩
def jRb.l0 : Nat → List (S36) → Int → List Int → Int → List (S75) → Option (Int)
 | 0,_,_,_,_,_=>none
 | k+1,x1,x3,x9,x10,x851000=>if x10<(x9.length:Int) then (if 0≤x10 then ((jaa.f k x851000 x1 (rd x9 x10) x3).bind fun t856=>(if t856≥0 then (some t856) else (jRb.l0 k x1 x3 x9 (wrap64 (x10+1)) x851000))) else (none)) else (some (-1))
def jRb.f (k : Nat) (l0_0 : List (S75)) (l1 : List (S36)) (a2 : Int) (a3 : Int) : Option (Int) := (jGb.f k l0_0 l1 a2 a3).bind fun t851 => (if t851 = true then ((jza.f k l1 a2).bind fun t852 => (jRb.l0 k l1 a3 t852 0 l0_0)) else (some (-1)))
def spec_WayOut.f (k : Nat) (l0_0 : List (S75)) (l1 : List (S36)) (a2 : Int) : Option (List Int) := (jHb.f k l0_0 l1 a2).bind fun t614 => (if t614 = true then ((jza.f k l1 a2).bind fun t615 => ((jLa.f k l1 t615).bind fun t618 => (some t618))) else (some ([] : List Int)))
end Go.Proofs.Ytkedkinojeoeaaa.P
end
