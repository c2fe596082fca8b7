/- One part of the proofs on this program: functions of the program as plain functions, that the code comes to them, and facts on them. -/
import Derived.Test.YteibechlncphnaaDoorYAll1
import Derived.Test.YteibechlncphnaaDoorYAll7
import Derived.Test.YteibechlncphnaaDoorYWAuto
section
namespace Go.Proofs.YteibechlncphnaaDoor.P
open Go.RowKit Go.Proofs.YteibechlncphnaaDoorW.PrintWords Go.Proofs.YteibechlncphnaaDoorW.PrintLast Go.Proofs.YteibechlncphnaaDoorW.PrintMore
attribute [local go_sem] jua jsa jEa jDa jfa jea jta jra jB
set_option linter.unusedVariables false
set_option linter.unusedSimpArgs false
mutual
def jK.j0 : Nat → Bool → List (S99) → List (S66) → List (S66) → Option ((List (S66)) × Bool)
 | 0,_,_,_,_=>none
 | k+1,x21,x626000,x627000,x628000=>if x21=true then (some (([]:List (S66)),false)) else ((jKa.f x627000).bind fun t631=>(jK.l0 k (x627000.length:Int) 0 x626000 x628000 t631))
def jK.l0 : Nat → Int → Int → List (S99) → List (S66) → List (S66) → Option ((List (S66)) × Bool)
 | 0,_,_,_,_,_=>none
 | k+1,x9,x10,x626000,x628000,x635000=>if x10<(x628000.length:Int) then (if 0≤x10 then (if ((ja x628000 x10).f2)≥0 then (jK.j2 k x9 x10 x626000 x628000 x635000 ((ja x628000 x10).f0) ((ja x628000 x10).f1) (wrap64 (((ja x628000 x10).f2)+x9)) ((ja x628000 x10).f3) ((ja x628000 x10).f4)) else (jK.j2 k x9 x10 x626000 x628000 x635000 ((ja x628000 x10).f0) ((ja x628000 x10).f1) ((ja x628000 x10).f2) ((ja x628000 x10).f3) ((ja x628000 x10).f4))) else (none)) else ((jE.f k x626000 x635000).bind fun t643=>(if t643=true then (some (x635000,true)) else (some (([]:List (S66)),false))))
def jK.j2 : Nat → Int → Int → List (S99) → List (S66) → List (S66) → Int → Int → Int → Int → Bool → Option ((List (S66)) × Bool)
 | 0,_,_,_,_,_,_,_,_,_,_=>none
 | k+1,x9,x10,x626000,x628000,x635000,x637000,x637001,x637002,x637003,x637004=>if x637003≥0 then (if x635000.length<3518437208883 then (jK.l0 k x9 (wrap64 (x10+1)) x626000 x628000 (x635000 ++ [(⟨x637000,x637001,x637002,wrap64 (x637003+x9),x637004⟩:S66)])) else (none)) else (if x635000.length<3518437208883 then (jK.l0 k x9 (wrap64 (x10+1)) x626000 x628000 (x635000 ++ [(⟨x637000,x637001,x637002,x637003,x637004⟩:S66)])) else (none))
end
def jK.f (k : Nat) (l0_0 : List (S99)) (l1_0 : List (S66)) (l2_0 : List (S66)) : Option ((List (S66)) × Bool) := (jE.f k l0_0 l1_0).bind fun t629 => (if t629 = true then ((jE.f k l0_0 l2_0).bind fun t630 => (jK.j0 k (!t630) l0_0 l1_0 l2_0)) else (jK.j0 k true l0_0 l1_0 l2_0))
set_option maxHeartbeats 8000000 in
set_option maxRecDepth 100000 in
theorem jK.calls (k : Nat) (A0_0 : Option Addr) (c0_0 : Nat) (l0_0 : List (S99)) (A1_0 : Option Addr) (c1_0 : Nat) (l1_0 : List (S66)) (A2_0 : Option Addr) (c2_0 : Nat) (l2_0 : List (S66)) (r1 : List (S66)) (r2 : Bool) (w : World) (hr0_0 : Kd.C k99 w A0_0 l0_0.length l0_0) (hc0_0 : l0_0.length ≤ c0_0) (hr1_0 : Kd.C k66 w A1_0 l1_0.length l1_0) (hc1_0 : l1_0.length ≤ c1_0) (hr2_0 : Kd.C k66 w A2_0 l2_0.length l2_0) (hc2_0 : l2_0.length ≤ c2_0) (h : jK.f k l0_0 l1_0 l2_0 = some (r1, r2)) :
  Calls Tryd.prog 24 #[.agg #[.slice A0_0 l0_0.length c0_0], .agg #[.slice A1_0 l1_0.length c1_0], .agg #[.slice A2_0 l2_0.length c2_0]] w fun e w'=>∃ v0_:Value,e=.returned (.tuple #[.agg #[v0_], .bool r2])∧Kd.R k66 66 w' w.heap.size (fun _=>True) v0_ r1∧Below w.heap.size w w':=by
 have hu25:=Tryd.underlying25
 have hu28:=Tryd.underlying28
 have hu66:=Tryd.underlying66
 have HR0_0:=am hr0_0
 have HC0_0:=am hc0_0
 clear hr0_0 hc0_0
 have HR1_0:=am hr1_0
 have HC1_0:=am hc1_0
 clear hr1_0 hc1_0
 have HR2_0:=am hr2_0
 have HC2_0:=am hc2_0
 clear hr2_0 hc2_0
 have HB:=am (Below.refl w.heap.size w)
 have H:((jE.f k l0_0 l1_0).bind fun t629=>(if t629=true then ((jE.f k l0_0 l2_0).bind fun t630=>(jK.j0 k (!t630) l0_0 l1_0 l2_0)) else (jK.j0 k true l0_0 l1_0 l2_0)))=some (r1,r2):=h
 clear h
 have HC4:=am H
 clear H
 go_enter Tryd.func24,Tryd.ntmps24
 go_upto_region 1 with (first |((with_reducible refine jH (N:=3) rfl ?_);refine bE (N:=3) (cs:=#[.slice A0_0 l0_0.length c0_0]) (t:=25) ?_;intro gb625 hg w5 hbox hb;have BK625:=am (hbox);have GW625:=am ((Y0:w.heap.size≤gb625));have GE625:=am ((Y0:w.heap.size≤gb625));replace HB:=am (jh (bq) hb);clear hb hbox hg) |((with_reducible refine jH (N:=4) rfl ?_);refine bE (N:=4) (cs:=#[.slice A1_0 l1_0.length c1_0]) (t:=28) ?_;intro gb626 hg w6 hbox hb;have BK626:=am (hbox);have GW626:=am ((Y183:w.heap.size≤gb626));have GE626:=am ((Y183:w.heap.size≤gb626));have NB625_626:=am ((Y97:gb625≠gb626));have NB626_625:=am ((Y98:gb626≠gb625));replace BK625:=am (jc (g:=gb625) (o:=.cells #[.slice A0_0 l0_0.length c0_0] 25 (0,0)) (kq BK625.out) hb);replace HB:=am (jh (by repeat (first |(with_reducible first | exact HB.out | apply jw | apply jm | apply jv | refine jk ?_ GE625.out) | exact HB.out)) hb);clear hb hbox hg) |((with_reducible refine jH (N:=5) rfl ?_);refine bE (N:=5) (cs:=#[.slice A2_0 l2_0.length c2_0]) (t:=28) ?_;intro gb627 hg w7 hbox hb;have BK627:=am (hbox);have GW627:=am ((Y184:w.heap.size≤gb627));have GE627:=am ((Y184:w.heap.size≤gb627));have NB625_627:=am ((Y97:gb625≠gb627));have NB627_625:=am ((Y98:gb627≠gb625));have NB626_627:=am ((Y119:gb626≠gb627));have NB627_626:=am ((Y120:gb627≠gb626));replace BK625:=am (jc (g:=gb625) (o:=.cells #[.slice A0_0 l0_0.length c0_0] 25 (0,0)) (kq BK625.out) hb);replace BK626:=am (jc (g:=gb626) (o:=.cells #[.slice A1_0 l1_0.length c1_0] 28 (0,0)) (kq BK626.out) hb);replace HB:=am (jh (by repeat (first |(with_reducible first | exact HB.out | apply jw | apply jm | apply jv | refine jk ?_ GE625.out | refine jk ?_ GE626.out) | exact HB.out)) hb);clear hb hbox hg) |((with_reducible refine jH (N:=6) rfl ?_);refine bE (N:=6) (cs:=#[.slice none 0 0]) (t:=28) ?_;intro gb628 hg w8 hbox hb;have BK628:=am (hbox);have GW628:=am ((Y185:w.heap.size≤gb628));have GE628:=am ((Y185:w.heap.size≤gb628));have NB625_628:=am ((Y97:gb625≠gb628));have NB628_625:=am ((Y98:gb628≠gb625));have NB626_628:=am ((Y119:gb626≠gb628));have NB628_626:=am ((Y120:gb628≠gb626));have NB627_628:=am ((by rw [hg];exact Nat.ne_of_lt (jX (g:=gb627) (o:=.cells #[.slice A2_0 l2_0.length c2_0] 28 (0,0)) (kq BK627.out)):gb627≠gb628));have NB628_627:=am ((by rw [hg];exact Nat.ne_of_gt (jX (g:=gb627) (o:=.cells #[.slice A2_0 l2_0.length c2_0] 28 (0,0)) (kq BK627.out)):gb628≠gb627));replace BK625:=am (jc (g:=gb625) (o:=.cells #[.slice A0_0 l0_0.length c0_0] 25 (0,0)) (kq BK625.out) hb);replace BK626:=am (jc (g:=gb626) (o:=.cells #[.slice A1_0 l1_0.length c1_0] 28 (0,0)) (kq BK626.out) hb);replace BK627:=am (jc (g:=gb627) (o:=.cells #[.slice A2_0 l2_0.length c2_0] 28 (0,0)) (kq BK627.out) hb);replace HB:=am (jh (by repeat (first |(with_reducible first | exact HB.out | apply jw | apply jm | apply jv | refine jk ?_ GE625.out | refine jk ?_ GE626.out | refine jk ?_ GE627.out) | exact HB.out)) hb);clear hb hbox hg))
 (try simp only [Act.put,List.setIfInBounds_toArray,List.set_cons_zero,List.set_cons_succ])
 go_cut [21] (fun v21 wc=>∃ (kq:Nat) (x21_3:Bool),v21=.bool x21_3∧jy (jK.j0 kq x21_3 l0_0 l1_0 l2_0=some (r1,r2))∧jy (kq≤k)∧jy (wc.heap[gb625]?=some (.cells #[(.slice A0_0 l0_0.length c0_0)] 25 (0,0)))∧jy (wc.heap[gb626]?=some (.cells #[(.slice A1_0 l1_0.length c1_0)] 28 (0,0)))∧jy (wc.heap[gb627]?=some (.cells #[(.slice A2_0 l2_0.length c2_0)] 28 (0,0)))∧jy (wc.heap[gb628]?=some (.cells #[(.slice none 0 0)] 28 (0,0)))∧jy (Below w.heap.size w wc))
 case first =>
  have H:=HC4.out
  clear HC4
  replace H:=bzS H
  obtain ⟨t629,A90,H⟩:=H
  replace H:(if t629=true then ((jE.f k l0_0 l2_0).bind fun t630=>(jK.j0 k (!t630) l0_0 l1_0 l2_0)) else (jK.j0 k true l0_0 l1_0 l2_0))=some (r1,r2):=H
  have A9:=am A90
  clear A90
  by_cases c10:t629=true
  ·subst c10
   have H1:((jE.f k l0_0 l2_0).bind fun t630=>(jK.j0 k (!t630) l0_0 l1_0 l2_0))=some (r1,r2):=by rw [if_pos rfl] at H;exact H
   clear H
   have H:=H1
   clear H1
   replace H:=bzS H
   obtain ⟨t630,A110,H⟩:=H
   replace H:(jK.j0 k (!t630) l0_0 l1_0 l2_0)=some (r1,r2):=H
   have A11:=am A110
   clear A110
   have H':=am H
   clear H
   have hnb12:=NB625_626.out
   have hnc12:=NB626_625.out
   have hnb13:=NB625_627.out
   have hnc13:=NB627_625.out
   have hnb14:=NB625_628.out
   have hnc14:=NB628_625.out
   have hcz15_0:=bc0 BK625.out
   have hfz15_0:=jb BK625.out 0
   have hnb16:=NB626_627.out
   have hnc16:=NB627_626.out
   have hnb17:=NB626_628.out
   have hnc17:=NB628_626.out
   have hcz18_0:=bc0 BK626.out
   have hfz18_0:=jb BK626.out 0
   go_wp2_with (first |((with_reducible refine jD (f:=48) rfl ?_);refine gL (some 14) Tryd.func48 #[.agg #[.slice A0_0 l0_0.length c0_0], .agg #[.slice A1_0 l1_0.length c1_0]] ?_;(with_reducible refine (jE.calls k _ _ l0_0 _ _ l1_0 true _ ?side1 ?side2 ?side3 ?side4 A9.out).mono ?_);(case side1=>exact cq (Kd.jba HR0_0.out HB.out));(case side2=>exact HC0_0.out);(case side3=>exact cq (Kd.jba HR1_0.out HB.out));(case side4=>exact HC1_0.out);rintro e w19 ⟨rfl,hb⟩;refine ⟨_,rfl,?_⟩;replace BK625:=am (jc (g:=gb625) (o:=.cells #[.slice A0_0 l0_0.length c0_0] 25 (0,0)) (kq BK625.out) hb);replace BK626:=am (jc (g:=gb626) (o:=.cells #[.slice A1_0 l1_0.length c1_0] 28 (0,0)) (kq BK626.out) hb);replace BK627:=am (jc (g:=gb627) (o:=.cells #[.slice A2_0 l2_0.length c2_0] 28 (0,0)) (kq BK627.out) hb);replace BK628:=am (jc (g:=gb628) (o:=.cells #[.slice none 0 0] 28 (0,0)) (kq BK628.out) hb);replace HB:=am (jh (Y47) hb);(try clear hb);(try clear hb2);(try clear hk);(try clear hi);have hcz20_0:=bc0 BK625.out;have hfz20_0:=jb BK625.out 0;have hnb21:=NB627_628.out;have hnc21:=NB628_627.out;have hcz22_0:=bc0 BK627.out;have hfz22_0:=jb BK627.out 0) |(go_at_call 48;(with_reducible refine (jE.calls k _ _ l0_0 _ _ l2_0 t630 _ ?side1 ?side2 ?side3 ?side4 A11.out).mono ?_);(case side1=>exact cq (Kd.jba HR0_0.out HB.out));(case side2=>exact HC0_0.out);(case side3=>exact cq (Kd.jba HR2_0.out HB.out));(case side4=>exact HC2_0.out);rintro e w23 ⟨rfl,hb⟩;replace BK625:=am (jc (g:=gb625) (o:=.cells #[.slice A0_0 l0_0.length c0_0] 25 (0,0)) (kq BK625.out) hb);replace BK626:=am (jc (g:=gb626) (o:=.cells #[.slice A1_0 l1_0.length c1_0] 28 (0,0)) (kq BK626.out) hb);replace BK627:=am (jc (g:=gb627) (o:=.cells #[.slice A2_0 l2_0.length c2_0] 28 (0,0)) (kq BK627.out) hb);replace BK628:=am (jc (g:=gb628) (o:=.cells #[.slice none 0 0] 28 (0,0)) (kq BK628.out) hb);replace HB:=am (jh (Y47) hb);(try clear hb);(try clear hb2);(try clear hk);(try clear hi)))
   go_meet
   case rel=>exact ⟨_,(!t630),(sq),H',⟨Y41⟩,⟨kq BK625.out⟩,⟨kq BK626.out⟩,⟨kq BK627.out⟩,⟨kq BK628.out⟩,⟨Y47⟩⟩
  ·replace c10:=Bool.eq_false_iff.mpr c10
   subst c10
   have H1:(jK.j0 k true l0_0 l1_0 l2_0)=some (r1,r2):=by rw [if_neg (show ¬ (false=true) by decide)] at H;exact H
   clear H
   have H:=H1
   clear H1
   have H':=am H
   clear H
   have hnb24:=NB625_626.out
   have hnc24:=NB626_625.out
   have hnb25:=NB625_627.out
   have hnc25:=NB627_625.out
   have hnb26:=NB625_628.out
   have hnc26:=NB628_625.out
   have hcz27_0:=bc0 BK625.out
   have hfz27_0:=jb BK625.out 0
   have hnb28:=NB626_627.out
   have hnc28:=NB627_626.out
   have hnb29:=NB626_628.out
   have hnc29:=NB628_626.out
   have hcz30_0:=bc0 BK626.out
   have hfz30_0:=jb BK626.out 0
   go_wp2_with (first |((with_reducible refine jD (f:=48) rfl ?_);refine gL (some 14) Tryd.func48 #[.agg #[.slice A0_0 l0_0.length c0_0], .agg #[.slice A1_0 l1_0.length c1_0]] ?_;(with_reducible refine (jE.calls k _ _ l0_0 _ _ l1_0 false _ ?side1 ?side2 ?side3 ?side4 A9.out).mono ?_);(case side1=>exact cq (Kd.jba HR0_0.out HB.out));(case side2=>exact HC0_0.out);(case side3=>exact cq (Kd.jba HR1_0.out HB.out));(case side4=>exact HC1_0.out);rintro e w31 ⟨rfl,hb⟩;refine ⟨_,rfl,?_⟩;replace BK625:=am (jc (g:=gb625) (o:=.cells #[.slice A0_0 l0_0.length c0_0] 25 (0,0)) (kq BK625.out) hb);replace BK626:=am (jc (g:=gb626) (o:=.cells #[.slice A1_0 l1_0.length c1_0] 28 (0,0)) (kq BK626.out) hb);replace BK627:=am (jc (g:=gb627) (o:=.cells #[.slice A2_0 l2_0.length c2_0] 28 (0,0)) (kq BK627.out) hb);replace BK628:=am (jc (g:=gb628) (o:=.cells #[.slice none 0 0] 28 (0,0)) (kq BK628.out) hb);replace HB:=am (jh (Y47) hb);(try clear hb);(try clear hb2);(try clear hk);(try clear hi)))
   go_meet
   case rel=>exact ⟨_,(true),(sq),H',⟨Y41⟩,⟨kq BK625.out⟩,⟨kq BK626.out⟩,⟨kq BK627.out⟩,⟨kq BK628.out⟩,⟨Y47⟩⟩
 case rest =>
  clear HC4
  try clear c1
  try clear c2
  try clear p2
  try clear c4
  try clear c10
  try clear c12
  try clear c13
  try clear c14
  try clear c16
  try clear c17
  try clear c21
  try clear c24
  try clear c25
  try clear c26
  try clear c28
  try clear c29
  try clear hcz15_0
  try clear hcz18_0
  try clear hcz20_0
  try clear hcz22_0
  try clear hcz27_0
  try clear hcz30_0
  try clear hfz15_0
  try clear hfz18_0
  try clear hfz20_0
  try clear hfz22_0
  try clear hfz27_0
  try clear hfz30_0
  obtain ⟨kq,x21_3,rfl,HA,HJ3,BK625,BK626,BK627,BK628,HB⟩:=hcut
  cases kq with
  | zero=>exact absurd HA.out (by simp [jK.j0])
  | succ kj3 =>
   have H:=HA.out
   clear HA
   simp only [jK.j0] at H
   by_cases c32:x21_3=true
   ·subst c32
    have H1:(some (([]:List (S66)),false))=some (r1,r2):=by rw [if_pos rfl] at H;exact H
    clear H
    have H:=H1
    clear H1
    simp only [Option.some.injEq,Prod.mk.injEq] at H
    obtain ⟨rfl,rfl⟩:=H
    have hnb33:=NB628_625.out
    have hnc33:=NB625_628.out
    have hnb34:=NB628_626.out
    have hnc34:=NB626_628.out
    have hnb35:=NB628_627.out
    have hnc35:=NB627_628.out
    have hcz36_0:=bc0 BK628.out
    have hfz36_0:=jb BK628.out 0
    go_wp2
    refine bodyPost_ret (jPb rfl _ _ gb628 28 #[.slice none 0 0] (0,0) _ rfl (Y142) Tryd.underlying28 rfl (by kernel_rfl)) rfl ?_
    exact ⟨_,Y2,Y128,Y47⟩
   ·replace c32:=Bool.eq_false_iff.mpr c32
    subst c32
    have H1:((jKa.f l1_0).bind fun t631=>(jK.l0 kj3 (l1_0.length:Int) 0 l0_0 l2_0 t631))=some (r1,r2):=by rw [if_neg (show ¬ (false=true) by decide)] at H;exact H
    clear H
    have H:=H1
    clear H1
    replace H:=bzS H
    obtain ⟨t631,A370,H⟩:=H
    replace H:(jK.l0 kj3 (l1_0.length:Int) 0 l0_0 l2_0 t631)=some (r1,r2):=H
    have A37:=am A370
    clear A370
    have H':=am H
    clear H
    have hnb38:=NB626_625.out
    have hnc38:=NB625_626.out
    have hnb39:=NB626_627.out
    have hnc39:=NB627_626.out
    have hnb40:=NB626_628.out
    have hnc40:=NB628_626.out
    have hcz41_0:=bc0 BK626.out
    have hfz41_0:=jb BK626.out 0
    go_wp2_with (first |((with_reducible refine jD (f:=49) rfl ?_);refine gL (some 24) Tryd.func49 #[.agg #[.slice A1_0 l1_0.length c1_0]] ?_;(with_reducible refine (jKa.calls _ _ l1_0 t631 _ ?side1 ?side2 A37.out).mono ?_);(case side1=>exact cq (Kd.jba HR1_0.out HB.out));(case side2=>exact HC1_0.out);rintro e w42 ⟨v632,rfl,ho0,hb⟩;refine ⟨_,rfl,?_⟩;have HO633:=am (Kd.joa ho0 (jP (Y47)));replace BK625:=am (jc (g:=gb625) (o:=.cells #[.slice A0_0 l0_0.length c0_0] 25 (0,0)) (kq BK625.out) hb);replace BK626:=am (jc (g:=gb626) (o:=.cells #[.slice A1_0 l1_0.length c1_0] 28 (0,0)) (kq BK626.out) hb);replace BK627:=am (jc (g:=gb627) (o:=.cells #[.slice A2_0 l2_0.length c2_0] 28 (0,0)) (kq BK627.out) hb);replace BK628:=am (jc (g:=gb628) (o:=.cells #[.slice none 0 0] 28 (0,0)) (kq BK628.out) hb);replace HB:=am (jh (Y47) hb);(try clear hb);(try clear hb2);(try clear hk);(try clear hi);(try clear ho0)) |((with_reducible refine jH (N:=8) rfl ?_);refine bE (N:=8) (cs:=#[.slice none 0 0]) (t:=28) ?_;intro gb634 hg w43 hbox hb;have BK634:=am (hbox);have GW634:=am ((Y186:w.heap.size≤gb634));have GE634:=am ((Y186:w.heap.size≤gb634));have NB625_634:=am ((Y97:gb625≠gb634));have NB634_625:=am ((Y98:gb634≠gb625));have NB626_634:=am ((Y119:gb626≠gb634));have NB634_626:=am ((Y120:gb634≠gb626));have NB627_634:=am ((by rw [hg];exact Nat.ne_of_lt (jX (g:=gb627) (o:=.cells #[.slice A2_0 l2_0.length c2_0] 28 (0,0)) (kq BK627.out)):gb627≠gb634));have NB634_627:=am ((by rw [hg];exact Nat.ne_of_gt (jX (g:=gb627) (o:=.cells #[.slice A2_0 l2_0.length c2_0] 28 (0,0)) (kq BK627.out)):gb634≠gb627));have NB628_634:=am ((by rw [hg];exact Nat.ne_of_lt (jX (g:=gb628) (o:=.cells #[.slice none 0 0] 28 (0,0)) (kq BK628.out)):gb628≠gb634));have NB634_628:=am ((by rw [hg];exact Nat.ne_of_gt (jX (g:=gb628) (o:=.cells #[.slice none 0 0] 28 (0,0)) (kq BK628.out)):gb634≠gb628));replace HO633:=am (Kd.jL (rq HO633.out) hb);replace BK625:=am (jc (g:=gb625) (o:=.cells #[.slice A0_0 l0_0.length c0_0] 25 (0,0)) (kq BK625.out) hb);replace BK626:=am (jc (g:=gb626) (o:=.cells #[.slice A1_0 l1_0.length c1_0] 28 (0,0)) (kq BK626.out) hb);replace BK627:=am (jc (g:=gb627) (o:=.cells #[.slice A2_0 l2_0.length c2_0] 28 (0,0)) (kq BK627.out) hb);replace BK628:=am (jc (g:=gb628) (o:=.cells #[.slice none 0 0] 28 (0,0)) (kq BK628.out) hb);replace HB:=am (jh (Y47) hb);clear hb hbox hg;obtain ⟨Ao44,co44,eo44⟩:=Kd.jaa HO633.out;subst eo44;have hnb45:=NB634_625.out;have hnc45:=NB625_634.out;have hnb46:=NB634_626.out;have hnc46:=NB626_634.out;have hnb47:=NB634_627.out;have hnc47:=NB627_634.out;have hnb48:=NB634_628.out;have hnc48:=NB628_634.out;have hcz49_0:=bc0 BK634.out;have hfz49_0:=jb BK634.out 0;have hcz50_0:=bc0 BK626.out;have hfz50_0:=jb BK626.out 0))
    go_loopg [10] kj3 (fun kq v10 w'=>∃ (x10_2:Int) (x635000_2:List (S66)) (u635000:Value),v10=.int .i64 x10_2∧jy (jK.l0 kq (l1_0.length:Int) x10_2 l0_0 l2_0 x635000_2=some (r1,r2))∧jy (kq≤kj3)∧jy (Kd.R k66 66 w' w.heap.size (fun _=>True) u635000 x635000_2)∧jy (w'.heap[gb625]?=some (.cells #[(.slice A0_0 l0_0.length c0_0)] 25 (0,0)))∧jy (w'.heap[gb626]?=some (.cells #[(.slice A1_0 l1_0.length c1_0)] 28 (0,0)))∧jy (w'.heap[gb627]?=some (.cells #[(.slice A2_0 l2_0.length c2_0)] 28 (0,0)))∧jy (w'.heap[gb628]?=some (.cells #[(.slice none 0 0)] 28 (0,0)))∧jy (w'.heap[gb634]?=some (.cells #[u635000] 28 (0,0)))∧jy (Below w.heap.size w w'))
    case atStart=>exact ⟨(0),(t631),(.slice Ao44 t631.length co44),(sq),H',⟨Nat.le_refl _⟩,⟨by (with_reducible repeat (first | apply Kd.jR | apply Kd.jT | apply Kd.jQ));exact Kd.jI (Kd.jka (p:=⟨gb634,0,none⟩) (Kd.jN HO633.out BK634.out (by decide)) (fun _ hk=>hk.2) (.slice Ao44 t631.length co44)) (fun _ hk=>trivial)⟩,⟨by (with_reducible repeat (first | refine jd ?_ _ | refine jf ?_ | refine je ?_ _));refine jG ?_ NB625_634.out _;(with_reducible repeat (first | refine jd ?_ _ | refine jf ?_ | refine je ?_ _));exact BK625.out⟩,⟨by (with_reducible repeat (first | refine jd ?_ _ | refine jf ?_ | refine je ?_ _));refine jG ?_ NB626_634.out _;(with_reducible repeat (first | refine jd ?_ _ | refine jf ?_ | refine je ?_ _));exact BK626.out⟩,⟨by (with_reducible repeat (first | refine jd ?_ _ | refine jf ?_ | refine je ?_ _));refine jG ?_ NB627_634.out _;(with_reducible repeat (first | refine jd ?_ _ | refine jf ?_ | refine je ?_ _));exact BK627.out⟩,⟨by (with_reducible repeat (first | refine jd ?_ _ | refine jf ?_ | refine je ?_ _));refine jG ?_ NB628_634.out _;(with_reducible repeat (first | refine jd ?_ _ | refine jf ?_ | refine je ?_ _));exact BK628.out⟩,⟨by (with_reducible repeat (first | refine jd ?_ _ | refine jf ?_ | refine je ?_ _));refine jqa (cs:=#[.slice none 0 0]) ?_ 0 _ rfl;(with_reducible repeat (first | refine jd ?_ _ | refine jf ?_ | refine je ?_ _));exact BK634.out⟩,⟨Y84⟩⟩
    case round =>
     clear H'
     try clear c1
     try clear c2
     try clear p2
     try clear c3
     try clear c4
     try clear c10
     try clear c12
     try clear c13
     try clear c14
     try clear c16
     try clear c17
     try clear c21
     try clear c24
     try clear c25
     try clear c26
     try clear c28
     try clear c29
     try clear c32
     try clear c33
     try clear c34
     try clear c35
     try clear c38
     try clear c39
     try clear c40
     try clear c45
     try clear c46
     try clear c47
     try clear c48
     try clear c49
     try clear hcz15_0
     try clear hcz18_0
     try clear hcz20_0
     try clear hcz22_0
     try clear hcz27_0
     try clear hcz30_0
     try clear hcz36_0
     try clear hcz41_0
     try clear hcz49_0
     try clear hcz50_0
     try clear hfz15_0
     try clear hfz18_0
     try clear hfz20_0
     try clear hfz22_0
     try clear hfz27_0
     try clear hfz30_0
     try clear hfz36_0
     try clear hfz41_0
     try clear hfz49_0
     try clear hfz50_0
     try clear p2
     obtain ⟨x10_2,x635000_2,u635000,rfl,HA,HK2,HO_635000,BK625,BK626,BK627,BK628,BK634,HB⟩:=hrel
     cases gk with
     | zero=>exact absurd HA.out (by simp [jK.l0])
     | succ k2 =>
      have H:=HA.out
      clear HA
      simp only [jK.l0] at H
      by_cases c51:x10_2<(l2_0.length:Int)
      ·rw [if_pos c51] at H
       have c51b0:decide (x10_2<(l2_0.length:Int))=true:=dzT c51
       clear c51
       by_cases c52:0≤x10_2
       ·rw [if_pos c52] at H
        have c52b0:decide (0≤x10_2)=true:=dzT c52
        clear c52
        have HC53:=am H
        clear H
        have hnb54:=NB627_625.out
        have hnc54:=NB625_627.out
        have hnb55:=NB627_626.out
        have hnc55:=NB626_627.out
        have hnb56:=NB627_628.out
        have hnc56:=NB628_627.out
        have hnb57:=NB627_634.out
        have hnc57:=NB634_627.out
        have hcz58_0:=bc0 BK627.out
        have hfz58_0:=jb BK627.out 0
        have p635:0≤(x10_2:Int):=ozD (uq)
        have q635:x10_2<(l2_0.length:Int):=ozD (uq)
        obtain ⟨ad635,e635,hx635_0,hx635_1,hx635_2,hx635_3,hx635_4⟩:=jab HR2_0.out x10_2 p635 q635
        cases e635
        replace hx635_0:=cb HB.out hx635_0
        replace hx635_1:=cb HB.out hx635_1
        replace hx635_2:=cb HB.out hx635_2
        replace hx635_3:=cb HB.out hx635_3
        replace hx635_4:=cb HB.out hx635_4
        replace p635:=ezT p635
        replace q635:=ezT q635
        go_upto_if 42 with (first |((with_reducible refine jH (N:=11) rfl ?_);refine bE (N:=11) (cs:=#[.int .i64 0, .int .i64 0, .int .i64 0, .int .i64 0, .bool false]) (t:=66) ?_;intro gb636 hg w59 hbox hb;have BK636:=am (hbox);have GW636:=am ((Y187:w.heap.size≤gb636));have GE636:=am ((Y187:w.heap.size≤gb636));have NB625_636:=am ((Y97:gb625≠gb636));have NB636_625:=am ((Y98:gb636≠gb625));have NB626_636:=am ((Y119:gb626≠gb636));have NB636_626:=am ((Y120:gb636≠gb626));have NB627_636:=am ((by rw [hg];exact Nat.ne_of_lt (jX (g:=gb627) (o:=.cells #[.slice (some ad635) l2_0.length c2_0] 28 (0,0)) (kq BK627.out)):gb627≠gb636));have NB636_627:=am ((by rw [hg];exact Nat.ne_of_gt (jX (g:=gb627) (o:=.cells #[.slice (some ad635) l2_0.length c2_0] 28 (0,0)) (kq BK627.out)):gb636≠gb627));have NB628_636:=am ((by rw [hg];exact Nat.ne_of_lt (jX (g:=gb628) (o:=.cells #[.slice none 0 0] 28 (0,0)) (kq BK628.out)):gb628≠gb636));have NB636_628:=am ((by rw [hg];exact Nat.ne_of_gt (jX (g:=gb628) (o:=.cells #[.slice none 0 0] 28 (0,0)) (kq BK628.out)):gb636≠gb628));have NB634_636:=am ((by rw [hg];exact Nat.ne_of_lt (jX (g:=gb634) (o:=.cells #[u635000] 28 (0,0)) (kq BK634.out)):gb634≠gb636));have NB636_634:=am ((by rw [hg];exact Nat.ne_of_gt (jX (g:=gb634) (o:=.cells #[u635000] 28 (0,0)) (kq BK634.out)):gb636≠gb634));replace HO_635000:=am (Kd.jL (Kd.R_elderB (rq HO_635000.out) gb636 (Nat.le_of_eq hg.symm)) hb);replace BK625:=am (jc (g:=gb625) (o:=.cells #[.slice A0_0 l0_0.length c0_0] 25 (0,0)) (kq BK625.out) hb);replace BK626:=am (jc (g:=gb626) (o:=.cells #[.slice A1_0 l1_0.length c1_0] 28 (0,0)) (kq BK626.out) hb);replace BK627:=am (jc (g:=gb627) (o:=.cells #[.slice (some ad635) l2_0.length c2_0] 28 (0,0)) (kq BK627.out) hb);replace BK628:=am (jc (g:=gb628) (o:=.cells #[.slice none 0 0] 28 (0,0)) (kq BK628.out) hb);replace BK634:=am (jc (g:=gb634) (o:=.cells #[u635000] 28 (0,0)) (kq BK634.out) hb);replace HB:=am (jh (Y84) hb);clear hb hbox hg;have hnb60:=NB636_625.out;have hnc60:=NB625_636.out;have hnb61:=NB636_626.out;have hnc61:=NB626_636.out;have hnb62:=NB636_627.out;have hnc62:=NB627_636.out;have hnb63:=NB636_628.out;have hnc63:=NB628_636.out;have hnb64:=NB636_634.out;have hnc64:=NB634_636.out;have hcz65_0:=bc0 BK636.out;have hcz65_1:=bc1 BK636.out;have hcz65_2:=bc2 BK636.out;have hcz65_3:=bc3 BK636.out;have hcz65_4:w59.cell? ⟨gb636,4,none⟩=some (.bool false):=(jF BK636.out 4).trans rfl;have hfz65_0:=jb BK636.out 0;have hfz65_1:=jb BK636.out 1;have hfz65_2:=jb BK636.out 2;have hfz65_3:=jb BK636.out 3;have hfz65_4:=jb BK636.out 4))
        (try simp only [Act.put,List.setIfInBounds_toArray,List.set_cons_zero,List.set_cons_succ])
        go_cut [] (fun wc=>∃ (kq:Nat) (x637002_52:Int),jy (jK.j2 kq (l1_0.length:Int) x10_2 l0_0 l2_0 x635000_2 ((ja l2_0 x10_2).f0) ((ja l2_0 x10_2).f1) x637002_52 ((ja l2_0 x10_2).f3) ((ja l2_0 x10_2).f4)=some (r1,r2))∧jy (kq≤k2)∧jy (Kd.R k66 66 wc w.heap.size (fun k_=>k_≠gb636) u635000 x635000_2)∧jy (wc.heap[gb625]?=some (.cells #[(.slice A0_0 l0_0.length c0_0)] 25 (0,0)))∧jy (wc.heap[gb626]?=some (.cells #[(.slice A1_0 l1_0.length c1_0)] 28 (0,0)))∧jy (wc.heap[gb627]?=some (.cells #[(.slice (some ad635) l2_0.length c2_0)] 28 (0,0)))∧jy (wc.heap[gb628]?=some (.cells #[(.slice none 0 0)] 28 (0,0)))∧jy (wc.heap[gb634]?=some (.cells #[u635000] 28 (0,0)))∧jy (wc.heap[gb636]?=some (.cells #[.int .i64 ((ja l2_0 x10_2).f0), .int .i64 ((ja l2_0 x10_2).f1), .int .i64 x637002_52, .int .i64 ((ja l2_0 x10_2).f3), .bool ((ja l2_0 x10_2).f4)] 66 (0,0)))∧jy (Below w.heap.size w wc))
        case first =>
         have H:=HC53.out
         clear HC53
         by_cases c66:((ja l2_0 x10_2).f2)≥0
         ·rw [if_pos c66] at H
          have c66b0:decide (0≤((ja l2_0 x10_2).f2))=true:=dzT c66
          clear c66
          (first | rw [c66b0] |(simp only [jjb,jkb];rw [c66b0]) | skip)
          have H':=am H
          clear H
          have hnb67:=NB636_625.out
          have hnc67:=NB625_636.out
          have hnb68:=NB636_626.out
          have hnc68:=NB626_636.out
          have hnb69:=NB636_627.out
          have hnc69:=NB627_636.out
          have hnb70:=NB636_628.out
          have hnc70:=NB628_636.out
          have hnb71:=NB636_634.out
          have hnc71:=NB634_636.out
          have hcz72_0:=bc0 BK636.out
          have hcz72_1:=bc1 BK636.out
          have hcz72_2:=bc2 BK636.out
          have hcz72_3:=bc3 BK636.out
          have hcz72_4:w59.cell? ⟨gb636,4,none⟩=some (.bool false):=(jF BK636.out 4).trans rfl
          have hfz72_0:=jb BK636.out 0
          have hfz72_1:=jb BK636.out 1
          have hfz72_2:=jb BK636.out 2
          have hfz72_3:=jb BK636.out 3
          have hfz72_4:=jb BK636.out 4
          go_wp2
          go_meet
          case rel=>exact ⟨_,(wrap64 (((ja l2_0 x10_2).f2)+(l1_0.length:Int))),H',⟨by have:=HJ3.out;have:=HK2.out;first | omega | exact Nat.le_refl _⟩,⟨by (with_reducible repeat (first | apply Kd.jR | apply Kd.jT | apply Kd.jQ));exact Kd.jI (Kd.jka (p:=⟨gb636,2,none⟩) (Kd.jka (p:=⟨gb636,4,none⟩) (Kd.jka (p:=⟨gb636,3,none⟩) (Kd.jka (p:=⟨gb636,2,none⟩) (Kd.jka (p:=⟨gb636,1,none⟩) (Kd.jka (p:=⟨gb636,0,none⟩) (Kd.jI HO_635000.out (fun k_ hk=>(⟨hk,hk.2⟩:_∧k_≠gb636))) (fun _ hk=>hk.2) (.int .i64 ((ja l2_0 x10_2).f0))) (fun _ hk=>hk.2) (.int .i64 ((ja l2_0 x10_2).f1))) (fun _ hk=>hk.2) (.int .i64 ((ja l2_0 x10_2).f2))) (fun _ hk=>hk.2) (.int .i64 ((ja l2_0 x10_2).f3))) (fun _ hk=>hk.2) (.bool ((ja l2_0 x10_2).f4))) (fun _ hk=>hk.2) (.int .i64 (wrap64 (((ja l2_0 x10_2).f2)+(l1_0.length:Int))))) (fun _ hk=>hk.1.2)⟩,⟨by (with_reducible repeat (first | refine jd ?_ _ | refine jf ?_ | refine je ?_ _));refine jG ?_ NB625_636.out _;(with_reducible repeat (first | refine jd ?_ _ | refine jf ?_ | refine je ?_ _));refine jG ?_ NB625_636.out _;(with_reducible repeat (first | refine jd ?_ _ | refine jf ?_ | refine je ?_ _));refine jG ?_ NB625_636.out _;(with_reducible repeat (first | refine jd ?_ _ | refine jf ?_ | refine je ?_ _));refine jG ?_ NB625_636.out _;(with_reducible repeat (first | refine jd ?_ _ | refine jf ?_ | refine je ?_ _));refine jG ?_ NB625_636.out _;(with_reducible repeat (first | refine jd ?_ _ | refine jf ?_ | refine je ?_ _));refine jG ?_ NB625_636.out _;(with_reducible repeat (first | refine jd ?_ _ | refine jf ?_ | refine je ?_ _));exact BK625.out⟩,⟨by (with_reducible repeat (first | refine jd ?_ _ | refine jf ?_ | refine je ?_ _));refine jG ?_ NB626_636.out _;(with_reducible repeat (first | refine jd ?_ _ | refine jf ?_ | refine je ?_ _));refine jG ?_ NB626_636.out _;(with_reducible repeat (first | refine jd ?_ _ | refine jf ?_ | refine je ?_ _));refine jG ?_ NB626_636.out _;(with_reducible repeat (first | refine jd ?_ _ | refine jf ?_ | refine je ?_ _));refine jG ?_ NB626_636.out _;(with_reducible repeat (first | refine jd ?_ _ | refine jf ?_ | refine je ?_ _));refine jG ?_ NB626_636.out _;(with_reducible repeat (first | refine jd ?_ _ | refine jf ?_ | refine je ?_ _));refine jG ?_ NB626_636.out _;(with_reducible repeat (first | refine jd ?_ _ | refine jf ?_ | refine je ?_ _));exact BK626.out⟩,⟨by (with_reducible repeat (first | refine jd ?_ _ | refine jf ?_ | refine je ?_ _));refine jG ?_ NB627_636.out _;(with_reducible repeat (first | refine jd ?_ _ | refine jf ?_ | refine je ?_ _));refine jG ?_ NB627_636.out _;(with_reducible repeat (first | refine jd ?_ _ | refine jf ?_ | refine je ?_ _));refine jG ?_ NB627_636.out _;(with_reducible repeat (first | refine jd ?_ _ | refine jf ?_ | refine je ?_ _));refine jG ?_ NB627_636.out _;(with_reducible repeat (first | refine jd ?_ _ | refine jf ?_ | refine je ?_ _));refine jG ?_ NB627_636.out _;(with_reducible repeat (first | refine jd ?_ _ | refine jf ?_ | refine je ?_ _));refine jG ?_ NB627_636.out _;(with_reducible repeat (first | refine jd ?_ _ | refine jf ?_ | refine je ?_ _));exact BK627.out⟩,⟨by (with_reducible repeat (first | refine jd ?_ _ | refine jf ?_ | refine je ?_ _));refine jG ?_ NB628_636.out _;(with_reducible repeat (first | refine jd ?_ _ | refine jf ?_ | refine je ?_ _));refine jG ?_ NB628_636.out _;(with_reducible repeat (first | refine jd ?_ _ | refine jf ?_ | refine je ?_ _));refine jG ?_ NB628_636.out _;(with_reducible repeat (first | refine jd ?_ _ | refine jf ?_ | refine je ?_ _));refine jG ?_ NB628_636.out _;(with_reducible repeat (first | refine jd ?_ _ | refine jf ?_ | refine je ?_ _));refine jG ?_ NB628_636.out _;(with_reducible repeat (first | refine jd ?_ _ | refine jf ?_ | refine je ?_ _));refine jG ?_ NB628_636.out _;(with_reducible repeat (first | refine jd ?_ _ | refine jf ?_ | refine je ?_ _));exact BK628.out⟩,⟨by (with_reducible repeat (first | refine jd ?_ _ | refine jf ?_ | refine je ?_ _));refine jG ?_ NB634_636.out _;(with_reducible repeat (first | refine jd ?_ _ | refine jf ?_ | refine je ?_ _));refine jG ?_ NB634_636.out _;(with_reducible repeat (first | refine jd ?_ _ | refine jf ?_ | refine je ?_ _));refine jG ?_ NB634_636.out _;(with_reducible repeat (first | refine jd ?_ _ | refine jf ?_ | refine je ?_ _));refine jG ?_ NB634_636.out _;(with_reducible repeat (first | refine jd ?_ _ | refine jf ?_ | refine je ?_ _));refine jG ?_ NB634_636.out _;(with_reducible repeat (first | refine jd ?_ _ | refine jf ?_ | refine je ?_ _));refine jG ?_ NB634_636.out _;(with_reducible repeat (first | refine jd ?_ _ | refine jf ?_ | refine je ?_ _));exact BK634.out⟩,⟨by (with_reducible repeat (first | refine jd ?_ _ | refine jf ?_ | refine je ?_ _));refine jqa (cs:=#[.int .i64 ((ja l2_0 x10_2).f0), .int .i64 ((ja l2_0 x10_2).f1), .int .i64 ((ja l2_0 x10_2).f2), .int .i64 ((ja l2_0 x10_2).f3), .bool ((ja l2_0 x10_2).f4)]) ?_ 2 _ rfl;(with_reducible repeat (first | refine jd ?_ _ | refine jf ?_ | refine je ?_ _));refine jqa (cs:=#[.int .i64 ((ja l2_0 x10_2).f0), .int .i64 ((ja l2_0 x10_2).f1), .int .i64 ((ja l2_0 x10_2).f2), .int .i64 ((ja l2_0 x10_2).f3), .bool false]) ?_ 4 _ rfl;(with_reducible repeat (first | refine jd ?_ _ | refine jf ?_ | refine je ?_ _));refine jqa (cs:=#[.int .i64 ((ja l2_0 x10_2).f0), .int .i64 ((ja l2_0 x10_2).f1), .int .i64 ((ja l2_0 x10_2).f2), .int .i64 0, .bool false]) ?_ 3 _ rfl;(with_reducible repeat (first | refine jd ?_ _ | refine jf ?_ | refine je ?_ _));refine jqa (cs:=#[.int .i64 ((ja l2_0 x10_2).f0), .int .i64 ((ja l2_0 x10_2).f1), .int .i64 0, .int .i64 0, .bool false]) ?_ 2 _ rfl;(with_reducible repeat (first | refine jd ?_ _ | refine jf ?_ | refine je ?_ _));refine jqa (cs:=#[.int .i64 ((ja l2_0 x10_2).f0), .int .i64 0, .int .i64 0, .int .i64 0, .bool false]) ?_ 1 _ rfl;(with_reducible repeat (first | refine jd ?_ _ | refine jf ?_ | refine je ?_ _));refine jqa (cs:=#[.int .i64 0, .int .i64 0, .int .i64 0, .int .i64 0, .bool false]) ?_ 0 _ rfl;(with_reducible repeat (first | refine jd ?_ _ | refine jf ?_ | refine je ?_ _));exact BK636.out⟩,⟨Y55⟩⟩
         ·rw [if_neg c66] at H
          have c66b0:decide (0≤((ja l2_0 x10_2).f2))=false:=dzF c66
          clear c66
          (first | rw [c66b0] |(simp only [jjb,jkb];rw [c66b0]) | skip)
          have H':=am H
          clear H
          go_wp2
          go_meet
          case rel=>exact ⟨_,((ja l2_0 x10_2).f2),H',⟨by have:=HJ3.out;have:=HK2.out;first | omega | exact Nat.le_refl _⟩,⟨by (with_reducible repeat (first | apply Kd.jR | apply Kd.jT | apply Kd.jQ));exact Kd.jI (Kd.jka (p:=⟨gb636,4,none⟩) (Kd.jka (p:=⟨gb636,3,none⟩) (Kd.jka (p:=⟨gb636,2,none⟩) (Kd.jka (p:=⟨gb636,1,none⟩) (Kd.jka (p:=⟨gb636,0,none⟩) (Kd.jI HO_635000.out (fun k_ hk=>(⟨hk,hk.2⟩:_∧k_≠gb636))) (fun _ hk=>hk.2) (.int .i64 ((ja l2_0 x10_2).f0))) (fun _ hk=>hk.2) (.int .i64 ((ja l2_0 x10_2).f1))) (fun _ hk=>hk.2) (.int .i64 ((ja l2_0 x10_2).f2))) (fun _ hk=>hk.2) (.int .i64 ((ja l2_0 x10_2).f3))) (fun _ hk=>hk.2) (.bool ((ja l2_0 x10_2).f4))) (fun _ hk=>hk.1.2)⟩,⟨by (with_reducible repeat (first | refine jd ?_ _ | refine jf ?_ | refine je ?_ _));refine jG ?_ NB625_636.out _;(with_reducible repeat (first | refine jd ?_ _ | refine jf ?_ | refine je ?_ _));refine jG ?_ NB625_636.out _;(with_reducible repeat (first | refine jd ?_ _ | refine jf ?_ | refine je ?_ _));refine jG ?_ NB625_636.out _;(with_reducible repeat (first | refine jd ?_ _ | refine jf ?_ | refine je ?_ _));refine jG ?_ NB625_636.out _;(with_reducible repeat (first | refine jd ?_ _ | refine jf ?_ | refine je ?_ _));refine jG ?_ NB625_636.out _;(with_reducible repeat (first | refine jd ?_ _ | refine jf ?_ | refine je ?_ _));exact BK625.out⟩,⟨by (with_reducible repeat (first | refine jd ?_ _ | refine jf ?_ | refine je ?_ _));refine jG ?_ NB626_636.out _;(with_reducible repeat (first | refine jd ?_ _ | refine jf ?_ | refine je ?_ _));refine jG ?_ NB626_636.out _;(with_reducible repeat (first | refine jd ?_ _ | refine jf ?_ | refine je ?_ _));refine jG ?_ NB626_636.out _;(with_reducible repeat (first | refine jd ?_ _ | refine jf ?_ | refine je ?_ _));refine jG ?_ NB626_636.out _;(with_reducible repeat (first | refine jd ?_ _ | refine jf ?_ | refine je ?_ _));refine jG ?_ NB626_636.out _;(with_reducible repeat (first | refine jd ?_ _ | refine jf ?_ | refine je ?_ _));exact BK626.out⟩,⟨by (with_reducible repeat (first | refine jd ?_ _ | refine jf ?_ | refine je ?_ _));refine jG ?_ NB627_636.out _;(with_reducible repeat (first | refine jd ?_ _ | refine jf ?_ | refine je ?_ _));refine jG ?_ NB627_636.out _;(with_reducible repeat (first | refine jd ?_ _ | refine jf ?_ | refine je ?_ _));refine jG ?_ NB627_636.out _;(with_reducible repeat (first | refine jd ?_ _ | refine jf ?_ | refine je ?_ _));refine jG ?_ NB627_636.out _;(with_reducible repeat (first | refine jd ?_ _ | refine jf ?_ | refine je ?_ _));refine jG ?_ NB627_636.out _;(with_reducible repeat (first | refine jd ?_ _ | refine jf ?_ | refine je ?_ _));exact BK627.out⟩,⟨by (with_reducible repeat (first | refine jd ?_ _ | refine jf ?_ | refine je ?_ _));refine jG ?_ NB628_636.out _;(with_reducible repeat (first | refine jd ?_ _ | refine jf ?_ | refine je ?_ _));refine jG ?_ NB628_636.out _;(with_reducible repeat (first | refine jd ?_ _ | refine jf ?_ | refine je ?_ _));refine jG ?_ NB628_636.out _;(with_reducible repeat (first | refine jd ?_ _ | refine jf ?_ | refine je ?_ _));refine jG ?_ NB628_636.out _;(with_reducible repeat (first | refine jd ?_ _ | refine jf ?_ | refine je ?_ _));refine jG ?_ NB628_636.out _;(with_reducible repeat (first | refine jd ?_ _ | refine jf ?_ | refine je ?_ _));exact BK628.out⟩,⟨by (with_reducible repeat (first | refine jd ?_ _ | refine jf ?_ | refine je ?_ _));refine jG ?_ NB634_636.out _;(with_reducible repeat (first | refine jd ?_ _ | refine jf ?_ | refine je ?_ _));refine jG ?_ NB634_636.out _;(with_reducible repeat (first | refine jd ?_ _ | refine jf ?_ | refine je ?_ _));refine jG ?_ NB634_636.out _;(with_reducible repeat (first | refine jd ?_ _ | refine jf ?_ | refine je ?_ _));refine jG ?_ NB634_636.out _;(with_reducible repeat (first | refine jd ?_ _ | refine jf ?_ | refine je ?_ _));refine jG ?_ NB634_636.out _;(with_reducible repeat (first | refine jd ?_ _ | refine jf ?_ | refine je ?_ _));exact BK634.out⟩,⟨by (with_reducible repeat (first | refine jd ?_ _ | refine jf ?_ | refine je ?_ _));refine jqa (cs:=#[.int .i64 ((ja l2_0 x10_2).f0), .int .i64 ((ja l2_0 x10_2).f1), .int .i64 ((ja l2_0 x10_2).f2), .int .i64 ((ja l2_0 x10_2).f3), .bool false]) ?_ 4 _ rfl;(with_reducible repeat (first | refine jd ?_ _ | refine jf ?_ | refine je ?_ _));refine jqa (cs:=#[.int .i64 ((ja l2_0 x10_2).f0), .int .i64 ((ja l2_0 x10_2).f1), .int .i64 ((ja l2_0 x10_2).f2), .int .i64 0, .bool false]) ?_ 3 _ rfl;(with_reducible repeat (first | refine jd ?_ _ | refine jf ?_ | refine je ?_ _));refine jqa (cs:=#[.int .i64 ((ja l2_0 x10_2).f0), .int .i64 ((ja l2_0 x10_2).f1), .int .i64 0, .int .i64 0, .bool false]) ?_ 2 _ rfl;(with_reducible repeat (first | refine jd ?_ _ | refine jf ?_ | refine je ?_ _));refine jqa (cs:=#[.int .i64 ((ja l2_0 x10_2).f0), .int .i64 0, .int .i64 0, .int .i64 0, .bool false]) ?_ 1 _ rfl;(with_reducible repeat (first | refine jd ?_ _ | refine jf ?_ | refine je ?_ _));refine jqa (cs:=#[.int .i64 0, .int .i64 0, .int .i64 0, .int .i64 0, .bool false]) ?_ 0 _ rfl;(with_reducible repeat (first | refine jd ?_ _ | refine jf ?_ | refine je ?_ _));exact BK636.out⟩,⟨Y55⟩⟩
        case rest =>
         clear HC53
         try clear c1
         try clear c2
         try clear p2
         try clear c3
         try clear c4
         try clear c5
         try clear c6
         try clear p6
         try clear q6
         try clear hx6
         try clear c7
         try clear c10
         try clear c12
         try clear c13
         try clear c14
         try clear c16
         try clear c17
         try clear c21
         try clear c24
         try clear c25
         try clear c26
         try clear c28
         try clear c29
         try clear c32
         try clear c33
         try clear c34
         try clear c35
         try clear c38
         try clear c39
         try clear c40
         try clear c45
         try clear c46
         try clear c47
         try clear c48
         try clear c49
         try clear c51
         try clear c51b0
         try clear c52
         try clear c52b0
         try clear c54
         try clear c55
         try clear c56
         try clear c57
         try clear c60
         try clear c61
         try clear c62
         try clear c63
         try clear p63
         try clear q63
         try clear hx63
         try clear c64
         try clear p64
         try clear c66
         try clear c66b0
         try clear c67
         try clear c68
         try clear c69
         try clear c70
         try clear c71
         try clear hcz15_0
         try clear hcz18_0
         try clear hcz20_0
         try clear hcz22_0
         try clear hcz27_0
         try clear hcz30_0
         try clear hcz36_0
         try clear hcz41_0
         try clear hcz49_0
         try clear hcz50_0
         try clear hcz58_0
         try clear hcz65_0
         try clear hcz65_1
         try clear hcz65_2
         try clear hcz65_3
         try clear hcz65_4
         try clear hcz72_0
         try clear hcz72_1
         try clear hcz72_2
         try clear hcz72_3
         try clear hcz72_4
         try clear hfz15_0
         try clear hfz18_0
         try clear hfz20_0
         try clear hfz22_0
         try clear hfz27_0
         try clear hfz30_0
         try clear hfz36_0
         try clear hfz41_0
         try clear hfz49_0
         try clear hfz50_0
         try clear hfz58_0
         try clear hfz65_0
         try clear hfz65_1
         try clear hfz65_2
         try clear hfz65_3
         try clear hfz65_4
         try clear hfz72_0
         try clear hfz72_1
         try clear hfz72_2
         try clear hfz72_3
         try clear hfz72_4
         try clear hx635_0
         try clear hx635_1
         try clear hx635_2
         try clear hx635_3
         try clear hx635_4
         try clear p2
         try clear p635
         try clear q635
         obtain ⟨kq,x637002_52,HA,HJ52,HO_635000,BK625,BK626,BK627,BK628,BK634,BK636,HB⟩:=hcut
         cases kq with
         | zero=>exact absurd HA.out (by simp [jK.j2])
         | succ kj52 =>
          have H:=HA.out
          clear HA
          simp only [jK.j2] at H
          by_cases c73:((ja l2_0 x10_2).f3)≥0
          ·rw [if_pos c73] at H
           have c73b0:decide (0≤((ja l2_0 x10_2).f3))=true:=dzT c73
           clear c73
           by_cases c74:x635000_2.length<3518437208883
           ·rw [if_pos c74] at H
            have LMc74:=am c74
            clear c74
            obtain ⟨y637,hy637⟩:∃ y_:List (S66),y_=(x635000_2 ++ [(⟨((ja l2_0 x10_2).f0),((ja l2_0 x10_2).f1),x637002_52,wrap64 (((ja l2_0 x10_2).f3)+(l1_0.length:Int)),((ja l2_0 x10_2).f4)⟩:S66)]):=⟨_,rfl⟩
            replace H:(jK.l0 kj52 (l1_0.length:Int) (wrap64 (x10_2+1)) l0_0 l2_0 y637)=some (r1,r2):=by first |(rw [hy637];with_reducible exact H) |(have H2_:=(Option.bind_some _ _).symm.trans H;rw [hy637];with_reducible exact H2_) |(have H2_:=(Option.bind_some _ _).symm.trans H;with_reducible exact H2_) | with_reducible exact H |(rw [hy637];exact H) | exact H
            have Ny637:=am hy637
            clear hy637
            have H':=am H
            clear H
            have hnb75:=NB636_625.out
            have hnc75:=NB625_636.out
            have hnb76:=NB636_626.out
            have hnc76:=NB626_636.out
            have hnb77:=NB636_627.out
            have hnc77:=NB627_636.out
            have hnb78:=NB636_628.out
            have hnc78:=NB628_636.out
            have hnb79:=NB636_634.out
            have hnc79:=NB634_636.out
            have hcz80_0:=bc0 BK636.out
            have hcz80_1:=bc1 BK636.out
            have hcz80_2:=bc2 BK636.out
            have hcz80_3:=bc3 BK636.out
            have hcz80_4:wc.cell? ⟨gb636,4,none⟩=some (.bool ((ja l2_0 x10_2).f4)):=(jF BK636.out 4).trans rfl
            have hfz80_0:=jb BK636.out 0
            have hfz80_1:=jb BK636.out 1
            have hfz80_2:=jb BK636.out 2
            have hfz80_3:=jb BK636.out 3
            have hfz80_4:=jb BK636.out 4
            have hnb81:=NB634_625.out
            have hnc81:=NB625_634.out
            have hnb82:=NB634_626.out
            have hnc82:=NB626_634.out
            have hnb83:=NB634_627.out
            have hnc83:=NB627_634.out
            have hnb84:=NB634_628.out
            have hnc84:=NB628_634.out
            have hcz85_0:=bc0 BK634.out
            have hfz85_0:=jb BK634.out 0
            go_wp2_with (first |((with_reducible refine jpb (b:=.append) (xs:=#[.tmp 57, .tmp 59]) rfl ?_);at_builtin;refine Kd.jlc k66 (w0:=w) w.heap.size rfl (.tmp 57) (.tmp 59) 26 66 (.agg #[(.int .i64 0),(.int .i64 0),(.int .i64 0),(.int .i64 0),(.bool false)]) 40 rfl Tryd.underlying26 info66 rfl (by decide) (by omega) u635000 x635000_2 (⟨((ja l2_0 x10_2).f0),((ja l2_0 x10_2).f1),x637002_52,wrap64 (((ja l2_0 x10_2).f3)+(l1_0.length:Int)),((ja l2_0 x10_2).f4)⟩:S66) [.int .i64 ((ja l2_0 x10_2).f0), .int .i64 ((ja l2_0 x10_2).f1), .int .i64 x637002_52, .int .i64 (wrap64 (((ja l2_0 x10_2).f3)+(l1_0.length:Int))), .bool ((ja l2_0 x10_2).f4)] (fun k_=>k_≠gb636) (fun _=>False) rfl (Y4) ?aP (fun _ hk=>hk.elim) ?aF ?aO ?aB ?aS ?aL ?_;(case aP=>exact jJb _ _ _ (⟨((ja l2_0 x10_2).f0),((ja l2_0 x10_2).f1),x637002_52,wrap64 (((ja l2_0 x10_2).f3)+(l1_0.length:Int)),((ja l2_0 x10_2).f4)⟩:S66));(case aB=>exact (Y55));(case aF=>exact (fun k_ hk=>Kd.freshB (g:=gb636) (o:=.cells #[.int .i64 ((ja l2_0 x10_2).f0), .int .i64 ((ja l2_0 x10_2).f1), .int .i64 x637002_52, .int .i64 (wrap64 (((ja l2_0 x10_2).f3)+(l1_0.length:Int))), .bool ((ja l2_0 x10_2).f4)] 66 (0,0)) (Y188) k_ hk));(case aO=>exact (by (with_reducible repeat (first | apply Kd.jR | apply Kd.jT | apply Kd.jQ));exact Kd.jI (Kd.jka (p:=⟨gb636,3,none⟩) (Kd.jI HO_635000.out (fun k_ hk=>(⟨hk,hk⟩:_∧k_≠gb636))) (fun _ hk=>hk.2) (.int .i64 (wrap64 (((ja l2_0 x10_2).f3)+(l1_0.length:Int))))) (fun _ hk=>hk.1)));(case aS=>exact (jP (Y55)));(case aL=>have:=LMc74.out;omega);intro v638 w86 ho hb hg hat;rw [← Ny637.out] at ho;have n0_:=am (jla (g:=gb625) (o:=.cells #[.slice A0_0 l0_0.length c0_0] 25 (0,0)) (by (with_reducible repeat (first | refine jd ?_ _ | refine jf ?_ | refine je ?_ _));refine jG ?_ NB625_636.out _;(with_reducible repeat (first | refine jd ?_ _ | refine jf ?_ | refine je ?_ _));exact BK625.out) hg (Kd.R_ne HO_635000.out BK625.out (by decide)));have n1_:=am (jla (g:=gb626) (o:=.cells #[.slice A1_0 l1_0.length c1_0] 28 (0,0)) (by (with_reducible repeat (first | refine jd ?_ _ | refine jf ?_ | refine je ?_ _));refine jG ?_ NB626_636.out _;(with_reducible repeat (first | refine jd ?_ _ | refine jf ?_ | refine je ?_ _));exact BK626.out) hg (Kd.R_ne HO_635000.out BK626.out (by decide)));have n2_:=am (jla (g:=gb627) (o:=.cells #[.slice (some ad635) l2_0.length c2_0] 28 (0,0)) (by (with_reducible repeat (first | refine jd ?_ _ | refine jf ?_ | refine je ?_ _));refine jG ?_ NB627_636.out _;(with_reducible repeat (first | refine jd ?_ _ | refine jf ?_ | refine je ?_ _));exact BK627.out) hg (Kd.R_ne HO_635000.out BK627.out (by decide)));have n3_:=am (jla (g:=gb628) (o:=.cells #[.slice none 0 0] 28 (0,0)) (by (with_reducible repeat (first | refine jd ?_ _ | refine jf ?_ | refine je ?_ _));refine jG ?_ NB628_636.out _;(with_reducible repeat (first | refine jd ?_ _ | refine jf ?_ | refine je ?_ _));exact BK628.out) hg (Kd.R_ne HO_635000.out BK628.out (by decide)));have n4_:=am (jla (g:=gb634) (o:=.cells #[u635000] 28 (0,0)) (by (with_reducible repeat (first | refine jd ?_ _ | refine jf ?_ | refine je ?_ _));refine jG ?_ NB634_636.out _;(with_reducible repeat (first | refine jd ?_ _ | refine jf ?_ | refine je ?_ _));exact BK634.out) hg (Kd.R_ne HO_635000.out BK634.out (by decide)));have n5_:=am (jla (g:=gb636) (o:=.cells #[.int .i64 ((ja l2_0 x10_2).f0), .int .i64 ((ja l2_0 x10_2).f1), .int .i64 x637002_52, .int .i64 (wrap64 (((ja l2_0 x10_2).f3)+(l1_0.length:Int))), .bool ((ja l2_0 x10_2).f4)] 66 (0,0)) (Y188) hg (Kd.R_away HO_635000.out (fun _ hk=>hk)));have n6_:=am (hb);have n7_:=am (ho);clear BK625 BK626 BK627 BK628 BK634 BK636 HB HO_635000;have BK625:=n0_;have BK626:=n1_;have BK627:=n2_;have BK628:=n3_;have BK634:=n4_;have BK636:=n5_;have HB:=n6_;have HO639:=n7_;clear n0_ n1_ n2_ n3_ n4_ n5_ n6_ n7_ ho hb hg hat;obtain ⟨Ao87,co87,eo87⟩:=Kd.jaa HO639.out;subst eo87;have hcz88_0:=bc0 BK634.out;have hfz88_0:=jb BK634.out 0))
            go_roundg kj52
            case measure=>have:=HJ3.out;have:=HK2.out;have:=HJ52.out;omega
            case rel=>exact ⟨(wrap64 (x10_2+1)),(y637),(.slice Ao87 y637.length co87),(sq),H',⟨by have:=HJ3.out;have:=HK2.out;have:=HJ52.out;omega⟩,⟨by (with_reducible repeat (first | apply Kd.jR | apply Kd.jT | apply Kd.jQ));exact Kd.jI (Kd.jka (p:=⟨gb634,0,none⟩) (Kd.jN HO639.out BK634.out (by decide)) (fun _ hk=>hk.2) (.slice Ao87 y637.length co87)) (fun _ hk=>trivial)⟩,⟨by (with_reducible repeat (first | refine jd ?_ _ | refine jf ?_ | refine je ?_ _));refine jG ?_ NB625_634.out _;(with_reducible repeat (first | refine jd ?_ _ | refine jf ?_ | refine je ?_ _));exact BK625.out⟩,⟨by (with_reducible repeat (first | refine jd ?_ _ | refine jf ?_ | refine je ?_ _));refine jG ?_ NB626_634.out _;(with_reducible repeat (first | refine jd ?_ _ | refine jf ?_ | refine je ?_ _));exact BK626.out⟩,⟨by (with_reducible repeat (first | refine jd ?_ _ | refine jf ?_ | refine je ?_ _));refine jG ?_ NB627_634.out _;(with_reducible repeat (first | refine jd ?_ _ | refine jf ?_ | refine je ?_ _));exact BK627.out⟩,⟨by (with_reducible repeat (first | refine jd ?_ _ | refine jf ?_ | refine je ?_ _));refine jG ?_ NB628_634.out _;(with_reducible repeat (first | refine jd ?_ _ | refine jf ?_ | refine je ?_ _));exact BK628.out⟩,⟨by (with_reducible repeat (first | refine jd ?_ _ | refine jf ?_ | refine je ?_ _));refine jqa (cs:=#[u635000]) ?_ 0 _ rfl;(with_reducible repeat (first | refine jd ?_ _ | refine jf ?_ | refine je ?_ _));exact BK634.out⟩,⟨Y55⟩⟩
           ·rw [if_neg c74] at H
            exact absurd H (by simp)
          ·rw [if_neg c73] at H
           have c73b0:decide (0≤((ja l2_0 x10_2).f3))=false:=dzF c73
           clear c73
           by_cases c89:x635000_2.length<3518437208883
           ·rw [if_pos c89] at H
            have LMc89:=am c89
            clear c89
            obtain ⟨y640,hy640⟩:∃ y_:List (S66),y_=(x635000_2 ++ [(⟨((ja l2_0 x10_2).f0),((ja l2_0 x10_2).f1),x637002_52,((ja l2_0 x10_2).f3),((ja l2_0 x10_2).f4)⟩:S66)]):=⟨_,rfl⟩
            replace H:(jK.l0 kj52 (l1_0.length:Int) (wrap64 (x10_2+1)) l0_0 l2_0 y640)=some (r1,r2):=by first |(rw [hy640];with_reducible exact H) |(have H2_:=(Option.bind_some _ _).symm.trans H;rw [hy640];with_reducible exact H2_) |(have H2_:=(Option.bind_some _ _).symm.trans H;with_reducible exact H2_) | with_reducible exact H |(rw [hy640];exact H) | exact H
            have Ny640:=am hy640
            clear hy640
            have H':=am H
            clear H
            have hnb90:=NB636_625.out
            have hnc90:=NB625_636.out
            have hnb91:=NB636_626.out
            have hnc91:=NB626_636.out
            have hnb92:=NB636_627.out
            have hnc92:=NB627_636.out
            have hnb93:=NB636_628.out
            have hnc93:=NB628_636.out
            have hnb94:=NB636_634.out
            have hnc94:=NB634_636.out
            have hcz95_0:=bc0 BK636.out
            have hcz95_1:=bc1 BK636.out
            have hcz95_2:=bc2 BK636.out
            have hcz95_3:=bc3 BK636.out
            have hcz95_4:wc.cell? ⟨gb636,4,none⟩=some (.bool ((ja l2_0 x10_2).f4)):=(jF BK636.out 4).trans rfl
            have hfz95_0:=jb BK636.out 0
            have hfz95_1:=jb BK636.out 1
            have hfz95_2:=jb BK636.out 2
            have hfz95_3:=jb BK636.out 3
            have hfz95_4:=jb BK636.out 4
            have hnb96:=NB634_625.out
            have hnc96:=NB625_634.out
            have hnb97:=NB634_626.out
            have hnc97:=NB626_634.out
            have hnb98:=NB634_627.out
            have hnc98:=NB627_634.out
            have hnb99:=NB634_628.out
            have hnc99:=NB628_634.out
            have hcz100_0:=bc0 BK634.out
            have hfz100_0:=jb BK634.out 0
            go_wp2_with (first |((with_reducible refine jpb (b:=.append) (xs:=#[.tmp 57, .tmp 59]) rfl ?_);at_builtin;refine Kd.jlc k66 (w0:=w) w.heap.size rfl (.tmp 57) (.tmp 59) 26 66 (.agg #[(.int .i64 0),(.int .i64 0),(.int .i64 0),(.int .i64 0),(.bool false)]) 40 rfl Tryd.underlying26 info66 rfl (by decide) (by omega) u635000 x635000_2 (⟨((ja l2_0 x10_2).f0),((ja l2_0 x10_2).f1),x637002_52,((ja l2_0 x10_2).f3),((ja l2_0 x10_2).f4)⟩:S66) [.int .i64 ((ja l2_0 x10_2).f0), .int .i64 ((ja l2_0 x10_2).f1), .int .i64 x637002_52, .int .i64 ((ja l2_0 x10_2).f3), .bool ((ja l2_0 x10_2).f4)] (fun k_=>k_≠gb636) (fun _=>False) rfl rfl ?aP (fun _ hk=>hk.elim) ?aF ?aO ?aB ?aS ?aL ?_;(case aP=>exact jJb _ _ _ (⟨((ja l2_0 x10_2).f0),((ja l2_0 x10_2).f1),x637002_52,((ja l2_0 x10_2).f3),((ja l2_0 x10_2).f4)⟩:S66));(case aB=>exact (Y55));(case aF=>exact (fun k_ hk=>Kd.freshB (g:=gb636) (o:=.cells #[.int .i64 ((ja l2_0 x10_2).f0), .int .i64 ((ja l2_0 x10_2).f1), .int .i64 x637002_52, .int .i64 ((ja l2_0 x10_2).f3), .bool ((ja l2_0 x10_2).f4)] 66 (0,0)) (kq BK636.out) k_ hk));(case aO=>exact (rq HO_635000.out));(case aS=>exact (jP (Y55)));(case aL=>have:=LMc89.out;omega);intro v641 w101 ho hb hg hat;rw [← Ny640.out] at ho;have n0_:=am (jla (g:=gb625) (o:=.cells #[.slice A0_0 l0_0.length c0_0] 25 (0,0)) (kq BK625.out) hg (Kd.R_ne HO_635000.out BK625.out (by decide)));have n1_:=am (jla (g:=gb626) (o:=.cells #[.slice A1_0 l1_0.length c1_0] 28 (0,0)) (kq BK626.out) hg (Kd.R_ne HO_635000.out BK626.out (by decide)));have n2_:=am (jla (g:=gb627) (o:=.cells #[.slice (some ad635) l2_0.length c2_0] 28 (0,0)) (kq BK627.out) hg (Kd.R_ne HO_635000.out BK627.out (by decide)));have n3_:=am (jla (g:=gb628) (o:=.cells #[.slice none 0 0] 28 (0,0)) (kq BK628.out) hg (Kd.R_ne HO_635000.out BK628.out (by decide)));have n4_:=am (jla (g:=gb634) (o:=.cells #[u635000] 28 (0,0)) (kq BK634.out) hg (Kd.R_ne HO_635000.out BK634.out (by decide)));have n5_:=am (jla (g:=gb636) (o:=.cells #[.int .i64 ((ja l2_0 x10_2).f0), .int .i64 ((ja l2_0 x10_2).f1), .int .i64 x637002_52, .int .i64 ((ja l2_0 x10_2).f3), .bool ((ja l2_0 x10_2).f4)] 66 (0,0)) (kq BK636.out) hg (Kd.R_away HO_635000.out (fun _ hk=>hk)));have n6_:=am (hb);have n7_:=am (ho);clear BK625 BK626 BK627 BK628 BK634 BK636 HB HO_635000;have BK625:=n0_;have BK626:=n1_;have BK627:=n2_;have BK628:=n3_;have BK634:=n4_;have BK636:=n5_;have HB:=n6_;have HO642:=n7_;clear n0_ n1_ n2_ n3_ n4_ n5_ n6_ n7_ ho hb hg hat;obtain ⟨Ao102,co102,eo102⟩:=Kd.jaa HO642.out;subst eo102;have hcz103_0:=bc0 BK634.out;have hfz103_0:=jb BK634.out 0))
            go_roundg kj52
            case measure=>have:=HJ3.out;have:=HK2.out;have:=HJ52.out;omega
            case rel=>exact ⟨(wrap64 (x10_2+1)),(y640),(.slice Ao102 y640.length co102),(sq),H',⟨by have:=HJ3.out;have:=HK2.out;have:=HJ52.out;omega⟩,⟨by (with_reducible repeat (first | apply Kd.jR | apply Kd.jT | apply Kd.jQ));exact Kd.jI (Kd.jka (p:=⟨gb634,0,none⟩) (Kd.jN HO642.out BK634.out (by decide)) (fun _ hk=>hk.2) (.slice Ao102 y640.length co102)) (fun _ hk=>trivial)⟩,⟨by (with_reducible repeat (first | refine jd ?_ _ | refine jf ?_ | refine je ?_ _));refine jG ?_ NB625_634.out _;(with_reducible repeat (first | refine jd ?_ _ | refine jf ?_ | refine je ?_ _));exact BK625.out⟩,⟨by (with_reducible repeat (first | refine jd ?_ _ | refine jf ?_ | refine je ?_ _));refine jG ?_ NB626_634.out _;(with_reducible repeat (first | refine jd ?_ _ | refine jf ?_ | refine je ?_ _));exact BK626.out⟩,⟨by (with_reducible repeat (first | refine jd ?_ _ | refine jf ?_ | refine je ?_ _));refine jG ?_ NB627_634.out _;(with_reducible repeat (first | refine jd ?_ _ | refine jf ?_ | refine je ?_ _));exact BK627.out⟩,⟨by (with_reducible repeat (first | refine jd ?_ _ | refine jf ?_ | refine je ?_ _));refine jG ?_ NB628_634.out _;(with_reducible repeat (first | refine jd ?_ _ | refine jf ?_ | refine je ?_ _));exact BK628.out⟩,⟨by (with_reducible repeat (first | refine jd ?_ _ | refine jf ?_ | refine je ?_ _));refine jqa (cs:=#[u635000]) ?_ 0 _ rfl;(with_reducible repeat (first | refine jd ?_ _ | refine jf ?_ | refine je ?_ _));exact BK634.out⟩,⟨Y55⟩⟩
           ·rw [if_neg c89] at H
            exact absurd H (by simp)
       ·rw [if_neg c52] at H
        exact absurd H (by simp)
      ·rw [if_neg c51] at H
       have c51b0:decide (x10_2<(l2_0.length:Int))=false:=dzF c51
       clear c51
       replace H:=bzS H
       obtain ⟨t643,A1040,H⟩:=H
       replace H:(if t643=true then (some (x635000_2,true)) else (some (([]:List (S66)),false)))=some (r1,r2):=H
       have A104:=am A1040
       clear A1040
       by_cases c105:t643=true
       ·subst c105
        have H1:(some (x635000_2,true))=some (r1,r2):=by rw [if_pos rfl] at H;exact H
        clear H
        have H:=H1
        clear H1
        simp only [Option.some.injEq,Prod.mk.injEq] at H
        obtain ⟨rfl,rfl⟩:=H
        have hnb106:=NB627_625.out
        have hnc106:=NB625_627.out
        have hnb107:=NB627_626.out
        have hnc107:=NB626_627.out
        have hnb108:=NB627_628.out
        have hnc108:=NB628_627.out
        have hnb109:=NB627_634.out
        have hnc109:=NB634_627.out
        have hcz110_0:=bc0 BK627.out
        have hfz110_0:=jb BK627.out 0
        have hnb111:=NB625_626.out
        have hnc111:=NB626_625.out
        have hnb112:=NB625_628.out
        have hnc112:=NB628_625.out
        have hnb113:=NB625_634.out
        have hnc113:=NB634_625.out
        have hcz114_0:=bc0 BK625.out
        have hfz114_0:=jb BK625.out 0
        have hnb115:=NB634_626.out
        have hnc115:=NB626_634.out
        have hnb116:=NB634_628.out
        have hnc116:=NB628_634.out
        have hcz117_0:=bc0 BK634.out
        have hfz117_0:=jb BK634.out 0
        obtain ⟨Ao118,co118,eo118⟩:=Kd.jaa HO_635000.out
        subst eo118
        go_wp2_with (first |((with_reducible refine jD (f:=48) rfl ?_);refine gL (some 64) Tryd.func48 #[.agg #[.slice A0_0 l0_0.length c0_0], .agg #[.slice Ao118 x635000_2.length co118]] ?_;(with_reducible refine (jE.calls k2 _ _ l0_0 _ _ x635000_2 true _ ?side1 ?side2 ?side3 ?side4 A104.out).mono ?_);(case side1=>exact cq (Kd.jba HR0_0.out HB.out));(case side2=>exact HC0_0.out);(case side3=>exact cq (Kd.jC HO_635000.out).2.2);(case side4=>exact (Kd.jC HO_635000.out).2.1);rintro e w119 ⟨rfl,hb⟩;refine ⟨_,rfl,?_⟩;replace HO_635000:=am (Kd.jL (rq HO_635000.out) hb);replace BK625:=am (jc (g:=gb625) (o:=.cells #[.slice A0_0 l0_0.length c0_0] 25 (0,0)) (kq BK625.out) hb);replace BK626:=am (jc (g:=gb626) (o:=.cells #[.slice A1_0 l1_0.length c1_0] 28 (0,0)) (kq BK626.out) hb);replace BK627:=am (jc (g:=gb627) (o:=.cells #[.slice A2_0 l2_0.length c2_0] 28 (0,0)) (kq BK627.out) hb);replace BK628:=am (jc (g:=gb628) (o:=.cells #[.slice none 0 0] 28 (0,0)) (kq BK628.out) hb);replace BK634:=am (jc (g:=gb634) (o:=.cells #[.slice Ao118 x635000_2.length co118] 28 (0,0)) (kq BK634.out) hb);replace HB:=am (jh (Y84) hb);(try clear hb);(try clear hb2);(try clear hk);(try clear hi);have hcz120_0:=bc0 BK634.out;have hfz120_0:=jb BK634.out 0;have hnb121:=NB628_626.out;have hnc121:=NB626_628.out;have hcz122_0:=bc0 BK628.out;have hfz122_0:=jb BK628.out 0))
        refine bodyPost_ret (jPb rfl _ _ gb628 28 #[.slice Ao118 x635000_2.length co118] (0,0) _ rfl (Y142) Tryd.underlying28 rfl (by kernel_rfl)) rfl ?_
        exact ⟨_,Y2,by (with_reducible repeat (first | apply Kd.jR | apply Kd.jT | apply Kd.jQ));exact Kd.jI (Kd.jka (p:=⟨gb628,0,none⟩) (Kd.jN HO_635000.out BK628.out (by decide)) (fun _ hk=>hk.2) (.slice Ao118 x635000_2.length co118)) (fun _ hk=>trivial),Y84⟩
       ·replace c105:=Bool.eq_false_iff.mpr c105
        subst c105
        have H1:(some (([]:List (S66)),false))=some (r1,r2):=by rw [if_neg (show ¬ (false=true) by decide)] at H;exact H
        clear H
        have H:=H1
        clear H1
        simp only [Option.some.injEq,Prod.mk.injEq] at H
        obtain ⟨rfl,rfl⟩:=H
        have hnb123:=NB627_625.out
        have hnc123:=NB625_627.out
        have hnb124:=NB627_626.out
        have hnc124:=NB626_627.out
        have hnb125:=NB627_628.out
        have hnc125:=NB628_627.out
        have hnb126:=NB627_634.out
        have hnc126:=NB634_627.out
        have hcz127_0:=bc0 BK627.out
        have hfz127_0:=jb BK627.out 0
        have hnb128:=NB625_626.out
        have hnc128:=NB626_625.out
        have hnb129:=NB625_628.out
        have hnc129:=NB628_625.out
        have hnb130:=NB625_634.out
        have hnc130:=NB634_625.out
        have hcz131_0:=bc0 BK625.out
        have hfz131_0:=jb BK625.out 0
        have hnb132:=NB634_626.out
        have hnc132:=NB626_634.out
        have hnb133:=NB634_628.out
        have hnc133:=NB628_634.out
        have hcz134_0:=bc0 BK634.out
        have hfz134_0:=jb BK634.out 0
        obtain ⟨Ao135,co135,eo135⟩:=Kd.jaa HO_635000.out
        subst eo135
        go_wp2_with (first |((with_reducible refine jD (f:=48) rfl ?_);refine gL (some 64) Tryd.func48 #[.agg #[.slice A0_0 l0_0.length c0_0], .agg #[.slice Ao135 x635000_2.length co135]] ?_;(with_reducible refine (jE.calls k2 _ _ l0_0 _ _ x635000_2 false _ ?side1 ?side2 ?side3 ?side4 A104.out).mono ?_);(case side1=>exact cq (Kd.jba HR0_0.out HB.out));(case side2=>exact HC0_0.out);(case side3=>exact cq (Kd.jC HO_635000.out).2.2);(case side4=>exact (Kd.jC HO_635000.out).2.1);rintro e w136 ⟨rfl,hb⟩;refine ⟨_,rfl,?_⟩;replace HO_635000:=am (Kd.jL (rq HO_635000.out) hb);replace BK625:=am (jc (g:=gb625) (o:=.cells #[.slice A0_0 l0_0.length c0_0] 25 (0,0)) (kq BK625.out) hb);replace BK626:=am (jc (g:=gb626) (o:=.cells #[.slice A1_0 l1_0.length c1_0] 28 (0,0)) (kq BK626.out) hb);replace BK627:=am (jc (g:=gb627) (o:=.cells #[.slice A2_0 l2_0.length c2_0] 28 (0,0)) (kq BK627.out) hb);replace BK628:=am (jc (g:=gb628) (o:=.cells #[.slice none 0 0] 28 (0,0)) (kq BK628.out) hb);replace BK634:=am (jc (g:=gb634) (o:=.cells #[.slice Ao135 x635000_2.length co135] 28 (0,0)) (kq BK634.out) hb);replace HB:=am (jh (Y84) hb);(try clear hb);(try clear hb2);(try clear hk);(try clear hi);have hnb137:=NB628_626.out;have hnc137:=NB626_628.out;have hcz138_0:=bc0 BK628.out;have hfz138_0:=jb BK628.out 0))
        refine bodyPost_ret (jPb rfl _ _ gb628 28 #[.slice none 0 0] (0,0) _ rfl (Y142) Tryd.underlying28 rfl (by kernel_rfl)) rfl ?_
        exact ⟨_,Y2,Y128,Y84⟩
theorem eqA66 (d : Nat) (w : World) (x0 y0 : Int) (x1 y1 : Int) (x2 y2 : Int) (x3 y3 : Int) (x4 y4 : Bool) :
  (Op.equalIn (d+2) 66 (.agg #[.int .i64 x0, .int .i64 x1, .int .i64 x2, .int .i64 x3, .bool x4]) (.agg #[.int .i64 y0, .int .i64 y1, .int .i64 y2, .int .i64 y3, .bool y4])).run Tryd.prog w=.ok (x0 == y0 && (x1 == y1 && (x2 == y2 && (x3 == y3 && (x4 == y4))))) w:=by
 refine eqA_of Tryd.underlying66 (by kernel_rfl) ?_
 refine eqf_cons (by rfl) (by go_simp;rfl) (by go_simp;rfl) (by go_simp) ?_
 refine eqf_cons (by rfl) (by go_simp;rfl) (by go_simp;rfl) (by go_simp) ?_
 refine eqf_cons (by rfl) (by go_simp;rfl) (by go_simp;rfl) (by go_simp) ?_
 refine eqf_cons (by rfl) (by go_simp;rfl) (by go_simp;rfl) (by go_simp) ?_
 exact eqf_last (by rfl) (by go_simp;rfl) (by go_simp;rfl) (by go_simp)
attribute [local go_sem high] eqA66
def jda.l0 : Nat → Int → List (S66) → List (S66) → Option (Bool)
 | 0,_,_,_=>none
 | k+1,x5,x645000,x646000=>if x5<(x645000.length:Int) then (if 0≤x5 then (if x5<(x646000.length:Int) then (if (!(((ja x645000 x5).f0) == ((ja x646000 x5).f0)) ||(!(((ja x645000 x5).f1) == ((ja x646000 x5).f1)) ||(!(((ja x645000 x5).f2) == ((ja x646000 x5).f2)) ||(!(((ja x645000 x5).f3) == ((ja x646000 x5).f3)) ||(!(((ja x645000 x5).f4) == ((ja x646000 x5).f4)))))))=true then (some false) else (jda.l0 k (wrap64 (x5+1)) x645000 x646000)) else (none)) else (none)) else (some true)
def jda.f (k : Nat) (l0_0 : List (S66)) (l1_0 : List (S66)) : Option (Bool) := if (l0_0.length : Int) = (l1_0.length : Int) then (jda.l0 k 0 l0_0 l1_0) else (some false)
set_option maxHeartbeats 8000000 in
set_option maxRecDepth 100000 in
theorem jda.calls (k : Nat) (A0_0 : Option Addr) (c0_0 : Nat) (l0_0 : List (S66)) (A1_0 : Option Addr) (c1_0 : Nat) (l1_0 : List (S66)) (r : Bool) (w : World) (hr0_0 : Kd.C k66 w A0_0 l0_0.length l0_0) (hc0_0 : l0_0.length ≤ c0_0) (hr1_0 : Kd.C k66 w A1_0 l1_0.length l1_0) (hc1_0 : l1_0.length ≤ c1_0) (h : jda.f k l0_0 l1_0 = some r) :
  Calls Tryd.prog 25 #[.agg #[.slice A0_0 l0_0.length c0_0], .agg #[.slice A1_0 l1_0.length c1_0]] w fun e w'=>e=.returned (.bool r)∧Below w.heap.size w w':=by
 have hu28:=Tryd.underlying28
 have hu66:=Tryd.underlying66
 have HR0_0:=am hr0_0
 have HC0_0:=am hc0_0
 clear hr0_0 hc0_0
 have HR1_0:=am hr1_0
 have HC1_0:=am hc1_0
 clear hr1_0 hc1_0
 have HB:=am (Below.refl w.heap.size w)
 have H:(if (l0_0.length:Int)=(l1_0.length:Int) then (jda.l0 k 0 l0_0 l1_0) else (some false))=some r:=h
 clear h
 by_cases c3:(l0_0.length:Int)=(l1_0.length:Int)
 ·rw [if_pos c3] at H
  have c3b0:((l0_0.length:Int) == (l1_0.length:Int))=true:=beq_iff_eq.mpr c3
  have c3b1:((l0_0.length:Int) != (l1_0.length:Int))=false:=bne_eq_false_iff_eq.mpr c3
  have c3b2:(l0_0.length == l1_0.length)=true:=by first | simpa using c3 |(simp at c3 ⊢;omega)
  clear c3
  have H':=am H
  clear H
  go_enter Tryd.func25,Tryd.ntmps25
  go_wp2_with (first |((with_reducible refine jH (N:=2) rfl ?_);refine bE (N:=2) (cs:=#[.slice A0_0 l0_0.length c0_0]) (t:=28) ?_;intro gb644 hg w4 hbox hb;have BK644:=am (hbox);have GW644:=am ((Y0:w.heap.size≤gb644));have GE644:=am ((Y0:w.heap.size≤gb644));replace HB:=am (jh (bq) hb);clear hb hbox hg) |((with_reducible refine jH (N:=3) rfl ?_);refine bE (N:=3) (cs:=#[.slice A1_0 l1_0.length c1_0]) (t:=28) ?_;intro gb645 hg w5 hbox hb;have BK645:=am (hbox);have GW645:=am ((Y40:w.heap.size≤gb645));have GE645:=am ((Y40:w.heap.size≤gb645));have NB644_645:=am ((Y85:gb644≠gb645));have NB645_644:=am ((Y86:gb645≠gb644));replace BK644:=am (jc (g:=gb644) (o:=.cells #[.slice A0_0 l0_0.length c0_0] 28 (0,0)) (kq BK644.out) hb);replace HB:=am (jh (Y87) hb);clear hb hbox hg;have hnb6:=NB644_645.out;have hnc6:=NB645_644.out;have hcz7_0:=bc0 BK644.out;have hfz7_0:=jb BK644.out 0;have hcz8_0:=bc0 BK645.out;have hfz8_0:=jb BK645.out 0))
  repeat (go_quiet (first |((with_reducible refine jH (N:=2) rfl ?_);refine bE (N:=2) (cs:=#[.slice A0_0 l0_0.length c0_0]) (t:=28) ?_;intro gb644 hg w4 hbox hb;have BK644:=am (hbox);have GW644:=am ((Y0:w.heap.size≤gb644));have GE644:=am ((Y0:w.heap.size≤gb644));replace HB:=am (jh (bq) hb);clear hb hbox hg) |((with_reducible refine jH (N:=3) rfl ?_);refine bE (N:=3) (cs:=#[.slice A1_0 l1_0.length c1_0]) (t:=28) ?_;intro gb645 hg w5 hbox hb;have BK645:=am (hbox);have GW645:=am ((Y40:w.heap.size≤gb645));have GE645:=am ((Y40:w.heap.size≤gb645));have NB644_645:=am ((Y85:gb644≠gb645));have NB645_644:=am ((Y86:gb645≠gb644));replace BK644:=am (jc (g:=gb644) (o:=.cells #[.slice A0_0 l0_0.length c0_0] 28 (0,0)) (kq BK644.out) hb);replace HB:=am (jh (Y87) hb);clear hb hbox hg;have hnb6:=NB644_645.out;have hnc6:=NB645_644.out;have hcz7_0:=bc0 BK644.out;have hfz7_0:=jb BK644.out 0;have hcz8_0:=bc0 BK645.out;have hfz8_0:=jb BK645.out 0));try go_wp2_with (first |((with_reducible refine jH (N:=2) rfl ?_);refine bE (N:=2) (cs:=#[.slice A0_0 l0_0.length c0_0]) (t:=28) ?_;intro gb644 hg w4 hbox hb;have BK644:=am (hbox);have GW644:=am ((Y0:w.heap.size≤gb644));have GE644:=am ((Y0:w.heap.size≤gb644));replace HB:=am (jh (bq) hb);clear hb hbox hg) |((with_reducible refine jH (N:=3) rfl ?_);refine bE (N:=3) (cs:=#[.slice A1_0 l1_0.length c1_0]) (t:=28) ?_;intro gb645 hg w5 hbox hb;have BK645:=am (hbox);have GW645:=am ((Y40:w.heap.size≤gb645));have GE645:=am ((Y40:w.heap.size≤gb645));have NB644_645:=am ((Y85:gb644≠gb645));have NB645_644:=am ((Y86:gb645≠gb644));replace BK644:=am (jc (g:=gb644) (o:=.cells #[.slice A0_0 l0_0.length c0_0] 28 (0,0)) (kq BK644.out) hb);replace HB:=am (jh (Y87) hb);clear hb hbox hg;have hnb6:=NB644_645.out;have hnc6:=NB645_644.out;have hcz7_0:=bc0 BK644.out;have hfz7_0:=jb BK644.out 0;have hcz8_0:=bc0 BK645.out;have hfz8_0:=jb BK645.out 0)))
  go_loopg [5] k (fun kq v5 w'=>∃ (x5_1:Int),v5=.int .i64 x5_1∧jy (jda.l0 kq x5_1 l0_0 l1_0=some r)∧jy (kq≤k)∧jy (w'.heap[gb644]?=some (.cells #[(.slice A0_0 l0_0.length c0_0)] 28 (0,0)))∧jy (w'.heap[gb645]?=some (.cells #[(.slice A1_0 l1_0.length c1_0)] 28 (0,0)))∧jy (Below w.heap.size w w'))
  case atStart=>exact ⟨(0),(sq),H',⟨Nat.le_refl _⟩,⟨kq BK644.out⟩,⟨kq BK645.out⟩,⟨Y99⟩⟩
  case round =>
   clear H'
   try clear c1
   try clear c2
   try clear p2
   try clear c3
   try clear c3b0
   try clear c3b1
   try clear c3b2
   try clear c6
   try clear hcz7_0
   try clear hcz8_0
   try clear hfz7_0
   try clear hfz8_0
   obtain ⟨x5_1,rfl,HA,HK1,BK644,BK645,HB⟩:=hrel
   cases gk with
   | zero=>exact absurd HA.out (by simp [jda.l0])
   | succ k1 =>
    have H:=HA.out
    clear HA
    simp only [jda.l0] at H
    by_cases c9:x5_1<(l0_0.length:Int)
    ·rw [if_pos c9] at H
     have c9b0:decide (x5_1<(l0_0.length:Int))=true:=dzT c9
     clear c9
     by_cases c10:0≤x5_1
     ·rw [if_pos c10] at H
      have c10b0:decide (0≤x5_1)=true:=dzT c10
      clear c10
      by_cases c11:x5_1<(l1_0.length:Int)
      ·rw [if_pos c11] at H
       have c11b0:decide (x5_1<(l1_0.length:Int))=true:=dzT c11
       clear c11
       by_cases c12:(!(((ja l0_0 x5_1).f0) == ((ja l1_0 x5_1).f0)) ||(!(((ja l0_0 x5_1).f1) == ((ja l1_0 x5_1).f1)) ||(!(((ja l0_0 x5_1).f2) == ((ja l1_0 x5_1).f2)) ||(!(((ja l0_0 x5_1).f3) == ((ja l1_0 x5_1).f3)) ||(!(((ja l0_0 x5_1).f4) == ((ja l1_0 x5_1).f4)))))))=true
       ·rw [if_pos c12] at H
        have c12b0:(!(((ja l0_0 x5_1).f0) == ((ja l1_0 x5_1).f0)) ||(!(((ja l0_0 x5_1).f1) == ((ja l1_0 x5_1).f1)) ||(!(((ja l0_0 x5_1).f2) == ((ja l1_0 x5_1).f2)) ||(!(((ja l0_0 x5_1).f3) == ((ja l1_0 x5_1).f3)) ||(!(((ja l0_0 x5_1).f4) == ((ja l1_0 x5_1).f4)))))))=true:=c12
        clear c12
        obtain rfl:=Option.some.inj H
        have hnb13:=NB644_645.out
        have hnc13:=NB645_644.out
        have hcz14_0:=bc0 BK644.out
        have hfz14_0:=jb BK644.out 0
        have p646:0≤(x5_1:Int):=ozD (uq)
        have q646:x5_1<(l0_0.length:Int):=ozD (uq)
        obtain ⟨ad646,e646,hx646_0,hx646_1,hx646_2,hx646_3,hx646_4⟩:=jab HR0_0.out x5_1 p646 q646
        cases e646
        replace hx646_0:=cb HB.out hx646_0
        replace hx646_1:=cb HB.out hx646_1
        replace hx646_2:=cb HB.out hx646_2
        replace hx646_3:=cb HB.out hx646_3
        replace hx646_4:=cb HB.out hx646_4
        replace p646:=ezT p646
        replace q646:=ezT q646
        have hcz15_0:=bc0 BK645.out
        have hfz15_0:=jb BK645.out 0
        have p647:0≤(x5_1:Int):=ozD (uq)
        have q647:x5_1<(l1_0.length:Int):=ozD (uq)
        obtain ⟨ad647,e647,hx647_0,hx647_1,hx647_2,hx647_3,hx647_4⟩:=jab HR1_0.out x5_1 p647 q647
        cases e647
        replace hx647_0:=cb HB.out hx647_0
        replace hx647_1:=cb HB.out hx647_1
        replace hx647_2:=cb HB.out hx647_2
        replace hx647_3:=cb HB.out hx647_3
        replace hx647_4:=cb HB.out hx647_4
        replace p647:=ezT p647
        replace q647:=ezT q647
        go_wp2
        repeat (go_quiet (fail);try go_wp2)
        go_ret
        exact ⟨Y2,Y99⟩
       ·rw [if_neg c12] at H
        have c12b0:(!(((ja l0_0 x5_1).f0) == ((ja l1_0 x5_1).f0)) ||(!(((ja l0_0 x5_1).f1) == ((ja l1_0 x5_1).f1)) ||(!(((ja l0_0 x5_1).f2) == ((ja l1_0 x5_1).f2)) ||(!(((ja l0_0 x5_1).f3) == ((ja l1_0 x5_1).f3)) ||(!(((ja l0_0 x5_1).f4) == ((ja l1_0 x5_1).f4)))))))=false:=by simpa using c12
        clear c12
        have H':=am H
        clear H
        have hnb16:=NB644_645.out
        have hnc16:=NB645_644.out
        have hcz17_0:=bc0 BK644.out
        have hfz17_0:=jb BK644.out 0
        have p646:0≤(x5_1:Int):=ozD (uq)
        have q646:x5_1<(l0_0.length:Int):=ozD (uq)
        obtain ⟨ad646,e646,hx646_0,hx646_1,hx646_2,hx646_3,hx646_4⟩:=jab HR0_0.out x5_1 p646 q646
        cases e646
        replace hx646_0:=cb HB.out hx646_0
        replace hx646_1:=cb HB.out hx646_1
        replace hx646_2:=cb HB.out hx646_2
        replace hx646_3:=cb HB.out hx646_3
        replace hx646_4:=cb HB.out hx646_4
        replace p646:=ezT p646
        replace q646:=ezT q646
        have hcz18_0:=bc0 BK645.out
        have hfz18_0:=jb BK645.out 0
        have p647:0≤(x5_1:Int):=ozD (uq)
        have q647:x5_1<(l1_0.length:Int):=ozD (uq)
        obtain ⟨ad647,e647,hx647_0,hx647_1,hx647_2,hx647_3,hx647_4⟩:=jab HR1_0.out x5_1 p647 q647
        cases e647
        replace hx647_0:=cb HB.out hx647_0
        replace hx647_1:=cb HB.out hx647_1
        replace hx647_2:=cb HB.out hx647_2
        replace hx647_3:=cb HB.out hx647_3
        replace hx647_4:=cb HB.out hx647_4
        replace p647:=ezT p647
        replace q647:=ezT q647
        go_wp2
        repeat (go_quiet (fail);try go_wp2)
        go_roundg k1
        case measure=>have:=HK1.out;omega
        case rel=>exact ⟨(wrap64 (x5_1+1)),(sq),H',⟨by have:=HK1.out;omega⟩,⟨kq BK644.out⟩,⟨kq BK645.out⟩,⟨Y99⟩⟩
      ·rw [if_neg c11] at H
       exact absurd H (by simp)
     ·rw [if_neg c10] at H
      exact absurd H (by simp)
    ·rw [if_neg c9] at H
     have c9b0:decide (x5_1<(l0_0.length:Int))=false:=dzF c9
     clear c9
     obtain rfl:=Option.some.inj H
     have hnb19:=NB644_645.out
     have hnc19:=NB645_644.out
     have hcz20_0:=bc0 BK644.out
     have hfz20_0:=jb BK644.out 0
     go_wp2
     repeat (go_quiet (fail);try go_wp2)
     go_ret
     exact ⟨Y2,Y99⟩
 ·rw [if_neg c3] at H
  have c3b0:((l0_0.length:Int) == (l1_0.length:Int))=false:=beq_eq_false_iff_ne.mpr c3
  have c3b1:((l0_0.length:Int) != (l1_0.length:Int))=true:=bne_iff_ne.mpr c3
  have c3b2:(l0_0.length == l1_0.length)=false:=by first | simpa using c3 |(simp at c3 ⊢;omega)
  obtain rfl:=Option.some.inj H
  go_enter Tryd.func25,Tryd.ntmps25
  go_wp2_with (first |((with_reducible refine jH (N:=2) rfl ?_);refine bE (N:=2) (cs:=#[.slice A0_0 l0_0.length c0_0]) (t:=28) ?_;intro gb644 hg w21 hbox hb;have BK644:=am (hbox);have GW644:=am ((Y0:w.heap.size≤gb644));have GE644:=am ((Y0:w.heap.size≤gb644));replace HB:=am (jh (bq) hb);clear hb hbox hg) |((with_reducible refine jH (N:=3) rfl ?_);refine bE (N:=3) (cs:=#[.slice A1_0 l1_0.length c1_0]) (t:=28) ?_;intro gb645 hg w22 hbox hb;have BK645:=am (hbox);have GW645:=am ((Y40:w.heap.size≤gb645));have GE645:=am ((Y40:w.heap.size≤gb645));have NB644_645:=am ((Y85:gb644≠gb645));have NB645_644:=am ((Y86:gb645≠gb644));replace BK644:=am (jc (g:=gb644) (o:=.cells #[.slice A0_0 l0_0.length c0_0] 28 (0,0)) (kq BK644.out) hb);replace HB:=am (jh (Y87) hb);clear hb hbox hg;have hnb23:=NB644_645.out;have hnc23:=NB645_644.out;have hcz24_0:=bc0 BK644.out;have hfz24_0:=jb BK644.out 0;have hcz25_0:=bc0 BK645.out;have hfz25_0:=jb BK645.out 0))
  repeat (go_quiet (first |((with_reducible refine jH (N:=2) rfl ?_);refine bE (N:=2) (cs:=#[.slice A0_0 l0_0.length c0_0]) (t:=28) ?_;intro gb644 hg w21 hbox hb;have BK644:=am (hbox);have GW644:=am ((Y0:w.heap.size≤gb644));have GE644:=am ((Y0:w.heap.size≤gb644));replace HB:=am (jh (bq) hb);clear hb hbox hg) |((with_reducible refine jH (N:=3) rfl ?_);refine bE (N:=3) (cs:=#[.slice A1_0 l1_0.length c1_0]) (t:=28) ?_;intro gb645 hg w22 hbox hb;have BK645:=am (hbox);have GW645:=am ((Y40:w.heap.size≤gb645));have GE645:=am ((Y40:w.heap.size≤gb645));have NB644_645:=am ((Y85:gb644≠gb645));have NB645_644:=am ((Y86:gb645≠gb644));replace BK644:=am (jc (g:=gb644) (o:=.cells #[.slice A0_0 l0_0.length c0_0] 28 (0,0)) (kq BK644.out) hb);replace HB:=am (jh (Y87) hb);clear hb hbox hg;have hnb23:=NB644_645.out;have hnc23:=NB645_644.out;have hcz24_0:=bc0 BK644.out;have hfz24_0:=jb BK644.out 0;have hcz25_0:=bc0 BK645.out;have hfz25_0:=jb BK645.out 0));try go_wp2_with (first |((with_reducible refine jH (N:=2) rfl ?_);refine bE (N:=2) (cs:=#[.slice A0_0 l0_0.length c0_0]) (t:=28) ?_;intro gb644 hg w21 hbox hb;have BK644:=am (hbox);have GW644:=am ((Y0:w.heap.size≤gb644));have GE644:=am ((Y0:w.heap.size≤gb644));replace HB:=am (jh (bq) hb);clear hb hbox hg) |((with_reducible refine jH (N:=3) rfl ?_);refine bE (N:=3) (cs:=#[.slice A1_0 l1_0.length c1_0]) (t:=28) ?_;intro gb645 hg w22 hbox hb;have BK645:=am (hbox);have GW645:=am ((Y40:w.heap.size≤gb645));have GE645:=am ((Y40:w.heap.size≤gb645));have NB644_645:=am ((Y85:gb644≠gb645));have NB645_644:=am ((Y86:gb645≠gb644));replace BK644:=am (jc (g:=gb644) (o:=.cells #[.slice A0_0 l0_0.length c0_0] 28 (0,0)) (kq BK644.out) hb);replace HB:=am (jh (Y87) hb);clear hb hbox hg;have hnb23:=NB644_645.out;have hnc23:=NB645_644.out;have hcz24_0:=bc0 BK644.out;have hfz24_0:=jb BK644.out 0;have hcz25_0:=bc0 BK645.out;have hfz25_0:=jb BK645.out 0)))
  go_ret
  exact ⟨Y2,Y99⟩
end Go.Proofs.YteibechlncphnaaDoor.P
end
