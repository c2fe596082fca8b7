/- One part of the proofs on this program: functions of the program as plain functions, that the code comes to them, and facts on them. -/
import Derived.Test.YteibechlncphnaaDoorYAll1
import Derived.Test.YteibechlncphnaaDoorYAll5
import Derived.Test.YteibechlncphnaaDoorYAll6
import Derived.Test.YteibechlncphnaaDoorYAll7
import Derived.Test.YteibechlncphnaaDoorYAll8
import Derived.Test.YteibechlncphnaaDoorYWAuto
section
namespace Go.Proofs.YteibechlncphnaaDoor.P
open Go.RowKit Go.Proofs.YteibechlncphnaaDoorW.PrintWords Go.Proofs.YteibechlncphnaaDoorW.PrintLast Go.Proofs.YteibechlncphnaaDoorW.PrintMore
attribute [local go_sem] jua jsa jEa jDa jfa jea jta jra jB
set_option linter.unusedVariables false
set_option linter.unusedSimpArgs false
mutual
def jq.j0 : Nat → Bool → Bool → Bool → List (S99) → List (S66) → List (S66) → List (S66) → List (S66) → Option (Bool)
 | 0,_,_,_,_,_,_,_,_=>none
 | k+1,x7,x9,x48,x658000,x659000,x660000,x665000,x670000=>if x48=true then ((jda.f k x665000 x670000).bind fun t671=>(if t671=true then (some (x7 == x9)) else (some false))) else (jq.l0 k (x659000.length:Int) 0 x658000 x659000 x660000 x665000)
def jq.l0 : Nat → Int → Int → List (S99) → List (S66) → List (S66) → List (S66) → Option (Bool)
 | 0,_,_,_,_,_,_=>none
 | k+1,x10,x11,x658000,x659000,x660000,x665000=>if x11<x10 then ((jJa.f k x658000 x665000 x11).bind fun t672=>((jJa.f k x658000 x659000 x11).bind fun t673=>(if t672.toList=t673.toList then (jq.l0 k x10 (wrap64 (x11+1)) x658000 x659000 x660000 x665000) else (some false)))) else (jq.l1 k x10 0 x658000 x660000 x665000)
def jq.l1 : Nat → Int → Int → List (S99) → List (S66) → List (S66) → Option (Bool)
 | 0,_,_,_,_,_=>none
 | k+1,x10,x12,x658000,x660000,x665000=>if x12<(x660000.length:Int) then ((jJa.f k x658000 x665000 (wrap64 (x10+x12))).bind fun t674=>((jJa.f k x658000 x660000 x12).bind fun t675=>(if t674.toList=t675.toList then (jq.l1 k x10 (wrap64 (x12+1)) x658000 x660000 x665000) else (some false)))) else (some ((x665000.length:Int) == (wrap64 (x10+(x660000.length:Int)))))
end
def jq.f (k : Nat) (l0 : List Int) : Option (Bool) := if (l0.length : Int) > 1048576 then (some true) else ((jja.f k l0).bind fun bt648 => ((jdb.f k bt648.1 bt648.2.1 bt648.2.2).bind fun bt660 => ((jK.f k bt648.1 bt648.2.1 bt648.2.2).bind fun bt665 => ((jda.f k bt660.1 bt665.1).bind fun t670 => (if t670 = true then (if (bt660.2 != bt665.2) = true then (jq.j0 k bt660.2 bt665.2 true bt648.1 bt648.2.1 bt648.2.2 bt660.1 bt665.1) else (jq.j0 k bt660.2 bt665.2 (!bt660.2) bt648.1 bt648.2.1 bt648.2.2 bt660.1 bt665.1)) else (jq.j0 k bt660.2 bt665.2 true bt648.1 bt648.2.1 bt648.2.2 bt660.1 bt665.1))))))
def jq.T12 : Bool × List (List Nat × List Nat) := (true, [([], []), ([], []), ([], []), ([0, 1, 2], [0, 1, 2]), ([], []), ([], []), ([], []), ([4, 5, 6, 3], [4, 5, 6]), ([3, 7], [3, 7])])
def jq.B12 : List Nat := [0, 0, 0, 7, 0, 0, 0, 127, 255]
theorem jq.tab12 : rtab .any (opsOf Tryd.f6 12) = jq.T12 := by kernel_rfl
theorem jq.bits12 : jBb jq.T12.2 jq.B12 = true := by kernel_rfl
def jq.T17 : Bool × List (List Nat × List Nat) := (true, [([], []), ([], []), ([], []), ([], []), ([2, 3], [2, 3]), ([0, 1, 4], [0, 1, 4]), ([], []), ([], []), ([], []), ([6, 7, 8, 5], [6, 7, 8]), ([5, 9], [5, 9])])
def jq.B17 : List Nat := [0, 0, 0, 0, 12, 31, 0, 0, 0, 511, 1023]
theorem jq.tab17 : rtab .any (opsOf Tryd.f6 17) = jq.T17 := by kernel_rfl
theorem jq.bits17 : jBb jq.T17.2 jq.B17 = true := by kernel_rfl
set_option maxHeartbeats 8000000 in
set_option maxRecDepth 100000 in
theorem jq.calls (k : Nat) (A0 : Option Addr) (c0 : Nat) (l0 : List Int) (r : Bool) (w : World) (hr0 : Kd.C (Kd.int .u8) w A0 l0.length l0) (hc0 : l0.length ≤ c0) (hT : r = true) (h : jq.f k l0 = some r) :
  Calls Tryd.prog 6 #[.slice A0 l0.length c0] w fun e w'=>e=.returned (.bool r)∧Below w.heap.size w w':=by
 have hu25:=Tryd.underlying25
 have hu28:=Tryd.underlying28
 have HR0:=am hr0
 have HC0:=am hc0
 clear hr0 hc0
 have HB:=am (Below.refl w.heap.size w)
 have H:(if (l0.length:Int) > 1048576 then (some true) else ((jja.f k l0).bind fun bt648=>((jdb.f k bt648.1 bt648.2.1 bt648.2.2).bind fun bt660=>((jK.f k bt648.1 bt648.2.1 bt648.2.2).bind fun bt665=>((jda.f k bt660.1 bt665.1).bind fun t670=>(if t670=true then (if (bt660.2 != bt665.2)=true then (jq.j0 k bt660.2 bt665.2 true bt648.1 bt648.2.1 bt648.2.2 bt660.1 bt665.1) else (jq.j0 k bt660.2 bt665.2 (!bt660.2) bt648.1 bt648.2.1 bt648.2.2 bt660.1 bt665.1)) else (jq.j0 k bt660.2 bt665.2 true bt648.1 bt648.2.1 bt648.2.2 bt660.1 bt665.1)))))))=some r:=h
 clear h
 by_cases c2:(l0.length:Int) > 1048576
 ·rw [if_pos c2] at H
  have c2b0:decide (1048576<(l0.length:Int))=true:=dzT c2
  have c2b1:decide (1048576<l0.length)=true:=dzT (by omega)
  clear c2
  obtain rfl:=Option.some.inj H
  go_enter Tryd.func6,Tryd.ntmps6
  go_wp2
  go_ret
  exact ⟨Y2,bq⟩
 ·rw [if_neg c2] at H
  have c2b0:decide (1048576<(l0.length:Int))=false:=dzF c2
  have c2b1:decide (1048576<l0.length)=false:=dzF (by omega)
  clear c2
  replace H:=bzS H
  obtain ⟨⟨t648,t651,t654⟩,A30,H⟩:=H
  replace H:((jdb.f k t648 t651 t654).bind fun bt660=>((jK.f k t648 t651 t654).bind fun bt665=>((jda.f k bt660.1 bt665.1).bind fun t670=>(if t670=true then (if (bt660.2 != bt665.2)=true then (jq.j0 k bt660.2 bt665.2 true t648 t651 t654 bt660.1 bt665.1) else (jq.j0 k bt660.2 bt665.2 (!bt660.2) t648 t651 t654 bt660.1 bt665.1)) else (jq.j0 k bt660.2 bt665.2 true t648 t651 t654 bt660.1 bt665.1)))))=some r:=H
  have A3:=am A30
  clear A30
  replace H:=bzS H
  obtain ⟨⟨t660,t663⟩,A40,H⟩:=H
  replace H:((jK.f k t648 t651 t654).bind fun bt665=>((jda.f k t660 bt665.1).bind fun t670=>(if t670=true then (if (t663 != bt665.2)=true then (jq.j0 k t663 bt665.2 true t648 t651 t654 t660 bt665.1) else (jq.j0 k t663 bt665.2 (!t663) t648 t651 t654 t660 bt665.1)) else (jq.j0 k t663 bt665.2 true t648 t651 t654 t660 bt665.1))))=some r:=H
  have A4:=am A40
  clear A40
  replace H:=bzS H
  obtain ⟨⟨t665,t668⟩,A50,H⟩:=H
  replace H:((jda.f k t660 t665).bind fun t670=>(if t670=true then (if (t663 != t668)=true then (jq.j0 k t663 t668 true t648 t651 t654 t660 t665) else (jq.j0 k t663 t668 (!t663) t648 t651 t654 t660 t665)) else (jq.j0 k t663 t668 true t648 t651 t654 t660 t665)))=some r:=H
  have A5:=am A50
  clear A50
  have HC6:=am H
  clear H
  go_enter Tryd.func6,Tryd.ntmps6
  go_upto_region 6 with (first |((with_reducible refine jD (f:=22) rfl ?_);refine gL (some 18) Tryd.func22 #[.slice A0 l0.length c0] ?_;(with_reducible refine (jja.calls k _ _ l0 t648 t651 t654 _ ?side1 ?side2 A3.out).mono ?_);(case side1=>exact Y157);(case side2=>exact HC0.out);rintro e w7 ⟨v649,v652,v655,rfl,ho0,ho1,ho2,hb⟩;refine ⟨_,rfl,?_⟩;have HO650:=am (Kd.joa ho0 (jP (bq)));have HO653:=am (Kd.joa ho1 (jP (bq)));have HO656:=am (Kd.joa ho2 (jP (bq)));replace HB:=am (jh (bq) hb);(try clear hb);(try clear hb2);(try clear hk);(try clear hi);(try clear ho0);(try clear ho1);(try clear ho2)) |((with_reducible refine jH (N:=3) rfl ?_);refine bE (N:=3) (cs:=#[.slice none 0 0]) (t:=25) ?_;intro gb657 hg w8 hbox hb;have BK657:=am (hbox);have GW657:=am ((Y0:w.heap.size≤gb657));have GE657:=am ((Y0:w.heap.size≤gb657));replace HO650:=am (Kd.jL (rq HO650.out) hb);replace HO653:=am (Kd.jL (rq HO653.out) hb);replace HO656:=am (Kd.jL (rq HO656.out) hb);replace HB:=am (jh (bq) hb);clear hb hbox hg) |((with_reducible refine jH (N:=4) rfl ?_);refine bE (N:=4) (cs:=#[.slice none 0 0]) (t:=28) ?_;intro gb658 hg w9 hbox hb;have BK658:=am (hbox);have GW658:=am ((Y189:w.heap.size≤gb658));have GE658:=am ((Y189:w.heap.size≤gb658));have NB657_658:=am ((by rw [hg];exact Nat.ne_of_lt (jX (g:=gb657) (o:=.cells #[.slice none 0 0] 25 (0,0)) (kq BK657.out)):gb657≠gb658));have NB658_657:=am ((by rw [hg];exact Nat.ne_of_gt (jX (g:=gb657) (o:=.cells #[.slice none 0 0] 25 (0,0)) (kq BK657.out)):gb658≠gb657));replace HO650:=am (Kd.jL (rq HO650.out) hb);replace HO653:=am (Kd.jL (rq HO653.out) hb);replace HO656:=am (Kd.jL (rq HO656.out) hb);replace BK657:=am (jc (g:=gb657) (o:=.cells #[.slice none 0 0] 25 (0,0)) (kq BK657.out) hb);replace HB:=am (jh (by repeat (first |(with_reducible first | exact HB.out | apply jw | apply jm | apply jv | refine jk ?_ GE657.out) | exact HB.out)) hb);clear hb hbox hg) |((with_reducible refine jH (N:=5) rfl ?_);refine bE (N:=5) (cs:=#[.slice none 0 0]) (t:=28) ?_;intro gb659 hg w10 hbox hb;have BK659:=am (hbox);have GW659:=am ((Y190:w.heap.size≤gb659));have GE659:=am ((Y190:w.heap.size≤gb659));have NB657_659:=am ((by rw [hg];exact Nat.ne_of_lt (jX (g:=gb657) (o:=.cells #[.slice none 0 0] 25 (0,0)) (kq BK657.out)):gb657≠gb659));have NB659_657:=am ((by rw [hg];exact Nat.ne_of_gt (jX (g:=gb657) (o:=.cells #[.slice none 0 0] 25 (0,0)) (kq BK657.out)):gb659≠gb657));have NB658_659:=am ((by rw [hg];exact Nat.ne_of_lt (jX (g:=gb658) (o:=.cells #[.slice none 0 0] 28 (0,0)) (kq BK658.out)):gb658≠gb659));have NB659_658:=am ((by rw [hg];exact Nat.ne_of_gt (jX (g:=gb658) (o:=.cells #[.slice none 0 0] 28 (0,0)) (kq BK658.out)):gb659≠gb658));replace HO650:=am (Kd.jL (rq HO650.out) hb);replace HO653:=am (Kd.jL (rq HO653.out) hb);replace HO656:=am (Kd.jL (rq HO656.out) hb);replace BK657:=am (jc (g:=gb657) (o:=.cells #[.slice none 0 0] 25 (0,0)) (kq BK657.out) hb);replace BK658:=am (jc (g:=gb658) (o:=.cells #[.slice none 0 0] 28 (0,0)) (kq BK658.out) hb);replace HB:=am (jh (by repeat (first |(with_reducible first | exact HB.out | apply jw | apply jm | apply jv | refine jk ?_ GE657.out | refine jk ?_ GE658.out) | exact HB.out)) hb);clear hb hbox hg;obtain ⟨Ao11,co11,eo11⟩:=Kd.jaa HO650.out;subst eo11;have hnb12:=NB657_658.out;have hnc12:=NB658_657.out;have hnb13:=NB657_659.out;have hnc13:=NB659_657.out;have hcz14_0:=bc0 BK657.out;have hfz14_0:=jb BK657.out 0;obtain ⟨Ao15,co15,eo15⟩:=Kd.jaa HO653.out;subst eo15;have hnb16:=NB658_659.out;have hnc16:=NB659_658.out;have hcz17_0:=bc0 BK658.out;have hfz17_0:=jb BK658.out 0;obtain ⟨Ao18,co18,eo18⟩:=Kd.jaa HO656.out;subst eo18;have hcz19_0:=bc0 BK659.out;have hfz19_0:=jb BK659.out 0) |((with_reducible refine jD (f:=23) rfl ?_);refine gL (some 26) Tryd.func23 #[.agg #[.slice Ao11 t648.length co11], .agg #[.slice Ao15 t651.length co15], .agg #[.slice Ao18 t654.length co18]] ?_;(with_reducible refine (jdb.calls k _ _ t648 _ _ t651 _ _ t654 t660 t663 _ ?side1 ?side2 ?side3 ?side4 ?side5 ?side6 A4.out).mono ?_);(case side1=>refine (Kd.jC (e:=99) (base:=w.heap.size) (ok:=fun k_=>True) (n:=t648.length) (c:=co11) ?_).2.2;exact (Y191));(case side2=>exact (Kd.jC HO650.out).2.1);(case side3=>refine (Kd.jC (e:=66) (base:=w.heap.size) (ok:=fun k_=>some k_≠(.slice Ao18 t654.length co18:Value).ownBlock) (n:=t651.length) (c:=co15) ?_).2.2;exact (Y143));(case side4=>exact (Kd.jC HO653.out).2.1);(case side5=>refine (Kd.jC (e:=66) (base:=w.heap.size) (ok:=fun k_=>some k_≠(.slice Ao15 t651.length co15:Value).ownBlock) (n:=t654.length) (c:=co18) ?_).2.2;exact (Y144));(case side6=>exact (Kd.jC HO656.out).2.1);rintro e w20 ⟨v661,rfl,ho0,hb⟩;refine ⟨_,rfl,?_⟩;have HO662:=am (Kd.joa (Kd.R_new' (Kd.R_new' ho0 (Kd.R_lt (Y143))) (Kd.R_lt (Y144))) (jP (Y145)));replace HO650:=am (Kd.jL (Y191) hb);replace HO653:=am (Kd.jkc (Y143) (Kd.R_base ho0) hb);replace HO656:=am (Kd.jkc (Y144) (Kd.R_base ho0) hb);replace BK657:=am (jc (g:=gb657) (o:=.cells #[.slice Ao11 t648.length co11] 25 (0,0)) (by (with_reducible repeat (first | refine jd ?_ _ | refine jf ?_ | refine je ?_ _));refine jG ?_ NB657_659.out _;(with_reducible repeat (first | refine jd ?_ _ | refine jf ?_ | refine je ?_ _));refine jG ?_ NB657_658.out _;(with_reducible repeat (first | refine jd ?_ _ | refine jf ?_ | refine je ?_ _));refine jqa (cs:=#[.slice none 0 0]) ?_ 0 _ rfl;(with_reducible repeat (first | refine jd ?_ _ | refine jf ?_ | refine je ?_ _));exact BK657.out) hb);replace BK658:=am (jc (g:=gb658) (o:=.cells #[.slice Ao15 t651.length co15] 28 (0,0)) (by (with_reducible repeat (first | refine jd ?_ _ | refine jf ?_ | refine je ?_ _));refine jG ?_ NB658_659.out _;(with_reducible repeat (first | refine jd ?_ _ | refine jf ?_ | refine je ?_ _));refine jqa (cs:=#[.slice none 0 0]) ?_ 0 _ rfl;(with_reducible repeat (first | refine jd ?_ _ | refine jf ?_ | refine je ?_ _));refine jG ?_ NB658_657.out _;(with_reducible repeat (first | refine jd ?_ _ | refine jf ?_ | refine je ?_ _));exact BK658.out) hb);replace BK659:=am (jc (g:=gb659) (o:=.cells #[.slice Ao18 t654.length co18] 28 (0,0)) (by (with_reducible repeat (first | refine jd ?_ _ | refine jf ?_ | refine je ?_ _));refine jqa (cs:=#[.slice none 0 0]) ?_ 0 _ rfl;(with_reducible repeat (first | refine jd ?_ _ | refine jf ?_ | refine je ?_ _));refine jG ?_ NB659_658.out _;(with_reducible repeat (first | refine jd ?_ _ | refine jf ?_ | refine je ?_ _));refine jG ?_ NB659_657.out _;(with_reducible repeat (first | refine jd ?_ _ | refine jf ?_ | refine je ?_ _));exact BK659.out) hb);replace HB:=am (jh (Y145) hb);(try clear hb);(try clear hb2);(try clear hk);(try clear hi);(try clear ho0)) |((with_reducible refine jH (N:=6) rfl ?_);refine bE (N:=6) (cs:=#[.slice none 0 0]) (t:=28) ?_;intro gb664 hg w21 hbox hb;have BK664:=am (hbox);have GW664:=am ((Y192:w.heap.size≤gb664));have GE664:=am ((Y192:w.heap.size≤gb664));have NB657_664:=am ((by rw [hg];exact Nat.ne_of_lt (jX (g:=gb657) (o:=.cells #[.slice Ao11 t648.length co11] 25 (0,0)) (kq BK657.out)):gb657≠gb664));have NB664_657:=am ((by rw [hg];exact Nat.ne_of_gt (jX (g:=gb657) (o:=.cells #[.slice Ao11 t648.length co11] 25 (0,0)) (kq BK657.out)):gb664≠gb657));have NB658_664:=am ((by rw [hg];exact Nat.ne_of_lt (jX (g:=gb658) (o:=.cells #[.slice Ao15 t651.length co15] 28 (0,0)) (kq BK658.out)):gb658≠gb664));have NB664_658:=am ((by rw [hg];exact Nat.ne_of_gt (jX (g:=gb658) (o:=.cells #[.slice Ao15 t651.length co15] 28 (0,0)) (kq BK658.out)):gb664≠gb658));have NB659_664:=am ((by rw [hg];exact Nat.ne_of_lt (jX (g:=gb659) (o:=.cells #[.slice Ao18 t654.length co18] 28 (0,0)) (kq BK659.out)):gb659≠gb664));have NB664_659:=am ((by rw [hg];exact Nat.ne_of_gt (jX (g:=gb659) (o:=.cells #[.slice Ao18 t654.length co18] 28 (0,0)) (kq BK659.out)):gb664≠gb659));replace HO650:=am (Kd.jL (rq HO650.out) hb);replace HO653:=am (Kd.jL (rq HO653.out) hb);replace HO656:=am (Kd.jL (rq HO656.out) hb);replace HO662:=am (Kd.jL (rq HO662.out) hb);replace BK657:=am (jc (g:=gb657) (o:=.cells #[.slice Ao11 t648.length co11] 25 (0,0)) (kq BK657.out) hb);replace BK658:=am (jc (g:=gb658) (o:=.cells #[.slice Ao15 t651.length co15] 28 (0,0)) (kq BK658.out) hb);replace BK659:=am (jc (g:=gb659) (o:=.cells #[.slice Ao18 t654.length co18] 28 (0,0)) (kq BK659.out) hb);replace HB:=am (jh (Y145) hb);clear hb hbox hg;obtain ⟨Ao22,co22,eo22⟩:=Kd.jaa HO662.out;subst eo22;have hnb23:=NB664_657.out;have hnc23:=NB657_664.out;have hnb24:=NB664_658.out;have hnc24:=NB658_664.out;have hnb25:=NB664_659.out;have hnc25:=NB659_664.out;have hcz26_0:=bc0 BK664.out;have hfz26_0:=jb BK664.out 0;have hcz27_0:=bc0 BK657.out;have hfz27_0:=jb BK657.out 0;have hcz28_0:=bc0 BK658.out;have hfz28_0:=jb BK658.out 0;have hcz29_0:=bc0 BK659.out;have hfz29_0:=jb BK659.out 0) |((with_reducible refine jD (f:=24) rfl ?_);refine gL (some 33) Tryd.func24 #[.agg #[.slice Ao11 t648.length co11], .agg #[.slice Ao15 t651.length co15], .agg #[.slice Ao18 t654.length co18]] ?_;(with_reducible refine (jK.calls k _ _ t648 _ _ t651 _ _ t654 t665 t668 _ ?side1 ?side2 ?side3 ?side4 ?side5 ?side6 A5.out).mono ?_);(case side1=>refine (Kd.jC (e:=99) (base:=w.heap.size) (ok:=fun k_=>True) (n:=t648.length) (c:=co11) ?_).2.2;exact (Y193));(case side2=>exact (Kd.jC HO650.out).2.1);(case side3=>refine (Kd.jC (e:=66) (base:=w.heap.size) (ok:=fun k_=>(some k_≠(.slice Ao18 t654.length co18:Value).ownBlock∧some k_≠(.slice Ao22 t660.length co22:Value).ownBlock)) (n:=t651.length) (c:=co15) ?_).2.2;exact (Y146));(case side4=>exact (Kd.jC HO653.out).2.1);(case side5=>refine (Kd.jC (e:=66) (base:=w.heap.size) (ok:=fun k_=>(some k_≠(.slice Ao15 t651.length co15:Value).ownBlock∧some k_≠(.slice Ao22 t660.length co22:Value).ownBlock)) (n:=t654.length) (c:=co18) ?_).2.2;exact (Y147));(case side6=>exact (Kd.jC HO656.out).2.1);rintro e w30 ⟨v666,rfl,ho0,hb⟩;refine ⟨_,rfl,?_⟩;have HO667:=am (Kd.joa (Kd.R_new' (Kd.R_new' (Kd.R_new' ho0 (Kd.R_lt (Y146))) (Kd.R_lt (Y147))) (Kd.R_lt (Y194))) (jP (Y148)));replace HO650:=am (Kd.jL (Y193) hb);replace HO653:=am (Kd.jkc (Y146) (Kd.R_base ho0) hb);replace HO656:=am (Kd.jkc (Y147) (Kd.R_base ho0) hb);replace HO662:=am (Kd.jkc (Y194) (Kd.R_base ho0) hb);replace BK657:=am (jc (g:=gb657) (o:=.cells #[.slice Ao11 t648.length co11] 25 (0,0)) (by (with_reducible repeat (first | refine jd ?_ _ | refine jf ?_ | refine je ?_ _));refine jG ?_ NB657_664.out _;(with_reducible repeat (first | refine jd ?_ _ | refine jf ?_ | refine je ?_ _));exact BK657.out) hb);replace BK658:=am (jc (g:=gb658) (o:=.cells #[.slice Ao15 t651.length co15] 28 (0,0)) (by (with_reducible repeat (first | refine jd ?_ _ | refine jf ?_ | refine je ?_ _));refine jG ?_ NB658_664.out _;(with_reducible repeat (first | refine jd ?_ _ | refine jf ?_ | refine je ?_ _));exact BK658.out) hb);replace BK659:=am (jc (g:=gb659) (o:=.cells #[.slice Ao18 t654.length co18] 28 (0,0)) (by (with_reducible repeat (first | refine jd ?_ _ | refine jf ?_ | refine je ?_ _));refine jG ?_ NB659_664.out _;(with_reducible repeat (first | refine jd ?_ _ | refine jf ?_ | refine je ?_ _));exact BK659.out) hb);replace BK664:=am (jc (g:=gb664) (o:=.cells #[.slice Ao22 t660.length co22] 28 (0,0)) (by (with_reducible repeat (first | refine jd ?_ _ | refine jf ?_ | refine je ?_ _));refine jqa (cs:=#[.slice none 0 0]) ?_ 0 _ rfl;(with_reducible repeat (first | refine jd ?_ _ | refine jf ?_ | refine je ?_ _));exact BK664.out) hb);replace HB:=am (jh (Y148) hb);(try clear hb);(try clear hb2);(try clear hk);(try clear hi);(try clear ho0)) |((with_reducible refine jH (N:=8) rfl ?_);refine bE (N:=8) (cs:=#[.slice none 0 0]) (t:=28) ?_;intro gb669 hg w31 hbox hb;have BK669:=am (hbox);have GW669:=am ((Y195:w.heap.size≤gb669));have GE669:=am ((Y195:w.heap.size≤gb669));have NB657_669:=am ((by rw [hg];exact Nat.ne_of_lt (jX (g:=gb657) (o:=.cells #[.slice Ao11 t648.length co11] 25 (0,0)) (kq BK657.out)):gb657≠gb669));have NB669_657:=am ((by rw [hg];exact Nat.ne_of_gt (jX (g:=gb657) (o:=.cells #[.slice Ao11 t648.length co11] 25 (0,0)) (kq BK657.out)):gb669≠gb657));have NB658_669:=am ((by rw [hg];exact Nat.ne_of_lt (jX (g:=gb658) (o:=.cells #[.slice Ao15 t651.length co15] 28 (0,0)) (kq BK658.out)):gb658≠gb669));have NB669_658:=am ((by rw [hg];exact Nat.ne_of_gt (jX (g:=gb658) (o:=.cells #[.slice Ao15 t651.length co15] 28 (0,0)) (kq BK658.out)):gb669≠gb658));have NB659_669:=am ((by rw [hg];exact Nat.ne_of_lt (jX (g:=gb659) (o:=.cells #[.slice Ao18 t654.length co18] 28 (0,0)) (kq BK659.out)):gb659≠gb669));have NB669_659:=am ((by rw [hg];exact Nat.ne_of_gt (jX (g:=gb659) (o:=.cells #[.slice Ao18 t654.length co18] 28 (0,0)) (kq BK659.out)):gb669≠gb659));have NB664_669:=am ((by rw [hg];exact Nat.ne_of_lt (jX (g:=gb664) (o:=.cells #[.slice Ao22 t660.length co22] 28 (0,0)) (kq BK664.out)):gb664≠gb669));have NB669_664:=am ((by rw [hg];exact Nat.ne_of_gt (jX (g:=gb664) (o:=.cells #[.slice Ao22 t660.length co22] 28 (0,0)) (kq BK664.out)):gb669≠gb664));replace HO650:=am (Kd.jL (rq HO650.out) hb);replace HO653:=am (Kd.jL (rq HO653.out) hb);replace HO656:=am (Kd.jL (rq HO656.out) hb);replace HO662:=am (Kd.jL (rq HO662.out) hb);replace HO667:=am (Kd.jL (rq HO667.out) hb);replace BK657:=am (jc (g:=gb657) (o:=.cells #[.slice Ao11 t648.length co11] 25 (0,0)) (kq BK657.out) hb);replace BK658:=am (jc (g:=gb658) (o:=.cells #[.slice Ao15 t651.length co15] 28 (0,0)) (kq BK658.out) hb);replace BK659:=am (jc (g:=gb659) (o:=.cells #[.slice Ao18 t654.length co18] 28 (0,0)) (kq BK659.out) hb);replace BK664:=am (jc (g:=gb664) (o:=.cells #[.slice Ao22 t660.length co22] 28 (0,0)) (kq BK664.out) hb);replace HB:=am (jh (Y148) hb);clear hb hbox hg;obtain ⟨Ao32,co32,eo32⟩:=Kd.jaa HO667.out;subst eo32;have hnb33:=NB669_657.out;have hnc33:=NB657_669.out;have hnb34:=NB669_658.out;have hnc34:=NB658_669.out;have hnb35:=NB669_659.out;have hnc35:=NB659_669.out;have hnb36:=NB669_664.out;have hnc36:=NB664_669.out;have hcz37_0:=bc0 BK669.out;have hfz37_0:=jb BK669.out 0))
  (try simp only [Act.put,List.setIfInBounds_toArray,List.set_cons_zero,List.set_cons_succ])
  go_cut [48] (fun v48 wc=>∃ (kq:Nat) (x48_5:Bool),v48=.bool x48_5∧jy (jq.j0 kq t663 t668 x48_5 t648 t651 t654 t660 t665=some r)∧jy (kq≤k)∧jy (Kd.R k99 99 wc w.heap.size (fun _=>True) (.slice Ao11 t648.length co11) t648)∧jy (Kd.R k66 66 wc w.heap.size (fun k_=>some k_≠((.slice Ao18 t654.length co18):Value).ownBlock∧some k_≠((.slice Ao22 t660.length co22):Value).ownBlock∧some k_≠((.slice Ao32 t665.length co32):Value).ownBlock) (.slice Ao15 t651.length co15) t651)∧jy (Kd.R k66 66 wc w.heap.size (fun k_=>some k_≠((.slice Ao15 t651.length co15):Value).ownBlock∧some k_≠((.slice Ao22 t660.length co22):Value).ownBlock∧some k_≠((.slice Ao32 t665.length co32):Value).ownBlock) (.slice Ao18 t654.length co18) t654)∧jy (Kd.R k66 66 wc w.heap.size (fun k_=>some k_≠((.slice Ao15 t651.length co15):Value).ownBlock∧some k_≠((.slice Ao18 t654.length co18):Value).ownBlock∧some k_≠((.slice Ao32 t665.length co32):Value).ownBlock) (.slice Ao22 t660.length co22) t660)∧jy (Kd.R k66 66 wc w.heap.size (fun k_=>some k_≠((.slice Ao15 t651.length co15):Value).ownBlock∧some k_≠((.slice Ao18 t654.length co18):Value).ownBlock∧some k_≠((.slice Ao22 t660.length co22):Value).ownBlock) (.slice Ao32 t665.length co32) t665)∧jy (wc.heap[gb657]?=some (.cells #[(.slice Ao11 t648.length co11)] 25 (0,0)))∧jy (wc.heap[gb658]?=some (.cells #[(.slice Ao15 t651.length co15)] 28 (0,0)))∧jy (wc.heap[gb659]?=some (.cells #[(.slice Ao18 t654.length co18)] 28 (0,0)))∧jy (wc.heap[gb664]?=some (.cells #[(.slice Ao22 t660.length co22)] 28 (0,0)))∧jy (wc.heap[gb669]?=some (.cells #[(.slice Ao32 t665.length co32)] 28 (0,0)))∧jy (Below w.heap.size w wc))
  case first =>
   have H:=HC6.out
   clear HC6
   replace H:=bzS H
   obtain ⟨t670,A380,H⟩:=H
   replace H:(if t670=true then (if (t663 != t668)=true then (jq.j0 k t663 t668 true t648 t651 t654 t660 t665) else (jq.j0 k t663 t668 (!t663) t648 t651 t654 t660 t665)) else (jq.j0 k t663 t668 true t648 t651 t654 t660 t665))=some r:=H
   have A38:=am A380
   clear A380
   by_cases c39:t670=true
   ·subst c39
    have H1:(if (t663 != t668)=true then (jq.j0 k t663 t668 true t648 t651 t654 t660 t665) else (jq.j0 k t663 t668 (!t663) t648 t651 t654 t660 t665))=some r:=by rw [if_pos rfl] at H;exact H
    clear H
    have H:=H1
    clear H1
    by_cases c40:(t663 != t668)=true
    ·rw [if_pos c40] at H
     have c40b0:(t663 != t668)=true:=c40
     (try (have c40b1:decide (t663=t668)=false:=by simpa using c40))
     (try (have c40b2:(t663 == t668)=false:=by simpa using c40))
     (try (have c40b3:¬ (t663=t668):=by simpa using c40))
     clear c40
     (first | rw [c40b0] |(simp only [jjb,jkb];rw [c40b0]) | skip)
     have H':=am H
     clear H
     have hnb41:=NB664_657.out
     have hnc41:=NB657_664.out
     have hnb42:=NB664_658.out
     have hnc42:=NB658_664.out
     have hnb43:=NB664_659.out
     have hnc43:=NB659_664.out
     have hnb44:=NB664_669.out
     have hnc44:=NB669_664.out
     have hcz45_0:=bc0 BK664.out
     have hfz45_0:=jb BK664.out 0
     have hnb46:=NB669_657.out
     have hnc46:=NB657_669.out
     have hnb47:=NB669_658.out
     have hnc47:=NB658_669.out
     have hnb48:=NB669_659.out
     have hnc48:=NB659_669.out
     have hcz49_0:=bc0 BK669.out
     have hfz49_0:=jb BK669.out 0
     go_wp2_with (first |((with_reducible refine jD (f:=25) rfl ?_);refine gL (some 38) Tryd.func25 #[.agg #[.slice Ao22 t660.length co22], .agg #[.slice Ao32 t665.length co32]] ?_;(with_reducible refine (jda.calls k _ _ t660 _ _ t665 true _ ?side1 ?side2 ?side3 ?side4 A38.out).mono ?_);(case side1=>refine (Kd.jC (e:=66) (base:=w.heap.size) (ok:=fun k_=>(((True∧some k_≠(.slice Ao15 t651.length co15:Value).ownBlock)∧some k_≠(.slice Ao18 t654.length co18:Value).ownBlock)∧some k_≠(.slice Ao32 t665.length co32:Value).ownBlock)) (n:=t660.length) (c:=co22) ?_).2.2;exact (Y88));(case side2=>exact (Kd.jC HO662.out).2.1);(case side3=>refine (Kd.jC (e:=66) (base:=w.heap.size) (ok:=fun k_=>(((True∧some k_≠(.slice Ao15 t651.length co15:Value).ownBlock)∧some k_≠(.slice Ao18 t654.length co18:Value).ownBlock)∧some k_≠(.slice Ao22 t660.length co22:Value).ownBlock)) (n:=t665.length) (c:=co32) ?_).2.2;exact (Y89));(case side4=>exact (Kd.jC HO667.out).2.1);rintro e w50 ⟨rfl,hb⟩;refine ⟨_,rfl,?_⟩;replace HO650:=am (Kd.jL (Y149) hb);replace HO653:=am (Kd.jL (Y150) hb);replace HO656:=am (Kd.jL (Y151) hb);replace HO662:=am (Kd.jL (Y88) hb);replace HO667:=am (Kd.jL (Y89) hb);replace BK657:=am (jc (g:=gb657) (o:=.cells #[.slice Ao11 t648.length co11] 25 (0,0)) (Y152) hb);replace BK658:=am (jc (g:=gb658) (o:=.cells #[.slice Ao15 t651.length co15] 28 (0,0)) (Y153) hb);replace BK659:=am (jc (g:=gb659) (o:=.cells #[.slice Ao18 t654.length co18] 28 (0,0)) (Y154) hb);replace BK664:=am (jc (g:=gb664) (o:=.cells #[.slice Ao22 t660.length co22] 28 (0,0)) (Y155) hb);replace BK669:=am (jc (g:=gb669) (o:=.cells #[.slice Ao32 t665.length co32] 28 (0,0)) (Y156) hb);replace HB:=am (jh (Y25) hb);(try clear hb);(try clear hb2);(try clear hk);(try clear hi)))
     go_meet
     case rel=>exact ⟨_,(true),(sq),H',⟨Y41⟩,⟨rq HO650.out⟩,⟨by (with_reducible repeat (first | apply Kd.jR | apply Kd.jT | apply Kd.jQ));exact Kd.jI HO653.out (fun _ hk=>⟨hk.1.1,⟨hk.1.2,hk.2⟩⟩)⟩,⟨by (with_reducible repeat (first | apply Kd.jR | apply Kd.jT | apply Kd.jQ));exact Kd.jI HO656.out (fun _ hk=>⟨hk.1.1,⟨hk.1.2,hk.2⟩⟩)⟩,⟨by (with_reducible repeat (first | apply Kd.jR | apply Kd.jT | apply Kd.jQ));exact Kd.jI HO662.out (fun _ hk=>⟨hk.1.1.2,⟨hk.1.2,hk.2⟩⟩)⟩,⟨by (with_reducible repeat (first | apply Kd.jR | apply Kd.jT | apply Kd.jQ));exact Kd.jI HO667.out (fun _ hk=>⟨hk.1.1.2,⟨hk.1.2,hk.2⟩⟩)⟩,⟨kq BK657.out⟩,⟨kq BK658.out⟩,⟨kq BK659.out⟩,⟨kq BK664.out⟩,⟨kq BK669.out⟩,⟨Y25⟩⟩
    ·rw [if_neg c40] at H
     have c40b0:(t663 != t668)=false:=by simpa using c40
     (try (have c40b1:decide (t663=t668)=true:=by simpa using c40))
     (try (have c40b2:(t663 == t668)=true:=by simpa using c40))
     clear c40
     (first | rw [c40b0] |(simp only [jjb,jkb];rw [c40b0]) | skip)
     have H':=am H
     clear H
     have hnb51:=NB664_657.out
     have hnc51:=NB657_664.out
     have hnb52:=NB664_658.out
     have hnc52:=NB658_664.out
     have hnb53:=NB664_659.out
     have hnc53:=NB659_664.out
     have hnb54:=NB664_669.out
     have hnc54:=NB669_664.out
     have hcz55_0:=bc0 BK664.out
     have hfz55_0:=jb BK664.out 0
     have hnb56:=NB669_657.out
     have hnc56:=NB657_669.out
     have hnb57:=NB669_658.out
     have hnc57:=NB658_669.out
     have hnb58:=NB669_659.out
     have hnc58:=NB659_669.out
     have hcz59_0:=bc0 BK669.out
     have hfz59_0:=jb BK669.out 0
     go_wp2_with (first |((with_reducible refine jD (f:=25) rfl ?_);refine gL (some 38) Tryd.func25 #[.agg #[.slice Ao22 t660.length co22], .agg #[.slice Ao32 t665.length co32]] ?_;(with_reducible refine (jda.calls k _ _ t660 _ _ t665 true _ ?side1 ?side2 ?side3 ?side4 A38.out).mono ?_);(case side1=>refine (Kd.jC (e:=66) (base:=w.heap.size) (ok:=fun k_=>(((True∧some k_≠(.slice Ao15 t651.length co15:Value).ownBlock)∧some k_≠(.slice Ao18 t654.length co18:Value).ownBlock)∧some k_≠(.slice Ao32 t665.length co32:Value).ownBlock)) (n:=t660.length) (c:=co22) ?_).2.2;exact (Y88));(case side2=>exact (Kd.jC HO662.out).2.1);(case side3=>refine (Kd.jC (e:=66) (base:=w.heap.size) (ok:=fun k_=>(((True∧some k_≠(.slice Ao15 t651.length co15:Value).ownBlock)∧some k_≠(.slice Ao18 t654.length co18:Value).ownBlock)∧some k_≠(.slice Ao22 t660.length co22:Value).ownBlock)) (n:=t665.length) (c:=co32) ?_).2.2;exact (Y89));(case side4=>exact (Kd.jC HO667.out).2.1);rintro e w60 ⟨rfl,hb⟩;refine ⟨_,rfl,?_⟩;replace HO650:=am (Kd.jL (Y149) hb);replace HO653:=am (Kd.jL (Y150) hb);replace HO656:=am (Kd.jL (Y151) hb);replace HO662:=am (Kd.jL (Y88) hb);replace HO667:=am (Kd.jL (Y89) hb);replace BK657:=am (jc (g:=gb657) (o:=.cells #[.slice Ao11 t648.length co11] 25 (0,0)) (Y152) hb);replace BK658:=am (jc (g:=gb658) (o:=.cells #[.slice Ao15 t651.length co15] 28 (0,0)) (Y153) hb);replace BK659:=am (jc (g:=gb659) (o:=.cells #[.slice Ao18 t654.length co18] 28 (0,0)) (Y154) hb);replace BK664:=am (jc (g:=gb664) (o:=.cells #[.slice Ao22 t660.length co22] 28 (0,0)) (Y155) hb);replace BK669:=am (jc (g:=gb669) (o:=.cells #[.slice Ao32 t665.length co32] 28 (0,0)) (Y156) hb);replace HB:=am (jh (Y25) hb);(try clear hb);(try clear hb2);(try clear hk);(try clear hi)))
     go_meet
     case rel=>exact ⟨_,(!t663),(sq),H',⟨Y41⟩,⟨rq HO650.out⟩,⟨by (with_reducible repeat (first | apply Kd.jR | apply Kd.jT | apply Kd.jQ));exact Kd.jI HO653.out (fun _ hk=>⟨hk.1.1,⟨hk.1.2,hk.2⟩⟩)⟩,⟨by (with_reducible repeat (first | apply Kd.jR | apply Kd.jT | apply Kd.jQ));exact Kd.jI HO656.out (fun _ hk=>⟨hk.1.1,⟨hk.1.2,hk.2⟩⟩)⟩,⟨by (with_reducible repeat (first | apply Kd.jR | apply Kd.jT | apply Kd.jQ));exact Kd.jI HO662.out (fun _ hk=>⟨hk.1.1.2,⟨hk.1.2,hk.2⟩⟩)⟩,⟨by (with_reducible repeat (first | apply Kd.jR | apply Kd.jT | apply Kd.jQ));exact Kd.jI HO667.out (fun _ hk=>⟨hk.1.1.2,⟨hk.1.2,hk.2⟩⟩)⟩,⟨kq BK657.out⟩,⟨kq BK658.out⟩,⟨kq BK659.out⟩,⟨kq BK664.out⟩,⟨kq BK669.out⟩,⟨Y25⟩⟩
   ·replace c39:=Bool.eq_false_iff.mpr c39
    subst c39
    have H1:(jq.j0 k t663 t668 true t648 t651 t654 t660 t665)=some r:=by rw [if_neg (show ¬ (false=true) by decide)] at H;exact H
    clear H
    have H:=H1
    clear H1
    have H':=am H
    clear H
    have hnb61:=NB664_657.out
    have hnc61:=NB657_664.out
    have hnb62:=NB664_658.out
    have hnc62:=NB658_664.out
    have hnb63:=NB664_659.out
    have hnc63:=NB659_664.out
    have hnb64:=NB664_669.out
    have hnc64:=NB669_664.out
    have hcz65_0:=bc0 BK664.out
    have hfz65_0:=jb BK664.out 0
    have hnb66:=NB669_657.out
    have hnc66:=NB657_669.out
    have hnb67:=NB669_658.out
    have hnc67:=NB658_669.out
    have hnb68:=NB669_659.out
    have hnc68:=NB659_669.out
    have hcz69_0:=bc0 BK669.out
    have hfz69_0:=jb BK669.out 0
    go_wp2_with (first |((with_reducible refine jD (f:=25) rfl ?_);refine gL (some 38) Tryd.func25 #[.agg #[.slice Ao22 t660.length co22], .agg #[.slice Ao32 t665.length co32]] ?_;(with_reducible refine (jda.calls k _ _ t660 _ _ t665 false _ ?side1 ?side2 ?side3 ?side4 A38.out).mono ?_);(case side1=>refine (Kd.jC (e:=66) (base:=w.heap.size) (ok:=fun k_=>(((True∧some k_≠(.slice Ao15 t651.length co15:Value).ownBlock)∧some k_≠(.slice Ao18 t654.length co18:Value).ownBlock)∧some k_≠(.slice Ao32 t665.length co32:Value).ownBlock)) (n:=t660.length) (c:=co22) ?_).2.2;exact (Y88));(case side2=>exact (Kd.jC HO662.out).2.1);(case side3=>refine (Kd.jC (e:=66) (base:=w.heap.size) (ok:=fun k_=>(((True∧some k_≠(.slice Ao15 t651.length co15:Value).ownBlock)∧some k_≠(.slice Ao18 t654.length co18:Value).ownBlock)∧some k_≠(.slice Ao22 t660.length co22:Value).ownBlock)) (n:=t665.length) (c:=co32) ?_).2.2;exact (Y89));(case side4=>exact (Kd.jC HO667.out).2.1);rintro e w70 ⟨rfl,hb⟩;refine ⟨_,rfl,?_⟩;replace HO650:=am (Kd.jL (Y149) hb);replace HO653:=am (Kd.jL (Y150) hb);replace HO656:=am (Kd.jL (Y151) hb);replace HO662:=am (Kd.jL (Y88) hb);replace HO667:=am (Kd.jL (Y89) hb);replace BK657:=am (jc (g:=gb657) (o:=.cells #[.slice Ao11 t648.length co11] 25 (0,0)) (Y152) hb);replace BK658:=am (jc (g:=gb658) (o:=.cells #[.slice Ao15 t651.length co15] 28 (0,0)) (Y153) hb);replace BK659:=am (jc (g:=gb659) (o:=.cells #[.slice Ao18 t654.length co18] 28 (0,0)) (Y154) hb);replace BK664:=am (jc (g:=gb664) (o:=.cells #[.slice Ao22 t660.length co22] 28 (0,0)) (Y155) hb);replace BK669:=am (jc (g:=gb669) (o:=.cells #[.slice Ao32 t665.length co32] 28 (0,0)) (Y156) hb);replace HB:=am (jh (Y25) hb);(try clear hb);(try clear hb2);(try clear hk);(try clear hi)))
    go_meet
    case rel=>exact ⟨_,(true),(sq),H',⟨Y41⟩,⟨rq HO650.out⟩,⟨by (with_reducible repeat (first | apply Kd.jR | apply Kd.jT | apply Kd.jQ));exact Kd.jI HO653.out (fun _ hk=>⟨hk.1.1,⟨hk.1.2,hk.2⟩⟩)⟩,⟨by (with_reducible repeat (first | apply Kd.jR | apply Kd.jT | apply Kd.jQ));exact Kd.jI HO656.out (fun _ hk=>⟨hk.1.1,⟨hk.1.2,hk.2⟩⟩)⟩,⟨by (with_reducible repeat (first | apply Kd.jR | apply Kd.jT | apply Kd.jQ));exact Kd.jI HO662.out (fun _ hk=>⟨hk.1.1.2,⟨hk.1.2,hk.2⟩⟩)⟩,⟨by (with_reducible repeat (first | apply Kd.jR | apply Kd.jT | apply Kd.jQ));exact Kd.jI HO667.out (fun _ hk=>⟨hk.1.1.2,⟨hk.1.2,hk.2⟩⟩)⟩,⟨kq BK657.out⟩,⟨kq BK658.out⟩,⟨kq BK659.out⟩,⟨kq BK664.out⟩,⟨kq BK669.out⟩,⟨Y25⟩⟩
  case rest =>
   clear HC6
   try clear c1
   try clear c2
   try clear c2b0
   try clear c2b1
   try clear p2
   try clear c3
   try clear c4
   try clear c5
   try clear c6
   try clear c12
   try clear c13
   try clear c16
   try clear c22
   try clear c23
   try clear c24
   try clear c25
   try clear c33
   try clear c34
   try clear c35
   try clear c36
   try clear c39
   try clear c40
   try clear c40b0
   try clear c40b1
   try clear c40b2
   try clear c41
   try clear c42
   try clear c43
   try clear c44
   try clear c46
   try clear c47
   try clear c48
   try clear c51
   try clear c52
   try clear c53
   try clear c54
   try clear c56
   try clear c57
   try clear c58
   try clear c61
   try clear c62
   try clear c63
   try clear c64
   try clear c66
   try clear c67
   try clear c68
   try clear hcz14_0
   try clear hcz17_0
   try clear hcz19_0
   try clear hcz26_0
   try clear hcz27_0
   try clear hcz28_0
   try clear hcz29_0
   try clear hcz37_0
   try clear hcz45_0
   try clear hcz49_0
   try clear hcz55_0
   try clear hcz59_0
   try clear hcz65_0
   try clear hcz69_0
   try clear hfz14_0
   try clear hfz17_0
   try clear hfz19_0
   try clear hfz26_0
   try clear hfz27_0
   try clear hfz28_0
   try clear hfz29_0
   try clear hfz37_0
   try clear hfz45_0
   try clear hfz49_0
   try clear hfz55_0
   try clear hfz59_0
   try clear hfz65_0
   try clear hfz69_0
   obtain ⟨kq,x48_5,rfl,HA,HJ5,HO_658000,HO_659000,HO_660000,HO_665000,HO_670000,BK657,BK658,BK659,BK664,BK669,HB⟩:=hcut
   cases kq with
   | zero=>exact absurd HA.out (by simp [jq.j0])
   | succ kj5 =>
    have H:=HA.out
    clear HA
    simp only [jq.j0] at H
    by_cases c71:x48_5=true
    ·subst c71
     have H1:((jda.f kj5 t660 t665).bind fun t671=>(if t671=true then (some (t663 == t668)) else (some false)))=some r:=by rw [if_pos rfl] at H;exact H
     clear H
     have H:=H1
     clear H1
     replace H:=bzS H
     obtain ⟨t671,A720,H⟩:=H
     replace H:(if t671=true then (some (t663 == t668)) else (some false))=some r:=H
     have A72:=am A720
     clear A720
     by_cases c73:t671=true
     ·subst c73
      have H1:(some (t663 == t668))=some r:=by rw [if_pos rfl] at H;exact H
      clear H
      have H:=H1
      clear H1
      obtain rfl:=Option.some.inj H
      have hnb74:=NB664_657.out
      have hnc74:=NB657_664.out
      have hnb75:=NB664_658.out
      have hnc75:=NB658_664.out
      have hnb76:=NB664_659.out
      have hnc76:=NB659_664.out
      have hnb77:=NB664_669.out
      have hnc77:=NB669_664.out
      have hcz78_0:=bc0 BK664.out
      have hfz78_0:=jb BK664.out 0
      have hnb79:=NB669_657.out
      have hnc79:=NB657_669.out
      have hnb80:=NB669_658.out
      have hnc80:=NB658_669.out
      have hnb81:=NB669_659.out
      have hnc81:=NB659_669.out
      have hcz82_0:=bc0 BK669.out
      have hfz82_0:=jb BK669.out 0
      go_wp2_with (first |((with_reducible refine jD (f:=25) rfl ?_);refine gL (some 51) Tryd.func25 #[.agg #[.slice Ao22 t660.length co22], .agg #[.slice Ao32 t665.length co32]] ?_;(with_reducible refine (jda.calls kj5 _ _ t660 _ _ t665 true _ ?side1 ?side2 ?side3 ?side4 A72.out).mono ?_);(case side1=>exact cq (Kd.jC HO_665000.out).2.2);(case side2=>exact (Kd.jC HO_665000.out).2.1);(case side3=>exact cq (Kd.jC HO_670000.out).2.2);(case side4=>exact (Kd.jC HO_670000.out).2.1);rintro e w83 ⟨rfl,hb⟩;refine ⟨_,rfl,?_⟩;replace HO_658000:=am (Kd.jL (rq HO_658000.out) hb);replace HO_659000:=am (Kd.jL (rq HO_659000.out) hb);replace HO_660000:=am (Kd.jL (rq HO_660000.out) hb);replace HO_665000:=am (Kd.jL (rq HO_665000.out) hb);replace HO_670000:=am (Kd.jL (rq HO_670000.out) hb);replace BK657:=am (jc (g:=gb657) (o:=.cells #[.slice Ao11 t648.length co11] 25 (0,0)) (kq BK657.out) hb);replace BK658:=am (jc (g:=gb658) (o:=.cells #[.slice Ao15 t651.length co15] 28 (0,0)) (kq BK658.out) hb);replace BK659:=am (jc (g:=gb659) (o:=.cells #[.slice Ao18 t654.length co18] 28 (0,0)) (kq BK659.out) hb);replace BK664:=am (jc (g:=gb664) (o:=.cells #[.slice Ao22 t660.length co22] 28 (0,0)) (kq BK664.out) hb);replace BK669:=am (jc (g:=gb669) (o:=.cells #[.slice Ao32 t665.length co32] 28 (0,0)) (kq BK669.out) hb);replace HB:=am (jh (Y25) hb);(try clear hb);(try clear hb2);(try clear hk);(try clear hi)))
      go_ret
      exact ⟨Y2,Y25⟩
     ·replace c73:=Bool.eq_false_iff.mpr c73
      subst c73
      have H1:(some false)=some r:=by rw [if_neg (show ¬ (false=true) by decide)] at H;exact H
      clear H
      have H:=H1
      clear H1
      exact absurd ((Option.some.inj H).trans hT) Bool.false_ne_true
    ·replace c71:=Bool.eq_false_iff.mpr c71
     subst c71
     have H1:(jq.l0 kj5 (t651.length:Int) 0 t648 t651 t654 t660)=some r:=by rw [if_neg (show ¬ (false=true) by decide)] at H;exact H
     clear H
     have H:=H1
     clear H1
     have H':=am H
     clear H
     have hnb84:=NB658_657.out
     have hnc84:=NB657_658.out
     have hnb85:=NB658_659.out
     have hnc85:=NB659_658.out
     have hnb86:=NB658_664.out
     have hnc86:=NB664_658.out
     have hnb87:=NB658_669.out
     have hnc87:=NB669_658.out
     have hcz88_0:=bc0 BK658.out
     have hfz88_0:=jb BK658.out 0
     go_wp2
     go_loopg [11] kj5 (fun kq v11 w'=>∃ (x11_2:Int),v11=.int .i64 x11_2∧jy (jq.l0 kq (t651.length:Int) x11_2 t648 t651 t654 t660=some r)∧jy (kq≤kj5)∧jy (Kd.R k99 99 w' w.heap.size (fun _=>True) (.slice Ao11 t648.length co11) t648)∧jy (Kd.R k66 66 w' w.heap.size (fun k_=>some k_≠((.slice Ao18 t654.length co18):Value).ownBlock∧some k_≠((.slice Ao22 t660.length co22):Value).ownBlock∧some k_≠((.slice Ao32 t665.length co32):Value).ownBlock) (.slice Ao15 t651.length co15) t651)∧jy (Kd.R k66 66 w' w.heap.size (fun k_=>some k_≠((.slice Ao15 t651.length co15):Value).ownBlock∧some k_≠((.slice Ao22 t660.length co22):Value).ownBlock∧some k_≠((.slice Ao32 t665.length co32):Value).ownBlock) (.slice Ao18 t654.length co18) t654)∧jy (Kd.R k66 66 w' w.heap.size (fun k_=>some k_≠((.slice Ao15 t651.length co15):Value).ownBlock∧some k_≠((.slice Ao18 t654.length co18):Value).ownBlock∧some k_≠((.slice Ao32 t665.length co32):Value).ownBlock) (.slice Ao22 t660.length co22) t660)∧jy (Kd.R k66 66 w' w.heap.size (fun k_=>some k_≠((.slice Ao15 t651.length co15):Value).ownBlock∧some k_≠((.slice Ao18 t654.length co18):Value).ownBlock∧some k_≠((.slice Ao22 t660.length co22):Value).ownBlock) (.slice Ao32 t665.length co32) t665)∧jy (w'.heap[gb657]?=some (.cells #[(.slice Ao11 t648.length co11)] 25 (0,0)))∧jy (w'.heap[gb658]?=some (.cells #[(.slice Ao15 t651.length co15)] 28 (0,0)))∧jy (w'.heap[gb659]?=some (.cells #[(.slice Ao18 t654.length co18)] 28 (0,0)))∧jy (w'.heap[gb664]?=some (.cells #[(.slice Ao22 t660.length co22)] 28 (0,0)))∧jy (w'.heap[gb669]?=some (.cells #[(.slice Ao32 t665.length co32)] 28 (0,0)))∧jy (Below w.heap.size w w'))
     case atStart=>exact ⟨(0),(sq),H',⟨Nat.le_refl _⟩,⟨rq HO_658000.out⟩,⟨rq HO_659000.out⟩,⟨rq HO_660000.out⟩,⟨rq HO_665000.out⟩,⟨rq HO_670000.out⟩,⟨kq BK657.out⟩,⟨kq BK658.out⟩,⟨kq BK659.out⟩,⟨kq BK664.out⟩,⟨kq BK669.out⟩,⟨Y25⟩⟩
     case round =>
      clear H'
      try clear c1
      try clear c2
      try clear c2b0
      try clear c2b1
      try clear p2
      try clear c3
      try clear c4
      try clear c5
      try clear c6
      try clear c7
      try clear c8
      try clear c12
      try clear c13
      try clear c16
      try clear c22
      try clear c23
      try clear c24
      try clear c25
      try clear c33
      try clear c34
      try clear c35
      try clear c36
      try clear c39
      try clear c40
      try clear c40b0
      try clear c40b1
      try clear c40b2
      try clear c41
      try clear c42
      try clear c43
      try clear c44
      try clear c46
      try clear c47
      try clear c48
      try clear c51
      try clear c52
      try clear c53
      try clear c54
      try clear c56
      try clear c57
      try clear c58
      try clear c61
      try clear c62
      try clear c63
      try clear c64
      try clear c66
      try clear c67
      try clear c68
      try clear c71
      try clear c73
      try clear c74
      try clear c75
      try clear c76
      try clear c77
      try clear c79
      try clear c80
      try clear c81
      try clear c84
      try clear c85
      try clear c86
      try clear c87
      try clear hcz14_0
      try clear hcz17_0
      try clear hcz19_0
      try clear hcz26_0
      try clear hcz27_0
      try clear hcz28_0
      try clear hcz29_0
      try clear hcz37_0
      try clear hcz45_0
      try clear hcz49_0
      try clear hcz55_0
      try clear hcz59_0
      try clear hcz65_0
      try clear hcz69_0
      try clear hcz78_0
      try clear hcz82_0
      try clear hcz88_0
      try clear hfz14_0
      try clear hfz17_0
      try clear hfz19_0
      try clear hfz26_0
      try clear hfz27_0
      try clear hfz28_0
      try clear hfz29_0
      try clear hfz37_0
      try clear hfz45_0
      try clear hfz49_0
      try clear hfz55_0
      try clear hfz59_0
      try clear hfz65_0
      try clear hfz69_0
      try clear hfz78_0
      try clear hfz82_0
      try clear hfz88_0
      try clear p2
      obtain ⟨x11_2,rfl,HA,HK2,HO_658000,HO_659000,HO_660000,HO_665000,HO_670000,BK657,BK658,BK659,BK664,BK669,HB⟩:=hrel
      cases gk with
      | zero=>exact absurd HA.out (by simp [jq.l0])
      | succ k2 =>
       have H:=HA.out
       clear HA
       simp only [jq.l0] at H
       by_cases c89:x11_2<(t651.length:Int)
       ·rw [if_pos c89] at H
        have c89b0:decide (x11_2<(t651.length:Int))=true:=dzT c89
        clear c89
        replace H:=bzS H
        obtain ⟨t672,A900,H⟩:=H
        replace H:((jJa.f k2 t648 t651 x11_2).bind fun t673=>(if t672.toList=t673.toList then (jq.l0 k2 (t651.length:Int) (wrap64 (x11_2+1)) t648 t651 t654 t660) else (some false)))=some r:=H
        have A90:=am A900
        clear A900
        replace H:=bzS H
        obtain ⟨t673,A910,H⟩:=H
        replace H:(if t672.toList=t673.toList then (jq.l0 k2 (t651.length:Int) (wrap64 (x11_2+1)) t648 t651 t654 t660) else (some false))=some r:=H
        have A91:=am A910
        clear A910
        by_cases c92:t672.toList=t673.toList
        ·rw [if_pos c92] at H
         have c92b0:(t672.toList == t673.toList)=true:=beq_iff_eq.mpr c92
         have c92b1:(t672.toList != t673.toList)=false:=bne_eq_false_iff_eq.mpr c92
         clear c92
         have H':=am H
         clear H
         try go_wp2
         replace HO_658000:=am (Kd.jQ HO_658000.out)
         replace HO_659000:=am (Kd.jQ HO_659000.out)
         replace HO_660000:=am (Kd.jQ HO_660000.out)
         replace HO_665000:=am (Kd.jQ HO_665000.out)
         replace HO_670000:=am (Kd.jQ HO_670000.out)
         replace BK657:=am (jf BK657.out)
         replace BK658:=am (jf BK658.out)
         replace BK659:=am (jf BK659.out)
         replace BK664:=am (jf BK664.out)
         replace BK669:=am (jf BK669.out)
         replace HB:=am (jv HB.out)
         refine jNb (n:=9) (S:=fun w'=>w'.cell? ⟨gb657,0,none⟩=some (.slice Ao11 t648.length co11)∧w'.cell? ⟨gb664,0,none⟩=some (.slice Ao22 t660.length co22)∧w'.cell? ⟨gb658,0,none⟩=some (.slice Ao15 t651.length co15)) (ds:=[]) #[false,false,false,false,false,false,false,false,false] (by kernel_rfl) rfl rfl ⟨(jF BK657.out 0).trans rfl,(jF BK664.out 0).trans rfl,(jF BK658.out 0).trans rfl⟩ (fun hHeld=>?_);refine jrb jq.tab12 jq.bits12 (fun HT_ HW_=>?_)
         generalize wr.drew=w93 at HO_658000 HO_659000 HO_660000 HO_665000 HO_670000 BK657 BK658 BK659 BK664 BK669 HB hHeld ⊢
         refine pq (i:=2) (N:=some 67) #[false,false,true,false,false,false,false,false,false] ?_
         refine pq (i:=6) (N:=some 71) #[false,false,true,false,false,false,true,false,false] ?_
         refine job (i:=0) (N:=some 65) (v:=?_) (a':=?_) #[true,false,true,false,false,false,true,false,false] rfl rfl (jSa HT_.out HW_.out (by kernel_rfl)) (fun _ _ _ h=>h) (Or.inl ⟨by rfl,?_⟩) hHeld ?_ ?_
         rotate_left
         ·rintro w' ⟨s0,s1,s2⟩
          go_simp
          with_reducible rfl
         rotate_left
         ·exact sa
         refine job (i:=1) (N:=some 66) (v:=?_) (a':=?_) #[true,true,true,false,false,false,true,false,false] rfl rfl (jSa HT_.out HW_.out (by kernel_rfl)) (fun _ _ _ h=>h) (Or.inl ⟨by rfl,?_⟩) hHeld ?_ ?_
         rotate_left
         ·rintro w' ⟨s0,s1,s2⟩
          go_simp
          with_reducible rfl
         rotate_left
         ·exact sa
         refine job (i:=4) (N:=some 69) (v:=?_) (a':=?_) #[true,true,true,false,true,false,true,false,false] rfl rfl (jSa HT_.out HW_.out (by kernel_rfl)) (fun _ _ _ h=>h) (Or.inl ⟨by rfl,?_⟩) hHeld ?_ ?_
         rotate_left
         ·rintro w' ⟨s0,s1,s2⟩
          go_simp
          with_reducible rfl
         rotate_left
         ·exact sa
         refine job (i:=5) (N:=some 70) (v:=?_) (a':=?_) #[true,true,true,false,true,true,true,false,false] rfl rfl (jSa HT_.out HW_.out (by kernel_rfl)) (fun _ _ _ h=>h) (Or.inl ⟨by rfl,?_⟩) hHeld ?_ ?_
         rotate_left
         ·rintro w' ⟨s0,s1,s2⟩
          go_simp
          with_reducible rfl
         rotate_left
         ·exact sa
         refine one_ (i:=3) (N:=some 68) #[true,true,true,true,true,true,true,false,false] rfl rfl (jXa HT_.out (by kernel_rfl)) (by decide) (fun K hK=>?_)
         refine goes_ Tryd.func11 (by kernel_rfl) rfl #[.agg #[.slice Ao11 t648.length co11], .agg #[.slice Ao22 t660.length co22], .int .i64 x11_2] (by rfl) rfl rfl (aq) ?_
         with_reducible refine (jJa.calls k2 _ _ t648 _ _ t660 x11_2 t672 _ ?side1 ?side2 ?side3 ?side4 A90.out).mono ?_
         (case side1=>exact cq (Kd.jC HO_658000.out).2.2)
         (case side2=>exact (Kd.jC HO_658000.out).2.1)
         (case side3=>exact cq (Kd.jC HO_665000.out).2.2)
         (case side4=>exact (Kd.jC HO_665000.out).2.1)
         rintro e w94 ⟨rfl,hb⟩
         refine ⟨_,rfl,?_⟩
         replace HO_658000:=am (Kd.jL (rq HO_658000.out) hb)
         replace HO_659000:=am (Kd.jL (rq HO_659000.out) hb)
         replace HO_660000:=am (Kd.jL (rq HO_660000.out) hb)
         replace HO_665000:=am (Kd.jL (rq HO_665000.out) hb)
         replace HO_670000:=am (Kd.jL (rq HO_670000.out) hb)
         replace BK657:=am (jc (g:=gb657) (o:=.cells #[.slice Ao11 t648.length co11] 25 (0,0)) (kq BK657.out) hb)
         replace BK658:=am (jc (g:=gb658) (o:=.cells #[.slice Ao15 t651.length co15] 28 (0,0)) (kq BK658.out) hb)
         replace BK659:=am (jc (g:=gb659) (o:=.cells #[.slice Ao18 t654.length co18] 28 (0,0)) (kq BK659.out) hb)
         replace BK664:=am (jc (g:=gb664) (o:=.cells #[.slice Ao22 t660.length co22] 28 (0,0)) (kq BK664.out) hb)
         replace BK669:=am (jc (g:=gb669) (o:=.cells #[.slice Ao32 t665.length co32] 28 (0,0)) (kq BK669.out) hb)
         replace HB:=am (jh (Y25) hb)
         (try clear hb)
         (try clear hb2)
         (try clear hk)
         (try clear hi)
         refine hK.out _ _ ⟨(jF BK657.out 0).trans rfl,(jF BK664.out 0).trans rfl,(jF BK658.out 0).trans rfl⟩ (fun hHeld=>?_)
         clear hK K
         refine jGb (a':=?_) ?_ ?_
         rotate_left
         ·show Act.put _ (some 68) _=_
          simp only [Act.put,List.setIfInBounds_toArray,List.set_cons_zero,List.set_cons_succ,jjb,jkb]
          rfl
         refine one_ (i:=7) (N:=some 72) #[true,true,true,true,true,true,true,true,false] rfl rfl (jXa HT_.out (by kernel_rfl)) (by decide) (fun K hK=>?_)
         refine goes_ Tryd.func11 (by kernel_rfl) rfl #[.agg #[.slice Ao11 t648.length co11], .agg #[.slice Ao15 t651.length co15], .int .i64 x11_2] (by rfl) rfl rfl (aq) ?_
         with_reducible refine (jJa.calls k2 _ _ t648 _ _ t651 x11_2 t673 _ ?side1 ?side2 ?side3 ?side4 A91.out).mono ?_
         (case side1=>exact cq (Kd.jC HO_658000.out).2.2)
         (case side2=>exact (Kd.jC HO_658000.out).2.1)
         (case side3=>exact cq (Kd.jC HO_659000.out).2.2)
         (case side4=>exact (Kd.jC HO_659000.out).2.1)
         rintro e w95 ⟨rfl,hb⟩
         refine ⟨_,rfl,?_⟩
         replace HO_658000:=am (Kd.jL (rq HO_658000.out) hb)
         replace HO_659000:=am (Kd.jL (rq HO_659000.out) hb)
         replace HO_660000:=am (Kd.jL (rq HO_660000.out) hb)
         replace HO_665000:=am (Kd.jL (rq HO_665000.out) hb)
         replace HO_670000:=am (Kd.jL (rq HO_670000.out) hb)
         replace BK657:=am (jc (g:=gb657) (o:=.cells #[.slice Ao11 t648.length co11] 25 (0,0)) (kq BK657.out) hb)
         replace BK658:=am (jc (g:=gb658) (o:=.cells #[.slice Ao15 t651.length co15] 28 (0,0)) (kq BK658.out) hb)
         replace BK659:=am (jc (g:=gb659) (o:=.cells #[.slice Ao18 t654.length co18] 28 (0,0)) (kq BK659.out) hb)
         replace BK664:=am (jc (g:=gb664) (o:=.cells #[.slice Ao22 t660.length co22] 28 (0,0)) (kq BK664.out) hb)
         replace BK669:=am (jc (g:=gb669) (o:=.cells #[.slice Ao32 t665.length co32] 28 (0,0)) (kq BK669.out) hb)
         replace HB:=am (jh (Y25) hb)
         (try clear hb)
         (try clear hb2)
         (try clear hk)
         (try clear hi)
         refine hK.out _ _ ⟨(jF BK657.out 0).trans rfl,(jF BK664.out 0).trans rfl,(jF BK658.out 0).trans rfl⟩ (fun hHeld=>?_)
         clear hK K
         refine jGb (a':=?_) ?_ ?_
         rotate_left
         ·show Act.put _ (some 72) _=_
          simp only [Act.put,List.setIfInBounds_toArray,List.set_cons_zero,List.set_cons_succ,jjb,jkb]
          rfl
         refine pq (i:=8) (N:=some 73) #[true,true,true,true,true,true,true,true,true] ?_
         refine done_ (jSb HT_.out (by kernel_rfl)) ?_
         try go_wp2
         go_roundg k2
         case measure=>have:=HJ5.out;have:=HK2.out;omega
         case rel=>exact ⟨(wrap64 (x11_2+1)),(sq),H',⟨by have:=HJ5.out;have:=HK2.out;omega⟩,⟨rq HO_658000.out⟩,⟨rq HO_659000.out⟩,⟨rq HO_660000.out⟩,⟨rq HO_665000.out⟩,⟨rq HO_670000.out⟩,⟨kq BK657.out⟩,⟨kq BK658.out⟩,⟨kq BK659.out⟩,⟨kq BK664.out⟩,⟨kq BK669.out⟩,⟨Y25⟩⟩
        ·rw [if_neg c92] at H
         have c92b0:(t672.toList == t673.toList)=false:=beq_eq_false_iff_ne.mpr c92
         have c92b1:(t672.toList != t673.toList)=true:=bne_iff_ne.mpr c92
         exact absurd ((Option.some.inj H).trans hT) Bool.false_ne_true
       ·rw [if_neg c89] at H
        have c89b0:decide (x11_2<(t651.length:Int))=false:=dzF c89
        clear c89
        have H':=am H
        clear H
        go_wp2
        go_loopg [12] k2 (fun kq v12 w'=>∃ (x12_3:Int),v12=.int .i64 x12_3∧jy (jq.l1 kq (t651.length:Int) x12_3 t648 t654 t660=some r)∧jy (kq≤k2)∧jy (Kd.R k99 99 w' w.heap.size (fun _=>True) (.slice Ao11 t648.length co11) t648)∧jy (Kd.R k66 66 w' w.heap.size (fun k_=>some k_≠((.slice Ao18 t654.length co18):Value).ownBlock∧some k_≠((.slice Ao22 t660.length co22):Value).ownBlock∧some k_≠((.slice Ao32 t665.length co32):Value).ownBlock) (.slice Ao15 t651.length co15) t651)∧jy (Kd.R k66 66 w' w.heap.size (fun k_=>some k_≠((.slice Ao15 t651.length co15):Value).ownBlock∧some k_≠((.slice Ao22 t660.length co22):Value).ownBlock∧some k_≠((.slice Ao32 t665.length co32):Value).ownBlock) (.slice Ao18 t654.length co18) t654)∧jy (Kd.R k66 66 w' w.heap.size (fun k_=>some k_≠((.slice Ao15 t651.length co15):Value).ownBlock∧some k_≠((.slice Ao18 t654.length co18):Value).ownBlock∧some k_≠((.slice Ao32 t665.length co32):Value).ownBlock) (.slice Ao22 t660.length co22) t660)∧jy (Kd.R k66 66 w' w.heap.size (fun k_=>some k_≠((.slice Ao15 t651.length co15):Value).ownBlock∧some k_≠((.slice Ao18 t654.length co18):Value).ownBlock∧some k_≠((.slice Ao22 t660.length co22):Value).ownBlock) (.slice Ao32 t665.length co32) t665)∧jy (w'.heap[gb657]?=some (.cells #[(.slice Ao11 t648.length co11)] 25 (0,0)))∧jy (w'.heap[gb658]?=some (.cells #[(.slice Ao15 t651.length co15)] 28 (0,0)))∧jy (w'.heap[gb659]?=some (.cells #[(.slice Ao18 t654.length co18)] 28 (0,0)))∧jy (w'.heap[gb664]?=some (.cells #[(.slice Ao22 t660.length co22)] 28 (0,0)))∧jy (w'.heap[gb669]?=some (.cells #[(.slice Ao32 t665.length co32)] 28 (0,0)))∧jy (Below w.heap.size w w'))
        case atStart=>exact ⟨(0),(sq),H',⟨Nat.le_refl _⟩,⟨rq HO_658000.out⟩,⟨rq HO_659000.out⟩,⟨rq HO_660000.out⟩,⟨rq HO_665000.out⟩,⟨rq HO_670000.out⟩,⟨kq BK657.out⟩,⟨kq BK658.out⟩,⟨kq BK659.out⟩,⟨kq BK664.out⟩,⟨kq BK669.out⟩,⟨Y25⟩⟩
        case round =>
         clear H'
         try clear c1
         try clear c2
         try clear c2b0
         try clear c2b1
         try clear p2
         try clear c3
         try clear c4
         try clear c5
         try clear c6
         try clear p6
         try clear c7
         try clear c8
         try clear c9
         try clear c11
         try clear c12
         try clear c13
         try clear c16
         try clear c22
         try clear c23
         try clear c24
         try clear c25
         try clear c33
         try clear c34
         try clear c35
         try clear c36
         try clear c39
         try clear c40
         try clear c40b0
         try clear c40b1
         try clear c40b2
         try clear c41
         try clear c42
         try clear c43
         try clear c44
         try clear c46
         try clear c47
         try clear c48
         try clear c51
         try clear c52
         try clear c53
         try clear c54
         try clear c56
         try clear c57
         try clear c58
         try clear c61
         try clear c62
         try clear c63
         try clear c64
         try clear p64
         try clear c66
         try clear c67
         try clear c68
         try clear c71
         try clear c73
         try clear c74
         try clear c75
         try clear c76
         try clear c77
         try clear c79
         try clear c80
         try clear c81
         try clear c84
         try clear c85
         try clear c86
         try clear c87
         try clear c89
         try clear c89b0
         try clear c92
         try clear c92b0
         try clear c92b1
         try clear hcz14_0
         try clear hcz17_0
         try clear hcz19_0
         try clear hcz26_0
         try clear hcz27_0
         try clear hcz28_0
         try clear hcz29_0
         try clear hcz37_0
         try clear hcz45_0
         try clear hcz49_0
         try clear hcz55_0
         try clear hcz59_0
         try clear hcz65_0
         try clear hcz69_0
         try clear hcz78_0
         try clear hcz82_0
         try clear hcz88_0
         try clear hfz14_0
         try clear hfz17_0
         try clear hfz19_0
         try clear hfz26_0
         try clear hfz27_0
         try clear hfz28_0
         try clear hfz29_0
         try clear hfz37_0
         try clear hfz45_0
         try clear hfz49_0
         try clear hfz55_0
         try clear hfz59_0
         try clear hfz65_0
         try clear hfz69_0
         try clear hfz78_0
         try clear hfz82_0
         try clear hfz88_0
         try clear p2
         obtain ⟨x12_3,rfl,HA,HK3,HO_658000,HO_659000,HO_660000,HO_665000,HO_670000,BK657,BK658,BK659,BK664,BK669,HB⟩:=hrel
         cases gk with
         | zero=>exact absurd HA.out (by simp [jq.l1])
         | succ k3 =>
          have H:=HA.out
          clear HA
          simp only [jq.l1] at H
          by_cases c96:x12_3<(t654.length:Int)
          ·rw [if_pos c96] at H
           have c96b0:decide (x12_3<(t654.length:Int))=true:=dzT c96
           clear c96
           replace H:=bzS H
           obtain ⟨t674,A970,H⟩:=H
           replace H:((jJa.f k3 t648 t654 x12_3).bind fun t675=>(if t674.toList=t675.toList then (jq.l1 k3 (t651.length:Int) (wrap64 (x12_3+1)) t648 t654 t660) else (some false)))=some r:=H
           have A97:=am A970
           clear A970
           replace H:=bzS H
           obtain ⟨t675,A980,H⟩:=H
           replace H:(if t674.toList=t675.toList then (jq.l1 k3 (t651.length:Int) (wrap64 (x12_3+1)) t648 t654 t660) else (some false))=some r:=H
           have A98:=am A980
           clear A980
           by_cases c99:t674.toList=t675.toList
           ·rw [if_pos c99] at H
            have c99b0:(t674.toList == t675.toList)=true:=beq_iff_eq.mpr c99
            have c99b1:(t674.toList != t675.toList)=false:=bne_eq_false_iff_eq.mpr c99
            clear c99
            have H':=am H
            clear H
            have hnb100:=NB659_657.out
            have hnc100:=NB657_659.out
            have hnb101:=NB659_658.out
            have hnc101:=NB658_659.out
            have hnb102:=NB659_664.out
            have hnc102:=NB664_659.out
            have hnb103:=NB659_669.out
            have hnc103:=NB669_659.out
            have hcz104_0:=bc0 BK659.out
            have hfz104_0:=jb BK659.out 0
            try go_wp2
            replace HO_658000:=am (Kd.jQ HO_658000.out)
            replace HO_659000:=am (Kd.jQ HO_659000.out)
            replace HO_660000:=am (Kd.jQ HO_660000.out)
            replace HO_665000:=am (Kd.jQ HO_665000.out)
            replace HO_670000:=am (Kd.jQ HO_670000.out)
            replace BK657:=am (jf BK657.out)
            replace BK658:=am (jf BK658.out)
            replace BK659:=am (jf BK659.out)
            replace BK664:=am (jf BK664.out)
            replace BK669:=am (jf BK669.out)
            replace HB:=am (jv HB.out)
            refine jNb (n:=11) (S:=fun w'=>w'.cell? ⟨gb657,0,none⟩=some (.slice Ao11 t648.length co11)∧w'.cell? ⟨gb664,0,none⟩=some (.slice Ao22 t660.length co22)∧w'.cell? ⟨gb659,0,none⟩=some (.slice Ao18 t654.length co18)) (ds:=[]) #[false,false,false,false,false,false,false,false,false,false,false] (by kernel_rfl) rfl rfl ⟨(jF BK657.out 0).trans rfl,(jF BK664.out 0).trans rfl,(jF BK659.out 0).trans rfl⟩ (fun hHeld=>?_);refine jrb jq.tab17 jq.bits17 (fun HT_ HW_=>?_)
            generalize wr.drew=w105 at HO_658000 HO_659000 HO_660000 HO_665000 HO_670000 BK657 BK658 BK659 BK664 BK669 HB hHeld ⊢
            refine pq (i:=2) (N:=some 83) #[false,false,true,false,false,false,false,false,false,false,false] ?_
            refine pq (i:=3) (N:=some 84) #[false,false,true,true,false,false,false,false,false,false,false] ?_
            refine pq (i:=4) (N:=some 85) #[false,false,true,true,true,false,false,false,false,false,false] ?_
            refine pq (i:=8) (N:=some 89) #[false,false,true,true,true,false,false,false,true,false,false] ?_
            refine job (i:=0) (N:=some 81) (v:=?_) (a':=?_) #[true,false,true,true,true,false,false,false,true,false,false] rfl rfl (jSa HT_.out HW_.out (by kernel_rfl)) (fun _ _ _ h=>h) (Or.inl ⟨by rfl,?_⟩) hHeld ?_ ?_
            rotate_left
            ·rintro w' ⟨s0,s1,s2⟩
             go_simp
             with_reducible rfl
            rotate_left
            ·exact sa
            refine job (i:=1) (N:=some 82) (v:=?_) (a':=?_) #[true,true,true,true,true,false,false,false,true,false,false] rfl rfl (jSa HT_.out HW_.out (by kernel_rfl)) (fun _ _ _ h=>h) (Or.inl ⟨by rfl,?_⟩) hHeld ?_ ?_
            rotate_left
            ·rintro w' ⟨s0,s1,s2⟩
             go_simp
             with_reducible rfl
            rotate_left
            ·exact sa
            refine job (i:=6) (N:=some 87) (v:=?_) (a':=?_) #[true,true,true,true,true,false,true,false,true,false,false] rfl rfl (jSa HT_.out HW_.out (by kernel_rfl)) (fun _ _ _ h=>h) (Or.inl ⟨by rfl,?_⟩) hHeld ?_ ?_
            rotate_left
            ·rintro w' ⟨s0,s1,s2⟩
             go_simp
             with_reducible rfl
            rotate_left
            ·exact sa
            refine job (i:=7) (N:=some 88) (v:=?_) (a':=?_) #[true,true,true,true,true,false,true,true,true,false,false] rfl rfl (jSa HT_.out HW_.out (by kernel_rfl)) (fun _ _ _ h=>h) (Or.inl ⟨by rfl,?_⟩) hHeld ?_ ?_
            rotate_left
            ·rintro w' ⟨s0,s1,s2⟩
             go_simp
             with_reducible rfl
            rotate_left
            ·exact sa
            refine one_ (i:=5) (N:=some 86) #[true,true,true,true,true,true,true,true,true,false,false] rfl rfl (jXa HT_.out (by kernel_rfl)) (by decide) (fun K hK=>?_)
            refine goes_ Tryd.func11 (by kernel_rfl) rfl #[.agg #[.slice Ao11 t648.length co11], .agg #[.slice Ao22 t660.length co22], .int .i64 (wrap64 ((t651.length:Int)+x12_3))] (by rfl) rfl rfl (aq) ?_
            with_reducible refine (jJa.calls k3 _ _ t648 _ _ t660 (wrap64 ((t651.length:Int)+x12_3)) t674 _ ?side1 ?side2 ?side3 ?side4 A97.out).mono ?_
            (case side1=>exact cq (Kd.jC HO_658000.out).2.2)
            (case side2=>exact (Kd.jC HO_658000.out).2.1)
            (case side3=>exact cq (Kd.jC HO_665000.out).2.2)
            (case side4=>exact (Kd.jC HO_665000.out).2.1)
            rintro e w106 ⟨rfl,hb⟩
            refine ⟨_,rfl,?_⟩
            replace HO_658000:=am (Kd.jL (rq HO_658000.out) hb)
            replace HO_659000:=am (Kd.jL (rq HO_659000.out) hb)
            replace HO_660000:=am (Kd.jL (rq HO_660000.out) hb)
            replace HO_665000:=am (Kd.jL (rq HO_665000.out) hb)
            replace HO_670000:=am (Kd.jL (rq HO_670000.out) hb)
            replace BK657:=am (jc (g:=gb657) (o:=.cells #[.slice Ao11 t648.length co11] 25 (0,0)) (kq BK657.out) hb)
            replace BK658:=am (jc (g:=gb658) (o:=.cells #[.slice Ao15 t651.length co15] 28 (0,0)) (kq BK658.out) hb)
            replace BK659:=am (jc (g:=gb659) (o:=.cells #[.slice Ao18 t654.length co18] 28 (0,0)) (kq BK659.out) hb)
            replace BK664:=am (jc (g:=gb664) (o:=.cells #[.slice Ao22 t660.length co22] 28 (0,0)) (kq BK664.out) hb)
            replace BK669:=am (jc (g:=gb669) (o:=.cells #[.slice Ao32 t665.length co32] 28 (0,0)) (kq BK669.out) hb)
            replace HB:=am (jh (Y25) hb)
            (try clear hb)
            (try clear hb2)
            (try clear hk)
            (try clear hi)
            refine hK.out _ _ ⟨(jF BK657.out 0).trans rfl,(jF BK664.out 0).trans rfl,(jF BK659.out 0).trans rfl⟩ (fun hHeld=>?_)
            clear hK K
            refine jGb (a':=?_) ?_ ?_
            rotate_left
            ·show Act.put _ (some 86) _=_
             simp only [Act.put,List.setIfInBounds_toArray,List.set_cons_zero,List.set_cons_succ,jjb,jkb]
             rfl
            refine one_ (i:=9) (N:=some 90) #[true,true,true,true,true,true,true,true,true,true,false] rfl rfl (jXa HT_.out (by kernel_rfl)) (by decide) (fun K hK=>?_)
            refine goes_ Tryd.func11 (by kernel_rfl) rfl #[.agg #[.slice Ao11 t648.length co11], .agg #[.slice Ao18 t654.length co18], .int .i64 x12_3] (by rfl) rfl rfl (aq) ?_
            with_reducible refine (jJa.calls k3 _ _ t648 _ _ t654 x12_3 t675 _ ?side1 ?side2 ?side3 ?side4 A98.out).mono ?_
            (case side1=>exact cq (Kd.jC HO_658000.out).2.2)
            (case side2=>exact (Kd.jC HO_658000.out).2.1)
            (case side3=>exact cq (Kd.jC HO_660000.out).2.2)
            (case side4=>exact (Kd.jC HO_660000.out).2.1)
            rintro e w107 ⟨rfl,hb⟩
            refine ⟨_,rfl,?_⟩
            replace HO_658000:=am (Kd.jL (rq HO_658000.out) hb)
            replace HO_659000:=am (Kd.jL (rq HO_659000.out) hb)
            replace HO_660000:=am (Kd.jL (rq HO_660000.out) hb)
            replace HO_665000:=am (Kd.jL (rq HO_665000.out) hb)
            replace HO_670000:=am (Kd.jL (rq HO_670000.out) hb)
            replace BK657:=am (jc (g:=gb657) (o:=.cells #[.slice Ao11 t648.length co11] 25 (0,0)) (kq BK657.out) hb)
            replace BK658:=am (jc (g:=gb658) (o:=.cells #[.slice Ao15 t651.length co15] 28 (0,0)) (kq BK658.out) hb)
            replace BK659:=am (jc (g:=gb659) (o:=.cells #[.slice Ao18 t654.length co18] 28 (0,0)) (kq BK659.out) hb)
            replace BK664:=am (jc (g:=gb664) (o:=.cells #[.slice Ao22 t660.length co22] 28 (0,0)) (kq BK664.out) hb)
            replace BK669:=am (jc (g:=gb669) (o:=.cells #[.slice Ao32 t665.length co32] 28 (0,0)) (kq BK669.out) hb)
            replace HB:=am (jh (Y25) hb)
            (try clear hb)
            (try clear hb2)
            (try clear hk)
            (try clear hi)
            refine hK.out _ _ ⟨(jF BK657.out 0).trans rfl,(jF BK664.out 0).trans rfl,(jF BK659.out 0).trans rfl⟩ (fun hHeld=>?_)
            clear hK K
            refine jGb (a':=?_) ?_ ?_
            rotate_left
            ·show Act.put _ (some 90) _=_
             simp only [Act.put,List.setIfInBounds_toArray,List.set_cons_zero,List.set_cons_succ,jjb,jkb]
             rfl
            refine pq (i:=10) (N:=some 91) #[true,true,true,true,true,true,true,true,true,true,true] ?_
            refine done_ (jSb HT_.out (by kernel_rfl)) ?_
            try go_wp2
            go_roundg k3
            case measure=>have:=HJ5.out;have:=HK2.out;have:=HK3.out;omega
            case rel=>exact ⟨(wrap64 (x12_3+1)),(sq),H',⟨by have:=HJ5.out;have:=HK2.out;have:=HK3.out;omega⟩,⟨rq HO_658000.out⟩,⟨rq HO_659000.out⟩,⟨rq HO_660000.out⟩,⟨rq HO_665000.out⟩,⟨rq HO_670000.out⟩,⟨kq BK657.out⟩,⟨kq BK658.out⟩,⟨kq BK659.out⟩,⟨kq BK664.out⟩,⟨kq BK669.out⟩,⟨Y25⟩⟩
           ·rw [if_neg c99] at H
            have c99b0:(t674.toList == t675.toList)=false:=beq_eq_false_iff_ne.mpr c99
            have c99b1:(t674.toList != t675.toList)=true:=bne_iff_ne.mpr c99
            exact absurd ((Option.some.inj H).trans hT) Bool.false_ne_true
          ·rw [if_neg c96] at H
           have c96b0:decide (x12_3<(t654.length:Int))=false:=dzF c96
           clear c96
           obtain rfl:=Option.some.inj H
           have hnb108:=NB659_657.out
           have hnc108:=NB657_659.out
           have hnb109:=NB659_658.out
           have hnc109:=NB658_659.out
           have hnb110:=NB659_664.out
           have hnc110:=NB664_659.out
           have hnb111:=NB659_669.out
           have hnc111:=NB669_659.out
           have hcz112_0:=bc0 BK659.out
           have hfz112_0:=jb BK659.out 0
           have hnb113:=NB664_657.out
           have hnc113:=NB657_664.out
           have hnb114:=NB664_658.out
           have hnc114:=NB658_664.out
           have hnb115:=NB664_669.out
           have hnc115:=NB669_664.out
           have hcz116_0:=bc0 BK664.out
           have hfz116_0:=jb BK664.out 0
           go_wp2
           go_ret
           exact ⟨Y2,Y25⟩
def jq.Pure : Prop := ∀ (l0 : List Int), l0.length ≤ maxLen → l0.length * 1 ≤ 140737488351232 → (∀ x ∈ l0, (Lit.int .u8 x).wf = true) → ∃ k, jq.f k l0 = some true
theorem jq.walk (P : jq.Pure) (a0 : Option Addr) (len0 cap0 : Nat) (z0 : List Int) (w : World) (w0 : (a0 = none ∧ len0 = 0 ∧ cap0 = 0 ∧ z0 = []) ∨ ∃ x, a0 = some x ∧ len0 ≤ cap0 ∧ cap0 ≤ maxLen ∧ z0.length = cap0 ∧ (∀ i, i < z0.length → w.cell? (x.add i) = some (.int .u8 (z0.getD i 0))) ∧ ∀ n ∈ z0, (Lit.int .u8 n).wf = true) (y0 : len0 * 1 ≤ 140737488351232) :
  Calls Tryd.prog 6 #[.slice a0 len0 cap0] w fun e w'=>e=.returned (.bool true)∧Below w.heap.size w w':=by
 obtain ⟨l0,rfl,hr0,hm0,hw0,hc0⟩:=jZa.ofRowC w0
 obtain ⟨k,h⟩:=P l0 hm0 y0 hw0
 refine (jq.calls k _ _ l0 true w (Kd.C_of_reads (d:=(0:Int)) (h1:=fun _=>rfl) hr0) hc0 rfl h).mono ?_
 rintro e w' ⟨rfl,hd⟩
 exact ⟨rfl,hd⟩
def spec_hasFault.f (l0_0 : List (S66)) (a1 : Int) : Option (Bool) := (jW.f a1 0 (wrap64 ((l0_0.length : Int) - 1))).bind fun t365 => (some t365)
def jcc.f (k : Nat) (l0_0 : List (S99)) (l1_0 : List (S66)) (a2 : Int) : Option (Bool) := (jE.f k l0_0 l1_0).bind fun t368 => (if t368 = true then ((spec_hasFault.f l1_0 a2).bind fun t369 => (some t369)) else (some false))
def jbc.f (l0_0 : List (S66)) (a1 : Int) : Option (Int) := if 0 ≤ a1 then (if a1 < (l0_0.length : Int) then (if ((ja l0_0 a1).f2) ≥ 0 then (some ((ja l0_0 a1).f2)) else (if ((ja l0_0 a1).f4 = true) then (some (-1)) else (some ((ja l0_0 a1).f3)))) else (none)) else (none)
def jYb.f : Nat → Int → Option (ByteArray)
 | 0,_=>none
 | k+1,a0=>if a0<10 then (if 0≤a0 then (if a0≤(wrap64 (a0+1)) then (if (wrap64 (a0+1))≤10 then (some ((⟨#[48,49,50,51,52,53,54,55,56,57]⟩:ByteArray).extract (a0:Int).toNat ((wrap64 (a0+1)):Int).toNat)) else (none)) else (none)) else (none)) else ((jYb.f k (wrap64 (Int.tdiv a0 10))).bind fun t488=>((jYb.f k (Int.tmod a0 10)).bind fun t489=>(if t488.size+t489.size≤9223372036854775807 then (some (t488 ++ t489)) else (none))))
def jOb.l0 : Nat → Int → List Int → List (S66) → Option (List Int)
 | 0,_,_,_=>none
 | k+1,x1,x5,x374000=>if x1≥0 then ((jQa.f k x5 x1).bind fun t377=>(if t377=true then (some x5) else (if x5.length<17592186044416 then ((jbc.f x374000 x1).bind fun t381=>(jOb.l0 k t381 (x5 ++ [x1]) x374000)) else (none)))) else (some x5)
def jOb.f (k : Nat) (l0_0 : List (S66)) (a1 : Int) : Option (List Int) := jOb.l0 k a1 (([] : List Int)) l0_0
def jRb.f (k : Nat) (l0_0 : List (S99)) (a1 : Int) (a2 : Int) : Option (ByteArray) := if 0 ≤ a1 then (if a1 < (l0_0.length : Int) then (if ((jS l0_0 a1).f0).size + 1 ≤ 9223372036854775807 then ((jYb.f k a2).bind fun t492 => (if (((jS l0_0 a1).f0) ++ (⟨#[58]⟩ : ByteArray)).size + t492.size ≤ 9223372036854775807 then (some ((((jS l0_0 a1).f0) ++ (⟨#[58]⟩ : ByteArray)) ++ t492)) else (none))) else (none)) else (none)) else (none)
mutual
def jBa.l0 : Nat → List Int → ByteArray → Int → List (S99) → List (S66) → Option (ByteArray)
 | 0,_,_,_,_,_=>none
 | k+1,x7,x8,x9,x494000,x495000=>if x9≥0 then (if 0≤x9 then (if x9<(x7.length:Int) then (if 0≤(rd x7 x9) then (if (rd x7 x9)<(x495000.length:Int) then ((jRb.f k x494000 ((ja x495000 (rd x7 x9)).f0) ((ja x495000 (rd x7 x9)).f1)).bind fun t501=>(if x8.size+t501.size≤9223372036854775807 then (if x9 > 0 then (if 0≤(wrap64 (x9 - 1)) then (if (wrap64 (x9 - 1))<(x7.length:Int) then (if 0≤(rd x7 (wrap64 (x9 - 1))) then (if (rd x7 (wrap64 (x9 - 1)))<(x495000.length:Int) then (jBa.j1 k x7 (x8 ++ t501) x9 (decide (((ja x495000 (rd x7 (wrap64 (x9 - 1)))).f2)≥0)) x494000 x495000) else (none)) else (none)) else (none)) else (none)) else (jBa.j1 k x7 (x8 ++ t501) x9 false x494000 x495000)) else (none))) else (none)) else (none)) else (none)) else (none)) else (some x8)
def jBa.j1 : Nat → List Int → ByteArray → Int → Bool → List (S99) → List (S66) → Option (ByteArray)
 | 0,_,_,_,_,_,_=>none
 | k+1,x7,x8,x9,x51,x494000,x495000=>if x51=true then (if x8.size+3≤9223372036854775807 then (jBa.l0 k x7 (x8 ++ (⟨#[32,62,32]⟩:ByteArray)) (wrap64 (x9 - 1)) x494000 x495000) else (none)) else (if x9 > 0 then (if x8.size+3≤9223372036854775807 then (jBa.l0 k x7 (x8 ++ (⟨#[32,126,32]⟩:ByteArray)) (wrap64 (x9 - 1)) x494000 x495000) else (none)) else (jBa.l0 k x7 x8 (wrap64 (x9 - 1)) x494000 x495000))
end
def jBa.f (k : Nat) (l0_0 : List (S99)) (l1_0 : List (S66)) (a2 : Int) : Option (ByteArray) := (jOb.f k l1_0 a2).bind fun t495 => (jBa.l0 k t495 (⟨#[]⟩ : ByteArray) (wrap64 ((t495.length : Int) - 1)) l0_0 l1_0)
def spec_ChainText.f (k : Nat) (l0_0 : List (S99)) (l1_0 : List (S66)) (a2 : Int) : Option (ByteArray) := (jcc.f k l0_0 l1_0 a2).bind fun t506 => (if t506 = true then ((jBa.f k l0_0 l1_0 a2).bind fun t507 => (some t507)) else (some (⟨#[]⟩ : ByteArray)))
end Go.Proofs.YteibechlncphnaaDoor.P
end
