/- One part of the proofs on this program: functions of the program as plain functions, that the code comes to them, and facts on them. -/
import Derived.Test.YtkedkinojeoeaaaYAll1
import Derived.Test.YtkedkinojeoeaaaYAll6
import Derived.Test.YtkedkinojeoeaaaYAll8
import Derived.Test.YtkedkinojeoeaaaYAll9
import Derived.Test.YtkedkinojeoeaaaYWAuto
section
namespace Go.Proofs.Ytkedkinojeoeaaa.P
open Go.RowKit Go.Proofs.YtkedkinojeoeaaaW.PrintWords Go.Proofs.YtkedkinojeoeaaaW.PrintLast Go.Proofs.YtkedkinojeoeaaaW.PrintMore
attribute [local go_sem] jta jra jBa jAa jca jba jsa jqa jl
set_option linter.unusedVariables false
set_option linter.unusedSimpArgs false
mutual
def ji.j0 : Nat → List (S36) → Int → Int → Int → Bool → List (S75) → Option (Bool)
 | 0,_,_,_,_,_,_=>none
 | k+1,x4,x5,x6,x7,x53,x873000=>if x53=true then ((jS.f k x873000 x4 x5 x6).bind fun t877=>(some (x7 == t877))) else (if x7<0 then ((jYa.f k x873000 x4 x5 0).bind fun t878=>(some (decide (t878<0)))) else ((jec.f k x873000 x6).bind fun t879=>(ji.l0 k x4 x5 x6 x7 t879 0 x873000)))
def ji.l0 : Nat → List (S36) → Int → Int → Int → List Int → Int → List (S75) → Option (Bool)
 | 0,_,_,_,_,_,_,_=>none
 | k+1,x4,x5,x6,x7,x8,x9,x873000=>if x9<(x8.length:Int) then (if 0≤x9 then ((jYa.f k x873000 x4 x5 (rd x8 x9)).bind fun t894=>(if t894<0 then (some false) else (ji.l0 k x4 x5 x6 x7 x8 (wrap64 (x9+1)) x873000))) else (none)) else (if 0≤x7 then (if x7<(x4.length:Int) then (if ((jc x4 x7).f1)=11 then (if ((jc x4 x7).f3)=1 then (if x7<x5 then (some true) else (if ((jc x4 x7).f1)=8 then ((jic.f k x873000 x6 ((jc x4 x7).f2)).bind fun t886=>(some t886)) else (some false))) else (if ((jc x4 x7).f1)=8 then ((jic.f k x873000 x6 ((jc x4 x7).f2)).bind fun t889=>(some t889)) else (some false))) else (if ((jc x4 x7).f1)=8 then ((jic.f k x873000 x6 ((jc x4 x7).f2)).bind fun t892=>(some t892)) else (some false))) else (none)) else (none))
end
def ji.f (k : Nat) (l0 : List Int) : Option (Bool) := if (l0.length : Int) > 1048576 then (some true) else ((jwa.f k l0).bind fun bt864 => ((jYa.f k bt864.1 bt864.2.1 bt864.2.2.1 bt864.2.2.2).bind fun t873 => ((jS.f k bt864.1 bt864.2.1 bt864.2.2.1 bt864.2.2.2).bind fun t874 => (if t873 = t874 then ((jC.f k bt864.1 bt864.2.1).bind fun t875 => (if t875 = true then (if bt864.2.2.1 < 0 then (ji.j0 k bt864.2.1 bt864.2.2.1 bt864.2.2.2 t873 true bt864.1) else (if bt864.2.2.1 ≥ (bt864.2.1.length : Int) then (ji.j0 k bt864.2.1 bt864.2.2.1 bt864.2.2.2 t873 true bt864.1) else ((jmc.f bt864.1 bt864.2.2.2).bind fun t876 => (ji.j0 k bt864.2.1 bt864.2.2.1 bt864.2.2.2 t873 (!t876) bt864.1)))) else (ji.j0 k bt864.2.1 bt864.2.2.1 bt864.2.2.2 t873 true bt864.1))) else (ji.j0 k bt864.2.1 bt864.2.2.1 bt864.2.2.2 t873 true bt864.1)))))
def ji.T13 : Bool × List (List Nat × List Nat) := (true, [([], []), ([], []), ([], []), ([], []), ([], []), ([3, 4], [3, 4]), ([5], [5]), ([0, 1, 2, 6], [0, 1, 2, 6]), ([7], [7])])
def ji.B13 : List Nat := [0, 0, 0, 0, 0, 24, 56, 127, 255]
theorem ji.tab13 : rtab .any (opsOf Try.f5 13) = ji.T13 := by kernel_rfl
theorem ji.bits13 : jdc ji.T13.2 ji.B13 = true := by kernel_rfl
def ji.T15 : Bool × List (List Nat × List Nat) := (true, [([], []), ([], []), ([0, 1], [0, 1]), ([2], [2]), ([3], [3]), ([4], [4]), ([5], [5]), ([6], [6]), ([6], [6]), ([7, 8, 6], [6, 7, 8]), ([9, 6], [6, 9]), ([10, 6], [6, 10]), ([11, 6], [6, 11]), ([6, 12], [6, 12]), ([13, 6], [13]), ([14], [14]), ([14], [14]), ([15, 16, 14], [14, 15, 16]), ([14, 17], [14, 17]), ([18, 14], [18]), ([19], [19]), ([19], [19]), ([20, 21, 19], [19, 20, 21]), ([22, 19], [19, 22]), ([23, 19], [19, 23]), ([24, 19], [19, 24]), ([25, 19, 19], [19, 25]), ([26], [26]), ([26], [26]), ([26], [26]), ([26], [26]), ([29, 30, 26], [26, 29, 30]), ([31, 26], [26, 31]), ([32, 26], [26, 32]), ([27, 28, 33, 26, 26], [26, 27, 28, 33]), ([26, 34, 19], [19, 26, 34]), ([19, 35], [19, 35]), ([36, 34, 0, 1, 2, 3, 4, 5, 6, 7, 8, 9, 10, 11, 12, 13, 14, 15, 16, 17, 18, 19, 20, 21, 22, 23, 24, 25, 26, 27, 28, 29, 30, 31, 32, 33, 34, 35, 36], [36])])
def ji.B15 : List Nat := [0, 0, 3, 7, 15, 31, 63, 127, 127, 511, 1023, 2047, 4095, 8191, 16383, 32767, 32767, 131071, 262143, 524287, 1048575, 1048575, 4194303, 8388607, 16777215, 33554431, 67108863, 134217727, 134217727, 134217727, 134217727, 1744830463, 3892314111, 8187281407, 17179869183, 34359738367, 68719476735, 137438953471]
theorem ji.tab15 : rtab .any (opsOf Try.f5 15) = ji.T15 := by kernel_rfl
theorem ji.bits15 : jdc ji.T15.2 ji.B15 = true := by kernel_rfl
set_option maxHeartbeats 8000000 in
set_option maxRecDepth 100000 in
theorem ji.calls (k : Nat) (A0 : Option Addr) (c0 : Nat) (l0 : List Int) (r : Bool) (w : World) (hr0 : Kd.C (Kd.int .u8) w A0 l0.length l0) (hc0 : l0.length ≤ c0) (hT : r = true) (h : ji.f k l0 = some r) :
  Calls Try.prog 5 #[.slice A0 l0.length c0] w fun e w'=>e=.returned (.bool r)∧Below w.heap.size w w':=by
 have hu25:=Try.underlying25
 have HR0:=am hr0
 have HC0:=am hc0
 clear hr0 hc0
 have HB:=am (Below.refl w.heap.size w)
 have H:(if (l0.length:Int) > 1048576 then (some true) else ((jwa.f k l0).bind fun bt864=>((jYa.f k bt864.1 bt864.2.1 bt864.2.2.1 bt864.2.2.2).bind fun t873=>((jS.f k bt864.1 bt864.2.1 bt864.2.2.1 bt864.2.2.2).bind fun t874=>(if t873=t874 then ((jC.f k bt864.1 bt864.2.1).bind fun t875=>(if t875=true then (if bt864.2.2.1<0 then (ji.j0 k bt864.2.1 bt864.2.2.1 bt864.2.2.2 t873 true bt864.1) else (if bt864.2.2.1≥(bt864.2.1.length:Int) then (ji.j0 k bt864.2.1 bt864.2.2.1 bt864.2.2.2 t873 true bt864.1) else ((jmc.f bt864.1 bt864.2.2.2).bind fun t876=>(ji.j0 k bt864.2.1 bt864.2.2.1 bt864.2.2.2 t873 (!t876) bt864.1)))) else (ji.j0 k bt864.2.1 bt864.2.2.1 bt864.2.2.2 t873 true bt864.1))) else (ji.j0 k bt864.2.1 bt864.2.2.1 bt864.2.2.2 t873 true bt864.1))))))=some r:=h
 clear h
 by_cases c2:(l0.length:Int) > 1048576
 ·rw [if_pos c2] at H
  have c2b0:decide (1048576<(l0.length:Int))=true:=dzT c2
  have c2b1:decide (1048576<l0.length)=true:=dzT (by omega)
  clear c2
  obtain rfl:=Option.some.inj H
  go_enter Try.func5,Try.ntmps5
  go_wp2
  go_ret
  exact ⟨Y0,bq⟩
 ·rw [if_neg c2] at H
  have c2b0:decide (1048576<(l0.length:Int))=false:=dzF c2
  have c2b1:decide (1048576<l0.length)=false:=dzF (by omega)
  clear c2
  replace H:=bzS H
  obtain ⟨⟨t864,t867,t870,t871⟩,A30,H⟩:=H
  replace H:((jYa.f k t864 t867 t870 t871).bind fun t873=>((jS.f k t864 t867 t870 t871).bind fun t874=>(if t873=t874 then ((jC.f k t864 t867).bind fun t875=>(if t875=true then (if t870<0 then (ji.j0 k t867 t870 t871 t873 true t864) else (if t870≥(t867.length:Int) then (ji.j0 k t867 t870 t871 t873 true t864) else ((jmc.f t864 t871).bind fun t876=>(ji.j0 k t867 t870 t871 t873 (!t876) t864)))) else (ji.j0 k t867 t870 t871 t873 true t864))) else (ji.j0 k t867 t870 t871 t873 true t864))))=some r:=H
  have A3:=am A30
  clear A30
  replace H:=bzS H
  obtain ⟨t873,A40,H⟩:=H
  replace H:((jS.f k t864 t867 t870 t871).bind fun t874=>(if t873=t874 then ((jC.f k t864 t867).bind fun t875=>(if t875=true then (if t870<0 then (ji.j0 k t867 t870 t871 t873 true t864) else (if t870≥(t867.length:Int) then (ji.j0 k t867 t870 t871 t873 true t864) else ((jmc.f t864 t871).bind fun t876=>(ji.j0 k t867 t870 t871 t873 (!t876) t864)))) else (ji.j0 k t867 t870 t871 t873 true t864))) else (ji.j0 k t867 t870 t871 t873 true t864)))=some r:=H
  have A4:=am A40
  clear A40
  have HC5:=am H
  clear H
  go_enter Try.func5,Try.ntmps5
  go_upto_region 5 with (first |((with_reducible refine jd (f:=18) rfl ?_);refine gL (some 15) Try.func18 #[.slice A0 l0.length c0] ?_;(with_reducible refine (jwa.calls k _ _ l0 t864 t867 t870 t871 _ ?side1 ?side2 A3.out).mono ?_);(case side1=>exact Y35);(case side2=>exact HC0.out);rintro e w6 ⟨v865,v868,rfl,ho0,ho1,hb⟩;refine ⟨_,rfl,?_⟩;have HO866:=am (Kd.jaa ho0 (jma (bq)));have HO869:=am (Kd.Q_lower ho1 (jma (bq)));replace HB:=am (je (bq) hb);(try clear hb);(try clear hb2);(try clear hk);(try clear hi);(try clear ho0);(try clear ho1)) |((with_reducible refine jJ (N:=3) rfl ?_);(try (refine joc (by rfl) ?_;dsimp only));refine jsc ?hg (N:=3) ?hd (cs:=#[.slice none 0 0]) (t:=25) ?hr ?_;(case hd=>rfl);(case hg=>rfl);(case hr=>exact Y5);intro gb872 hg w7 hbox hb;have BK872:=am (hbox);have GW872:=am ((Y3:w.heap.size≤gb872));have GE872:=am ((Y3:w.heap.size≤gb872));replace HO866:=am (Kd.jZ (rq HO866.out) hb);replace HO869:=am (Kd.jBb (Y45) hb);replace HB:=am (je (bq) hb);clear hb hbox hg;obtain ⟨Ao8,co8,eo8⟩:=Kd.jka HO866.out;subst eo8;have hcz9_0:=bc0 BK872.out;have hfz9_0:=ja BK872.out 0;obtain ⟨Ao10,co10,eo10,_⟩:=Kd.Q_slice HO869.out;subst eo10) |((with_reducible refine jd (f:=19) rfl ?_);refine gL (some 24) Try.func19 #[.agg #[.slice Ao8 t864.length co8], .slice Ao10 t867.length co10, .int .i64 t870, .int .i64 t871] ?_;(with_reducible refine (jYa.calls k _ _ t864 _ _ t867 t870 t871 t873 _ ?side1 ?side2 ?side3 ?side4 A4.out).mono ?_);(case side1=>refine (Kd.jy (e:=75) (base:=w.heap.size) (ok:=fun k_=>True) (n:=t864.length) (c:=co8) ?_).2.2;exact (Y132));(case side2=>exact (Kd.jy HO866.out).2.1);(case side3=>refine (Kd.jKa (e:=36) (base:=w.heap.size) (ok:=fun k_=>True) (n:=t867.length) (c:=co10) ?_).2.2;exact (Y133));(case side4=>exact (Kd.jKa HO869.out).2.1);rintro e w11 ⟨rfl,hb⟩;refine ⟨_,rfl,?_⟩;replace HO866:=am (Kd.jZ (Y132) hb);replace HO869:=am (Kd.jBb (Y133) hb);replace BK872:=am (jk (g:=gb872) (o:=.cells #[.slice Ao8 t864.length co8] 25 (0,0)) (by (with_reducible repeat (first | refine jr ?_ _ | refine jw ?_ | refine jA ?_ _));refine jab (cs:=#[.slice none 0 0]) ?_ 0 _ rfl;(with_reducible repeat (first | refine jr ?_ _ | refine jw ?_ | refine jA ?_ _));exact BK872.out) hb);replace HB:=am (je (Y13) hb);(try clear hb);(try clear hb2);(try clear hk);(try clear hi)))
  (try simp only [Act.put,List.setIfInBounds_toArray,List.set_cons_zero,List.set_cons_succ])
  go_cut [53] (fun v53 wc=>∃ (kq:Nat) (x53_4:Bool),v53=.bool x53_4∧jq (ji.j0 kq t867 t870 t871 t873 x53_4 t864=some r)∧jq (kq≤k)∧jq (Kd.Q k36 36 wc w.heap.size (fun _=>True) (.slice Ao10 t867.length co10) t867)∧jq (Kd.R k75 75 wc w.heap.size (fun _=>True) (.slice Ao8 t864.length co8) t864)∧jq (wc.heap[gb872]?=some (.cells #[(.slice Ao8 t864.length co8)] 25 (0,0)))∧jq (Below w.heap.size w wc))
  case first =>
   have H:=HC5.out
   clear HC5
   replace H:=bzS H
   obtain ⟨t874,A120,H⟩:=H
   replace H:(if t873=t874 then ((jC.f k t864 t867).bind fun t875=>(if t875=true then (if t870<0 then (ji.j0 k t867 t870 t871 t873 true t864) else (if t870≥(t867.length:Int) then (ji.j0 k t867 t870 t871 t873 true t864) else ((jmc.f t864 t871).bind fun t876=>(ji.j0 k t867 t870 t871 t873 (!t876) t864)))) else (ji.j0 k t867 t870 t871 t873 true t864))) else (ji.j0 k t867 t870 t871 t873 true t864))=some r:=H
   have A12:=am A120
   clear A120
   by_cases c13:t873=t874
   ·rw [if_pos c13] at H
    have c13b0:(t873 == t874)=true:=beq_iff_eq.mpr c13
    have c13b1:(t873 != t874)=false:=bne_eq_false_iff_eq.mpr c13
    clear c13
    (first | rw [c13b0] |(simp only [jkb,jmb];rw [c13b0]) | skip)
    replace H:=bzS H
    obtain ⟨t875,A140,H⟩:=H
    replace H:(if t875=true then (if t870<0 then (ji.j0 k t867 t870 t871 t873 true t864) else (if t870≥(t867.length:Int) then (ji.j0 k t867 t870 t871 t873 true t864) else ((jmc.f t864 t871).bind fun t876=>(ji.j0 k t867 t870 t871 t873 (!t876) t864)))) else (ji.j0 k t867 t870 t871 t873 true t864))=some r:=H
    have A14:=am A140
    clear A140
    by_cases c15:t875=true
    ·subst c15
     have H1:(if t870<0 then (ji.j0 k t867 t870 t871 t873 true t864) else (if t870≥(t867.length:Int) then (ji.j0 k t867 t870 t871 t873 true t864) else ((jmc.f t864 t871).bind fun t876=>(ji.j0 k t867 t870 t871 t873 (!t876) t864))))=some r:=by rw [if_pos rfl] at H;exact H
     clear H
     have H:=H1
     clear H1
     by_cases c16:t870<0
     ·rw [if_pos c16] at H
      have c16b0:decide (t870<0)=true:=dzT c16
      clear c16
      have H':=am H
      clear H
      have hcz17_0:=bc0 BK872.out
      have hfz17_0:=ja BK872.out 0
      go_wp2_with (first |((with_reducible refine jd (f:=20) rfl ?_);refine gL (some 30) Try.func20 #[.agg #[.slice Ao8 t864.length co8], .slice Ao10 t867.length co10, .int .i64 t870, .int .i64 t871] ?_;(with_reducible refine (jS.calls k _ _ t864 _ _ t867 t870 t871 t874 _ ?side1 ?side2 ?side3 ?side4 A12.out).mono ?_);(case side1=>exact cq (Kd.jy HO866.out).2.2);(case side2=>exact (Kd.jy HO866.out).2.1);(case side3=>exact cq (Kd.jKa HO869.out).2.2);(case side4=>exact (Kd.jKa HO869.out).2.1);rintro e w18 ⟨rfl,hb⟩;refine ⟨_,rfl,?_⟩;replace HO866:=am (Kd.jZ (rq HO866.out) hb);replace HO869:=am (Kd.jBb (Y45) hb);replace BK872:=am (jk (g:=gb872) (o:=.cells #[.slice Ao8 t864.length co8] 25 (0,0)) (kq BK872.out) hb);replace HB:=am (je (Y13) hb);(try clear hb);(try clear hb2);(try clear hk);(try clear hi);have hcz19_0:=bc0 BK872.out;have hfz19_0:=ja BK872.out 0) |(go_at_call 12;(with_reducible refine (jC.calls k _ _ t864 _ _ t867 true _ ?side1 ?side2 ?side3 ?side4 A14.out).mono ?_);(case side1=>exact cq (Kd.jy HO866.out).2.2);(case side2=>exact (Kd.jy HO866.out).2.1);(case side3=>exact cq (Kd.jKa HO869.out).2.2);(case side4=>exact (Kd.jKa HO869.out).2.1);rintro e w20 ⟨rfl,hb⟩;replace HO866:=am (Kd.jZ (rq HO866.out) hb);replace HO869:=am (Kd.jBb (Y45) hb);replace BK872:=am (jk (g:=gb872) (o:=.cells #[.slice Ao8 t864.length co8] 25 (0,0)) (kq BK872.out) hb);replace HB:=am (je (Y13) hb);(try clear hb);(try clear hb2);(try clear hk);(try clear hi)))
      go_meet
      case rel=>exact ⟨_,(true),(sq),H',⟨Y32⟩,⟨by (with_reducible repeat (first | apply Kd.jUb | apply Kd.jTb | apply Kd.jRb));exact HO869.out⟩,⟨rq HO866.out⟩,⟨kq BK872.out⟩,⟨Y13⟩⟩
     ·rw [if_neg c16] at H
      have c16b0:decide (t870<0)=false:=dzF c16
      clear c16
      by_cases c21:t870≥(t867.length:Int)
      ·rw [if_pos c21] at H
       have c21b0:decide ((t867.length:Int)≤t870)=true:=dzT c21
       clear c21
       have H':=am H
       clear H
       have hcz22_0:=bc0 BK872.out
       have hfz22_0:=ja BK872.out 0
       go_wp2_with (first |((with_reducible refine jd (f:=20) rfl ?_);refine gL (some 30) Try.func20 #[.agg #[.slice Ao8 t864.length co8], .slice Ao10 t867.length co10, .int .i64 t870, .int .i64 t871] ?_;(with_reducible refine (jS.calls k _ _ t864 _ _ t867 t870 t871 t874 _ ?side1 ?side2 ?side3 ?side4 A12.out).mono ?_);(case side1=>exact cq (Kd.jy HO866.out).2.2);(case side2=>exact (Kd.jy HO866.out).2.1);(case side3=>exact cq (Kd.jKa HO869.out).2.2);(case side4=>exact (Kd.jKa HO869.out).2.1);rintro e w23 ⟨rfl,hb⟩;refine ⟨_,rfl,?_⟩;replace HO866:=am (Kd.jZ (rq HO866.out) hb);replace HO869:=am (Kd.jBb (Y45) hb);replace BK872:=am (jk (g:=gb872) (o:=.cells #[.slice Ao8 t864.length co8] 25 (0,0)) (kq BK872.out) hb);replace HB:=am (je (Y13) hb);(try clear hb);(try clear hb2);(try clear hk);(try clear hi);have hcz24_0:=bc0 BK872.out;have hfz24_0:=ja BK872.out 0) |(go_at_call 12;(with_reducible refine (jC.calls k _ _ t864 _ _ t867 true _ ?side1 ?side2 ?side3 ?side4 A14.out).mono ?_);(case side1=>exact cq (Kd.jy HO866.out).2.2);(case side2=>exact (Kd.jy HO866.out).2.1);(case side3=>exact cq (Kd.jKa HO869.out).2.2);(case side4=>exact (Kd.jKa HO869.out).2.1);rintro e w25 ⟨rfl,hb⟩;replace HO866:=am (Kd.jZ (rq HO866.out) hb);replace HO869:=am (Kd.jBb (Y45) hb);replace BK872:=am (jk (g:=gb872) (o:=.cells #[.slice Ao8 t864.length co8] 25 (0,0)) (kq BK872.out) hb);replace HB:=am (je (Y13) hb);(try clear hb);(try clear hb2);(try clear hk);(try clear hi)))
       go_meet
       case rel=>exact ⟨_,(true),(sq),H',⟨Y32⟩,⟨by (with_reducible repeat (first | apply Kd.jUb | apply Kd.jTb | apply Kd.jRb));exact HO869.out⟩,⟨rq HO866.out⟩,⟨kq BK872.out⟩,⟨Y13⟩⟩
      ·rw [if_neg c21] at H
       have c21b0:decide ((t867.length:Int)≤t870)=false:=dzF c21
       clear c21
       replace H:=bzS H
       obtain ⟨t876,A260,H⟩:=H
       replace H:(ji.j0 k t867 t870 t871 t873 (!t876) t864)=some r:=H
       have A26:=am A260
       clear A260
       have H':=am H
       clear H
       have hcz27_0:=bc0 BK872.out
       have hfz27_0:=ja BK872.out 0
       go_wp2_with (first |((with_reducible refine jd (f:=20) rfl ?_);refine gL (some 30) Try.func20 #[.agg #[.slice Ao8 t864.length co8], .slice Ao10 t867.length co10, .int .i64 t870, .int .i64 t871] ?_;(with_reducible refine (jS.calls k _ _ t864 _ _ t867 t870 t871 t874 _ ?side1 ?side2 ?side3 ?side4 A12.out).mono ?_);(case side1=>exact cq (Kd.jy HO866.out).2.2);(case side2=>exact (Kd.jy HO866.out).2.1);(case side3=>exact cq (Kd.jKa HO869.out).2.2);(case side4=>exact (Kd.jKa HO869.out).2.1);rintro e w28 ⟨rfl,hb⟩;refine ⟨_,rfl,?_⟩;replace HO866:=am (Kd.jZ (rq HO866.out) hb);replace HO869:=am (Kd.jBb (Y45) hb);replace BK872:=am (jk (g:=gb872) (o:=.cells #[.slice Ao8 t864.length co8] 25 (0,0)) (kq BK872.out) hb);replace HB:=am (je (Y13) hb);(try clear hb);(try clear hb2);(try clear hk);(try clear hi);have hcz29_0:=bc0 BK872.out;have hfz29_0:=ja BK872.out 0) |(go_at_call 12;(with_reducible refine (jC.calls k _ _ t864 _ _ t867 true _ ?side1 ?side2 ?side3 ?side4 A14.out).mono ?_);(case side1=>exact cq (Kd.jy HO866.out).2.2);(case side2=>exact (Kd.jy HO866.out).2.1);(case side3=>exact cq (Kd.jKa HO869.out).2.2);(case side4=>exact (Kd.jKa HO869.out).2.1);rintro e w30 ⟨rfl,hb⟩;replace HO866:=am (Kd.jZ (rq HO866.out) hb);replace HO869:=am (Kd.jBb (Y45) hb);replace BK872:=am (jk (g:=gb872) (o:=.cells #[.slice Ao8 t864.length co8] 25 (0,0)) (kq BK872.out) hb);replace HB:=am (je (Y13) hb);(try clear hb);(try clear hb2);(try clear hk);(try clear hi);have hcz31_0:=bc0 BK872.out;have hfz31_0:=ja BK872.out 0) |(go_at_call 21;(with_reducible refine (jmc.calls _ _ t864 t871 t876 _ ?side1 ?side2 A26.out).mono ?_);(case side1=>exact cq (Kd.jy HO866.out).2.2);(case side2=>exact (Kd.jy HO866.out).2.1);rintro e w32 ⟨rfl,hb⟩;replace HO866:=am (Kd.jZ (rq HO866.out) hb);replace HO869:=am (Kd.jBb (Y45) hb);replace BK872:=am (jk (g:=gb872) (o:=.cells #[.slice Ao8 t864.length co8] 25 (0,0)) (kq BK872.out) hb);replace HB:=am (je (Y13) hb);(try clear hb);(try clear hb2);(try clear hk);(try clear hi)))
       go_meet
       case rel=>exact ⟨_,(!t876),(sq),H',⟨Y32⟩,⟨by (with_reducible repeat (first | apply Kd.jUb | apply Kd.jTb | apply Kd.jRb));exact HO869.out⟩,⟨rq HO866.out⟩,⟨kq BK872.out⟩,⟨Y13⟩⟩
    ·replace c15:=Bool.eq_false_iff.mpr c15
     subst c15
     have H1:(ji.j0 k t867 t870 t871 t873 true t864)=some r:=by rw [if_neg (show ¬ (false=true) by decide)] at H;exact H
     clear H
     have H:=H1
     clear H1
     have H':=am H
     clear H
     have hcz33_0:=bc0 BK872.out
     have hfz33_0:=ja BK872.out 0
     go_wp2_with (first |((with_reducible refine jd (f:=20) rfl ?_);refine gL (some 30) Try.func20 #[.agg #[.slice Ao8 t864.length co8], .slice Ao10 t867.length co10, .int .i64 t870, .int .i64 t871] ?_;(with_reducible refine (jS.calls k _ _ t864 _ _ t867 t870 t871 t874 _ ?side1 ?side2 ?side3 ?side4 A12.out).mono ?_);(case side1=>exact cq (Kd.jy HO866.out).2.2);(case side2=>exact (Kd.jy HO866.out).2.1);(case side3=>exact cq (Kd.jKa HO869.out).2.2);(case side4=>exact (Kd.jKa HO869.out).2.1);rintro e w34 ⟨rfl,hb⟩;refine ⟨_,rfl,?_⟩;replace HO866:=am (Kd.jZ (rq HO866.out) hb);replace HO869:=am (Kd.jBb (Y45) hb);replace BK872:=am (jk (g:=gb872) (o:=.cells #[.slice Ao8 t864.length co8] 25 (0,0)) (kq BK872.out) hb);replace HB:=am (je (Y13) hb);(try clear hb);(try clear hb2);(try clear hk);(try clear hi);have hcz35_0:=bc0 BK872.out;have hfz35_0:=ja BK872.out 0) |(go_at_call 12;(with_reducible refine (jC.calls k _ _ t864 _ _ t867 false _ ?side1 ?side2 ?side3 ?side4 A14.out).mono ?_);(case side1=>exact cq (Kd.jy HO866.out).2.2);(case side2=>exact (Kd.jy HO866.out).2.1);(case side3=>exact cq (Kd.jKa HO869.out).2.2);(case side4=>exact (Kd.jKa HO869.out).2.1);rintro e w36 ⟨rfl,hb⟩;replace HO866:=am (Kd.jZ (rq HO866.out) hb);replace HO869:=am (Kd.jBb (Y45) hb);replace BK872:=am (jk (g:=gb872) (o:=.cells #[.slice Ao8 t864.length co8] 25 (0,0)) (kq BK872.out) hb);replace HB:=am (je (Y13) hb);(try clear hb);(try clear hb2);(try clear hk);(try clear hi)))
     go_meet
     case rel=>exact ⟨_,(true),(sq),H',⟨Y32⟩,⟨by (with_reducible repeat (first | apply Kd.jUb | apply Kd.jTb | apply Kd.jRb));exact HO869.out⟩,⟨rq HO866.out⟩,⟨kq BK872.out⟩,⟨Y13⟩⟩
   ·rw [if_neg c13] at H
    have c13b0:(t873 == t874)=false:=beq_eq_false_iff_ne.mpr c13
    have c13b1:(t873 != t874)=true:=bne_iff_ne.mpr c13
    (first | rw [c13b0] |(simp only [jkb,jmb];rw [c13b0]) | skip)
    have H':=am H
    clear H
    have hcz37_0:=bc0 BK872.out
    have hfz37_0:=ja BK872.out 0
    go_wp2_with (first |((with_reducible refine jd (f:=20) rfl ?_);refine gL (some 30) Try.func20 #[.agg #[.slice Ao8 t864.length co8], .slice Ao10 t867.length co10, .int .i64 t870, .int .i64 t871] ?_;(with_reducible refine (jS.calls k _ _ t864 _ _ t867 t870 t871 t874 _ ?side1 ?side2 ?side3 ?side4 A12.out).mono ?_);(case side1=>exact cq (Kd.jy HO866.out).2.2);(case side2=>exact (Kd.jy HO866.out).2.1);(case side3=>exact cq (Kd.jKa HO869.out).2.2);(case side4=>exact (Kd.jKa HO869.out).2.1);rintro e w38 ⟨rfl,hb⟩;refine ⟨_,rfl,?_⟩;replace HO866:=am (Kd.jZ (rq HO866.out) hb);replace HO869:=am (Kd.jBb (Y45) hb);replace BK872:=am (jk (g:=gb872) (o:=.cells #[.slice Ao8 t864.length co8] 25 (0,0)) (kq BK872.out) hb);replace HB:=am (je (Y13) hb);(try clear hb);(try clear hb2);(try clear hk);(try clear hi)))
    go_meet
    case rel=>exact ⟨_,(true),(sq),H',⟨Y32⟩,⟨by (with_reducible repeat (first | apply Kd.jUb | apply Kd.jTb | apply Kd.jRb));exact HO869.out⟩,⟨rq HO866.out⟩,⟨kq BK872.out⟩,⟨Y13⟩⟩
  case rest =>
   clear HC5
   try clear c1
   try clear c2
   try clear c2b0
   try clear c2b1
   try clear p2
   try clear c5
   try clear c13
   try clear c13b0
   try clear c13b1
   try clear c15
   try clear c16
   try clear c16b0
   try clear c18
   try clear c19
   try clear c20
   try clear c21
   try clear c21b0
   try clear hcz17_0
   try clear hcz19_0
   try clear hcz22_0
   try clear hcz24_0
   try clear hcz27_0
   try clear hcz29_0
   try clear hcz31_0
   try clear hcz33_0
   try clear hcz35_0
   try clear hcz37_0
   try clear hcz9_0
   try clear hfz17_0
   try clear hfz19_0
   try clear hfz22_0
   try clear hfz24_0
   try clear hfz27_0
   try clear hfz29_0
   try clear hfz31_0
   try clear hfz33_0
   try clear hfz35_0
   try clear hfz37_0
   try clear hfz9_0
   obtain ⟨kq,x53_4,rfl,HA,HJ4,HO_4,HO_873000,BK872,HB⟩:=hcut
   cases kq with
   | zero=>exact absurd HA.out (by simp [ji.j0])
   | succ kj4 =>
    have H:=HA.out
    clear HA
    simp only [ji.j0] at H
    by_cases c39:x53_4=true
    ·subst c39
     have H1:((jS.f kj4 t864 t867 t870 t871).bind fun t877=>(some (t873 == t877)))=some r:=by rw [if_pos rfl] at H;exact H
     clear H
     have H:=H1
     clear H1
     replace H:=bzS H
     obtain ⟨t877,A400,H⟩:=H
     replace H:(some (t873 == t877))=some r:=H
     have A40:=am A400
     clear A400
     obtain rfl:=Option.some.inj H
     have hcz41_0:=bc0 BK872.out
     have hfz41_0:=ja BK872.out 0
     go_wp2_with (first |((with_reducible refine jd (f:=20) rfl ?_);refine gL (some 59) Try.func20 #[.agg #[.slice Ao8 t864.length co8], .slice Ao10 t867.length co10, .int .i64 t870, .int .i64 t871] ?_;(with_reducible refine (jS.calls kj4 _ _ t864 _ _ t867 t870 t871 t877 _ ?side1 ?side2 ?side3 ?side4 A40.out).mono ?_);(case side1=>exact cq (Kd.jy HO_873000.out).2.2);(case side2=>exact (Kd.jy HO_873000.out).2.1);(case side3=>exact cq (Kd.jKa HO_4.out).2.2);(case side4=>exact (Kd.jKa HO_4.out).2.1);rintro e w42 ⟨rfl,hb⟩;refine ⟨_,rfl,?_⟩;replace HO_4:=am (Kd.jBb (Y68) hb);replace HO_873000:=am (Kd.jZ (rq HO_873000.out) hb);replace BK872:=am (jk (g:=gb872) (o:=.cells #[.slice Ao8 t864.length co8] 25 (0,0)) (kq BK872.out) hb);replace HB:=am (je (Y13) hb);(try clear hb);(try clear hb2);(try clear hk);(try clear hi)))
     go_ret
     exact ⟨Y0,Y13⟩
    ·replace c39:=Bool.eq_false_iff.mpr c39
     subst c39
     have H1:(if t873<0 then ((jYa.f kj4 t864 t867 t870 0).bind fun t878=>(some (decide (t878<0)))) else ((jec.f kj4 t864 t871).bind fun t879=>(ji.l0 kj4 t867 t870 t871 t873 t879 0 t864)))=some r:=by rw [if_neg (show ¬ (false=true) by decide)] at H;exact H
     clear H
     have H:=H1
     clear H1
     by_cases c43:t873<0
     ·rw [if_pos c43] at H
      have c43b0:decide (t873<0)=true:=dzT c43
      clear c43
      replace H:=bzS H
      obtain ⟨t878,A440,H⟩:=H
      replace H:(some (decide (t878<0)))=some r:=H
      have A44:=am A440
      clear A440
      obtain rfl:=Option.some.inj H
      have hcz45_0:=bc0 BK872.out
      have hfz45_0:=ja BK872.out 0
      go_wp2_with (first |((with_reducible refine jd (f:=19) rfl ?_);refine gL (some 66) Try.func19 #[.agg #[.slice Ao8 t864.length co8], .slice Ao10 t867.length co10, .int .i64 t870, .int .i64 0] ?_;(with_reducible refine (jYa.calls kj4 _ _ t864 _ _ t867 t870 0 t878 _ ?side1 ?side2 ?side3 ?side4 A44.out).mono ?_);(case side1=>exact cq (Kd.jy HO_873000.out).2.2);(case side2=>exact (Kd.jy HO_873000.out).2.1);(case side3=>exact cq (Kd.jKa HO_4.out).2.2);(case side4=>exact (Kd.jKa HO_4.out).2.1);rintro e w46 ⟨rfl,hb⟩;refine ⟨_,rfl,?_⟩;replace HO_4:=am (Kd.jBb (Y68) hb);replace HO_873000:=am (Kd.jZ (rq HO_873000.out) hb);replace BK872:=am (jk (g:=gb872) (o:=.cells #[.slice Ao8 t864.length co8] 25 (0,0)) (kq BK872.out) hb);replace HB:=am (je (Y13) hb);(try clear hb);(try clear hb2);(try clear hk);(try clear hi)))
      go_ret
      exact ⟨Y0,Y13⟩
     ·rw [if_neg c43] at H
      have c43b0:decide (t873<0)=false:=dzF c43
      clear c43
      replace H:=bzS H
      obtain ⟨t879,A470,H⟩:=H
      replace H:(ji.l0 kj4 t867 t870 t871 t873 t879 0 t864)=some r:=H
      have A47:=am A470
      clear A470
      have H':=am H
      clear H
      have hcz48_0:=bc0 BK872.out
      have hfz48_0:=ja BK872.out 0
      go_wp2_with (first |((with_reducible refine jd (f:=22) rfl ?_);refine gL (some 70) Try.func22 #[.agg #[.slice Ao8 t864.length co8], .int .i64 t871] ?_;(with_reducible refine (jec.calls kj4 _ _ t864 t871 t879 _ ?side1 ?side2 A47.out).mono ?_);(case side1=>exact cq (Kd.jy HO_873000.out).2.2);(case side2=>exact (Kd.jy HO_873000.out).2.1);rintro e w49 ⟨v880,rfl,ho0,hb⟩;refine ⟨_,rfl,?_⟩;have HO881:=am (Kd.jaa ho0 (jma (Y13)));replace HO_4:=am (Kd.jBb (Y68) hb);replace HO_873000:=am (Kd.jZ (rq HO_873000.out) hb);replace BK872:=am (jk (g:=gb872) (o:=.cells #[.slice Ao8 t864.length co8] 25 (0,0)) (kq BK872.out) hb);replace HB:=am (je (Y13) hb);(try clear hb);(try clear hb2);(try clear hk);(try clear hi);(try clear ho0)))
      go_loopg [9] kj4 (fun kq v9 w'=>∃ (x9_2:Int),v9=.int .i64 x9_2∧jq (ji.l0 kq t867 t870 t871 t873 t879 x9_2 t864=some r)∧jq (kq≤kj4)∧jq (Kd.Q k36 36 w' w.heap.size (fun _=>True) (.slice Ao10 t867.length co10) t867)∧jq (Kd.R (Kd.int .i64) 3 w' w.heap.size (fun _=>True) v880 t879)∧jq (Kd.R k75 75 w' w.heap.size (fun _=>True) (.slice Ao8 t864.length co8) t864)∧jq (w'.heap[gb872]?=some (.cells #[(.slice Ao8 t864.length co8)] 25 (0,0)))∧jq (Below w.heap.size w w'))
      case atStart=>exact ⟨(0),(sq),H',⟨Nat.le_refl _⟩,⟨by (with_reducible repeat (first | apply Kd.jUb | apply Kd.jTb | apply Kd.jRb));exact HO_4.out⟩,⟨rq HO881.out⟩,⟨rq HO_873000.out⟩,⟨kq BK872.out⟩,⟨Y13⟩⟩
      case round =>
       clear H'
       try clear c1
       try clear c2
       try clear c2b0
       try clear c2b1
       try clear p2
       try clear c3
       try clear c4
       try clear c5
       try clear c13
       try clear c13b0
       try clear c13b1
       try clear c15
       try clear c16
       try clear c16b0
       try clear c18
       try clear c19
       try clear c20
       try clear c21
       try clear c21b0
       try clear c22
       try clear c39
       try clear c43
       try clear c43b0
       try clear hcz17_0
       try clear hcz19_0
       try clear hcz22_0
       try clear hcz24_0
       try clear hcz27_0
       try clear hcz29_0
       try clear hcz31_0
       try clear hcz33_0
       try clear hcz35_0
       try clear hcz37_0
       try clear hcz41_0
       try clear hcz45_0
       try clear hcz48_0
       try clear hcz9_0
       try clear hfz17_0
       try clear hfz19_0
       try clear hfz22_0
       try clear hfz24_0
       try clear hfz27_0
       try clear hfz29_0
       try clear hfz31_0
       try clear hfz33_0
       try clear hfz35_0
       try clear hfz37_0
       try clear hfz41_0
       try clear hfz45_0
       try clear hfz48_0
       try clear hfz9_0
       try clear p2
       obtain ⟨x9_2,rfl,HA,HK2,HO_4,HO_8,HO_873000,BK872,HB⟩:=hrel
       cases gk with
       | zero=>exact absurd HA.out (by simp [ji.l0])
       | succ k2 =>
        have H:=HA.out
        clear HA
        simp only [ji.l0] at H
        by_cases c50:x9_2<(t879.length:Int)
        ·rw [if_pos c50] at H
         have c50b0:decide (x9_2<(t879.length:Int))=true:=dzT c50
         clear c50
         by_cases c51:0≤x9_2
         ·rw [if_pos c51] at H
          have c51b0:decide (0≤x9_2)=true:=dzT c51
          clear c51
          replace H:=bzS H
          obtain ⟨t894,A520,H⟩:=H
          replace H:(if t894<0 then (some false) else (ji.l0 k2 t867 t870 t871 t873 t879 (wrap64 (x9_2+1)) t864))=some r:=H
          have A52:=am A520
          clear A520
          by_cases c53:t894<0
          ·rw [if_pos c53] at H
           have c53b0:decide (t894<0)=true:=dzT c53
           clear c53
           exact absurd ((Option.some.inj H).trans hT) Bool.false_ne_true
          ·rw [if_neg c53] at H
           have c53b0:decide (t894<0)=false:=dzF c53
           clear c53
           have H':=am H
           clear H
           obtain ⟨Ao54,co54,eo54⟩:=Kd.jka HO_8.out
           subst eo54
           try go_wp2
           replace HO_4:=am (Kd.jRb HO_4.out)
           replace HO_8:=am (Kd.jea HO_8.out)
           replace HO_873000:=am (Kd.jea HO_873000.out)
           replace BK872:=am (jw BK872.out)
           replace HB:=am (jE HB.out)
           have p893:0≤(x9_2:Int):=ozD (uq)
           have q893:x9_2<(t879.length:Int):=ozD (uq)
           obtain ⟨ad893,e893,hx893_0⟩:=Kd.jtb (Kd.jy HO_8.out).2.2 x9_2 p893 q893
           cases e893
           replace p893:=ezT p893
           replace q893:=ezT q893
           refine jlc (n:=9) (S:=fun w'=>w'.cell? ⟨gb872,0,none⟩=some (.slice Ao8 t864.length co8)∧w'.cell? (ad893.add (x9_2).toNat)=some (.int .i64 (rd t879 x9_2))) (ds:=[]) #[false,false,false,false,false,false,false,false,false] (by kernel_rfl) rfl rfl ⟨(jF BK872.out 0).trans rfl,hx893_0⟩ (fun hHeld=>?_);refine jqb ji.tab13 ji.bits13 (fun HT_ HW_=>?_)
           generalize wr.drew=w55 at HO_4 HO_8 HO_873000 BK872 HB hx893_0 hHeld ⊢
           refine pq (i:=1) (N:=some 78) #[false,true,false,false,false,false,false,false,false] ?_
           refine pq (i:=2) (N:=some 79) #[false,true,true,false,false,false,false,false,false] ?_
           refine pq (i:=3) (N:=some 80) #[false,true,true,true,false,false,false,false,false] ?_
           refine pq (i:=4) (N:=some 81) #[false,true,true,true,true,false,false,false,false] ?_
           refine pq (i:=5) (N:=some 82) #[false,true,true,true,true,true,false,false,false] ?_
           refine jwb (i:=0) (N:=some 77) (v:=?_) (a':=?_) #[true,true,true,true,true,true,false,false,false] rfl rfl (jua HT_.out HW_.out (by kernel_rfl)) (fun _ _ _ h=>h) (Or.inl ⟨by rfl,?_⟩) hHeld ?_ ?_
           rotate_left
           ·rintro w' ⟨s0,s1⟩
            go_simp
            with_reducible rfl
           rotate_left
           ·exact sa
           refine jwb (i:=6) (N:=some 83) (v:=?_) (a':=?_) #[true,true,true,true,true,true,true,false,false] rfl rfl (jua HT_.out HW_.out (by kernel_rfl)) (fun _ _ _ h=>h) (Or.inl ⟨by rfl,?_⟩) hHeld ?_ ?_
           rotate_left
           ·rintro w' ⟨s0,s1⟩
            go_simp
            with_reducible rfl
           rotate_left
           ·exact sa
           refine one_ (i:=7) (N:=some 84) #[true,true,true,true,true,true,true,true,false] rfl rfl (jyb HT_.out (by kernel_rfl)) (by decide) (fun K hK=>?_)
           refine jPc Try.func19 (by kernel_rfl) rfl #[.agg #[.slice Ao8 t864.length co8], .slice Ao10 t867.length co10, .int .i64 t870, .int .i64 (rd t879 x9_2)] (by rfl) rfl rfl (aq) ?_
           with_reducible refine (jYa.calls k2 _ _ t864 _ _ t867 t870 (rd t879 x9_2) t894 _ ?side1 ?side2 ?side3 ?side4 A52.out).mono ?_
           (case side1=>exact cq (Kd.jy HO_873000.out).2.2)
           (case side2=>exact (Kd.jy HO_873000.out).2.1)
           (case side3=>exact cq (Kd.jKa HO_4.out).2.2)
           (case side4=>exact (Kd.jKa HO_4.out).2.1)
           rintro e w56 ⟨rfl,hb⟩
           have HS1_:=(hb.cell (World.block_lt_of_cell? _ _ (hHeld.2))).trans (hHeld.2)
           refine ⟨_,rfl,?_⟩
           replace HO_4:=am (Kd.jBb (Y68) hb)
           replace HO_8:=am (Kd.jZ (rq HO_8.out) hb)
           replace HO_873000:=am (Kd.jZ (rq HO_873000.out) hb)
           replace BK872:=am (jk (g:=gb872) (o:=.cells #[.slice Ao8 t864.length co8] 25 (0,0)) (kq BK872.out) hb)
           replace HB:=am (je (Y13) hb)
           (try clear hb)
           (try clear hb2)
           (try clear hk)
           (try clear hi)
           refine hK.out _ _ ⟨(jF BK872.out 0).trans rfl,HS1_⟩ (fun hHeld=>?_)
           clear hK K
           refine jWb (a':=?_) ?_ ?_
           rotate_left
           ·show Act.put _ (some 84) _=_
            simp only [Act.put,List.setIfInBounds_toArray,List.set_cons_zero,List.set_cons_succ,jkb,jmb]
            rfl
           refine pq (i:=8) (N:=some 85) #[true,true,true,true,true,true,true,true,true] ?_
           refine jQc (jPb HT_.out (by kernel_rfl)) ?_
           try go_wp2
           go_roundg k2
           case measure=>have:=HJ4.out;have:=HK2.out;omega
           case rel=>exact ⟨(wrap64 (x9_2+1)),(sq),H',⟨by have:=HJ4.out;have:=HK2.out;omega⟩,⟨by (with_reducible repeat (first | apply Kd.jUb | apply Kd.jTb | apply Kd.jRb));exact HO_4.out⟩,⟨rq HO_8.out⟩,⟨rq HO_873000.out⟩,⟨kq BK872.out⟩,⟨Y13⟩⟩
         ·rw [if_neg c51] at H
          exact absurd H (by simp)
        ·rw [if_neg c50] at H
         have c50b0:decide (x9_2<(t879.length:Int))=false:=dzF c50
         clear c50
         by_cases c57:0≤t873
         ·rw [if_pos c57] at H
          have c57b0:decide (0≤t873)=true:=dzT c57
          clear c57
          by_cases c58:t873<(t867.length:Int)
          ·rw [if_pos c58] at H
           have c58b0:decide (t873<(t867.length:Int))=true:=dzT c58
           clear c58
           by_cases c59:((jc t867 t873).f1)=11
           ·rw [if_pos c59] at H
            have c59b0:(((jc t867 t873).f1) == 11)=true:=beq_iff_eq.mpr c59
            have c59b1:(((jc t867 t873).f1) != 11)=false:=bne_eq_false_iff_eq.mpr c59
            clear c59
            by_cases c60:((jc t867 t873).f3)=1
            ·rw [if_pos c60] at H
             have c60b0:(((jc t867 t873).f3) == 1)=true:=beq_iff_eq.mpr c60
             have c60b1:(((jc t867 t873).f3) != 1)=false:=bne_eq_false_iff_eq.mpr c60
             clear c60
             by_cases c61:t873<t870
             ·rw [if_pos c61] at H
              have c61b0:decide (t873<t870)=true:=dzT c61
              clear c61
              obtain rfl:=Option.some.inj H
              obtain ⟨Ao62,co62,eo62⟩:=Kd.jka HO_8.out
              subst eo62
              try go_wp2
              replace HO_4:=am (Kd.jRb HO_4.out)
              replace HO_8:=am (Kd.jea HO_8.out)
              replace HO_873000:=am (Kd.jea HO_873000.out)
              replace BK872:=am (jw BK872.out)
              replace HB:=am (jE HB.out)
              have p882:0≤(t873:Int):=ozD (uq)
              have q882:t873<(t867.length:Int):=ozD (uq)
              obtain ⟨ad882,e882,hx882_0,hx882_1,hx882_2,hx882_3⟩:=jna (Kd.jKa HO_4.out).2.2 t873 p882 q882
              cases e882
              replace p882:=ezT p882
              replace q882:=ezT q882
              have p883:0≤(t873:Int):=ozD (uq)
              have q883:t873<(t867.length:Int):=ozD (uq)
              obtain ⟨ad883,e883,hx883_0,hx883_1,hx883_2,hx883_3⟩:=jna (Kd.jKa HO_4.out).2.2 t873 p883 q883
              obtain rfl:ad882=ad883:=(by injection e883)
              replace p883:=ezT p883
              replace q883:=ezT q883
              refine jlc (n:=38) (S:=fun w'=>w'.cell? (ad882.add ((t873).toNat * 4))=some (.int .i64 ((jc t867 t873).f0))∧w'.cell? ⟨(ad882.add ((t873).toNat * 4)).block,(ad882.add ((t873).toNat * 4)).off+1,none⟩=some (.int .i64 ((jc t867 t873).f1))∧w'.cell? ⟨(ad882.add ((t873).toNat * 4)).block,(ad882.add ((t873).toNat * 4)).off+2,none⟩=some (.int .i64 ((jc t867 t873).f2))∧w'.cell? ⟨(ad882.add ((t873).toNat * 4)).block,(ad882.add ((t873).toNat * 4)).off+3,none⟩=some (.int .i64 ((jc t867 t873).f3))∧w'.cell? (ad882.add ((t873).toNat * 4))=some (.int .i64 ((jc t867 t873).f0))∧w'.cell? ⟨(ad882.add ((t873).toNat * 4)).block,(ad882.add ((t873).toNat * 4)).off+1,none⟩=some (.int .i64 ((jc t867 t873).f1))∧w'.cell? ⟨(ad882.add ((t873).toNat * 4)).block,(ad882.add ((t873).toNat * 4)).off+2,none⟩=some (.int .i64 ((jc t867 t873).f2))∧w'.cell? ⟨(ad882.add ((t873).toNat * 4)).block,(ad882.add ((t873).toNat * 4)).off+3,none⟩=some (.int .i64 ((jc t867 t873).f3))) (ds:=[]) #[false,false,false,false,false,false,false,false,false,false,false,false,false,false,false,false,false,false,false,false,false,false,false,false,false,false,false,false,false,false,false,false,false,false,false,false,false,false] (by kernel_rfl) rfl rfl ⟨hx882_0,hx882_1,hx882_2,hx882_3,hx883_0,hx883_1,hx883_2,hx883_3⟩ (fun hHeld=>?_);refine jqb ji.tab15 ji.bits15 (fun HT_ HW_=>?_)
              generalize wr.drew=w63 at HO_4 HO_8 HO_873000 BK872 HB hx882_0 hx882_1 hx882_2 hx882_3 hx883_0 hx883_1 hx883_2 hx883_3 hHeld ⊢
              refine pq (i:=0) (N:=some 86) #[true,false,false,false,false,false,false,false,false,false,false,false,false,false,false,false,false,false,false,false,false,false,false,false,false,false,false,false,false,false,false,false,false,false,false,false,false,false] ?_
              refine pq (i:=1) (N:=some 87) #[true,true,false,false,false,false,false,false,false,false,false,false,false,false,false,false,false,false,false,false,false,false,false,false,false,false,false,false,false,false,false,false,false,false,false,false,false,false] ?_
              refine pq (i:=2) (N:=some 88) #[true,true,true,false,false,false,false,false,false,false,false,false,false,false,false,false,false,false,false,false,false,false,false,false,false,false,false,false,false,false,false,false,false,false,false,false,false,false] ?_
              refine pq (i:=3) (N:=some 89) #[true,true,true,true,false,false,false,false,false,false,false,false,false,false,false,false,false,false,false,false,false,false,false,false,false,false,false,false,false,false,false,false,false,false,false,false,false,false] ?_
              refine jwb (i:=4) (N:=some 90) (v:=?_) (a':=?_) #[true,true,true,true,true,false,false,false,false,false,false,false,false,false,false,false,false,false,false,false,false,false,false,false,false,false,false,false,false,false,false,false,false,false,false,false,false,false] rfl rfl (jua HT_.out HW_.out (by kernel_rfl)) (fun _ _ _ h=>h) (Or.inl ⟨by rfl,?_⟩) hHeld ?_ ?_
              rotate_left
              ·rintro w' ⟨s0,s1,s2,s3,s4,s5,s6,s7⟩
               go_simp
               with_reducible rfl
              rotate_left
              ·exact sa
              refine pq (i:=5) (N:=some 91) #[true,true,true,true,true,true,false,false,false,false,false,false,false,false,false,false,false,false,false,false,false,false,false,false,false,false,false,false,false,false,false,false,false,false,false,false,false,false] ?_
              refine pq (i:=6) (N:=some 92) #[true,true,true,true,true,true,true,false,false,false,false,false,false,false,false,false,false,false,false,false,false,false,false,false,false,false,false,false,false,false,false,false,false,false,false,false,false,false] ?_
              refine pq (i:=7) (N:=some 93) #[true,true,true,true,true,true,true,true,false,false,false,false,false,false,false,false,false,false,false,false,false,false,false,false,false,false,false,false,false,false,false,false,false,false,false,false,false,false] ?_
              refine pq (i:=8) (N:=some 94) #[true,true,true,true,true,true,true,true,true,false,false,false,false,false,false,false,false,false,false,false,false,false,false,false,false,false,false,false,false,false,false,false,false,false,false,false,false,false] ?_
              refine pq (i:=9) (N:=some 95) #[true,true,true,true,true,true,true,true,true,true,false,false,false,false,false,false,false,false,false,false,false,false,false,false,false,false,false,false,false,false,false,false,false,false,false,false,false,false] ?_
              refine pq (i:=10) (N:=some 96) #[true,true,true,true,true,true,true,true,true,true,true,false,false,false,false,false,false,false,false,false,false,false,false,false,false,false,false,false,false,false,false,false,false,false,false,false,false,false] ?_
              refine jwb (i:=11) (N:=some 97) (v:=?_) (a':=?_) #[true,true,true,true,true,true,true,true,true,true,true,true,false,false,false,false,false,false,false,false,false,false,false,false,false,false,false,false,false,false,false,false,false,false,false,false,false,false] rfl rfl (jua HT_.out HW_.out (by kernel_rfl)) (fun _ _ _ h=>h) (Or.inl ⟨by rfl,?_⟩) hHeld ?_ ?_
              rotate_left
              ·rintro w' ⟨s0,s1,s2,s3,s4,s5,s6,s7⟩
               go_simp
               with_reducible rfl
              rotate_left
              ·exact sa
              refine pq (i:=12) (N:=some 98) #[true,true,true,true,true,true,true,true,true,true,true,true,true,false,false,false,false,false,false,false,false,false,false,false,false,false,false,false,false,false,false,false,false,false,false,false,false,false] ?_
              refine pq (i:=13) (N:=some 99) #[true,true,true,true,true,true,true,true,true,true,true,true,true,true,false,false,false,false,false,false,false,false,false,false,false,false,false,false,false,false,false,false,false,false,false,false,false,false] ?_
              refine pq (i:=14) (N:=some 100) #[true,true,true,true,true,true,true,true,true,true,true,true,true,true,true,false,false,false,false,false,false,false,false,false,false,false,false,false,false,false,false,false,false,false,false,false,false,false] ?_
              refine pq (i:=15) (N:=some 101) #[true,true,true,true,true,true,true,true,true,true,true,true,true,true,true,true,false,false,false,false,false,false,false,false,false,false,false,false,false,false,false,false,false,false,false,false,false,false] ?_
              refine pq (i:=16) (N:=some 102) #[true,true,true,true,true,true,true,true,true,true,true,true,true,true,true,true,true,false,false,false,false,false,false,false,false,false,false,false,false,false,false,false,false,false,false,false,false,false] ?_
              refine pq (i:=17) (N:=some 103) #[true,true,true,true,true,true,true,true,true,true,true,true,true,true,true,true,true,true,false,false,false,false,false,false,false,false,false,false,false,false,false,false,false,false,false,false,false,false] ?_
              refine pq (i:=18) (N:=some 104) #[true,true,true,true,true,true,true,true,true,true,true,true,true,true,true,true,true,true,true,false,false,false,false,false,false,false,false,false,false,false,false,false,false,false,false,false,false,false] ?_
              refine pq (i:=19) (N:=some 105) #[true,true,true,true,true,true,true,true,true,true,true,true,true,true,true,true,true,true,true,true,false,false,false,false,false,false,false,false,false,false,false,false,false,false,false,false,false,false] ?_
              refine jLb (i:=20) (N:=some 106) (v:=undef) (a':=?_) #[true,true,true,true,true,true,true,true,true,true,true,true,true,true,true,true,true,true,true,true,true,false,false,false,false,false,false,false,false,false,false,false,false,false,false,false,false,false] rfl rfl (jhb HT_.out (by kernel_rfl)) (fun _ _ _ h=>h) (Or.inr ⟨by rfl,rfl⟩) ?_ ?_
              rotate_left
              ·exact sa
              refine jLb (i:=21) (N:=some 107) (v:=undef) (a':=?_) #[true,true,true,true,true,true,true,true,true,true,true,true,true,true,true,true,true,true,true,true,true,true,false,false,false,false,false,false,false,false,false,false,false,false,false,false,false,false] rfl rfl (jhb HT_.out (by kernel_rfl)) (fun _ _ _ h=>h) (Or.inr ⟨by rfl,rfl⟩) ?_ ?_
              rotate_left
              ·exact sa
              refine jLb (i:=22) (N:=some 108) (v:=undef) (a':=?_) #[true,true,true,true,true,true,true,true,true,true,true,true,true,true,true,true,true,true,true,true,true,true,true,false,false,false,false,false,false,false,false,false,false,false,false,false,false,false] rfl rfl (jhb HT_.out (by kernel_rfl)) (fun _ _ _ h=>h) (Or.inr ⟨by rfl,rfl⟩) ?_ ?_
              rotate_left
              ·exact sa
              refine jLb (i:=23) (N:=some 109) (v:=undef) (a':=?_) #[true,true,true,true,true,true,true,true,true,true,true,true,true,true,true,true,true,true,true,true,true,true,true,true,false,false,false,false,false,false,false,false,false,false,false,false,false,false] rfl rfl (jhb HT_.out (by kernel_rfl)) (fun _ _ _ h=>h) (Or.inr ⟨by rfl,rfl⟩) ?_ ?_
              rotate_left
              ·exact sa
              refine jLb (i:=24) (N:=some 110) (v:=undef) (a':=?_) #[true,true,true,true,true,true,true,true,true,true,true,true,true,true,true,true,true,true,true,true,true,true,true,true,true,false,false,false,false,false,false,false,false,false,false,false,false,false] rfl rfl (jhb HT_.out (by kernel_rfl)) (fun _ _ _ h=>h) (Or.inr ⟨by rfl,rfl⟩) ?_ ?_
              rotate_left
              ·exact sa
              refine jLb (i:=25) (N:=some 111) (v:=undef) (a':=?_) #[true,true,true,true,true,true,true,true,true,true,true,true,true,true,true,true,true,true,true,true,true,true,true,true,true,true,false,false,false,false,false,false,false,false,false,false,false,false] rfl rfl (jhb HT_.out (by kernel_rfl)) (fun _ _ _ h=>h) (Or.inr ⟨by rfl,rfl⟩) ?_ ?_
              rotate_left
              ·exact sa
              refine jLb (i:=26) (N:=some 112) (v:=undef) (a':=?_) #[true,true,true,true,true,true,true,true,true,true,true,true,true,true,true,true,true,true,true,true,true,true,true,true,true,true,true,false,false,false,false,false,false,false,false,false,false,false] rfl rfl (jhb HT_.out (by kernel_rfl)) (fun _ _ _ h=>h) (Or.inr ⟨by rfl,rfl⟩) ?_ ?_
              rotate_left
              ·exact sa
              refine jLb (i:=27) (N:=some 113) (v:=undef) (a':=?_) #[true,true,true,true,true,true,true,true,true,true,true,true,true,true,true,true,true,true,true,true,true,true,true,true,true,true,true,true,false,false,false,false,false,false,false,false,false,false] rfl rfl (jhb HT_.out (by kernel_rfl)) (fun _ _ _ h=>h) (Or.inr ⟨by rfl,rfl⟩) ?_ ?_
              rotate_left
              ·exact sa
              refine jLb (i:=28) (N:=some 114) (v:=undef) (a':=?_) #[true,true,true,true,true,true,true,true,true,true,true,true,true,true,true,true,true,true,true,true,true,true,true,true,true,true,true,true,true,false,false,false,false,false,false,false,false,false] rfl rfl (jhb HT_.out (by kernel_rfl)) (fun _ _ _ h=>h) (Or.inr ⟨by rfl,rfl⟩) ?_ ?_
              rotate_left
              ·exact sa
              refine jLb (i:=29) (N:=some 115) (v:=undef) (a':=?_) #[true,true,true,true,true,true,true,true,true,true,true,true,true,true,true,true,true,true,true,true,true,true,true,true,true,true,true,true,true,true,false,false,false,false,false,false,false,false] rfl rfl (jhb HT_.out (by kernel_rfl)) (fun _ _ _ h=>h) (Or.inr ⟨by rfl,rfl⟩) ?_ ?_
              rotate_left
              ·exact sa
              refine jLb (i:=30) (N:=some 116) (v:=undef) (a':=?_) #[true,true,true,true,true,true,true,true,true,true,true,true,true,true,true,true,true,true,true,true,true,true,true,true,true,true,true,true,true,true,true,false,false,false,false,false,false,false] rfl rfl (jhb HT_.out (by kernel_rfl)) (fun _ _ _ h=>h) (Or.inr ⟨by rfl,rfl⟩) ?_ ?_
              rotate_left
              ·exact sa
              refine jLb (i:=31) (N:=some 117) (v:=undef) (a':=?_) #[true,true,true,true,true,true,true,true,true,true,true,true,true,true,true,true,true,true,true,true,true,true,true,true,true,true,true,true,true,true,true,true,false,false,false,false,false,false] rfl rfl (jhb HT_.out (by kernel_rfl)) (fun _ _ _ h=>h) (Or.inr ⟨by rfl,rfl⟩) ?_ ?_
              rotate_left
              ·exact sa
              refine jLb (i:=32) (N:=some 118) (v:=undef) (a':=?_) #[true,true,true,true,true,true,true,true,true,true,true,true,true,true,true,true,true,true,true,true,true,true,true,true,true,true,true,true,true,true,true,true,true,false,false,false,false,false] rfl rfl (jhb HT_.out (by kernel_rfl)) (fun _ _ _ h=>h) (Or.inr ⟨by rfl,rfl⟩) ?_ ?_
              rotate_left
              ·exact sa
              refine jLb (i:=33) (N:=some 119) (v:=undef) (a':=?_) #[true,true,true,true,true,true,true,true,true,true,true,true,true,true,true,true,true,true,true,true,true,true,true,true,true,true,true,true,true,true,true,true,true,true,false,false,false,false] rfl rfl (jhb HT_.out (by kernel_rfl)) (fun _ _ _ h=>h) (Or.inr ⟨by rfl,rfl⟩) ?_ ?_
              rotate_left
              ·exact sa
              refine jLb (i:=34) (N:=some 120) (v:=undef) (a':=?_) #[true,true,true,true,true,true,true,true,true,true,true,true,true,true,true,true,true,true,true,true,true,true,true,true,true,true,true,true,true,true,true,true,true,true,true,false,false,false] rfl rfl (jhb HT_.out (by kernel_rfl)) (fun _ _ _ h=>h) (Or.inr ⟨by rfl,rfl⟩) ?_ ?_
              rotate_left
              ·exact sa
              refine jLb (i:=35) (N:=some 121) (v:=undef) (a':=?_) #[true,true,true,true,true,true,true,true,true,true,true,true,true,true,true,true,true,true,true,true,true,true,true,true,true,true,true,true,true,true,true,true,true,true,true,true,false,false] rfl rfl (jhb HT_.out (by kernel_rfl)) (fun _ _ _ h=>h) (Or.inr ⟨by rfl,rfl⟩) ?_ ?_
              rotate_left
              ·exact sa
              refine pq (i:=36) (N:=some 122) #[true,true,true,true,true,true,true,true,true,true,true,true,true,true,true,true,true,true,true,true,true,true,true,true,true,true,true,true,true,true,true,true,true,true,true,true,true,false] ?_
              refine pq (i:=37) (N:=some 2) #[true,true,true,true,true,true,true,true,true,true,true,true,true,true,true,true,true,true,true,true,true,true,true,true,true,true,true,true,true,true,true,true,true,true,true,true,true,true] ?_
              refine jQc (jPb HT_.out (by kernel_rfl)) ?_
              try go_wp2
              go_ret
              exact ⟨Y0,Y13⟩
             ·rw [if_neg c61] at H
              have c61b0:decide (t873<t870)=false:=dzF c61
              clear c61
              by_cases c64:((jc t867 t873).f1)=8
              ·rw [if_pos c64] at H
               have c64b0:(((jc t867 t873).f1) == 8)=true:=beq_iff_eq.mpr c64
               have c64b1:(((jc t867 t873).f1) != 8)=false:=bne_eq_false_iff_eq.mpr c64
               clear c64
               replace H:=bzS H
               obtain ⟨t886,A650,H⟩:=H
               replace H:(some t886)=some r:=H
               have A65:=am A650
               clear A650
               obtain rfl:=Option.some.inj H
               obtain ⟨Ao66,co66,eo66⟩:=Kd.jka HO_8.out
               subst eo66
               try go_wp2
               replace HO_4:=am (Kd.jRb HO_4.out)
               replace HO_8:=am (Kd.jea HO_8.out)
               replace HO_873000:=am (Kd.jea HO_873000.out)
               replace BK872:=am (jw BK872.out)
               replace HB:=am (jE HB.out)
               have p882:0≤(t873:Int):=ozD (uq)
               have q882:t873<(t867.length:Int):=ozD (uq)
               obtain ⟨ad882,e882,hx882_0,hx882_1,hx882_2,hx882_3⟩:=jna (Kd.jKa HO_4.out).2.2 t873 p882 q882
               cases e882
               replace p882:=ezT p882
               replace q882:=ezT q882
               have p883:0≤(t873:Int):=ozD (uq)
               have q883:t873<(t867.length:Int):=ozD (uq)
               obtain ⟨ad883,e883,hx883_0,hx883_1,hx883_2,hx883_3⟩:=jna (Kd.jKa HO_4.out).2.2 t873 p883 q883
               obtain rfl:ad882=ad883:=(by injection e883)
               replace p883:=ezT p883
               replace q883:=ezT q883
               have p884:0≤(t873:Int):=ozD (uq)
               have q884:t873<(t867.length:Int):=ozD (uq)
               obtain ⟨ad884,e884,hx884_0,hx884_1,hx884_2,hx884_3⟩:=jna (Kd.jKa HO_4.out).2.2 t873 p884 q884
               obtain rfl:ad882=ad884:=(by injection e884)
               replace p884:=ezT p884
               replace q884:=ezT q884
               have p885:0≤(t873:Int):=ozD (uq)
               have q885:t873<(t867.length:Int):=ozD (uq)
               obtain ⟨ad885,e885,hx885_0,hx885_1,hx885_2,hx885_3⟩:=jna (Kd.jKa HO_4.out).2.2 t873 p885 q885
               obtain rfl:ad882=ad885:=(by injection e885)
               replace p885:=ezT p885
               replace q885:=ezT q885
               refine jlc (n:=38) (S:=fun w'=>w'.cell? ⟨gb872,0,none⟩=some (.slice Ao8 t864.length co8)∧w'.cell? (ad882.add ((t873).toNat * 4))=some (.int .i64 ((jc t867 t873).f0))∧w'.cell? ⟨(ad882.add ((t873).toNat * 4)).block,(ad882.add ((t873).toNat * 4)).off+1,none⟩=some (.int .i64 ((jc t867 t873).f1))∧w'.cell? ⟨(ad882.add ((t873).toNat * 4)).block,(ad882.add ((t873).toNat * 4)).off+2,none⟩=some (.int .i64 ((jc t867 t873).f2))∧w'.cell? ⟨(ad882.add ((t873).toNat * 4)).block,(ad882.add ((t873).toNat * 4)).off+3,none⟩=some (.int .i64 ((jc t867 t873).f3))∧w'.cell? (ad882.add ((t873).toNat * 4))=some (.int .i64 ((jc t867 t873).f0))∧w'.cell? ⟨(ad882.add ((t873).toNat * 4)).block,(ad882.add ((t873).toNat * 4)).off+1,none⟩=some (.int .i64 ((jc t867 t873).f1))∧w'.cell? ⟨(ad882.add ((t873).toNat * 4)).block,(ad882.add ((t873).toNat * 4)).off+2,none⟩=some (.int .i64 ((jc t867 t873).f2))∧w'.cell? ⟨(ad882.add ((t873).toNat * 4)).block,(ad882.add ((t873).toNat * 4)).off+3,none⟩=some (.int .i64 ((jc t867 t873).f3))∧w'.cell? (ad882.add ((t873).toNat * 4))=some (.int .i64 ((jc t867 t873).f0))∧w'.cell? ⟨(ad882.add ((t873).toNat * 4)).block,(ad882.add ((t873).toNat * 4)).off+1,none⟩=some (.int .i64 ((jc t867 t873).f1))∧w'.cell? ⟨(ad882.add ((t873).toNat * 4)).block,(ad882.add ((t873).toNat * 4)).off+2,none⟩=some (.int .i64 ((jc t867 t873).f2))∧w'.cell? ⟨(ad882.add ((t873).toNat * 4)).block,(ad882.add ((t873).toNat * 4)).off+3,none⟩=some (.int .i64 ((jc t867 t873).f3))∧w'.cell? (ad882.add ((t873).toNat * 4))=some (.int .i64 ((jc t867 t873).f0))∧w'.cell? ⟨(ad882.add ((t873).toNat * 4)).block,(ad882.add ((t873).toNat * 4)).off+1,none⟩=some (.int .i64 ((jc t867 t873).f1))∧w'.cell? ⟨(ad882.add ((t873).toNat * 4)).block,(ad882.add ((t873).toNat * 4)).off+2,none⟩=some (.int .i64 ((jc t867 t873).f2))∧w'.cell? ⟨(ad882.add ((t873).toNat * 4)).block,(ad882.add ((t873).toNat * 4)).off+3,none⟩=some (.int .i64 ((jc t867 t873).f3))) (ds:=[]) #[false,false,false,false,false,false,false,false,false,false,false,false,false,false,false,false,false,false,false,false,false,false,false,false,false,false,false,false,false,false,false,false,false,false,false,false,false,false] (by kernel_rfl) rfl rfl ⟨(jF BK872.out 0).trans rfl,hx882_0,hx882_1,hx882_2,hx882_3,hx883_0,hx883_1,hx883_2,hx883_3,hx884_0,hx884_1,hx884_2,hx884_3,hx885_0,hx885_1,hx885_2,hx885_3⟩ (fun hHeld=>?_);refine jqb ji.tab15 ji.bits15 (fun HT_ HW_=>?_)
               generalize wr.drew=w67 at HO_4 HO_8 HO_873000 BK872 HB hx882_0 hx882_1 hx882_2 hx882_3 hx883_0 hx883_1 hx883_2 hx883_3 hx884_0 hx884_1 hx884_2 hx884_3 hx885_0 hx885_1 hx885_2 hx885_3 hHeld ⊢
               refine pq (i:=0) (N:=some 86) #[true,false,false,false,false,false,false,false,false,false,false,false,false,false,false,false,false,false,false,false,false,false,false,false,false,false,false,false,false,false,false,false,false,false,false,false,false,false] ?_
               refine pq (i:=1) (N:=some 87) #[true,true,false,false,false,false,false,false,false,false,false,false,false,false,false,false,false,false,false,false,false,false,false,false,false,false,false,false,false,false,false,false,false,false,false,false,false,false] ?_
               refine pq (i:=2) (N:=some 88) #[true,true,true,false,false,false,false,false,false,false,false,false,false,false,false,false,false,false,false,false,false,false,false,false,false,false,false,false,false,false,false,false,false,false,false,false,false,false] ?_
               refine pq (i:=3) (N:=some 89) #[true,true,true,true,false,false,false,false,false,false,false,false,false,false,false,false,false,false,false,false,false,false,false,false,false,false,false,false,false,false,false,false,false,false,false,false,false,false] ?_
               refine jwb (i:=4) (N:=some 90) (v:=?_) (a':=?_) #[true,true,true,true,true,false,false,false,false,false,false,false,false,false,false,false,false,false,false,false,false,false,false,false,false,false,false,false,false,false,false,false,false,false,false,false,false,false] rfl rfl (jua HT_.out HW_.out (by kernel_rfl)) (fun _ _ _ h=>h) (Or.inl ⟨by rfl,?_⟩) hHeld ?_ ?_
               rotate_left
               ·rintro w' ⟨s0,s1,s2,s3,s4,s5,s6,s7,s8,s9,s10,s11,s12,s13,s14,s15,s16⟩
                go_simp
                with_reducible rfl
               rotate_left
               ·exact sa
               refine pq (i:=5) (N:=some 91) #[true,true,true,true,true,true,false,false,false,false,false,false,false,false,false,false,false,false,false,false,false,false,false,false,false,false,false,false,false,false,false,false,false,false,false,false,false,false] ?_
               refine pq (i:=6) (N:=some 92) #[true,true,true,true,true,true,true,false,false,false,false,false,false,false,false,false,false,false,false,false,false,false,false,false,false,false,false,false,false,false,false,false,false,false,false,false,false,false] ?_
               refine pq (i:=7) (N:=some 93) #[true,true,true,true,true,true,true,true,false,false,false,false,false,false,false,false,false,false,false,false,false,false,false,false,false,false,false,false,false,false,false,false,false,false,false,false,false,false] ?_
               refine pq (i:=8) (N:=some 94) #[true,true,true,true,true,true,true,true,true,false,false,false,false,false,false,false,false,false,false,false,false,false,false,false,false,false,false,false,false,false,false,false,false,false,false,false,false,false] ?_
               refine pq (i:=9) (N:=some 95) #[true,true,true,true,true,true,true,true,true,true,false,false,false,false,false,false,false,false,false,false,false,false,false,false,false,false,false,false,false,false,false,false,false,false,false,false,false,false] ?_
               refine pq (i:=10) (N:=some 96) #[true,true,true,true,true,true,true,true,true,true,true,false,false,false,false,false,false,false,false,false,false,false,false,false,false,false,false,false,false,false,false,false,false,false,false,false,false,false] ?_
               refine jwb (i:=11) (N:=some 97) (v:=?_) (a':=?_) #[true,true,true,true,true,true,true,true,true,true,true,true,false,false,false,false,false,false,false,false,false,false,false,false,false,false,false,false,false,false,false,false,false,false,false,false,false,false] rfl rfl (jua HT_.out HW_.out (by kernel_rfl)) (fun _ _ _ h=>h) (Or.inl ⟨by rfl,?_⟩) hHeld ?_ ?_
               rotate_left
               ·rintro w' ⟨s0,s1,s2,s3,s4,s5,s6,s7,s8,s9,s10,s11,s12,s13,s14,s15,s16⟩
                go_simp
                with_reducible rfl
               rotate_left
               ·exact sa
               refine pq (i:=12) (N:=some 98) #[true,true,true,true,true,true,true,true,true,true,true,true,true,false,false,false,false,false,false,false,false,false,false,false,false,false,false,false,false,false,false,false,false,false,false,false,false,false] ?_
               refine pq (i:=13) (N:=some 99) #[true,true,true,true,true,true,true,true,true,true,true,true,true,true,false,false,false,false,false,false,false,false,false,false,false,false,false,false,false,false,false,false,false,false,false,false,false,false] ?_
               refine pq (i:=14) (N:=some 100) #[true,true,true,true,true,true,true,true,true,true,true,true,true,true,true,false,false,false,false,false,false,false,false,false,false,false,false,false,false,false,false,false,false,false,false,false,false,false] ?_
               refine pq (i:=15) (N:=some 101) #[true,true,true,true,true,true,true,true,true,true,true,true,true,true,true,true,false,false,false,false,false,false,false,false,false,false,false,false,false,false,false,false,false,false,false,false,false,false] ?_
               refine pq (i:=16) (N:=some 102) #[true,true,true,true,true,true,true,true,true,true,true,true,true,true,true,true,true,false,false,false,false,false,false,false,false,false,false,false,false,false,false,false,false,false,false,false,false,false] ?_
               refine pq (i:=17) (N:=some 103) #[true,true,true,true,true,true,true,true,true,true,true,true,true,true,true,true,true,true,false,false,false,false,false,false,false,false,false,false,false,false,false,false,false,false,false,false,false,false] ?_
               refine pq (i:=18) (N:=some 104) #[true,true,true,true,true,true,true,true,true,true,true,true,true,true,true,true,true,true,true,false,false,false,false,false,false,false,false,false,false,false,false,false,false,false,false,false,false,false] ?_
               refine pq (i:=19) (N:=some 105) #[true,true,true,true,true,true,true,true,true,true,true,true,true,true,true,true,true,true,true,true,false,false,false,false,false,false,false,false,false,false,false,false,false,false,false,false,false,false] ?_
               refine pq (i:=20) (N:=some 106) #[true,true,true,true,true,true,true,true,true,true,true,true,true,true,true,true,true,true,true,true,true,false,false,false,false,false,false,false,false,false,false,false,false,false,false,false,false,false] ?_
               refine pq (i:=21) (N:=some 107) #[true,true,true,true,true,true,true,true,true,true,true,true,true,true,true,true,true,true,true,true,true,true,false,false,false,false,false,false,false,false,false,false,false,false,false,false,false,false] ?_
               refine pq (i:=22) (N:=some 108) #[true,true,true,true,true,true,true,true,true,true,true,true,true,true,true,true,true,true,true,true,true,true,true,false,false,false,false,false,false,false,false,false,false,false,false,false,false,false] ?_
               refine pq (i:=23) (N:=some 109) #[true,true,true,true,true,true,true,true,true,true,true,true,true,true,true,true,true,true,true,true,true,true,true,true,false,false,false,false,false,false,false,false,false,false,false,false,false,false] ?_
               refine jwb (i:=24) (N:=some 110) (v:=?_) (a':=?_) #[true,true,true,true,true,true,true,true,true,true,true,true,true,true,true,true,true,true,true,true,true,true,true,true,true,false,false,false,false,false,false,false,false,false,false,false,false,false] rfl rfl (jua HT_.out HW_.out (by kernel_rfl)) (fun _ _ _ h=>h) (Or.inl ⟨by rfl,?_⟩) hHeld ?_ ?_
               rotate_left
               ·rintro w' ⟨s0,s1,s2,s3,s4,s5,s6,s7,s8,s9,s10,s11,s12,s13,s14,s15,s16⟩
                go_simp
                with_reducible rfl
               rotate_left
               ·exact sa
               refine pq (i:=25) (N:=some 111) #[true,true,true,true,true,true,true,true,true,true,true,true,true,true,true,true,true,true,true,true,true,true,true,true,true,true,false,false,false,false,false,false,false,false,false,false,false,false] ?_
               refine pq (i:=26) (N:=some 112) #[true,true,true,true,true,true,true,true,true,true,true,true,true,true,true,true,true,true,true,true,true,true,true,true,true,true,true,false,false,false,false,false,false,false,false,false,false,false] ?_
               refine pq (i:=28) (N:=some 114) #[true,true,true,true,true,true,true,true,true,true,true,true,true,true,true,true,true,true,true,true,true,true,true,true,true,true,true,false,true,false,false,false,false,false,false,false,false,false] ?_
               refine pq (i:=29) (N:=some 115) #[true,true,true,true,true,true,true,true,true,true,true,true,true,true,true,true,true,true,true,true,true,true,true,true,true,true,true,false,true,true,false,false,false,false,false,false,false,false] ?_
               refine pq (i:=30) (N:=some 116) #[true,true,true,true,true,true,true,true,true,true,true,true,true,true,true,true,true,true,true,true,true,true,true,true,true,true,true,false,true,true,true,false,false,false,false,false,false,false] ?_
               refine pq (i:=31) (N:=some 117) #[true,true,true,true,true,true,true,true,true,true,true,true,true,true,true,true,true,true,true,true,true,true,true,true,true,true,true,false,true,true,true,true,false,false,false,false,false,false] ?_
               refine pq (i:=32) (N:=some 118) #[true,true,true,true,true,true,true,true,true,true,true,true,true,true,true,true,true,true,true,true,true,true,true,true,true,true,true,false,true,true,true,true,true,false,false,false,false,false] ?_
               refine jwb (i:=27) (N:=some 113) (v:=?_) (a':=?_) #[true,true,true,true,true,true,true,true,true,true,true,true,true,true,true,true,true,true,true,true,true,true,true,true,true,true,true,true,true,true,true,true,true,false,false,false,false,false] rfl rfl (jua HT_.out HW_.out (by kernel_rfl)) (fun _ _ _ h=>h) (Or.inl ⟨by rfl,?_⟩) hHeld ?_ ?_
               rotate_left
               ·rintro w' ⟨s0,s1,s2,s3,s4,s5,s6,s7,s8,s9,s10,s11,s12,s13,s14,s15,s16⟩
                go_simp
                with_reducible rfl
               rotate_left
               ·exact sa
               refine jwb (i:=33) (N:=some 119) (v:=?_) (a':=?_) #[true,true,true,true,true,true,true,true,true,true,true,true,true,true,true,true,true,true,true,true,true,true,true,true,true,true,true,true,true,true,true,true,true,true,false,false,false,false] rfl rfl (jua HT_.out HW_.out (by kernel_rfl)) (fun _ _ _ h=>h) (Or.inl ⟨by rfl,?_⟩) hHeld ?_ ?_
               rotate_left
               ·rintro w' ⟨s0,s1,s2,s3,s4,s5,s6,s7,s8,s9,s10,s11,s12,s13,s14,s15,s16⟩
                go_simp
                with_reducible rfl
               rotate_left
               ·exact sa
               refine one_ (i:=34) (N:=some 120) #[true,true,true,true,true,true,true,true,true,true,true,true,true,true,true,true,true,true,true,true,true,true,true,true,true,true,true,true,true,true,true,true,true,true,true,false,false,false] rfl rfl (jyb HT_.out (by kernel_rfl)) (by decide) (fun K hK=>?_)
               refine jPc Try.func23 (by kernel_rfl) rfl #[.agg #[.slice Ao8 t864.length co8], .int .i64 t871, .int .i64 ((jc t867 t873).f2)] (by rfl) rfl rfl (aq) ?_
               with_reducible refine (jic.calls k2 _ _ t864 t871 ((jc t867 t873).f2) t886 _ ?side1 ?side2 A65.out).mono ?_
               (case side1=>exact cq (Kd.jy HO_873000.out).2.2)
               (case side2=>exact (Kd.jy HO_873000.out).2.1)
               rintro e w68 ⟨rfl,hb⟩
               have HS1_:=(hb.cell (World.block_lt_of_cell? _ _ (hHeld.2.1))).trans (hHeld.2.1)
               have HS2_:=(hb.cell (World.block_lt_of_cell? _ _ (hHeld.2.2.1))).trans (hHeld.2.2.1)
               have HS3_:=(hb.cell (World.block_lt_of_cell? _ _ (hHeld.2.2.2.1))).trans (hHeld.2.2.2.1)
               have HS4_:=(hb.cell (World.block_lt_of_cell? _ _ (hHeld.2.2.2.2.1))).trans (hHeld.2.2.2.2.1)
               have HS5_:=(hb.cell (World.block_lt_of_cell? _ _ (hHeld.2.2.2.2.2.1))).trans (hHeld.2.2.2.2.2.1)
               have HS6_:=(hb.cell (World.block_lt_of_cell? _ _ (hHeld.2.2.2.2.2.2.1))).trans (hHeld.2.2.2.2.2.2.1)
               have HS7_:=(hb.cell (World.block_lt_of_cell? _ _ (hHeld.2.2.2.2.2.2.2.1))).trans (hHeld.2.2.2.2.2.2.2.1)
               have HS8_:=(hb.cell (World.block_lt_of_cell? _ _ (hHeld.2.2.2.2.2.2.2.2.1))).trans (hHeld.2.2.2.2.2.2.2.2.1)
               have HS9_:=(hb.cell (World.block_lt_of_cell? _ _ (hHeld.2.2.2.2.2.2.2.2.2.1))).trans (hHeld.2.2.2.2.2.2.2.2.2.1)
               have HS10_:=(hb.cell (World.block_lt_of_cell? _ _ (hHeld.2.2.2.2.2.2.2.2.2.2.1))).trans (hHeld.2.2.2.2.2.2.2.2.2.2.1)
               have HS11_:=(hb.cell (World.block_lt_of_cell? _ _ (hHeld.2.2.2.2.2.2.2.2.2.2.2.1))).trans (hHeld.2.2.2.2.2.2.2.2.2.2.2.1)
               have HS12_:=(hb.cell (World.block_lt_of_cell? _ _ (hHeld.2.2.2.2.2.2.2.2.2.2.2.2.1))).trans (hHeld.2.2.2.2.2.2.2.2.2.2.2.2.1)
               have HS13_:=(hb.cell (World.block_lt_of_cell? _ _ (hHeld.2.2.2.2.2.2.2.2.2.2.2.2.2.1))).trans (hHeld.2.2.2.2.2.2.2.2.2.2.2.2.2.1)
               have HS14_:=(hb.cell (World.block_lt_of_cell? _ _ (hHeld.2.2.2.2.2.2.2.2.2.2.2.2.2.2.1))).trans (hHeld.2.2.2.2.2.2.2.2.2.2.2.2.2.2.1)
               have HS15_:=(hb.cell (World.block_lt_of_cell? _ _ (hHeld.2.2.2.2.2.2.2.2.2.2.2.2.2.2.2.1))).trans (hHeld.2.2.2.2.2.2.2.2.2.2.2.2.2.2.2.1)
               have HS16_:=(hb.cell (World.block_lt_of_cell? _ _ (hHeld.2.2.2.2.2.2.2.2.2.2.2.2.2.2.2.2))).trans (hHeld.2.2.2.2.2.2.2.2.2.2.2.2.2.2.2.2)
               refine ⟨_,rfl,?_⟩
               replace HO_4:=am (Kd.jBb (Y68) hb)
               replace HO_8:=am (Kd.jZ (rq HO_8.out) hb)
               replace HO_873000:=am (Kd.jZ (rq HO_873000.out) hb)
               replace BK872:=am (jk (g:=gb872) (o:=.cells #[.slice Ao8 t864.length co8] 25 (0,0)) (kq BK872.out) hb)
               replace HB:=am (je (Y13) hb)
               (try clear hb)
               (try clear hb2)
               (try clear hk)
               (try clear hi)
               refine hK.out _ _ ⟨(jF BK872.out 0).trans rfl,HS1_,HS2_,HS3_,HS4_,HS5_,HS6_,HS7_,HS8_,HS9_,HS10_,HS11_,HS12_,HS13_,HS14_,HS15_,HS16_⟩ (fun hHeld=>?_)
               clear hK K
               refine jWb (a':=?_) ?_ ?_
               rotate_left
               ·show Act.put _ (some 120) _=_
                simp only [Act.put,List.setIfInBounds_toArray,List.set_cons_zero,List.set_cons_succ,jkb,jmb]
                rfl
               refine pq (i:=35) (N:=some 121) #[true,true,true,true,true,true,true,true,true,true,true,true,true,true,true,true,true,true,true,true,true,true,true,true,true,true,true,true,true,true,true,true,true,true,true,true,false,false] ?_
               refine pq (i:=36) (N:=some 122) #[true,true,true,true,true,true,true,true,true,true,true,true,true,true,true,true,true,true,true,true,true,true,true,true,true,true,true,true,true,true,true,true,true,true,true,true,true,false] ?_
               refine pq (i:=37) (N:=some 2) #[true,true,true,true,true,true,true,true,true,true,true,true,true,true,true,true,true,true,true,true,true,true,true,true,true,true,true,true,true,true,true,true,true,true,true,true,true,true] ?_
               refine jQc (jPb HT_.out (by kernel_rfl)) ?_
               try go_wp2
               go_ret
               exact ⟨Y0,Y13⟩
              ·rw [if_neg c64] at H
               have c64b0:(((jc t867 t873).f1) == 8)=false:=beq_eq_false_iff_ne.mpr c64
               have c64b1:(((jc t867 t873).f1) != 8)=true:=bne_iff_ne.mpr c64
               exact absurd ((Option.some.inj H).trans hT) Bool.false_ne_true
            ·rw [if_neg c60] at H
             have c60b0:(((jc t867 t873).f3) == 1)=false:=beq_eq_false_iff_ne.mpr c60
             have c60b1:(((jc t867 t873).f3) != 1)=true:=bne_iff_ne.mpr c60
             by_cases c69:((jc t867 t873).f1)=8
             ·rw [if_pos c69] at H
              have c69b0:(((jc t867 t873).f1) == 8)=true:=beq_iff_eq.mpr c69
              have c69b1:(((jc t867 t873).f1) != 8)=false:=bne_eq_false_iff_eq.mpr c69
              clear c69
              replace H:=bzS H
              obtain ⟨t889,A700,H⟩:=H
              replace H:(some t889)=some r:=H
              have A70:=am A700
              clear A700
              obtain rfl:=Option.some.inj H
              obtain ⟨Ao71,co71,eo71⟩:=Kd.jka HO_8.out
              subst eo71
              try go_wp2
              replace HO_4:=am (Kd.jRb HO_4.out)
              replace HO_8:=am (Kd.jea HO_8.out)
              replace HO_873000:=am (Kd.jea HO_873000.out)
              replace BK872:=am (jw BK872.out)
              replace HB:=am (jE HB.out)
              have p882:0≤(t873:Int):=ozD (uq)
              have q882:t873<(t867.length:Int):=ozD (uq)
              obtain ⟨ad882,e882,hx882_0,hx882_1,hx882_2,hx882_3⟩:=jna (Kd.jKa HO_4.out).2.2 t873 p882 q882
              cases e882
              replace p882:=ezT p882
              replace q882:=ezT q882
              have p883:0≤(t873:Int):=ozD (uq)
              have q883:t873<(t867.length:Int):=ozD (uq)
              obtain ⟨ad883,e883,hx883_0,hx883_1,hx883_2,hx883_3⟩:=jna (Kd.jKa HO_4.out).2.2 t873 p883 q883
              obtain rfl:ad882=ad883:=(by injection e883)
              replace p883:=ezT p883
              replace q883:=ezT q883
              have p887:0≤(t873:Int):=ozD (uq)
              have q887:t873<(t867.length:Int):=ozD (uq)
              obtain ⟨ad887,e887,hx887_0,hx887_1,hx887_2,hx887_3⟩:=jna (Kd.jKa HO_4.out).2.2 t873 p887 q887
              obtain rfl:ad882=ad887:=(by injection e887)
              replace p887:=ezT p887
              replace q887:=ezT q887
              have p888:0≤(t873:Int):=ozD (uq)
              have q888:t873<(t867.length:Int):=ozD (uq)
              obtain ⟨ad888,e888,hx888_0,hx888_1,hx888_2,hx888_3⟩:=jna (Kd.jKa HO_4.out).2.2 t873 p888 q888
              obtain rfl:ad882=ad888:=(by injection e888)
              replace p888:=ezT p888
              replace q888:=ezT q888
              refine jlc (n:=38) (S:=fun w'=>w'.cell? ⟨gb872,0,none⟩=some (.slice Ao8 t864.length co8)∧w'.cell? (ad882.add ((t873).toNat * 4))=some (.int .i64 ((jc t867 t873).f0))∧w'.cell? ⟨(ad882.add ((t873).toNat * 4)).block,(ad882.add ((t873).toNat * 4)).off+1,none⟩=some (.int .i64 ((jc t867 t873).f1))∧w'.cell? ⟨(ad882.add ((t873).toNat * 4)).block,(ad882.add ((t873).toNat * 4)).off+2,none⟩=some (.int .i64 ((jc t867 t873).f2))∧w'.cell? ⟨(ad882.add ((t873).toNat * 4)).block,(ad882.add ((t873).toNat * 4)).off+3,none⟩=some (.int .i64 ((jc t867 t873).f3))∧w'.cell? (ad882.add ((t873).toNat * 4))=some (.int .i64 ((jc t867 t873).f0))∧w'.cell? ⟨(ad882.add ((t873).toNat * 4)).block,(ad882.add ((t873).toNat * 4)).off+1,none⟩=some (.int .i64 ((jc t867 t873).f1))∧w'.cell? ⟨(ad882.add ((t873).toNat * 4)).block,(ad882.add ((t873).toNat * 4)).off+2,none⟩=some (.int .i64 ((jc t867 t873).f2))∧w'.cell? ⟨(ad882.add ((t873).toNat * 4)).block,(ad882.add ((t873).toNat * 4)).off+3,none⟩=some (.int .i64 ((jc t867 t873).f3))∧w'.cell? (ad882.add ((t873).toNat * 4))=some (.int .i64 ((jc t867 t873).f0))∧w'.cell? ⟨(ad882.add ((t873).toNat * 4)).block,(ad882.add ((t873).toNat * 4)).off+1,none⟩=some (.int .i64 ((jc t867 t873).f1))∧w'.cell? ⟨(ad882.add ((t873).toNat * 4)).block,(ad882.add ((t873).toNat * 4)).off+2,none⟩=some (.int .i64 ((jc t867 t873).f2))∧w'.cell? ⟨(ad882.add ((t873).toNat * 4)).block,(ad882.add ((t873).toNat * 4)).off+3,none⟩=some (.int .i64 ((jc t867 t873).f3))∧w'.cell? (ad882.add ((t873).toNat * 4))=some (.int .i64 ((jc t867 t873).f0))∧w'.cell? ⟨(ad882.add ((t873).toNat * 4)).block,(ad882.add ((t873).toNat * 4)).off+1,none⟩=some (.int .i64 ((jc t867 t873).f1))∧w'.cell? ⟨(ad882.add ((t873).toNat * 4)).block,(ad882.add ((t873).toNat * 4)).off+2,none⟩=some (.int .i64 ((jc t867 t873).f2))∧w'.cell? ⟨(ad882.add ((t873).toNat * 4)).block,(ad882.add ((t873).toNat * 4)).off+3,none⟩=some (.int .i64 ((jc t867 t873).f3))) (ds:=[]) #[false,false,false,false,false,false,false,false,false,false,false,false,false,false,false,false,false,false,false,false,false,false,false,false,false,false,false,false,false,false,false,false,false,false,false,false,false,false] (by kernel_rfl) rfl rfl ⟨(jF BK872.out 0).trans rfl,hx882_0,hx882_1,hx882_2,hx882_3,hx883_0,hx883_1,hx883_2,hx883_3,hx887_0,hx887_1,hx887_2,hx887_3,hx888_0,hx888_1,hx888_2,hx888_3⟩ (fun hHeld=>?_);refine jqb ji.tab15 ji.bits15 (fun HT_ HW_=>?_)
              generalize wr.drew=w72 at HO_4 HO_8 HO_873000 BK872 HB hx882_0 hx882_1 hx882_2 hx882_3 hx883_0 hx883_1 hx883_2 hx883_3 hx887_0 hx887_1 hx887_2 hx887_3 hx888_0 hx888_1 hx888_2 hx888_3 hHeld ⊢
              refine pq (i:=0) (N:=some 86) #[true,false,false,false,false,false,false,false,false,false,false,false,false,false,false,false,false,false,false,false,false,false,false,false,false,false,false,false,false,false,false,false,false,false,false,false,false,false] ?_
              refine pq (i:=1) (N:=some 87) #[true,true,false,false,false,false,false,false,false,false,false,false,false,false,false,false,false,false,false,false,false,false,false,false,false,false,false,false,false,false,false,false,false,false,false,false,false,false] ?_
              refine pq (i:=2) (N:=some 88) #[true,true,true,false,false,false,false,false,false,false,false,false,false,false,false,false,false,false,false,false,false,false,false,false,false,false,false,false,false,false,false,false,false,false,false,false,false,false] ?_
              refine pq (i:=3) (N:=some 89) #[true,true,true,true,false,false,false,false,false,false,false,false,false,false,false,false,false,false,false,false,false,false,false,false,false,false,false,false,false,false,false,false,false,false,false,false,false,false] ?_
              refine jwb (i:=4) (N:=some 90) (v:=?_) (a':=?_) #[true,true,true,true,true,false,false,false,false,false,false,false,false,false,false,false,false,false,false,false,false,false,false,false,false,false,false,false,false,false,false,false,false,false,false,false,false,false] rfl rfl (jua HT_.out HW_.out (by kernel_rfl)) (fun _ _ _ h=>h) (Or.inl ⟨by rfl,?_⟩) hHeld ?_ ?_
              rotate_left
              ·rintro w' ⟨s0,s1,s2,s3,s4,s5,s6,s7,s8,s9,s10,s11,s12,s13,s14,s15,s16⟩
               go_simp
               with_reducible rfl
              rotate_left
              ·exact sa
              refine pq (i:=5) (N:=some 91) #[true,true,true,true,true,true,false,false,false,false,false,false,false,false,false,false,false,false,false,false,false,false,false,false,false,false,false,false,false,false,false,false,false,false,false,false,false,false] ?_
              refine pq (i:=6) (N:=some 92) #[true,true,true,true,true,true,true,false,false,false,false,false,false,false,false,false,false,false,false,false,false,false,false,false,false,false,false,false,false,false,false,false,false,false,false,false,false,false] ?_
              refine pq (i:=7) (N:=some 93) #[true,true,true,true,true,true,true,true,false,false,false,false,false,false,false,false,false,false,false,false,false,false,false,false,false,false,false,false,false,false,false,false,false,false,false,false,false,false] ?_
              refine pq (i:=8) (N:=some 94) #[true,true,true,true,true,true,true,true,true,false,false,false,false,false,false,false,false,false,false,false,false,false,false,false,false,false,false,false,false,false,false,false,false,false,false,false,false,false] ?_
              refine pq (i:=9) (N:=some 95) #[true,true,true,true,true,true,true,true,true,true,false,false,false,false,false,false,false,false,false,false,false,false,false,false,false,false,false,false,false,false,false,false,false,false,false,false,false,false] ?_
              refine pq (i:=10) (N:=some 96) #[true,true,true,true,true,true,true,true,true,true,true,false,false,false,false,false,false,false,false,false,false,false,false,false,false,false,false,false,false,false,false,false,false,false,false,false,false,false] ?_
              refine jwb (i:=11) (N:=some 97) (v:=?_) (a':=?_) #[true,true,true,true,true,true,true,true,true,true,true,true,false,false,false,false,false,false,false,false,false,false,false,false,false,false,false,false,false,false,false,false,false,false,false,false,false,false] rfl rfl (jua HT_.out HW_.out (by kernel_rfl)) (fun _ _ _ h=>h) (Or.inl ⟨by rfl,?_⟩) hHeld ?_ ?_
              rotate_left
              ·rintro w' ⟨s0,s1,s2,s3,s4,s5,s6,s7,s8,s9,s10,s11,s12,s13,s14,s15,s16⟩
               go_simp
               with_reducible rfl
              rotate_left
              ·exact sa
              refine pq (i:=12) (N:=some 98) #[true,true,true,true,true,true,true,true,true,true,true,true,true,false,false,false,false,false,false,false,false,false,false,false,false,false,false,false,false,false,false,false,false,false,false,false,false,false] ?_
              refine pq (i:=13) (N:=some 99) #[true,true,true,true,true,true,true,true,true,true,true,true,true,true,false,false,false,false,false,false,false,false,false,false,false,false,false,false,false,false,false,false,false,false,false,false,false,false] ?_
              refine pq (i:=14) (N:=some 100) #[true,true,true,true,true,true,true,true,true,true,true,true,true,true,true,false,false,false,false,false,false,false,false,false,false,false,false,false,false,false,false,false,false,false,false,false,false,false] ?_
              refine jLb (i:=15) (N:=some 101) (v:=undef) (a':=?_) #[true,true,true,true,true,true,true,true,true,true,true,true,true,true,true,true,false,false,false,false,false,false,false,false,false,false,false,false,false,false,false,false,false,false,false,false,false,false] rfl rfl (jhb HT_.out (by kernel_rfl)) (fun _ _ _ h=>h) (Or.inr ⟨by rfl,rfl⟩) ?_ ?_
              rotate_left
              ·exact sa
              refine jLb (i:=16) (N:=some 102) (v:=undef) (a':=?_) #[true,true,true,true,true,true,true,true,true,true,true,true,true,true,true,true,true,false,false,false,false,false,false,false,false,false,false,false,false,false,false,false,false,false,false,false,false,false] rfl rfl (jhb HT_.out (by kernel_rfl)) (fun _ _ _ h=>h) (Or.inr ⟨by rfl,rfl⟩) ?_ ?_
              rotate_left
              ·exact sa
              refine jLb (i:=17) (N:=some 103) (v:=undef) (a':=?_) #[true,true,true,true,true,true,true,true,true,true,true,true,true,true,true,true,true,true,false,false,false,false,false,false,false,false,false,false,false,false,false,false,false,false,false,false,false,false] rfl rfl (jhb HT_.out (by kernel_rfl)) (fun _ _ _ h=>h) (Or.inr ⟨by rfl,rfl⟩) ?_ ?_
              rotate_left
              ·exact sa
              refine pq (i:=18) (N:=some 104) #[true,true,true,true,true,true,true,true,true,true,true,true,true,true,true,true,true,true,true,false,false,false,false,false,false,false,false,false,false,false,false,false,false,false,false,false,false,false] ?_
              refine pq (i:=19) (N:=some 105) #[true,true,true,true,true,true,true,true,true,true,true,true,true,true,true,true,true,true,true,true,false,false,false,false,false,false,false,false,false,false,false,false,false,false,false,false,false,false] ?_
              refine pq (i:=20) (N:=some 106) #[true,true,true,true,true,true,true,true,true,true,true,true,true,true,true,true,true,true,true,true,true,false,false,false,false,false,false,false,false,false,false,false,false,false,false,false,false,false] ?_
              refine pq (i:=21) (N:=some 107) #[true,true,true,true,true,true,true,true,true,true,true,true,true,true,true,true,true,true,true,true,true,true,false,false,false,false,false,false,false,false,false,false,false,false,false,false,false,false] ?_
              refine pq (i:=22) (N:=some 108) #[true,true,true,true,true,true,true,true,true,true,true,true,true,true,true,true,true,true,true,true,true,true,true,false,false,false,false,false,false,false,false,false,false,false,false,false,false,false] ?_
              refine pq (i:=23) (N:=some 109) #[true,true,true,true,true,true,true,true,true,true,true,true,true,true,true,true,true,true,true,true,true,true,true,true,false,false,false,false,false,false,false,false,false,false,false,false,false,false] ?_
              refine jwb (i:=24) (N:=some 110) (v:=?_) (a':=?_) #[true,true,true,true,true,true,true,true,true,true,true,true,true,true,true,true,true,true,true,true,true,true,true,true,true,false,false,false,false,false,false,false,false,false,false,false,false,false] rfl rfl (jua HT_.out HW_.out (by kernel_rfl)) (fun _ _ _ h=>h) (Or.inl ⟨by rfl,?_⟩) hHeld ?_ ?_
              rotate_left
              ·rintro w' ⟨s0,s1,s2,s3,s4,s5,s6,s7,s8,s9,s10,s11,s12,s13,s14,s15,s16⟩
               go_simp
               with_reducible rfl
              rotate_left
              ·exact sa
              refine pq (i:=25) (N:=some 111) #[true,true,true,true,true,true,true,true,true,true,true,true,true,true,true,true,true,true,true,true,true,true,true,true,true,true,false,false,false,false,false,false,false,false,false,false,false,false] ?_
              refine pq (i:=26) (N:=some 112) #[true,true,true,true,true,true,true,true,true,true,true,true,true,true,true,true,true,true,true,true,true,true,true,true,true,true,true,false,false,false,false,false,false,false,false,false,false,false] ?_
              refine pq (i:=28) (N:=some 114) #[true,true,true,true,true,true,true,true,true,true,true,true,true,true,true,true,true,true,true,true,true,true,true,true,true,true,true,false,true,false,false,false,false,false,false,false,false,false] ?_
              refine pq (i:=29) (N:=some 115) #[true,true,true,true,true,true,true,true,true,true,true,true,true,true,true,true,true,true,true,true,true,true,true,true,true,true,true,false,true,true,false,false,false,false,false,false,false,false] ?_
              refine pq (i:=30) (N:=some 116) #[true,true,true,true,true,true,true,true,true,true,true,true,true,true,true,true,true,true,true,true,true,true,true,true,true,true,true,false,true,true,true,false,false,false,false,false,false,false] ?_
              refine pq (i:=31) (N:=some 117) #[true,true,true,true,true,true,true,true,true,true,true,true,true,true,true,true,true,true,true,true,true,true,true,true,true,true,true,false,true,true,true,true,false,false,false,false,false,false] ?_
              refine pq (i:=32) (N:=some 118) #[true,true,true,true,true,true,true,true,true,true,true,true,true,true,true,true,true,true,true,true,true,true,true,true,true,true,true,false,true,true,true,true,true,false,false,false,false,false] ?_
              refine jwb (i:=27) (N:=some 113) (v:=?_) (a':=?_) #[true,true,true,true,true,true,true,true,true,true,true,true,true,true,true,true,true,true,true,true,true,true,true,true,true,true,true,true,true,true,true,true,true,false,false,false,false,false] rfl rfl (jua HT_.out HW_.out (by kernel_rfl)) (fun _ _ _ h=>h) (Or.inl ⟨by rfl,?_⟩) hHeld ?_ ?_
              rotate_left
              ·rintro w' ⟨s0,s1,s2,s3,s4,s5,s6,s7,s8,s9,s10,s11,s12,s13,s14,s15,s16⟩
               go_simp
               with_reducible rfl
              rotate_left
              ·exact sa
              refine jwb (i:=33) (N:=some 119) (v:=?_) (a':=?_) #[true,true,true,true,true,true,true,true,true,true,true,true,true,true,true,true,true,true,true,true,true,true,true,true,true,true,true,true,true,true,true,true,true,true,false,false,false,false] rfl rfl (jua HT_.out HW_.out (by kernel_rfl)) (fun _ _ _ h=>h) (Or.inl ⟨by rfl,?_⟩) hHeld ?_ ?_
              rotate_left
              ·rintro w' ⟨s0,s1,s2,s3,s4,s5,s6,s7,s8,s9,s10,s11,s12,s13,s14,s15,s16⟩
               go_simp
               with_reducible rfl
              rotate_left
              ·exact sa
              refine one_ (i:=34) (N:=some 120) #[true,true,true,true,true,true,true,true,true,true,true,true,true,true,true,true,true,true,true,true,true,true,true,true,true,true,true,true,true,true,true,true,true,true,true,false,false,false] rfl rfl (jyb HT_.out (by kernel_rfl)) (by decide) (fun K hK=>?_)
              refine jPc Try.func23 (by kernel_rfl) rfl #[.agg #[.slice Ao8 t864.length co8], .int .i64 t871, .int .i64 ((jc t867 t873).f2)] (by rfl) rfl rfl (aq) ?_
              with_reducible refine (jic.calls k2 _ _ t864 t871 ((jc t867 t873).f2) t889 _ ?side1 ?side2 A70.out).mono ?_
              (case side1=>exact cq (Kd.jy HO_873000.out).2.2)
              (case side2=>exact (Kd.jy HO_873000.out).2.1)
              rintro e w73 ⟨rfl,hb⟩
              have HS1_:=(hb.cell (World.block_lt_of_cell? _ _ (hHeld.2.1))).trans (hHeld.2.1)
              have HS2_:=(hb.cell (World.block_lt_of_cell? _ _ (hHeld.2.2.1))).trans (hHeld.2.2.1)
              have HS3_:=(hb.cell (World.block_lt_of_cell? _ _ (hHeld.2.2.2.1))).trans (hHeld.2.2.2.1)
              have HS4_:=(hb.cell (World.block_lt_of_cell? _ _ (hHeld.2.2.2.2.1))).trans (hHeld.2.2.2.2.1)
              have HS5_:=(hb.cell (World.block_lt_of_cell? _ _ (hHeld.2.2.2.2.2.1))).trans (hHeld.2.2.2.2.2.1)
              have HS6_:=(hb.cell (World.block_lt_of_cell? _ _ (hHeld.2.2.2.2.2.2.1))).trans (hHeld.2.2.2.2.2.2.1)
              have HS7_:=(hb.cell (World.block_lt_of_cell? _ _ (hHeld.2.2.2.2.2.2.2.1))).trans (hHeld.2.2.2.2.2.2.2.1)
              have HS8_:=(hb.cell (World.block_lt_of_cell? _ _ (hHeld.2.2.2.2.2.2.2.2.1))).trans (hHeld.2.2.2.2.2.2.2.2.1)
              have HS9_:=(hb.cell (World.block_lt_of_cell? _ _ (hHeld.2.2.2.2.2.2.2.2.2.1))).trans (hHeld.2.2.2.2.2.2.2.2.2.1)
              have HS10_:=(hb.cell (World.block_lt_of_cell? _ _ (hHeld.2.2.2.2.2.2.2.2.2.2.1))).trans (hHeld.2.2.2.2.2.2.2.2.2.2.1)
              have HS11_:=(hb.cell (World.block_lt_of_cell? _ _ (hHeld.2.2.2.2.2.2.2.2.2.2.2.1))).trans (hHeld.2.2.2.2.2.2.2.2.2.2.2.1)
              have HS12_:=(hb.cell (World.block_lt_of_cell? _ _ (hHeld.2.2.2.2.2.2.2.2.2.2.2.2.1))).trans (hHeld.2.2.2.2.2.2.2.2.2.2.2.2.1)
              have HS13_:=(hb.cell (World.block_lt_of_cell? _ _ (hHeld.2.2.2.2.2.2.2.2.2.2.2.2.2.1))).trans (hHeld.2.2.2.2.2.2.2.2.2.2.2.2.2.1)
              have HS14_:=(hb.cell (World.block_lt_of_cell? _ _ (hHeld.2.2.2.2.2.2.2.2.2.2.2.2.2.2.1))).trans (hHeld.2.2.2.2.2.2.2.2.2.2.2.2.2.2.1)
              have HS15_:=(hb.cell (World.block_lt_of_cell? _ _ (hHeld.2.2.2.2.2.2.2.2.2.2.2.2.2.2.2.1))).trans (hHeld.2.2.2.2.2.2.2.2.2.2.2.2.2.2.2.1)
              have HS16_:=(hb.cell (World.block_lt_of_cell? _ _ (hHeld.2.2.2.2.2.2.2.2.2.2.2.2.2.2.2.2))).trans (hHeld.2.2.2.2.2.2.2.2.2.2.2.2.2.2.2.2)
              refine ⟨_,rfl,?_⟩
              replace HO_4:=am (Kd.jBb (Y68) hb)
              replace HO_8:=am (Kd.jZ (rq HO_8.out) hb)
              replace HO_873000:=am (Kd.jZ (rq HO_873000.out) hb)
              replace BK872:=am (jk (g:=gb872) (o:=.cells #[.slice Ao8 t864.length co8] 25 (0,0)) (kq BK872.out) hb)
              replace HB:=am (je (Y13) hb)
              (try clear hb)
              (try clear hb2)
              (try clear hk)
              (try clear hi)
              refine hK.out _ _ ⟨(jF BK872.out 0).trans rfl,HS1_,HS2_,HS3_,HS4_,HS5_,HS6_,HS7_,HS8_,HS9_,HS10_,HS11_,HS12_,HS13_,HS14_,HS15_,HS16_⟩ (fun hHeld=>?_)
              clear hK K
              refine jWb (a':=?_) ?_ ?_
              rotate_left
              ·show Act.put _ (some 120) _=_
               simp only [Act.put,List.setIfInBounds_toArray,List.set_cons_zero,List.set_cons_succ,jkb,jmb]
               rfl
              refine pq (i:=35) (N:=some 121) #[true,true,true,true,true,true,true,true,true,true,true,true,true,true,true,true,true,true,true,true,true,true,true,true,true,true,true,true,true,true,true,true,true,true,true,true,false,false] ?_
              refine pq (i:=36) (N:=some 122) #[true,true,true,true,true,true,true,true,true,true,true,true,true,true,true,true,true,true,true,true,true,true,true,true,true,true,true,true,true,true,true,true,true,true,true,true,true,false] ?_
              refine pq (i:=37) (N:=some 2) #[true,true,true,true,true,true,true,true,true,true,true,true,true,true,true,true,true,true,true,true,true,true,true,true,true,true,true,true,true,true,true,true,true,true,true,true,true,true] ?_
              refine jQc (jPb HT_.out (by kernel_rfl)) ?_
              try go_wp2
              go_ret
              exact ⟨Y0,Y13⟩
             ·rw [if_neg c69] at H
              have c69b0:(((jc t867 t873).f1) == 8)=false:=beq_eq_false_iff_ne.mpr c69
              have c69b1:(((jc t867 t873).f1) != 8)=true:=bne_iff_ne.mpr c69
              exact absurd ((Option.some.inj H).trans hT) Bool.false_ne_true
           ·rw [if_neg c59] at H
            have c59b0:(((jc t867 t873).f1) == 11)=false:=beq_eq_false_iff_ne.mpr c59
            have c59b1:(((jc t867 t873).f1) != 11)=true:=bne_iff_ne.mpr c59
            by_cases c74:((jc t867 t873).f1)=8
            ·rw [if_pos c74] at H
             have c74b0:(((jc t867 t873).f1) == 8)=true:=beq_iff_eq.mpr c74
             have c74b1:(((jc t867 t873).f1) != 8)=false:=bne_eq_false_iff_eq.mpr c74
             clear c74
             replace H:=bzS H
             obtain ⟨t892,A750,H⟩:=H
             replace H:(some t892)=some r:=H
             have A75:=am A750
             clear A750
             obtain rfl:=Option.some.inj H
             obtain ⟨Ao76,co76,eo76⟩:=Kd.jka HO_8.out
             subst eo76
             try go_wp2
             replace HO_4:=am (Kd.jRb HO_4.out)
             replace HO_8:=am (Kd.jea HO_8.out)
             replace HO_873000:=am (Kd.jea HO_873000.out)
             replace BK872:=am (jw BK872.out)
             replace HB:=am (jE HB.out)
             have p882:0≤(t873:Int):=ozD (uq)
             have q882:t873<(t867.length:Int):=ozD (uq)
             obtain ⟨ad882,e882,hx882_0,hx882_1,hx882_2,hx882_3⟩:=jna (Kd.jKa HO_4.out).2.2 t873 p882 q882
             cases e882
             replace p882:=ezT p882
             replace q882:=ezT q882
             have p890:0≤(t873:Int):=ozD (uq)
             have q890:t873<(t867.length:Int):=ozD (uq)
             obtain ⟨ad890,e890,hx890_0,hx890_1,hx890_2,hx890_3⟩:=jna (Kd.jKa HO_4.out).2.2 t873 p890 q890
             obtain rfl:ad882=ad890:=(by injection e890)
             replace p890:=ezT p890
             replace q890:=ezT q890
             have p891:0≤(t873:Int):=ozD (uq)
             have q891:t873<(t867.length:Int):=ozD (uq)
             obtain ⟨ad891,e891,hx891_0,hx891_1,hx891_2,hx891_3⟩:=jna (Kd.jKa HO_4.out).2.2 t873 p891 q891
             obtain rfl:ad882=ad891:=(by injection e891)
             replace p891:=ezT p891
             replace q891:=ezT q891
             refine jlc (n:=38) (S:=fun w'=>w'.cell? ⟨gb872,0,none⟩=some (.slice Ao8 t864.length co8)∧w'.cell? (ad882.add ((t873).toNat * 4))=some (.int .i64 ((jc t867 t873).f0))∧w'.cell? ⟨(ad882.add ((t873).toNat * 4)).block,(ad882.add ((t873).toNat * 4)).off+1,none⟩=some (.int .i64 ((jc t867 t873).f1))∧w'.cell? ⟨(ad882.add ((t873).toNat * 4)).block,(ad882.add ((t873).toNat * 4)).off+2,none⟩=some (.int .i64 ((jc t867 t873).f2))∧w'.cell? ⟨(ad882.add ((t873).toNat * 4)).block,(ad882.add ((t873).toNat * 4)).off+3,none⟩=some (.int .i64 ((jc t867 t873).f3))∧w'.cell? (ad882.add ((t873).toNat * 4))=some (.int .i64 ((jc t867 t873).f0))∧w'.cell? ⟨(ad882.add ((t873).toNat * 4)).block,(ad882.add ((t873).toNat * 4)).off+1,none⟩=some (.int .i64 ((jc t867 t873).f1))∧w'.cell? ⟨(ad882.add ((t873).toNat * 4)).block,(ad882.add ((t873).toNat * 4)).off+2,none⟩=some (.int .i64 ((jc t867 t873).f2))∧w'.cell? ⟨(ad882.add ((t873).toNat * 4)).block,(ad882.add ((t873).toNat * 4)).off+3,none⟩=some (.int .i64 ((jc t867 t873).f3))∧w'.cell? (ad882.add ((t873).toNat * 4))=some (.int .i64 ((jc t867 t873).f0))∧w'.cell? ⟨(ad882.add ((t873).toNat * 4)).block,(ad882.add ((t873).toNat * 4)).off+1,none⟩=some (.int .i64 ((jc t867 t873).f1))∧w'.cell? ⟨(ad882.add ((t873).toNat * 4)).block,(ad882.add ((t873).toNat * 4)).off+2,none⟩=some (.int .i64 ((jc t867 t873).f2))∧w'.cell? ⟨(ad882.add ((t873).toNat * 4)).block,(ad882.add ((t873).toNat * 4)).off+3,none⟩=some (.int .i64 ((jc t867 t873).f3))) (ds:=[]) #[false,false,false,false,false,false,false,false,false,false,false,false,false,false,false,false,false,false,false,false,false,false,false,false,false,false,false,false,false,false,false,false,false,false,false,false,false,false] (by kernel_rfl) rfl rfl ⟨(jF BK872.out 0).trans rfl,hx882_0,hx882_1,hx882_2,hx882_3,hx890_0,hx890_1,hx890_2,hx890_3,hx891_0,hx891_1,hx891_2,hx891_3⟩ (fun hHeld=>?_);refine jqb ji.tab15 ji.bits15 (fun HT_ HW_=>?_)
             generalize wr.drew=w77 at HO_4 HO_8 HO_873000 BK872 HB hx882_0 hx882_1 hx882_2 hx882_3 hx890_0 hx890_1 hx890_2 hx890_3 hx891_0 hx891_1 hx891_2 hx891_3 hHeld ⊢
             refine pq (i:=0) (N:=some 86) #[true,false,false,false,false,false,false,false,false,false,false,false,false,false,false,false,false,false,false,false,false,false,false,false,false,false,false,false,false,false,false,false,false,false,false,false,false,false] ?_
             refine pq (i:=1) (N:=some 87) #[true,true,false,false,false,false,false,false,false,false,false,false,false,false,false,false,false,false,false,false,false,false,false,false,false,false,false,false,false,false,false,false,false,false,false,false,false,false] ?_
             refine pq (i:=2) (N:=some 88) #[true,true,true,false,false,false,false,false,false,false,false,false,false,false,false,false,false,false,false,false,false,false,false,false,false,false,false,false,false,false,false,false,false,false,false,false,false,false] ?_
             refine pq (i:=3) (N:=some 89) #[true,true,true,true,false,false,false,false,false,false,false,false,false,false,false,false,false,false,false,false,false,false,false,false,false,false,false,false,false,false,false,false,false,false,false,false,false,false] ?_
             refine jwb (i:=4) (N:=some 90) (v:=?_) (a':=?_) #[true,true,true,true,true,false,false,false,false,false,false,false,false,false,false,false,false,false,false,false,false,false,false,false,false,false,false,false,false,false,false,false,false,false,false,false,false,false] rfl rfl (jua HT_.out HW_.out (by kernel_rfl)) (fun _ _ _ h=>h) (Or.inl ⟨by rfl,?_⟩) hHeld ?_ ?_
             rotate_left
             ·rintro w' ⟨s0,s1,s2,s3,s4,s5,s6,s7,s8,s9,s10,s11,s12⟩
              go_simp
              with_reducible rfl
             rotate_left
             ·exact sa
             refine pq (i:=5) (N:=some 91) #[true,true,true,true,true,true,false,false,false,false,false,false,false,false,false,false,false,false,false,false,false,false,false,false,false,false,false,false,false,false,false,false,false,false,false,false,false,false] ?_
             refine pq (i:=6) (N:=some 92) #[true,true,true,true,true,true,true,false,false,false,false,false,false,false,false,false,false,false,false,false,false,false,false,false,false,false,false,false,false,false,false,false,false,false,false,false,false,false] ?_
             refine jLb (i:=7) (N:=some 93) (v:=undef) (a':=?_) #[true,true,true,true,true,true,true,true,false,false,false,false,false,false,false,false,false,false,false,false,false,false,false,false,false,false,false,false,false,false,false,false,false,false,false,false,false,false] rfl rfl (jhb HT_.out (by kernel_rfl)) (fun _ _ _ h=>h) (Or.inr ⟨by rfl,rfl⟩) ?_ ?_
             rotate_left
             ·exact sa
             refine jLb (i:=8) (N:=some 94) (v:=undef) (a':=?_) #[true,true,true,true,true,true,true,true,true,false,false,false,false,false,false,false,false,false,false,false,false,false,false,false,false,false,false,false,false,false,false,false,false,false,false,false,false,false] rfl rfl (jhb HT_.out (by kernel_rfl)) (fun _ _ _ h=>h) (Or.inr ⟨by rfl,rfl⟩) ?_ ?_
             rotate_left
             ·exact sa
             refine jLb (i:=9) (N:=some 95) (v:=undef) (a':=?_) #[true,true,true,true,true,true,true,true,true,true,false,false,false,false,false,false,false,false,false,false,false,false,false,false,false,false,false,false,false,false,false,false,false,false,false,false,false,false] rfl rfl (jhb HT_.out (by kernel_rfl)) (fun _ _ _ h=>h) (Or.inr ⟨by rfl,rfl⟩) ?_ ?_
             rotate_left
             ·exact sa
             refine jLb (i:=10) (N:=some 96) (v:=undef) (a':=?_) #[true,true,true,true,true,true,true,true,true,true,true,false,false,false,false,false,false,false,false,false,false,false,false,false,false,false,false,false,false,false,false,false,false,false,false,false,false,false] rfl rfl (jhb HT_.out (by kernel_rfl)) (fun _ _ _ h=>h) (Or.inr ⟨by rfl,rfl⟩) ?_ ?_
             rotate_left
             ·exact sa
             refine jLb (i:=11) (N:=some 97) (v:=undef) (a':=?_) #[true,true,true,true,true,true,true,true,true,true,true,true,false,false,false,false,false,false,false,false,false,false,false,false,false,false,false,false,false,false,false,false,false,false,false,false,false,false] rfl rfl (jhb HT_.out (by kernel_rfl)) (fun _ _ _ h=>h) (Or.inr ⟨by rfl,rfl⟩) ?_ ?_
             rotate_left
             ·exact sa
             refine jLb (i:=12) (N:=some 98) (v:=undef) (a':=?_) #[true,true,true,true,true,true,true,true,true,true,true,true,true,false,false,false,false,false,false,false,false,false,false,false,false,false,false,false,false,false,false,false,false,false,false,false,false,false] rfl rfl (jhb HT_.out (by kernel_rfl)) (fun _ _ _ h=>h) (Or.inr ⟨by rfl,rfl⟩) ?_ ?_
             rotate_left
             ·exact sa
             refine pq (i:=13) (N:=some 99) #[true,true,true,true,true,true,true,true,true,true,true,true,true,true,false,false,false,false,false,false,false,false,false,false,false,false,false,false,false,false,false,false,false,false,false,false,false,false] ?_
             refine pq (i:=14) (N:=some 100) #[true,true,true,true,true,true,true,true,true,true,true,true,true,true,true,false,false,false,false,false,false,false,false,false,false,false,false,false,false,false,false,false,false,false,false,false,false,false] ?_
             refine jLb (i:=15) (N:=some 101) (v:=undef) (a':=?_) #[true,true,true,true,true,true,true,true,true,true,true,true,true,true,true,true,false,false,false,false,false,false,false,false,false,false,false,false,false,false,false,false,false,false,false,false,false,false] rfl rfl (jhb HT_.out (by kernel_rfl)) (fun _ _ _ h=>h) (Or.inr ⟨by rfl,rfl⟩) ?_ ?_
             rotate_left
             ·exact sa
             refine jLb (i:=16) (N:=some 102) (v:=undef) (a':=?_) #[true,true,true,true,true,true,true,true,true,true,true,true,true,true,true,true,true,false,false,false,false,false,false,false,false,false,false,false,false,false,false,false,false,false,false,false,false,false] rfl rfl (jhb HT_.out (by kernel_rfl)) (fun _ _ _ h=>h) (Or.inr ⟨by rfl,rfl⟩) ?_ ?_
             rotate_left
             ·exact sa
             refine jLb (i:=17) (N:=some 103) (v:=undef) (a':=?_) #[true,true,true,true,true,true,true,true,true,true,true,true,true,true,true,true,true,true,false,false,false,false,false,false,false,false,false,false,false,false,false,false,false,false,false,false,false,false] rfl rfl (jhb HT_.out (by kernel_rfl)) (fun _ _ _ h=>h) (Or.inr ⟨by rfl,rfl⟩) ?_ ?_
             rotate_left
             ·exact sa
             refine pq (i:=18) (N:=some 104) #[true,true,true,true,true,true,true,true,true,true,true,true,true,true,true,true,true,true,true,false,false,false,false,false,false,false,false,false,false,false,false,false,false,false,false,false,false,false] ?_
             refine pq (i:=19) (N:=some 105) #[true,true,true,true,true,true,true,true,true,true,true,true,true,true,true,true,true,true,true,true,false,false,false,false,false,false,false,false,false,false,false,false,false,false,false,false,false,false] ?_
             refine pq (i:=20) (N:=some 106) #[true,true,true,true,true,true,true,true,true,true,true,true,true,true,true,true,true,true,true,true,true,false,false,false,false,false,false,false,false,false,false,false,false,false,false,false,false,false] ?_
             refine pq (i:=21) (N:=some 107) #[true,true,true,true,true,true,true,true,true,true,true,true,true,true,true,true,true,true,true,true,true,true,false,false,false,false,false,false,false,false,false,false,false,false,false,false,false,false] ?_
             refine pq (i:=22) (N:=some 108) #[true,true,true,true,true,true,true,true,true,true,true,true,true,true,true,true,true,true,true,true,true,true,true,false,false,false,false,false,false,false,false,false,false,false,false,false,false,false] ?_
             refine pq (i:=23) (N:=some 109) #[true,true,true,true,true,true,true,true,true,true,true,true,true,true,true,true,true,true,true,true,true,true,true,true,false,false,false,false,false,false,false,false,false,false,false,false,false,false] ?_
             refine jwb (i:=24) (N:=some 110) (v:=?_) (a':=?_) #[true,true,true,true,true,true,true,true,true,true,true,true,true,true,true,true,true,true,true,true,true,true,true,true,true,false,false,false,false,false,false,false,false,false,false,false,false,false] rfl rfl (jua HT_.out HW_.out (by kernel_rfl)) (fun _ _ _ h=>h) (Or.inl ⟨by rfl,?_⟩) hHeld ?_ ?_
             rotate_left
             ·rintro w' ⟨s0,s1,s2,s3,s4,s5,s6,s7,s8,s9,s10,s11,s12⟩
              go_simp
              with_reducible rfl
             rotate_left
             ·exact sa
             refine pq (i:=25) (N:=some 111) #[true,true,true,true,true,true,true,true,true,true,true,true,true,true,true,true,true,true,true,true,true,true,true,true,true,true,false,false,false,false,false,false,false,false,false,false,false,false] ?_
             refine pq (i:=26) (N:=some 112) #[true,true,true,true,true,true,true,true,true,true,true,true,true,true,true,true,true,true,true,true,true,true,true,true,true,true,true,false,false,false,false,false,false,false,false,false,false,false] ?_
             refine pq (i:=28) (N:=some 114) #[true,true,true,true,true,true,true,true,true,true,true,true,true,true,true,true,true,true,true,true,true,true,true,true,true,true,true,false,true,false,false,false,false,false,false,false,false,false] ?_
             refine pq (i:=29) (N:=some 115) #[true,true,true,true,true,true,true,true,true,true,true,true,true,true,true,true,true,true,true,true,true,true,true,true,true,true,true,false,true,true,false,false,false,false,false,false,false,false] ?_
             refine pq (i:=30) (N:=some 116) #[true,true,true,true,true,true,true,true,true,true,true,true,true,true,true,true,true,true,true,true,true,true,true,true,true,true,true,false,true,true,true,false,false,false,false,false,false,false] ?_
             refine pq (i:=31) (N:=some 117) #[true,true,true,true,true,true,true,true,true,true,true,true,true,true,true,true,true,true,true,true,true,true,true,true,true,true,true,false,true,true,true,true,false,false,false,false,false,false] ?_
             refine pq (i:=32) (N:=some 118) #[true,true,true,true,true,true,true,true,true,true,true,true,true,true,true,true,true,true,true,true,true,true,true,true,true,true,true,false,true,true,true,true,true,false,false,false,false,false] ?_
             refine jwb (i:=27) (N:=some 113) (v:=?_) (a':=?_) #[true,true,true,true,true,true,true,true,true,true,true,true,true,true,true,true,true,true,true,true,true,true,true,true,true,true,true,true,true,true,true,true,true,false,false,false,false,false] rfl rfl (jua HT_.out HW_.out (by kernel_rfl)) (fun _ _ _ h=>h) (Or.inl ⟨by rfl,?_⟩) hHeld ?_ ?_
             rotate_left
             ·rintro w' ⟨s0,s1,s2,s3,s4,s5,s6,s7,s8,s9,s10,s11,s12⟩
              go_simp
              with_reducible rfl
             rotate_left
             ·exact sa
             refine jwb (i:=33) (N:=some 119) (v:=?_) (a':=?_) #[true,true,true,true,true,true,true,true,true,true,true,true,true,true,true,true,true,true,true,true,true,true,true,true,true,true,true,true,true,true,true,true,true,true,false,false,false,false] rfl rfl (jua HT_.out HW_.out (by kernel_rfl)) (fun _ _ _ h=>h) (Or.inl ⟨by rfl,?_⟩) hHeld ?_ ?_
             rotate_left
             ·rintro w' ⟨s0,s1,s2,s3,s4,s5,s6,s7,s8,s9,s10,s11,s12⟩
              go_simp
              with_reducible rfl
             rotate_left
             ·exact sa
             refine one_ (i:=34) (N:=some 120) #[true,true,true,true,true,true,true,true,true,true,true,true,true,true,true,true,true,true,true,true,true,true,true,true,true,true,true,true,true,true,true,true,true,true,true,false,false,false] rfl rfl (jyb HT_.out (by kernel_rfl)) (by decide) (fun K hK=>?_)
             refine jPc Try.func23 (by kernel_rfl) rfl #[.agg #[.slice Ao8 t864.length co8], .int .i64 t871, .int .i64 ((jc t867 t873).f2)] (by rfl) rfl rfl (aq) ?_
             with_reducible refine (jic.calls k2 _ _ t864 t871 ((jc t867 t873).f2) t892 _ ?side1 ?side2 A75.out).mono ?_
             (case side1=>exact cq (Kd.jy HO_873000.out).2.2)
             (case side2=>exact (Kd.jy HO_873000.out).2.1)
             rintro e w78 ⟨rfl,hb⟩
             have HS1_:=(hb.cell (World.block_lt_of_cell? _ _ (hHeld.2.1))).trans (hHeld.2.1)
             have HS2_:=(hb.cell (World.block_lt_of_cell? _ _ (hHeld.2.2.1))).trans (hHeld.2.2.1)
             have HS3_:=(hb.cell (World.block_lt_of_cell? _ _ (hHeld.2.2.2.1))).trans (hHeld.2.2.2.1)
             have HS4_:=(hb.cell (World.block_lt_of_cell? _ _ (hHeld.2.2.2.2.1))).trans (hHeld.2.2.2.2.1)
             have HS5_:=(hb.cell (World.block_lt_of_cell? _ _ (hHeld.2.2.2.2.2.1))).trans (hHeld.2.2.2.2.2.1)
             have HS6_:=(hb.cell (World.block_lt_of_cell? _ _ (hHeld.2.2.2.2.2.2.1))).trans (hHeld.2.2.2.2.2.2.1)
             have HS7_:=(hb.cell (World.block_lt_of_cell? _ _ (hHeld.2.2.2.2.2.2.2.1))).trans (hHeld.2.2.2.2.2.2.2.1)
             have HS8_:=(hb.cell (World.block_lt_of_cell? _ _ (hHeld.2.2.2.2.2.2.2.2.1))).trans (hHeld.2.2.2.2.2.2.2.2.1)
             have HS9_:=(hb.cell (World.block_lt_of_cell? _ _ (hHeld.2.2.2.2.2.2.2.2.2.1))).trans (hHeld.2.2.2.2.2.2.2.2.2.1)
             have HS10_:=(hb.cell (World.block_lt_of_cell? _ _ (hHeld.2.2.2.2.2.2.2.2.2.2.1))).trans (hHeld.2.2.2.2.2.2.2.2.2.2.1)
             have HS11_:=(hb.cell (World.block_lt_of_cell? _ _ (hHeld.2.2.2.2.2.2.2.2.2.2.2.1))).trans (hHeld.2.2.2.2.2.2.2.2.2.2.2.1)
             have HS12_:=(hb.cell (World.block_lt_of_cell? _ _ (hHeld.2.2.2.2.2.2.2.2.2.2.2.2))).trans (hHeld.2.2.2.2.2.2.2.2.2.2.2.2)
             refine ⟨_,rfl,?_⟩
             replace HO_4:=am (Kd.jBb (Y68) hb)
             replace HO_8:=am (Kd.jZ (rq HO_8.out) hb)
             replace HO_873000:=am (Kd.jZ (rq HO_873000.out) hb)
             replace BK872:=am (jk (g:=gb872) (o:=.cells #[.slice Ao8 t864.length co8] 25 (0,0)) (kq BK872.out) hb)
             replace HB:=am (je (Y13) hb)
             (try clear hb)
             (try clear hb2)
             (try clear hk)
             (try clear hi)
             refine hK.out _ _ ⟨(jF BK872.out 0).trans rfl,HS1_,HS2_,HS3_,HS4_,HS5_,HS6_,HS7_,HS8_,HS9_,HS10_,HS11_,HS12_⟩ (fun hHeld=>?_)
             clear hK K
             refine jWb (a':=?_) ?_ ?_
             rotate_left
             ·show Act.put _ (some 120) _=_
              simp only [Act.put,List.setIfInBounds_toArray,List.set_cons_zero,List.set_cons_succ,jkb,jmb]
              rfl
             refine pq (i:=35) (N:=some 121) #[true,true,true,true,true,true,true,true,true,true,true,true,true,true,true,true,true,true,true,true,true,true,true,true,true,true,true,true,true,true,true,true,true,true,true,true,false,false] ?_
             refine pq (i:=36) (N:=some 122) #[true,true,true,true,true,true,true,true,true,true,true,true,true,true,true,true,true,true,true,true,true,true,true,true,true,true,true,true,true,true,true,true,true,true,true,true,true,false] ?_
             refine pq (i:=37) (N:=some 2) #[true,true,true,true,true,true,true,true,true,true,true,true,true,true,true,true,true,true,true,true,true,true,true,true,true,true,true,true,true,true,true,true,true,true,true,true,true,true] ?_
             refine jQc (jPb HT_.out (by kernel_rfl)) ?_
             try go_wp2
             go_ret
             exact ⟨Y0,Y13⟩
            ·rw [if_neg c74] at H
             have c74b0:(((jc t867 t873).f1) == 8)=false:=beq_eq_false_iff_ne.mpr c74
             have c74b1:(((jc t867 t873).f1) != 8)=true:=bne_iff_ne.mpr c74
             exact absurd ((Option.some.inj H).trans hT) Bool.false_ne_true
          ·rw [if_neg c58] at H
           exact absurd H (by simp)
         ·rw [if_neg c57] at H
          exact absurd H (by simp)
def ji.Pure : Prop := ∀ (l0 : List Int), l0.length ≤ maxLen → l0.length * 1 ≤ 140737488351232 → (∀ x ∈ l0, (Lit.int .u8 x).wf = true) → ∃ k, ji.f k l0 = some true
theorem ji.walk (P : ji.Pure) (a0 : Option Addr) (len0 cap0 : Nat) (z0 : List Int) (w : World) (w0 : (a0 = none ∧ len0 = 0 ∧ cap0 = 0 ∧ z0 = []) ∨ ∃ x, a0 = some x ∧ len0 ≤ cap0 ∧ cap0 ≤ maxLen ∧ z0.length = cap0 ∧ (∀ i, i < z0.length → w.cell? (x.add i) = some (.int .u8 (z0.getD i 0))) ∧ ∀ n ∈ z0, (Lit.int .u8 n).wf = true) (y0 : len0 * 1 ≤ 140737488351232) :
  Calls Try.prog 5 #[.slice a0 len0 cap0] w fun e w'=>e=.returned (.bool true)∧Below w.heap.size w w':=by
 obtain ⟨l0,rfl,hr0,hm0,hw0,hc0⟩:=jub.ofRowC w0
 obtain ⟨k,h⟩:=P l0 hm0 y0 hw0
 refine (ji.calls k _ _ l0 true w (Kd.C_of_reads (d:=(0:Int)) (h1:=fun _=>rfl) hr0) hc0 rfl h).mono ?_
 rintro e w' ⟨rfl,hd⟩
 exact ⟨rfl,hd⟩
end Go.Proofs.Ytkedkinojeoeaaa.P
end
