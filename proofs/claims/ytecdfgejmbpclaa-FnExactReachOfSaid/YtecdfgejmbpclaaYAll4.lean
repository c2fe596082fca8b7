/- One part of the proofs on this program: functions of the program as plain functions, that the code comes to them, and facts on them. -/
import Derived.Test.YtecdfgejmbpclaaYAll1
import Derived.Test.YtecdfgejmbpclaaYAll3
import Derived.Test.YtecdfgejmbpclaaYWAuto
section
namespace Go.Proofs.Ytecdfgejmbpclaa.P
open Go.RowKit Go.Proofs.YtecdfgejmbpclaaW.PrintWords Go.Proofs.YtecdfgejmbpclaaW.PrintLast Go.Proofs.YtecdfgejmbpclaaW.PrintMore
attribute [local go_sem] jT jR jda jca jK jJ jS jQ je
set_option linter.unusedVariables false
set_option linter.unusedSimpArgs false
def jM.f (k : Nat) (l0_0 : List (S97)) : Option ((List (S54))) := (jka.f k l0_0).bind fun t696 => (some t696)
set_option maxHeartbeats 8000000 in
set_option maxRecDepth 100000 in
theorem jM.calls (k : Nat) (A0_0 : Option Addr) (c0_0 : Nat) (l0_0 : List (S97)) (r : List (S54)) (w : World) (hr0_0 : Kd.C k97 w A0_0 l0_0.length l0_0) (hc0_0 : l0_0.length ≤ c0_0) (h : jM.f k l0_0 = some r) :
  Calls Try.prog 13 #[.agg #[.slice A0_0 l0_0.length c0_0]] w fun e w'=>∃ v0_:Value,e=.returned (.agg #[v0_])∧Kd.R k54 54 w' w.heap.size (fun _=>True) v0_ r∧Below w.heap.size w w':=by
 have hu27:=Try.underlying27
 have hu32:=Try.underlying32
 have HR0_0:=am hr0_0
 have HC0_0:=am hc0_0
 clear hr0_0 hc0_0
 have HB:=am (Below.refl w.heap.size w)
 have H:((jka.f k l0_0).bind fun t696=>(some t696))=some r:=h
 clear h
 replace H:=bzS H
 obtain ⟨t696,A20,H⟩:=H
 replace H:(some t696)=some r:=H
 have A2:=am A20
 clear A20
 obtain rfl:=Option.some.inj H
 go_enter Try.func13,Try.ntmps13
 go_wp2_with (first |((with_reducible refine jv (N:=1) rfl ?_);refine bE (N:=1) (cs:=#[.slice A0_0 l0_0.length c0_0]) (t:=27) ?_;intro gb693 hg w3 hbox hb;have BK693:=am (hbox);have GW693:=am ((Y0:w.heap.size≤gb693));have GE693:=am ((Y0:w.heap.size≤gb693));replace HB:=am (jd (bq) hb);clear hb hbox hg) |((with_reducible refine jv (N:=2) rfl ?_);refine bE (N:=2) (cs:=#[.slice none 0 0]) (t:=32) ?_;intro gb694 hg w4 hbox hb;have BK694:=am (hbox);have GW694:=am ((Y80:w.heap.size≤gb694));have GE694:=am ((Y80:w.heap.size≤gb694));have NB693_694:=am ((by rw [hg];exact Nat.ne_of_lt (jZ (g:=gb693) (o:=.cells #[.slice A0_0 l0_0.length c0_0] 27 (0,0)) (kq BK693.out)):gb693≠gb694));have NB694_693:=am ((by rw [hg];exact Nat.ne_of_gt (jZ (g:=gb693) (o:=.cells #[.slice A0_0 l0_0.length c0_0] 27 (0,0)) (kq BK693.out)):gb694≠gb693));replace BK693:=am (jb (g:=gb693) (o:=.cells #[.slice A0_0 l0_0.length c0_0] 27 (0,0)) (kq BK693.out) hb);replace HB:=am (jd (by repeat (first |(with_reducible first | exact HB.out | apply jk | apply jf | apply jl | refine jh ?_ GE693.out) | exact HB.out)) hb);clear hb hbox hg) |((with_reducible refine jv (N:=3) rfl ?_);refine bE (N:=3) (cs:=#[.slice none 0 0]) (t:=32) ?_;intro gb695 hg w5 hbox hb;have BK695:=am (hbox);have GW695:=am ((Y81:w.heap.size≤gb695));have GE695:=am ((Y81:w.heap.size≤gb695));have NB693_695:=am ((by rw [hg];exact Nat.ne_of_lt (jZ (g:=gb693) (o:=.cells #[.slice A0_0 l0_0.length c0_0] 27 (0,0)) (kq BK693.out)):gb693≠gb695));have NB695_693:=am ((by rw [hg];exact Nat.ne_of_gt (jZ (g:=gb693) (o:=.cells #[.slice A0_0 l0_0.length c0_0] 27 (0,0)) (kq BK693.out)):gb695≠gb693));have NB694_695:=am ((by rw [hg];exact Nat.ne_of_lt (jZ (g:=gb694) (o:=.cells #[.slice none 0 0] 32 (0,0)) (kq BK694.out)):gb694≠gb695));have NB695_694:=am ((by rw [hg];exact Nat.ne_of_gt (jZ (g:=gb694) (o:=.cells #[.slice none 0 0] 32 (0,0)) (kq BK694.out)):gb695≠gb694));replace BK693:=am (jb (g:=gb693) (o:=.cells #[.slice A0_0 l0_0.length c0_0] 27 (0,0)) (kq BK693.out) hb);replace BK694:=am (jb (g:=gb694) (o:=.cells #[.slice none 0 0] 32 (0,0)) (kq BK694.out) hb);replace HB:=am (jd (by repeat (first |(with_reducible first | exact HB.out | apply jk | apply jf | apply jl | refine jh ?_ GE693.out | refine jh ?_ GE694.out) | exact HB.out)) hb);clear hb hbox hg;have hnb6:=NB693_694.out;have hnc6:=NB694_693.out;have hnb7:=NB693_695.out;have hnc7:=NB695_693.out;have hcz8_0:=bc0 BK693.out;have hfz8_0:=ja BK693.out 0) |((with_reducible refine jw (f:=44) rfl ?_);refine gL (some 6) Try.func44 #[.slice A0_0 l0_0.length c0_0] ?_;(with_reducible refine (jka.calls k _ _ l0_0 t696 _ ?side1 ?side2 A2.out).mono ?_);(case side1=>exact cq (Kd.jI HR0_0.out HB.out));(case side2=>exact HC0_0.out);rintro e w9 ⟨v697,rfl,ho0,hb⟩;refine ⟨_,rfl,?_⟩;have HO698:=am (Kd.jya ho0 (jE (Y58)));replace BK693:=am (jb (g:=gb693) (o:=.cells #[.slice A0_0 l0_0.length c0_0] 27 (0,0)) (kq BK693.out) hb);replace BK694:=am (jb (g:=gb694) (o:=.cells #[.slice none 0 0] 32 (0,0)) (kq BK694.out) hb);replace BK695:=am (jb (g:=gb695) (o:=.cells #[.slice none 0 0] 32 (0,0)) (kq BK695.out) hb);replace HB:=am (jd (Y58) hb);(try clear hb);(try clear hb2);(try clear hk);(try clear hi);(try clear ho0);obtain ⟨Ao10,co10,eo10⟩:=Kd.jwa HO698.out;subst eo10;have hnb11:=NB695_694.out;have hnc11:=NB694_695.out;have hcz12_0:=bc0 BK695.out;have hfz12_0:=ja BK695.out 0;have hcz13_0:=bc0 BK694.out;have hfz13_0:=ja BK694.out 0))
 refine bodyPost_ret (results_cell_row rfl _ _ gb694 32 #[.slice Ao10 t696.length co10] (0,0) _ rfl (by (with_reducible repeat (first | refine jr ?_ _ | refine jC ?_ | refine jB ?_ _));refine jTa (cs:=#[.slice none 0 0]) ?_ 0 _ rfl;(with_reducible repeat (first | refine jr ?_ _ | refine jC ?_ | refine jB ?_ _));refine jIa ?_ NB694_695.out _;(with_reducible repeat (first | refine jr ?_ _ | refine jC ?_ | refine jB ?_ _));exact BK694.out) Try.underlying32 rfl (by kernel_rfl)) rfl ?_
 exact ⟨_,Y1,by (with_reducible repeat (first | apply Kd.jNa | apply Kd.jYa | apply Kd.jHa));exact Kd.jia (Kd.R_far (p:=⟨gb694,0,none⟩) (Kd.R_far (p:=⟨gb695,0,none⟩) (Kd.jBb (Kd.jBb HO698.out BK695.out (by decide)) BK694.out (by decide)) (fun _ hk=>hk.1.2) (.slice Ao10 t696.length co10)) (fun _ hk=>hk.2) (.slice Ao10 t696.length co10)) (fun _ hk=>trivial),Y58⟩
def jvb.f (a0_0 : Int) (a0_1 : Int) (a0_2 : Int) (a0_3 : Int) (a0_4 : Bool) (a1_0 : Int) (a1_1 : Int) (a1_2 : Int) (a1_3 : Int) (a1_4 : Bool) : Option (Bool) := if a0_0 = a1_0 then (if a0_1 = a1_1 then (if a0_2 = a1_2 then (if a0_3 = a1_3 then (if (a0_4 != a1_4) = true then (some false) else (some true)) else (some false)) else (some false)) else (some false)) else (some false)
set_option maxHeartbeats 8000000 in
set_option maxRecDepth 100000 in
theorem jvb.calls (a0_0 : Int) (a0_1 : Int) (a0_2 : Int) (a0_3 : Int) (a0_4 : Bool) (a1_0 : Int) (a1_1 : Int) (a1_2 : Int) (a1_3 : Int) (a1_4 : Bool) (r : Bool) (w : World) (h : jvb.f a0_0 a0_1 a0_2 a0_3 a0_4 a1_0 a1_1 a1_2 a1_3 a1_4 = some r) :
  Calls Try.prog 77 #[.agg #[.int .i64 a0_0, .int .i64 a0_1, .int .i64 a0_2, .int .i64 a0_3, .bool a0_4], .agg #[.int .i64 a1_0, .int .i64 a1_1, .int .i64 a1_2, .int .i64 a1_3, .bool a1_4]] w fun e w'=>e=.returned (.bool r)∧Below w.heap.size w w':=by
 have hu54:=Try.underlying54
 have HB:=am (Below.refl w.heap.size w)
 have H:(if a0_0=a1_0 then (if a0_1=a1_1 then (if a0_2=a1_2 then (if a0_3=a1_3 then (if (a0_4 != a1_4)=true then (some false) else (some true)) else (some false)) else (some false)) else (some false)) else (some false))=some r:=h
 clear h
 by_cases c3:a0_0=a1_0
 ·rw [if_pos c3] at H
  have c3b0:(a0_0 == a1_0)=true:=beq_iff_eq.mpr c3
  have c3b1:(a0_0 != a1_0)=false:=bne_eq_false_iff_eq.mpr c3
  clear c3
  by_cases c4:a0_1=a1_1
  ·rw [if_pos c4] at H
   have c4b0:(a0_1 == a1_1)=true:=beq_iff_eq.mpr c4
   have c4b1:(a0_1 != a1_1)=false:=bne_eq_false_iff_eq.mpr c4
   clear c4
   by_cases c5:a0_2=a1_2
   ·rw [if_pos c5] at H
    have c5b0:(a0_2 == a1_2)=true:=beq_iff_eq.mpr c5
    have c5b1:(a0_2 != a1_2)=false:=bne_eq_false_iff_eq.mpr c5
    clear c5
    by_cases c6:a0_3=a1_3
    ·rw [if_pos c6] at H
     have c6b0:(a0_3 == a1_3)=true:=beq_iff_eq.mpr c6
     have c6b1:(a0_3 != a1_3)=false:=bne_eq_false_iff_eq.mpr c6
     clear c6
     by_cases c7:(a0_4 != a1_4)=true
     ·rw [if_pos c7] at H
      have c7b0:(a0_4 != a1_4)=true:=c7
      (try (have c7b1:decide (a0_4=a1_4)=false:=by simpa using c7))
      (try (have c7b2:(a0_4 == a1_4)=false:=by simpa using c7))
      (try (have c7b3:¬ (a0_4=a1_4):=by simpa using c7))
      clear c7
      obtain rfl:=Option.some.inj H
      go_enter Try.func77,Try.ntmps77
      go_wp2_with (first |((with_reducible refine jv (N:=2) rfl ?_);refine bE (N:=2) (cs:=#[.int .i64 a0_0, .int .i64 a0_1, .int .i64 a0_2, .int .i64 a0_3, .bool a0_4]) (t:=54) ?_;intro gb699 hg w8 hbox hb;have BK699:=am (hbox);have GW699:=am ((Y0:w.heap.size≤gb699));have GE699:=am ((Y0:w.heap.size≤gb699));replace HB:=am (jd (bq) hb);clear hb hbox hg) |((with_reducible refine jv (N:=3) rfl ?_);refine bE (N:=3) (cs:=#[.int .i64 a1_0, .int .i64 a1_1, .int .i64 a1_2, .int .i64 a1_3, .bool a1_4]) (t:=54) ?_;intro gb700 hg w9 hbox hb;have BK700:=am (hbox);have GW700:=am ((Y11:w.heap.size≤gb700));have GE700:=am ((Y11:w.heap.size≤gb700));have NB699_700:=am ((Y27:gb699≠gb700));have NB700_699:=am ((Y28:gb700≠gb699));replace BK699:=am (jb (g:=gb699) (o:=.cells #[.int .i64 a0_0, .int .i64 a0_1, .int .i64 a0_2, .int .i64 a0_3, .bool a0_4] 54 (0,0)) (kq BK699.out) hb);replace HB:=am (jd (Y29) hb);clear hb hbox hg;have hnb10:=NB699_700.out;have hnc10:=NB700_699.out;have hcz11_0:=bc0 BK699.out;have hcz11_1:=bc1 BK699.out;have hcz11_2:=bc2 BK699.out;have hcz11_3:=bc3 BK699.out;have hcz11_4:w9.cell? ⟨gb699,4,none⟩=some (.bool a0_4):=(jL BK699.out 4).trans rfl;have hfz11_0:=ja BK699.out 0;have hfz11_1:=ja BK699.out 1;have hfz11_2:=ja BK699.out 2;have hfz11_3:=ja BK699.out 3;have hfz11_4:=ja BK699.out 4;have hcz12_0:=bc0 BK700.out;have hcz12_1:=bc1 BK700.out;have hcz12_2:=bc2 BK700.out;have hcz12_3:=bc3 BK700.out;have hcz12_4:w9.cell? ⟨gb700,4,none⟩=some (.bool a1_4):=(jL BK700.out 4).trans rfl;have hfz12_0:=ja BK700.out 0;have hfz12_1:=ja BK700.out 1;have hfz12_2:=ja BK700.out 2;have hfz12_3:=ja BK700.out 3;have hfz12_4:=ja BK700.out 4))
      go_ret
      exact ⟨Y1,Y30⟩
     ·rw [if_neg c7] at H
      have c7b0:(a0_4 != a1_4)=false:=by simpa using c7
      (try (have c7b1:decide (a0_4=a1_4)=true:=by simpa using c7))
      (try (have c7b2:(a0_4 == a1_4)=true:=by simpa using c7))
      clear c7
      obtain rfl:=Option.some.inj H
      go_enter Try.func77,Try.ntmps77
      go_wp2_with (first |((with_reducible refine jv (N:=2) rfl ?_);refine bE (N:=2) (cs:=#[.int .i64 a0_0, .int .i64 a0_1, .int .i64 a0_2, .int .i64 a0_3, .bool a0_4]) (t:=54) ?_;intro gb699 hg w13 hbox hb;have BK699:=am (hbox);have GW699:=am ((Y0:w.heap.size≤gb699));have GE699:=am ((Y0:w.heap.size≤gb699));replace HB:=am (jd (bq) hb);clear hb hbox hg) |((with_reducible refine jv (N:=3) rfl ?_);refine bE (N:=3) (cs:=#[.int .i64 a1_0, .int .i64 a1_1, .int .i64 a1_2, .int .i64 a1_3, .bool a1_4]) (t:=54) ?_;intro gb700 hg w14 hbox hb;have BK700:=am (hbox);have GW700:=am ((Y11:w.heap.size≤gb700));have GE700:=am ((Y11:w.heap.size≤gb700));have NB699_700:=am ((Y27:gb699≠gb700));have NB700_699:=am ((Y28:gb700≠gb699));replace BK699:=am (jb (g:=gb699) (o:=.cells #[.int .i64 a0_0, .int .i64 a0_1, .int .i64 a0_2, .int .i64 a0_3, .bool a0_4] 54 (0,0)) (kq BK699.out) hb);replace HB:=am (jd (Y29) hb);clear hb hbox hg;have hnb15:=NB699_700.out;have hnc15:=NB700_699.out;have hcz16_0:=bc0 BK699.out;have hcz16_1:=bc1 BK699.out;have hcz16_2:=bc2 BK699.out;have hcz16_3:=bc3 BK699.out;have hcz16_4:w14.cell? ⟨gb699,4,none⟩=some (.bool a0_4):=(jL BK699.out 4).trans rfl;have hfz16_0:=ja BK699.out 0;have hfz16_1:=ja BK699.out 1;have hfz16_2:=ja BK699.out 2;have hfz16_3:=ja BK699.out 3;have hfz16_4:=ja BK699.out 4;have hcz17_0:=bc0 BK700.out;have hcz17_1:=bc1 BK700.out;have hcz17_2:=bc2 BK700.out;have hcz17_3:=bc3 BK700.out;have hcz17_4:w14.cell? ⟨gb700,4,none⟩=some (.bool a1_4):=(jL BK700.out 4).trans rfl;have hfz17_0:=ja BK700.out 0;have hfz17_1:=ja BK700.out 1;have hfz17_2:=ja BK700.out 2;have hfz17_3:=ja BK700.out 3;have hfz17_4:=ja BK700.out 4))
      go_ret
      exact ⟨Y1,Y30⟩
    ·rw [if_neg c6] at H
     have c6b0:(a0_3 == a1_3)=false:=beq_eq_false_iff_ne.mpr c6
     have c6b1:(a0_3 != a1_3)=true:=bne_iff_ne.mpr c6
     obtain rfl:=Option.some.inj H
     go_enter Try.func77,Try.ntmps77
     go_wp2_with (first |((with_reducible refine jv (N:=2) rfl ?_);refine bE (N:=2) (cs:=#[.int .i64 a0_0, .int .i64 a0_1, .int .i64 a0_2, .int .i64 a0_3, .bool a0_4]) (t:=54) ?_;intro gb699 hg w18 hbox hb;have BK699:=am (hbox);have GW699:=am ((Y0:w.heap.size≤gb699));have GE699:=am ((Y0:w.heap.size≤gb699));replace HB:=am (jd (bq) hb);clear hb hbox hg) |((with_reducible refine jv (N:=3) rfl ?_);refine bE (N:=3) (cs:=#[.int .i64 a1_0, .int .i64 a1_1, .int .i64 a1_2, .int .i64 a1_3, .bool a1_4]) (t:=54) ?_;intro gb700 hg w19 hbox hb;have BK700:=am (hbox);have GW700:=am ((Y11:w.heap.size≤gb700));have GE700:=am ((Y11:w.heap.size≤gb700));have NB699_700:=am ((Y27:gb699≠gb700));have NB700_699:=am ((Y28:gb700≠gb699));replace BK699:=am (jb (g:=gb699) (o:=.cells #[.int .i64 a0_0, .int .i64 a0_1, .int .i64 a0_2, .int .i64 a0_3, .bool a0_4] 54 (0,0)) (kq BK699.out) hb);replace HB:=am (jd (Y29) hb);clear hb hbox hg;have hnb20:=NB699_700.out;have hnc20:=NB700_699.out;have hcz21_0:=bc0 BK699.out;have hcz21_1:=bc1 BK699.out;have hcz21_2:=bc2 BK699.out;have hcz21_3:=bc3 BK699.out;have hcz21_4:w19.cell? ⟨gb699,4,none⟩=some (.bool a0_4):=(jL BK699.out 4).trans rfl;have hfz21_0:=ja BK699.out 0;have hfz21_1:=ja BK699.out 1;have hfz21_2:=ja BK699.out 2;have hfz21_3:=ja BK699.out 3;have hfz21_4:=ja BK699.out 4;have hcz22_0:=bc0 BK700.out;have hcz22_1:=bc1 BK700.out;have hcz22_2:=bc2 BK700.out;have hcz22_3:=bc3 BK700.out;have hcz22_4:w19.cell? ⟨gb700,4,none⟩=some (.bool a1_4):=(jL BK700.out 4).trans rfl;have hfz22_0:=ja BK700.out 0;have hfz22_1:=ja BK700.out 1;have hfz22_2:=ja BK700.out 2;have hfz22_3:=ja BK700.out 3;have hfz22_4:=ja BK700.out 4))
     go_ret
     exact ⟨Y1,Y30⟩
   ·rw [if_neg c5] at H
    have c5b0:(a0_2 == a1_2)=false:=beq_eq_false_iff_ne.mpr c5
    have c5b1:(a0_2 != a1_2)=true:=bne_iff_ne.mpr c5
    obtain rfl:=Option.some.inj H
    go_enter Try.func77,Try.ntmps77
    go_wp2_with (first |((with_reducible refine jv (N:=2) rfl ?_);refine bE (N:=2) (cs:=#[.int .i64 a0_0, .int .i64 a0_1, .int .i64 a0_2, .int .i64 a0_3, .bool a0_4]) (t:=54) ?_;intro gb699 hg w23 hbox hb;have BK699:=am (hbox);have GW699:=am ((Y0:w.heap.size≤gb699));have GE699:=am ((Y0:w.heap.size≤gb699));replace HB:=am (jd (bq) hb);clear hb hbox hg) |((with_reducible refine jv (N:=3) rfl ?_);refine bE (N:=3) (cs:=#[.int .i64 a1_0, .int .i64 a1_1, .int .i64 a1_2, .int .i64 a1_3, .bool a1_4]) (t:=54) ?_;intro gb700 hg w24 hbox hb;have BK700:=am (hbox);have GW700:=am ((Y11:w.heap.size≤gb700));have GE700:=am ((Y11:w.heap.size≤gb700));have NB699_700:=am ((Y27:gb699≠gb700));have NB700_699:=am ((Y28:gb700≠gb699));replace BK699:=am (jb (g:=gb699) (o:=.cells #[.int .i64 a0_0, .int .i64 a0_1, .int .i64 a0_2, .int .i64 a0_3, .bool a0_4] 54 (0,0)) (kq BK699.out) hb);replace HB:=am (jd (Y29) hb);clear hb hbox hg;have hnb25:=NB699_700.out;have hnc25:=NB700_699.out;have hcz26_0:=bc0 BK699.out;have hcz26_1:=bc1 BK699.out;have hcz26_2:=bc2 BK699.out;have hcz26_3:=bc3 BK699.out;have hcz26_4:w24.cell? ⟨gb699,4,none⟩=some (.bool a0_4):=(jL BK699.out 4).trans rfl;have hfz26_0:=ja BK699.out 0;have hfz26_1:=ja BK699.out 1;have hfz26_2:=ja BK699.out 2;have hfz26_3:=ja BK699.out 3;have hfz26_4:=ja BK699.out 4;have hcz27_0:=bc0 BK700.out;have hcz27_1:=bc1 BK700.out;have hcz27_2:=bc2 BK700.out;have hcz27_3:=bc3 BK700.out;have hcz27_4:w24.cell? ⟨gb700,4,none⟩=some (.bool a1_4):=(jL BK700.out 4).trans rfl;have hfz27_0:=ja BK700.out 0;have hfz27_1:=ja BK700.out 1;have hfz27_2:=ja BK700.out 2;have hfz27_3:=ja BK700.out 3;have hfz27_4:=ja BK700.out 4))
    go_ret
    exact ⟨Y1,Y30⟩
  ·rw [if_neg c4] at H
   have c4b0:(a0_1 == a1_1)=false:=beq_eq_false_iff_ne.mpr c4
   have c4b1:(a0_1 != a1_1)=true:=bne_iff_ne.mpr c4
   obtain rfl:=Option.some.inj H
   go_enter Try.func77,Try.ntmps77
   go_wp2_with (first |((with_reducible refine jv (N:=2) rfl ?_);refine bE (N:=2) (cs:=#[.int .i64 a0_0, .int .i64 a0_1, .int .i64 a0_2, .int .i64 a0_3, .bool a0_4]) (t:=54) ?_;intro gb699 hg w28 hbox hb;have BK699:=am (hbox);have GW699:=am ((Y0:w.heap.size≤gb699));have GE699:=am ((Y0:w.heap.size≤gb699));replace HB:=am (jd (bq) hb);clear hb hbox hg) |((with_reducible refine jv (N:=3) rfl ?_);refine bE (N:=3) (cs:=#[.int .i64 a1_0, .int .i64 a1_1, .int .i64 a1_2, .int .i64 a1_3, .bool a1_4]) (t:=54) ?_;intro gb700 hg w29 hbox hb;have BK700:=am (hbox);have GW700:=am ((Y11:w.heap.size≤gb700));have GE700:=am ((Y11:w.heap.size≤gb700));have NB699_700:=am ((Y27:gb699≠gb700));have NB700_699:=am ((Y28:gb700≠gb699));replace BK699:=am (jb (g:=gb699) (o:=.cells #[.int .i64 a0_0, .int .i64 a0_1, .int .i64 a0_2, .int .i64 a0_3, .bool a0_4] 54 (0,0)) (kq BK699.out) hb);replace HB:=am (jd (Y29) hb);clear hb hbox hg;have hnb30:=NB699_700.out;have hnc30:=NB700_699.out;have hcz31_0:=bc0 BK699.out;have hcz31_1:=bc1 BK699.out;have hcz31_2:=bc2 BK699.out;have hcz31_3:=bc3 BK699.out;have hcz31_4:w29.cell? ⟨gb699,4,none⟩=some (.bool a0_4):=(jL BK699.out 4).trans rfl;have hfz31_0:=ja BK699.out 0;have hfz31_1:=ja BK699.out 1;have hfz31_2:=ja BK699.out 2;have hfz31_3:=ja BK699.out 3;have hfz31_4:=ja BK699.out 4;have hcz32_0:=bc0 BK700.out;have hcz32_1:=bc1 BK700.out;have hcz32_2:=bc2 BK700.out;have hcz32_3:=bc3 BK700.out;have hcz32_4:w29.cell? ⟨gb700,4,none⟩=some (.bool a1_4):=(jL BK700.out 4).trans rfl;have hfz32_0:=ja BK700.out 0;have hfz32_1:=ja BK700.out 1;have hfz32_2:=ja BK700.out 2;have hfz32_3:=ja BK700.out 3;have hfz32_4:=ja BK700.out 4))
   go_ret
   exact ⟨Y1,Y30⟩
 ·rw [if_neg c3] at H
  have c3b0:(a0_0 == a1_0)=false:=beq_eq_false_iff_ne.mpr c3
  have c3b1:(a0_0 != a1_0)=true:=bne_iff_ne.mpr c3
  obtain rfl:=Option.some.inj H
  go_enter Try.func77,Try.ntmps77
  go_wp2_with (first |((with_reducible refine jv (N:=2) rfl ?_);refine bE (N:=2) (cs:=#[.int .i64 a0_0, .int .i64 a0_1, .int .i64 a0_2, .int .i64 a0_3, .bool a0_4]) (t:=54) ?_;intro gb699 hg w33 hbox hb;have BK699:=am (hbox);have GW699:=am ((Y0:w.heap.size≤gb699));have GE699:=am ((Y0:w.heap.size≤gb699));replace HB:=am (jd (bq) hb);clear hb hbox hg) |((with_reducible refine jv (N:=3) rfl ?_);refine bE (N:=3) (cs:=#[.int .i64 a1_0, .int .i64 a1_1, .int .i64 a1_2, .int .i64 a1_3, .bool a1_4]) (t:=54) ?_;intro gb700 hg w34 hbox hb;have BK700:=am (hbox);have GW700:=am ((Y11:w.heap.size≤gb700));have GE700:=am ((Y11:w.heap.size≤gb700));have NB699_700:=am ((Y27:gb699≠gb700));have NB700_699:=am ((Y28:gb700≠gb699));replace BK699:=am (jb (g:=gb699) (o:=.cells #[.int .i64 a0_0, .int .i64 a0_1, .int .i64 a0_2, .int .i64 a0_3, .bool a0_4] 54 (0,0)) (kq BK699.out) hb);replace HB:=am (jd (Y29) hb);clear hb hbox hg;have hnb35:=NB699_700.out;have hnc35:=NB700_699.out;have hcz36_0:=bc0 BK699.out;have hcz36_1:=bc1 BK699.out;have hcz36_2:=bc2 BK699.out;have hcz36_3:=bc3 BK699.out;have hcz36_4:w34.cell? ⟨gb699,4,none⟩=some (.bool a0_4):=(jL BK699.out 4).trans rfl;have hfz36_0:=ja BK699.out 0;have hfz36_1:=ja BK699.out 1;have hfz36_2:=ja BK699.out 2;have hfz36_3:=ja BK699.out 3;have hfz36_4:=ja BK699.out 4;have hcz37_0:=bc0 BK700.out;have hcz37_1:=bc1 BK700.out;have hcz37_2:=bc2 BK700.out;have hcz37_3:=bc3 BK700.out;have hcz37_4:w34.cell? ⟨gb700,4,none⟩=some (.bool a1_4):=(jL BK700.out 4).trans rfl;have hfz37_0:=ja BK700.out 0;have hfz37_1:=ja BK700.out 1;have hfz37_2:=ja BK700.out 2;have hfz37_3:=ja BK700.out 3;have hfz37_4:=ja BK700.out 4))
  go_ret
  exact ⟨Y1,Y30⟩
def jO.l0 : Nat → List (S54) → List (S54) → Int → Option (Bool)
 | 0,_,_,_=>none
 | k+1,x0,x1,x5=>if x5<(x0.length:Int) then (if 0≤x5 then (if x5<(x1.length:Int) then ((jvb.f ((jc x0 x5).f0) ((jc x0 x5).f1) ((jc x0 x5).f2) ((jc x0 x5).f3) ((jc x0 x5).f4) ((jc x1 x5).f0) ((jc x1 x5).f1) ((jc x1 x5).f2) ((jc x1 x5).f3) ((jc x1 x5).f4)).bind fun t703=>(if t703=true then (jO.l0 k x0 x1 (wrap64 (x5+1))) else (some false))) else (none)) else (none)) else (some true)
def jO.f (k : Nat) (l0 : List (S54)) (l1 : List (S54)) : Option (Bool) := if (l0.length : Int) = (l1.length : Int) then (jO.l0 k l0 l1 0) else (some false)
def jO.T6 : Bool × List (List Nat × List Nat) := (true, [([], []), ([], []), ([0, 1], [0, 1]), ([2], [2]), ([], []), ([], []), ([4, 5], [4, 5]), ([6], [6]), ([3, 7], [3, 7]), ([8], [8])])
def jO.B6 : List Nat := [0, 0, 3, 7, 0, 0, 48, 112, 255, 511]
theorem jO.tab6 : rtab .any (opsOf Try.f47 6) = jO.T6 := by kernel_rfl
theorem jO.bits6 : waitsOk jO.T6.2 jO.B6 = true := by kernel_rfl
set_option maxHeartbeats 8000000 in
set_option maxRecDepth 100000 in
theorem jO.calls (k : Nat) (A0 : Option Addr) (c0 : Nat) (l0 : List (S54)) (A1 : Option Addr) (c1 : Nat) (l1 : List (S54)) (r : Bool) (w : World) (hr0 : Kd.C k54 w A0 l0.length l0) (hc0 : l0.length ≤ c0) (hr1 : Kd.C k54 w A1 l1.length l1) (hc1 : l1.length ≤ c1) (h : jO.f k l0 l1 = some r) :
  Calls Try.prog 47 #[.slice A0 l0.length c0, .slice A1 l1.length c1] w fun e w'=>e=.returned (.bool r)∧Below w.heap.size w w':=by
 have hu54:=Try.underlying54
 have HR0:=am hr0
 have HC0:=am hc0
 clear hr0 hc0
 have HR1:=am hr1
 have HC1:=am hc1
 clear hr1 hc1
 have HB:=am (Below.refl w.heap.size w)
 have H:(if (l0.length:Int)=(l1.length:Int) then (jO.l0 k l0 l1 0) else (some false))=some r:=h
 clear h
 by_cases c3:(l0.length:Int)=(l1.length:Int)
 ·rw [if_pos c3] at H
  have c3b0:((l0.length:Int) == (l1.length:Int))=true:=beq_iff_eq.mpr c3
  have c3b1:((l0.length:Int) != (l1.length:Int))=false:=bne_eq_false_iff_eq.mpr c3
  have c3b2:(l0.length == l1.length)=true:=by first | simpa using c3 |(simp at c3 ⊢;omega)
  clear c3
  have H':=am H
  clear H
  go_enter Try.func47,Try.ntmps47
  go_wp2
  go_loopg [5] k (fun kq v5 w'=>∃ (x5_1:Int),v5=.int .i64 x5_1∧jy (jO.l0 kq l0 l1 x5_1=some r)∧jy (kq≤k)∧jy (Below w.heap.size w w'))
  case atStart=>exact ⟨(0),(sq),H',⟨Nat.le_refl _⟩,⟨bq⟩⟩
  case round =>
   clear H'
   try clear c1
   try clear p2
   try clear c3
   try clear c3b0
   try clear c3b1
   try clear c3b2
   obtain ⟨x5_1,rfl,HA,HK1,HB⟩:=hrel
   cases gk with
   | zero=>exact absurd HA.out (by simp [jO.l0])
   | succ k1 =>
    have H:=HA.out
    clear HA
    simp only [jO.l0] at H
    by_cases c4:x5_1<(l0.length:Int)
    ·rw [if_pos c4] at H
     have c4b0:decide (x5_1<(l0.length:Int))=true:=dzT c4
     clear c4
     by_cases c5:0≤x5_1
     ·rw [if_pos c5] at H
      have c5b0:decide (0≤x5_1)=true:=dzT c5
      clear c5
      by_cases c6:x5_1<(l1.length:Int)
      ·rw [if_pos c6] at H
       have c6b0:decide (x5_1<(l1.length:Int))=true:=dzT c6
       clear c6
       replace H:=bzS H
       obtain ⟨t703,A70,H⟩:=H
       replace H:(if t703=true then (jO.l0 k1 l0 l1 (wrap64 (x5_1+1))) else (some false))=some r:=H
       have A7:=am A70
       clear A70
       by_cases c8:t703=true
       ·subst c8
        have H1:(jO.l0 k1 l0 l1 (wrap64 (x5_1+1)))=some r:=by rw [if_pos rfl] at H;exact H
        clear H
        have H:=H1
        clear H1
        have H':=am H
        clear H
        try go_wp2
        replace HB:=am (jl HB.out)
        have p701:0≤(x5_1:Int):=ozD (uq)
        have q701:x5_1<(l0.length:Int):=ozD (uq)
        obtain ⟨ad701,e701,hx701_0,hx701_1,hx701_2,hx701_3,hx701_4⟩:=jjb HR0.out x5_1 p701 q701
        have hw701_4:=hx701_4
        have hw701_3:=hx701_3
        have hw701_2:=hx701_2
        have hw701_1:=hx701_1
        have hw701_0:=hx701_0
        cases e701
        replace hx701_0:=cb HB.out hx701_0
        replace hx701_1:=cb HB.out hx701_1
        replace hx701_2:=cb HB.out hx701_2
        replace hx701_3:=cb HB.out hx701_3
        replace hx701_4:=cb HB.out hx701_4
        replace p701:=ezT p701
        replace q701:=ezT q701
        have p702:0≤(x5_1:Int):=ozD (uq)
        have q702:x5_1<(l1.length:Int):=ozD (uq)
        obtain ⟨ad702,e702,hx702_0,hx702_1,hx702_2,hx702_3,hx702_4⟩:=jjb HR1.out x5_1 p702 q702
        have hw702_4:=hx702_4
        have hw702_3:=hx702_3
        have hw702_2:=hx702_2
        have hw702_1:=hx702_1
        have hw702_0:=hx702_0
        cases e702
        replace hx702_0:=cb HB.out hx702_0
        replace hx702_1:=cb HB.out hx702_1
        replace hx702_2:=cb HB.out hx702_2
        replace hx702_3:=cb HB.out hx702_3
        replace hx702_4:=cb HB.out hx702_4
        replace p702:=ezT p702
        replace q702:=ezT q702
        refine start_ (n:=10) (S:=fun w'=>w'.cell? (ad701.add ((x5_1).toNat * 5))=some (.int .i64 ((jc l0 x5_1).f0))∧w'.cell? ⟨(ad701.add ((x5_1).toNat * 5)).block,(ad701.add ((x5_1).toNat * 5)).off+1,none⟩=some (.int .i64 ((jc l0 x5_1).f1))∧w'.cell? ⟨(ad701.add ((x5_1).toNat * 5)).block,(ad701.add ((x5_1).toNat * 5)).off+2,none⟩=some (.int .i64 ((jc l0 x5_1).f2))∧w'.cell? ⟨(ad701.add ((x5_1).toNat * 5)).block,(ad701.add ((x5_1).toNat * 5)).off+3,none⟩=some (.int .i64 ((jc l0 x5_1).f3))∧w'.cell? ⟨(ad701.add ((x5_1).toNat * 5)).block,(ad701.add ((x5_1).toNat * 5)).off+4,none⟩=some (.bool ((jc l0 x5_1).f4))∧w'.cell? (ad702.add ((x5_1).toNat * 5))=some (.int .i64 ((jc l1 x5_1).f0))∧w'.cell? ⟨(ad702.add ((x5_1).toNat * 5)).block,(ad702.add ((x5_1).toNat * 5)).off+1,none⟩=some (.int .i64 ((jc l1 x5_1).f1))∧w'.cell? ⟨(ad702.add ((x5_1).toNat * 5)).block,(ad702.add ((x5_1).toNat * 5)).off+2,none⟩=some (.int .i64 ((jc l1 x5_1).f2))∧w'.cell? ⟨(ad702.add ((x5_1).toNat * 5)).block,(ad702.add ((x5_1).toNat * 5)).off+3,none⟩=some (.int .i64 ((jc l1 x5_1).f3))∧w'.cell? ⟨(ad702.add ((x5_1).toNat * 5)).block,(ad702.add ((x5_1).toNat * 5)).off+4,none⟩=some (.bool ((jc l1 x5_1).f4))) (ds:=[]) #[false,false,false,false,false,false,false,false,false,false] (by kernel_rfl) rfl rfl ⟨((HB.out.cell (World.block_lt_of_cell? w _ hw701_0)).trans hw701_0),((HB.out.cell (World.block_lt_of_cell? w _ hw701_1)).trans hw701_1),((HB.out.cell (World.block_lt_of_cell? w _ hw701_2)).trans hw701_2),((HB.out.cell (World.block_lt_of_cell? w _ hw701_3)).trans hw701_3),((HB.out.cell (World.block_lt_of_cell? w _ hw701_4)).trans hw701_4),((HB.out.cell (World.block_lt_of_cell? w _ hw702_0)).trans hw702_0),((HB.out.cell (World.block_lt_of_cell? w _ hw702_1)).trans hw702_1),((HB.out.cell (World.block_lt_of_cell? w _ hw702_2)).trans hw702_2),((HB.out.cell (World.block_lt_of_cell? w _ hw702_3)).trans hw702_3),((HB.out.cell (World.block_lt_of_cell? w _ hw702_4)).trans hw702_4)⟩ (fun hHeld=>?_);refine jXb jO.tab6 jO.bits6 (fun HT_ HW_=>?_)
        generalize wr.drew=w9 at HB hx701_0 hx701_1 hx701_2 hx701_3 hx701_4 hx702_0 hx702_1 hx702_2 hx702_3 hx702_4 hHeld ⊢
        refine pq (i:=0) (N:=some 17) #[true,false,false,false,false,false,false,false,false,false] ?_
        refine pq (i:=1) (N:=some 18) #[true,true,false,false,false,false,false,false,false,false] ?_
        refine pq (i:=2) (N:=some 19) #[true,true,true,false,false,false,false,false,false,false] ?_
        refine pq (i:=4) (N:=some 21) #[true,true,true,false,true,false,false,false,false,false] ?_
        refine pq (i:=5) (N:=some 22) #[true,true,true,false,true,true,false,false,false,false] ?_
        refine pq (i:=6) (N:=some 23) #[true,true,true,false,true,true,true,false,false,false] ?_
        refine jKb (i:=3) (N:=some 20) (v:=?_) (a':=?_) #[true,true,true,true,true,true,true,false,false,false] rfl rfl (jgb HT_.out HW_.out (by kernel_rfl)) (fun _ _ _ h=>h) (Or.inl ⟨by rfl,?_⟩) hHeld ?_ ?_
        rotate_left
        ·rintro w' ⟨s0,s1,s2,s3,s4,s5,s6,s7,s8,s9⟩
         go_simp
         with_reducible rfl
        rotate_left
        ·exact sa
        refine jKb (i:=7) (N:=some 24) (v:=?_) (a':=?_) #[true,true,true,true,true,true,true,true,false,false] rfl rfl (jgb HT_.out HW_.out (by kernel_rfl)) (fun _ _ _ h=>h) (Or.inl ⟨by rfl,?_⟩) hHeld ?_ ?_
        rotate_left
        ·rintro w' ⟨s0,s1,s2,s3,s4,s5,s6,s7,s8,s9⟩
         go_simp
         with_reducible rfl
        rotate_left
        ·exact sa
        refine one_ (i:=8) (N:=some 25) #[true,true,true,true,true,true,true,true,true,false] rfl rfl (one_of HT_.out (by kernel_rfl)) (by decide) (fun K hK=>?_)
        refine goes_ Try.func77 (by kernel_rfl) rfl #[.agg #[.int .i64 ((jc l0 x5_1).f0), .int .i64 ((jc l0 x5_1).f1), .int .i64 ((jc l0 x5_1).f2), .int .i64 ((jc l0 x5_1).f3), .bool ((jc l0 x5_1).f4)], .agg #[.int .i64 ((jc l1 x5_1).f0), .int .i64 ((jc l1 x5_1).f1), .int .i64 ((jc l1 x5_1).f2), .int .i64 ((jc l1 x5_1).f3), .bool ((jc l1 x5_1).f4)]] (by rfl) rfl rfl (aq) ?_
        with_reducible refine (jvb.calls ((jc l0 x5_1).f0) ((jc l0 x5_1).f1) ((jc l0 x5_1).f2) ((jc l0 x5_1).f3) ((jc l0 x5_1).f4) ((jc l1 x5_1).f0) ((jc l1 x5_1).f1) ((jc l1 x5_1).f2) ((jc l1 x5_1).f3) ((jc l1 x5_1).f4) true _ A7.out).mono ?_
        rintro e w10 ⟨rfl,hb⟩
        refine ⟨_,rfl,?_⟩
        replace HB:=am (jd (bq) hb)
        (try clear hb)
        (try clear hb2)
        (try clear hk)
        (try clear hi)
        refine hK.out _ _ ⟨((HB.out.cell (World.block_lt_of_cell? w _ hw701_0)).trans hw701_0),((HB.out.cell (World.block_lt_of_cell? w _ hw701_1)).trans hw701_1),((HB.out.cell (World.block_lt_of_cell? w _ hw701_2)).trans hw701_2),((HB.out.cell (World.block_lt_of_cell? w _ hw701_3)).trans hw701_3),((HB.out.cell (World.block_lt_of_cell? w _ hw701_4)).trans hw701_4),((HB.out.cell (World.block_lt_of_cell? w _ hw702_0)).trans hw702_0),((HB.out.cell (World.block_lt_of_cell? w _ hw702_1)).trans hw702_1),((HB.out.cell (World.block_lt_of_cell? w _ hw702_2)).trans hw702_2),((HB.out.cell (World.block_lt_of_cell? w _ hw702_3)).trans hw702_3),((HB.out.cell (World.block_lt_of_cell? w _ hw702_4)).trans hw702_4)⟩ (fun hHeld=>?_)
        clear hK K
        refine norm_ (a':=?_) ?_ ?_
        rotate_left
        ·show Act.put _ (some 25) _=_
         simp only [Act.put,List.setIfInBounds_toArray,List.set_cons_zero,List.set_cons_succ,jLb,jOb]
         rfl
        refine pq (i:=9) (N:=some 26) #[true,true,true,true,true,true,true,true,true,true] ?_
        refine done_ (done_of HT_.out (by kernel_rfl)) ?_
        try go_wp2
        go_roundg k1
        case measure=>have:=HK1.out;omega
        case rel=>exact ⟨(wrap64 (x5_1+1)),(sq),H',⟨by have:=HK1.out;omega⟩,⟨bq⟩⟩
       ·replace c8:=Bool.eq_false_iff.mpr c8
        subst c8
        have H1:(some false)=some r:=by rw [if_neg (show ¬ (false=true) by decide)] at H;exact H
        clear H
        have H:=H1
        clear H1
        obtain rfl:=Option.some.inj H
        try go_wp2
        replace HB:=am (jl HB.out)
        have p701:0≤(x5_1:Int):=ozD (uq)
        have q701:x5_1<(l0.length:Int):=ozD (uq)
        obtain ⟨ad701,e701,hx701_0,hx701_1,hx701_2,hx701_3,hx701_4⟩:=jjb HR0.out x5_1 p701 q701
        have hw701_4:=hx701_4
        have hw701_3:=hx701_3
        have hw701_2:=hx701_2
        have hw701_1:=hx701_1
        have hw701_0:=hx701_0
        cases e701
        replace hx701_0:=cb HB.out hx701_0
        replace hx701_1:=cb HB.out hx701_1
        replace hx701_2:=cb HB.out hx701_2
        replace hx701_3:=cb HB.out hx701_3
        replace hx701_4:=cb HB.out hx701_4
        replace p701:=ezT p701
        replace q701:=ezT q701
        have p702:0≤(x5_1:Int):=ozD (uq)
        have q702:x5_1<(l1.length:Int):=ozD (uq)
        obtain ⟨ad702,e702,hx702_0,hx702_1,hx702_2,hx702_3,hx702_4⟩:=jjb HR1.out x5_1 p702 q702
        have hw702_4:=hx702_4
        have hw702_3:=hx702_3
        have hw702_2:=hx702_2
        have hw702_1:=hx702_1
        have hw702_0:=hx702_0
        cases e702
        replace hx702_0:=cb HB.out hx702_0
        replace hx702_1:=cb HB.out hx702_1
        replace hx702_2:=cb HB.out hx702_2
        replace hx702_3:=cb HB.out hx702_3
        replace hx702_4:=cb HB.out hx702_4
        replace p702:=ezT p702
        replace q702:=ezT q702
        refine start_ (n:=10) (S:=fun w'=>w'.cell? (ad701.add ((x5_1).toNat * 5))=some (.int .i64 ((jc l0 x5_1).f0))∧w'.cell? ⟨(ad701.add ((x5_1).toNat * 5)).block,(ad701.add ((x5_1).toNat * 5)).off+1,none⟩=some (.int .i64 ((jc l0 x5_1).f1))∧w'.cell? ⟨(ad701.add ((x5_1).toNat * 5)).block,(ad701.add ((x5_1).toNat * 5)).off+2,none⟩=some (.int .i64 ((jc l0 x5_1).f2))∧w'.cell? ⟨(ad701.add ((x5_1).toNat * 5)).block,(ad701.add ((x5_1).toNat * 5)).off+3,none⟩=some (.int .i64 ((jc l0 x5_1).f3))∧w'.cell? ⟨(ad701.add ((x5_1).toNat * 5)).block,(ad701.add ((x5_1).toNat * 5)).off+4,none⟩=some (.bool ((jc l0 x5_1).f4))∧w'.cell? (ad702.add ((x5_1).toNat * 5))=some (.int .i64 ((jc l1 x5_1).f0))∧w'.cell? ⟨(ad702.add ((x5_1).toNat * 5)).block,(ad702.add ((x5_1).toNat * 5)).off+1,none⟩=some (.int .i64 ((jc l1 x5_1).f1))∧w'.cell? ⟨(ad702.add ((x5_1).toNat * 5)).block,(ad702.add ((x5_1).toNat * 5)).off+2,none⟩=some (.int .i64 ((jc l1 x5_1).f2))∧w'.cell? ⟨(ad702.add ((x5_1).toNat * 5)).block,(ad702.add ((x5_1).toNat * 5)).off+3,none⟩=some (.int .i64 ((jc l1 x5_1).f3))∧w'.cell? ⟨(ad702.add ((x5_1).toNat * 5)).block,(ad702.add ((x5_1).toNat * 5)).off+4,none⟩=some (.bool ((jc l1 x5_1).f4))) (ds:=[]) #[false,false,false,false,false,false,false,false,false,false] (by kernel_rfl) rfl rfl ⟨((HB.out.cell (World.block_lt_of_cell? w _ hw701_0)).trans hw701_0),((HB.out.cell (World.block_lt_of_cell? w _ hw701_1)).trans hw701_1),((HB.out.cell (World.block_lt_of_cell? w _ hw701_2)).trans hw701_2),((HB.out.cell (World.block_lt_of_cell? w _ hw701_3)).trans hw701_3),((HB.out.cell (World.block_lt_of_cell? w _ hw701_4)).trans hw701_4),((HB.out.cell (World.block_lt_of_cell? w _ hw702_0)).trans hw702_0),((HB.out.cell (World.block_lt_of_cell? w _ hw702_1)).trans hw702_1),((HB.out.cell (World.block_lt_of_cell? w _ hw702_2)).trans hw702_2),((HB.out.cell (World.block_lt_of_cell? w _ hw702_3)).trans hw702_3),((HB.out.cell (World.block_lt_of_cell? w _ hw702_4)).trans hw702_4)⟩ (fun hHeld=>?_);refine jXb jO.tab6 jO.bits6 (fun HT_ HW_=>?_)
        generalize wr.drew=w11 at HB hx701_0 hx701_1 hx701_2 hx701_3 hx701_4 hx702_0 hx702_1 hx702_2 hx702_3 hx702_4 hHeld ⊢
        refine pq (i:=0) (N:=some 17) #[true,false,false,false,false,false,false,false,false,false] ?_
        refine pq (i:=1) (N:=some 18) #[true,true,false,false,false,false,false,false,false,false] ?_
        refine pq (i:=2) (N:=some 19) #[true,true,true,false,false,false,false,false,false,false] ?_
        refine pq (i:=4) (N:=some 21) #[true,true,true,false,true,false,false,false,false,false] ?_
        refine pq (i:=5) (N:=some 22) #[true,true,true,false,true,true,false,false,false,false] ?_
        refine pq (i:=6) (N:=some 23) #[true,true,true,false,true,true,true,false,false,false] ?_
        refine jKb (i:=3) (N:=some 20) (v:=?_) (a':=?_) #[true,true,true,true,true,true,true,false,false,false] rfl rfl (jgb HT_.out HW_.out (by kernel_rfl)) (fun _ _ _ h=>h) (Or.inl ⟨by rfl,?_⟩) hHeld ?_ ?_
        rotate_left
        ·rintro w' ⟨s0,s1,s2,s3,s4,s5,s6,s7,s8,s9⟩
         go_simp
         with_reducible rfl
        rotate_left
        ·exact sa
        refine jKb (i:=7) (N:=some 24) (v:=?_) (a':=?_) #[true,true,true,true,true,true,true,true,false,false] rfl rfl (jgb HT_.out HW_.out (by kernel_rfl)) (fun _ _ _ h=>h) (Or.inl ⟨by rfl,?_⟩) hHeld ?_ ?_
        rotate_left
        ·rintro w' ⟨s0,s1,s2,s3,s4,s5,s6,s7,s8,s9⟩
         go_simp
         with_reducible rfl
        rotate_left
        ·exact sa
        refine one_ (i:=8) (N:=some 25) #[true,true,true,true,true,true,true,true,true,false] rfl rfl (one_of HT_.out (by kernel_rfl)) (by decide) (fun K hK=>?_)
        refine goes_ Try.func77 (by kernel_rfl) rfl #[.agg #[.int .i64 ((jc l0 x5_1).f0), .int .i64 ((jc l0 x5_1).f1), .int .i64 ((jc l0 x5_1).f2), .int .i64 ((jc l0 x5_1).f3), .bool ((jc l0 x5_1).f4)], .agg #[.int .i64 ((jc l1 x5_1).f0), .int .i64 ((jc l1 x5_1).f1), .int .i64 ((jc l1 x5_1).f2), .int .i64 ((jc l1 x5_1).f3), .bool ((jc l1 x5_1).f4)]] (by rfl) rfl rfl (aq) ?_
        with_reducible refine (jvb.calls ((jc l0 x5_1).f0) ((jc l0 x5_1).f1) ((jc l0 x5_1).f2) ((jc l0 x5_1).f3) ((jc l0 x5_1).f4) ((jc l1 x5_1).f0) ((jc l1 x5_1).f1) ((jc l1 x5_1).f2) ((jc l1 x5_1).f3) ((jc l1 x5_1).f4) false _ A7.out).mono ?_
        rintro e w12 ⟨rfl,hb⟩
        refine ⟨_,rfl,?_⟩
        replace HB:=am (jd (bq) hb)
        (try clear hb)
        (try clear hb2)
        (try clear hk)
        (try clear hi)
        refine hK.out _ _ ⟨((HB.out.cell (World.block_lt_of_cell? w _ hw701_0)).trans hw701_0),((HB.out.cell (World.block_lt_of_cell? w _ hw701_1)).trans hw701_1),((HB.out.cell (World.block_lt_of_cell? w _ hw701_2)).trans hw701_2),((HB.out.cell (World.block_lt_of_cell? w _ hw701_3)).trans hw701_3),((HB.out.cell (World.block_lt_of_cell? w _ hw701_4)).trans hw701_4),((HB.out.cell (World.block_lt_of_cell? w _ hw702_0)).trans hw702_0),((HB.out.cell (World.block_lt_of_cell? w _ hw702_1)).trans hw702_1),((HB.out.cell (World.block_lt_of_cell? w _ hw702_2)).trans hw702_2),((HB.out.cell (World.block_lt_of_cell? w _ hw702_3)).trans hw702_3),((HB.out.cell (World.block_lt_of_cell? w _ hw702_4)).trans hw702_4)⟩ (fun hHeld=>?_)
        clear hK K
        refine norm_ (a':=?_) ?_ ?_
        rotate_left
        ·show Act.put _ (some 25) _=_
         simp only [Act.put,List.setIfInBounds_toArray,List.set_cons_zero,List.set_cons_succ,jLb,jOb]
         rfl
        refine pq (i:=9) (N:=some 26) #[true,true,true,true,true,true,true,true,true,true] ?_
        refine done_ (done_of HT_.out (by kernel_rfl)) ?_
        try go_wp2
        go_ret
        exact ⟨Y1,bq⟩
      ·rw [if_neg c6] at H
       exact absurd H (by simp)
     ·rw [if_neg c5] at H
      exact absurd H (by simp)
    ·rw [if_neg c4] at H
     have c4b0:decide (x5_1<(l0.length:Int))=false:=dzF c4
     clear c4
     obtain rfl:=Option.some.inj H
     go_wp2
     go_ret
     exact ⟨Y1,bq⟩
 ·rw [if_neg c3] at H
  have c3b0:((l0.length:Int) == (l1.length:Int))=false:=beq_eq_false_iff_ne.mpr c3
  have c3b1:((l0.length:Int) != (l1.length:Int))=true:=bne_iff_ne.mpr c3
  have c3b2:(l0.length == l1.length)=false:=by first | simpa using c3 |(simp at c3 ⊢;omega)
  obtain rfl:=Option.some.inj H
  go_enter Try.func47,Try.ntmps47
  go_wp2
  go_ret
  exact ⟨Y1,bq⟩
def jua.f (k : Nat) (l0_0 : List (S54)) (l1_0 : List (S54)) : Option (Bool) := (jO.f k l0_0 l1_0).bind fun t706 => (if t706 = true then (some true) else (some false))
set_option maxHeartbeats 8000000 in
set_option maxRecDepth 100000 in
theorem jua.calls (k : Nat) (A0_0 : Option Addr) (c0_0 : Nat) (l0_0 : List (S54)) (A1_0 : Option Addr) (c1_0 : Nat) (l1_0 : List (S54)) (r : Bool) (w : World) (hr0_0 : Kd.C k54 w A0_0 l0_0.length l0_0) (hc0_0 : l0_0.length ≤ c0_0) (hr1_0 : Kd.C k54 w A1_0 l1_0.length l1_0) (hc1_0 : l1_0.length ≤ c1_0) (h : jua.f k l0_0 l1_0 = some r) :
  Calls Try.prog 15 #[.agg #[.slice A0_0 l0_0.length c0_0], .agg #[.slice A1_0 l1_0.length c1_0]] w fun e w'=>e=.returned (.bool r)∧Below w.heap.size w w':=by
 have hu32:=Try.underlying32
 have HR0_0:=am hr0_0
 have HC0_0:=am hc0_0
 clear hr0_0 hc0_0
 have HR1_0:=am hr1_0
 have HC1_0:=am hc1_0
 clear hr1_0 hc1_0
 have HB:=am (Below.refl w.heap.size w)
 have H:((jO.f k l0_0 l1_0).bind fun t706=>(if t706=true then (some true) else (some false)))=some r:=h
 clear h
 replace H:=bzS H
 obtain ⟨t706,A30,H⟩:=H
 replace H:(if t706=true then (some true) else (some false))=some r:=H
 have A3:=am A30
 clear A30
 by_cases c4:t706=true
 ·subst c4
  have H1:(some true)=some r:=by rw [if_pos rfl] at H;exact H
  clear H
  have H:=H1
  clear H1
  obtain rfl:=Option.some.inj H
  go_enter Try.func15,Try.ntmps15
  go_wp2_with (first |((with_reducible refine jv (N:=2) rfl ?_);refine bE (N:=2) (cs:=#[.slice A0_0 l0_0.length c0_0]) (t:=32) ?_;intro gb704 hg w5 hbox hb;have BK704:=am (hbox);have GW704:=am ((Y0:w.heap.size≤gb704));have GE704:=am ((Y0:w.heap.size≤gb704));replace HB:=am (jd (bq) hb);clear hb hbox hg) |((with_reducible refine jv (N:=3) rfl ?_);refine bE (N:=3) (cs:=#[.slice A1_0 l1_0.length c1_0]) (t:=32) ?_;intro gb705 hg w6 hbox hb;have BK705:=am (hbox);have GW705:=am ((Y44:w.heap.size≤gb705));have GE705:=am ((Y44:w.heap.size≤gb705));have NB704_705:=am ((by rw [hg];exact Nat.ne_of_lt (jZ (g:=gb704) (o:=.cells #[.slice A0_0 l0_0.length c0_0] 32 (0,0)) (kq BK704.out)):gb704≠gb705));have NB705_704:=am ((by rw [hg];exact Nat.ne_of_gt (jZ (g:=gb704) (o:=.cells #[.slice A0_0 l0_0.length c0_0] 32 (0,0)) (kq BK704.out)):gb705≠gb704));replace BK704:=am (jb (g:=gb704) (o:=.cells #[.slice A0_0 l0_0.length c0_0] 32 (0,0)) (kq BK704.out) hb);replace HB:=am (jd (Y82) hb);clear hb hbox hg;have hnb7:=NB704_705.out;have hnc7:=NB705_704.out;have hcz8_0:=bc0 BK704.out;have hfz8_0:=ja BK704.out 0;have hcz9_0:=bc0 BK705.out;have hfz9_0:=ja BK705.out 0) |((with_reducible refine jw (f:=47) rfl ?_);refine gL (some 9) Try.func47 #[.slice A0_0 l0_0.length c0_0, .slice A1_0 l1_0.length c1_0] ?_;(with_reducible refine (jO.calls k _ _ l0_0 _ _ l1_0 true _ ?side1 ?side2 ?side3 ?side4 A3.out).mono ?_);(case side1=>exact cq (Kd.jI HR0_0.out HB.out));(case side2=>exact HC0_0.out);(case side3=>exact cq (Kd.jI HR1_0.out HB.out));(case side4=>exact HC1_0.out);rintro e w10 ⟨rfl,hb⟩;refine ⟨_,rfl,?_⟩;replace BK704:=am (jb (g:=gb704) (o:=.cells #[.slice A0_0 l0_0.length c0_0] 32 (0,0)) (kq BK704.out) hb);replace BK705:=am (jb (g:=gb705) (o:=.cells #[.slice A1_0 l1_0.length c1_0] 32 (0,0)) (kq BK705.out) hb);replace HB:=am (jd (Y45) hb);(try clear hb);(try clear hb2);(try clear hk);(try clear hi)))
  go_ret
  exact ⟨Y1,Y45⟩
 ·replace c4:=Bool.eq_false_iff.mpr c4
  subst c4
  have H1:(some false)=some r:=by rw [if_neg (show ¬ (false=true) by decide)] at H;exact H
  clear H
  have H:=H1
  clear H1
  obtain rfl:=Option.some.inj H
  go_enter Try.func15,Try.ntmps15
  go_wp2_with (first |((with_reducible refine jv (N:=2) rfl ?_);refine bE (N:=2) (cs:=#[.slice A0_0 l0_0.length c0_0]) (t:=32) ?_;intro gb704 hg w11 hbox hb;have BK704:=am (hbox);have GW704:=am ((Y0:w.heap.size≤gb704));have GE704:=am ((Y0:w.heap.size≤gb704));replace HB:=am (jd (bq) hb);clear hb hbox hg) |((with_reducible refine jv (N:=3) rfl ?_);refine bE (N:=3) (cs:=#[.slice A1_0 l1_0.length c1_0]) (t:=32) ?_;intro gb705 hg w12 hbox hb;have BK705:=am (hbox);have GW705:=am ((Y44:w.heap.size≤gb705));have GE705:=am ((Y44:w.heap.size≤gb705));have NB704_705:=am ((by rw [hg];exact Nat.ne_of_lt (jZ (g:=gb704) (o:=.cells #[.slice A0_0 l0_0.length c0_0] 32 (0,0)) (kq BK704.out)):gb704≠gb705));have NB705_704:=am ((by rw [hg];exact Nat.ne_of_gt (jZ (g:=gb704) (o:=.cells #[.slice A0_0 l0_0.length c0_0] 32 (0,0)) (kq BK704.out)):gb705≠gb704));replace BK704:=am (jb (g:=gb704) (o:=.cells #[.slice A0_0 l0_0.length c0_0] 32 (0,0)) (kq BK704.out) hb);replace HB:=am (jd (Y82) hb);clear hb hbox hg;have hnb13:=NB704_705.out;have hnc13:=NB705_704.out;have hcz14_0:=bc0 BK704.out;have hfz14_0:=ja BK704.out 0;have hcz15_0:=bc0 BK705.out;have hfz15_0:=ja BK705.out 0) |((with_reducible refine jw (f:=47) rfl ?_);refine gL (some 9) Try.func47 #[.slice A0_0 l0_0.length c0_0, .slice A1_0 l1_0.length c1_0] ?_;(with_reducible refine (jO.calls k _ _ l0_0 _ _ l1_0 false _ ?side1 ?side2 ?side3 ?side4 A3.out).mono ?_);(case side1=>exact cq (Kd.jI HR0_0.out HB.out));(case side2=>exact HC0_0.out);(case side3=>exact cq (Kd.jI HR1_0.out HB.out));(case side4=>exact HC1_0.out);rintro e w16 ⟨rfl,hb⟩;refine ⟨_,rfl,?_⟩;replace BK704:=am (jb (g:=gb704) (o:=.cells #[.slice A0_0 l0_0.length c0_0] 32 (0,0)) (kq BK704.out) hb);replace BK705:=am (jb (g:=gb705) (o:=.cells #[.slice A1_0 l1_0.length c1_0] 32 (0,0)) (kq BK705.out) hb);replace HB:=am (jd (Y45) hb);(try clear hb);(try clear hb2);(try clear hk);(try clear hi)))
  go_ret
  exact ⟨Y1,Y45⟩
def jwb.f (a0_0 : ByteArray) (a0_1 : Int) (a1_0 : ByteArray) (a1_1 : Int) : Option (Bool) := if a0_0.toList = a1_0.toList then (if a0_1 = a1_1 then (some true) else (some false)) else (some false)
set_option maxHeartbeats 8000000 in
set_option maxRecDepth 100000 in
theorem jwb.calls (a0_0 : ByteArray) (a0_1 : Int) (a1_0 : ByteArray) (a1_1 : Int) (r : Bool) (w : World) (h : jwb.f a0_0 a0_1 a1_0 a1_1 = some r) :
  Calls Try.prog 78 #[.agg #[.string a0_0, .int .i64 a0_1], .agg #[.string a1_0, .int .i64 a1_1]] w fun e w'=>e=.returned (.bool r)∧Below w.heap.size w w':=by
 have hu94:=Try.underlying94
 have HB:=am (Below.refl w.heap.size w)
 have H:(if a0_0.toList=a1_0.toList then (if a0_1=a1_1 then (some true) else (some false)) else (some false))=some r:=h
 clear h
 by_cases c3:a0_0.toList=a1_0.toList
 ·rw [if_pos c3] at H
  have c3b0:(a0_0.toList == a1_0.toList)=true:=beq_iff_eq.mpr c3
  have c3b1:(a0_0.toList != a1_0.toList)=false:=bne_eq_false_iff_eq.mpr c3
  clear c3
  by_cases c4:a0_1=a1_1
  ·rw [if_pos c4] at H
   have c4b0:(a0_1 == a1_1)=true:=beq_iff_eq.mpr c4
   have c4b1:(a0_1 != a1_1)=false:=bne_eq_false_iff_eq.mpr c4
   clear c4
   obtain rfl:=Option.some.inj H
   go_enter Try.func78,Try.ntmps78
   go_wp2_with (first |((with_reducible refine jv (N:=2) rfl ?_);refine bE (N:=2) (cs:=#[.string a0_0, .int .i64 a0_1]) (t:=94) ?_;intro gb707 hg w5 hbox hb;have BK707:=am (hbox);have GW707:=am ((Y0:w.heap.size≤gb707));have GE707:=am ((Y0:w.heap.size≤gb707));replace HB:=am (jd (bq) hb);clear hb hbox hg) |((with_reducible refine jv (N:=3) rfl ?_);refine bE (N:=3) (cs:=#[.string a1_0, .int .i64 a1_1]) (t:=94) ?_;intro gb708 hg w6 hbox hb;have BK708:=am (hbox);have GW708:=am ((Y31:w.heap.size≤gb708));have GE708:=am ((Y31:w.heap.size≤gb708));have NB707_708:=am ((Y59:gb707≠gb708));have NB708_707:=am ((Y60:gb708≠gb707));replace BK707:=am (jb (g:=gb707) (o:=.cells #[.string a0_0, .int .i64 a0_1] 94 (0,0)) (kq BK707.out) hb);replace HB:=am (jd (Y61) hb);clear hb hbox hg;have hnb7:=NB707_708.out;have hnc7:=NB708_707.out;have hcz8_0:=bc0 BK707.out;have hcz8_1:=bc1 BK707.out;have hfz8_0:=ja BK707.out 0;have hfz8_1:=ja BK707.out 1;have hcz9_0:=bc0 BK708.out;have hcz9_1:=bc1 BK708.out;have hfz9_0:=ja BK708.out 0;have hfz9_1:=ja BK708.out 1))
   go_ret
   exact ⟨Y1,Y62⟩
  ·rw [if_neg c4] at H
   have c4b0:(a0_1 == a1_1)=false:=beq_eq_false_iff_ne.mpr c4
   have c4b1:(a0_1 != a1_1)=true:=bne_iff_ne.mpr c4
   obtain rfl:=Option.some.inj H
   go_enter Try.func78,Try.ntmps78
   go_wp2_with (first |((with_reducible refine jv (N:=2) rfl ?_);refine bE (N:=2) (cs:=#[.string a0_0, .int .i64 a0_1]) (t:=94) ?_;intro gb707 hg w10 hbox hb;have BK707:=am (hbox);have GW707:=am ((Y0:w.heap.size≤gb707));have GE707:=am ((Y0:w.heap.size≤gb707));replace HB:=am (jd (bq) hb);clear hb hbox hg) |((with_reducible refine jv (N:=3) rfl ?_);refine bE (N:=3) (cs:=#[.string a1_0, .int .i64 a1_1]) (t:=94) ?_;intro gb708 hg w11 hbox hb;have BK708:=am (hbox);have GW708:=am ((Y31:w.heap.size≤gb708));have GE708:=am ((Y31:w.heap.size≤gb708));have NB707_708:=am ((Y59:gb707≠gb708));have NB708_707:=am ((Y60:gb708≠gb707));replace BK707:=am (jb (g:=gb707) (o:=.cells #[.string a0_0, .int .i64 a0_1] 94 (0,0)) (kq BK707.out) hb);replace HB:=am (jd (Y61) hb);clear hb hbox hg;have hnb12:=NB707_708.out;have hnc12:=NB708_707.out;have hcz13_0:=bc0 BK707.out;have hcz13_1:=bc1 BK707.out;have hfz13_0:=ja BK707.out 0;have hfz13_1:=ja BK707.out 1;have hcz14_0:=bc0 BK708.out;have hcz14_1:=bc1 BK708.out;have hfz14_0:=ja BK708.out 0;have hfz14_1:=ja BK708.out 1))
   go_ret
   exact ⟨Y1,Y62⟩
 ·rw [if_neg c3] at H
  have c3b0:(a0_0.toList == a1_0.toList)=false:=beq_eq_false_iff_ne.mpr c3
  have c3b1:(a0_0.toList != a1_0.toList)=true:=bne_iff_ne.mpr c3
  obtain rfl:=Option.some.inj H
  go_enter Try.func78,Try.ntmps78
  go_wp2_with (first |((with_reducible refine jv (N:=2) rfl ?_);refine bE (N:=2) (cs:=#[.string a0_0, .int .i64 a0_1]) (t:=94) ?_;intro gb707 hg w15 hbox hb;have BK707:=am (hbox);have GW707:=am ((Y0:w.heap.size≤gb707));have GE707:=am ((Y0:w.heap.size≤gb707));replace HB:=am (jd (bq) hb);clear hb hbox hg) |((with_reducible refine jv (N:=3) rfl ?_);refine bE (N:=3) (cs:=#[.string a1_0, .int .i64 a1_1]) (t:=94) ?_;intro gb708 hg w16 hbox hb;have BK708:=am (hbox);have GW708:=am ((Y31:w.heap.size≤gb708));have GE708:=am ((Y31:w.heap.size≤gb708));have NB707_708:=am ((Y59:gb707≠gb708));have NB708_707:=am ((Y60:gb708≠gb707));replace BK707:=am (jb (g:=gb707) (o:=.cells #[.string a0_0, .int .i64 a0_1] 94 (0,0)) (kq BK707.out) hb);replace HB:=am (jd (Y61) hb);clear hb hbox hg;have hnb17:=NB707_708.out;have hnc17:=NB708_707.out;have hcz18_0:=bc0 BK707.out;have hcz18_1:=bc1 BK707.out;have hfz18_0:=ja BK707.out 0;have hfz18_1:=ja BK707.out 1;have hcz19_0:=bc0 BK708.out;have hcz19_1:=bc1 BK708.out;have hfz19_0:=ja BK708.out 0;have hfz19_1:=ja BK708.out 1))
  go_ret
  exact ⟨Y1,Y62⟩
def jP.l0 : Nat → List (S94) → List (S94) → Int → Option (Bool)
 | 0,_,_,_=>none
 | k+1,x0,x1,x5=>if x5<(x0.length:Int) then (if 0≤x5 then (if x5<(x1.length:Int) then ((jwb.f ((jF x0 x5).f0) ((jF x0 x5).f1) ((jF x1 x5).f0) ((jF x1 x5).f1)).bind fun t711=>(if t711=true then (jP.l0 k x0 x1 (wrap64 (x5+1))) else (some false))) else (none)) else (none)) else (some true)
def jP.f (k : Nat) (l0 : List (S94)) (l1 : List (S94)) : Option (Bool) := if (l0.length : Int) = (l1.length : Int) then (jP.l0 k l0 l1 0) else (some false)
def jP.T6 : Bool × List (List Nat × List Nat) := (true, [([], []), ([], []), ([0, 1], [0, 1]), ([2], [2]), ([], []), ([], []), ([4, 5], [4, 5]), ([6], [6]), ([3, 7], [3, 7]), ([8], [8])])
def jP.B6 : List Nat := [0, 0, 3, 7, 0, 0, 48, 112, 255, 511]
theorem jP.tab6 : rtab .any (opsOf Try.f48 6) = jP.T6 := by kernel_rfl
theorem jP.bits6 : waitsOk jP.T6.2 jP.B6 = true := by kernel_rfl
set_option maxHeartbeats 8000000 in
set_option maxRecDepth 100000 in
theorem jP.calls (k : Nat) (A0 : Option Addr) (c0 : Nat) (l0 : List (S94)) (A1 : Option Addr) (c1 : Nat) (l1 : List (S94)) (r : Bool) (w : World) (hr0 : Kd.C k94 w A0 l0.length l0) (hc0 : l0.length ≤ c0) (hr1 : Kd.C k94 w A1 l1.length l1) (hc1 : l1.length ≤ c1) (h : jP.f k l0 l1 = some r) :
  Calls Try.prog 48 #[.slice A0 l0.length c0, .slice A1 l1.length c1] w fun e w'=>e=.returned (.bool r)∧Below w.heap.size w w':=by
 have hu94:=Try.underlying94
 have HR0:=am hr0
 have HC0:=am hc0
 clear hr0 hc0
 have HR1:=am hr1
 have HC1:=am hc1
 clear hr1 hc1
 have HB:=am (Below.refl w.heap.size w)
 have H:(if (l0.length:Int)=(l1.length:Int) then (jP.l0 k l0 l1 0) else (some false))=some r:=h
 clear h
 by_cases c3:(l0.length:Int)=(l1.length:Int)
 ·rw [if_pos c3] at H
  have c3b0:((l0.length:Int) == (l1.length:Int))=true:=beq_iff_eq.mpr c3
  have c3b1:((l0.length:Int) != (l1.length:Int))=false:=bne_eq_false_iff_eq.mpr c3
  have c3b2:(l0.length == l1.length)=true:=by first | simpa using c3 |(simp at c3 ⊢;omega)
  clear c3
  have H':=am H
  clear H
  go_enter Try.func48,Try.ntmps48
  go_wp2
  go_loopg [5] k (fun kq v5 w'=>∃ (x5_1:Int),v5=.int .i64 x5_1∧jy (jP.l0 kq l0 l1 x5_1=some r)∧jy (kq≤k)∧jy (Below w.heap.size w w'))
  case atStart=>exact ⟨(0),(sq),H',⟨Nat.le_refl _⟩,⟨bq⟩⟩
  case round =>
   clear H'
   try clear c1
   try clear p2
   try clear c3
   try clear c3b0
   try clear c3b1
   try clear c3b2
   obtain ⟨x5_1,rfl,HA,HK1,HB⟩:=hrel
   cases gk with
   | zero=>exact absurd HA.out (by simp [jP.l0])
   | succ k1 =>
    have H:=HA.out
    clear HA
    simp only [jP.l0] at H
    by_cases c4:x5_1<(l0.length:Int)
    ·rw [if_pos c4] at H
     have c4b0:decide (x5_1<(l0.length:Int))=true:=dzT c4
     clear c4
     by_cases c5:0≤x5_1
     ·rw [if_pos c5] at H
      have c5b0:decide (0≤x5_1)=true:=dzT c5
      clear c5
      by_cases c6:x5_1<(l1.length:Int)
      ·rw [if_pos c6] at H
       have c6b0:decide (x5_1<(l1.length:Int))=true:=dzT c6
       clear c6
       replace H:=bzS H
       obtain ⟨t711,A70,H⟩:=H
       replace H:(if t711=true then (jP.l0 k1 l0 l1 (wrap64 (x5_1+1))) else (some false))=some r:=H
       have A7:=am A70
       clear A70
       by_cases c8:t711=true
       ·subst c8
        have H1:(jP.l0 k1 l0 l1 (wrap64 (x5_1+1)))=some r:=by rw [if_pos rfl] at H;exact H
        clear H
        have H:=H1
        clear H1
        have H':=am H
        clear H
        try go_wp2
        replace HB:=am (jl HB.out)
        have p709:0≤(x5_1:Int):=ozD (uq)
        have q709:x5_1<(l0.length:Int):=ozD (uq)
        obtain ⟨ad709,e709,hx709_0,hx709_1⟩:=at_T94 HR0.out x5_1 p709 q709
        have hw709_1:=hx709_1
        have hw709_0:=hx709_0
        cases e709
        replace hx709_0:=cb HB.out hx709_0
        replace hx709_1:=cb HB.out hx709_1
        replace p709:=ezT p709
        replace q709:=ezT q709
        have p710:0≤(x5_1:Int):=ozD (uq)
        have q710:x5_1<(l1.length:Int):=ozD (uq)
        obtain ⟨ad710,e710,hx710_0,hx710_1⟩:=at_T94 HR1.out x5_1 p710 q710
        have hw710_1:=hx710_1
        have hw710_0:=hx710_0
        cases e710
        replace hx710_0:=cb HB.out hx710_0
        replace hx710_1:=cb HB.out hx710_1
        replace p710:=ezT p710
        replace q710:=ezT q710
        refine start_ (n:=10) (S:=fun w'=>w'.cell? (ad709.add ((x5_1).toNat * 2))=some (.string ((jF l0 x5_1).f0))∧w'.cell? ⟨(ad709.add ((x5_1).toNat * 2)).block,(ad709.add ((x5_1).toNat * 2)).off+1,none⟩=some (.int .i64 ((jF l0 x5_1).f1))∧w'.cell? (ad710.add ((x5_1).toNat * 2))=some (.string ((jF l1 x5_1).f0))∧w'.cell? ⟨(ad710.add ((x5_1).toNat * 2)).block,(ad710.add ((x5_1).toNat * 2)).off+1,none⟩=some (.int .i64 ((jF l1 x5_1).f1))) (ds:=[]) #[false,false,false,false,false,false,false,false,false,false] (by kernel_rfl) rfl rfl ⟨((HB.out.cell (World.block_lt_of_cell? w _ hw709_0)).trans hw709_0),((HB.out.cell (World.block_lt_of_cell? w _ hw709_1)).trans hw709_1),((HB.out.cell (World.block_lt_of_cell? w _ hw710_0)).trans hw710_0),((HB.out.cell (World.block_lt_of_cell? w _ hw710_1)).trans hw710_1)⟩ (fun hHeld=>?_);refine jXb jP.tab6 jP.bits6 (fun HT_ HW_=>?_)
        generalize wr.drew=w9 at HB hx709_0 hx709_1 hx710_0 hx710_1 hHeld ⊢
        refine pq (i:=0) (N:=some 17) #[true,false,false,false,false,false,false,false,false,false] ?_
        refine pq (i:=1) (N:=some 18) #[true,true,false,false,false,false,false,false,false,false] ?_
        refine pq (i:=2) (N:=some 19) #[true,true,true,false,false,false,false,false,false,false] ?_
        refine pq (i:=4) (N:=some 21) #[true,true,true,false,true,false,false,false,false,false] ?_
        refine pq (i:=5) (N:=some 22) #[true,true,true,false,true,true,false,false,false,false] ?_
        refine pq (i:=6) (N:=some 23) #[true,true,true,false,true,true,true,false,false,false] ?_
        refine jKb (i:=3) (N:=some 20) (v:=?_) (a':=?_) #[true,true,true,true,true,true,true,false,false,false] rfl rfl (jgb HT_.out HW_.out (by kernel_rfl)) (fun _ _ _ h=>h) (Or.inl ⟨by rfl,?_⟩) hHeld ?_ ?_
        rotate_left
        ·rintro w' ⟨s0,s1,s2,s3⟩
         go_simp
         with_reducible rfl
        rotate_left
        ·exact sa
        refine jKb (i:=7) (N:=some 24) (v:=?_) (a':=?_) #[true,true,true,true,true,true,true,true,false,false] rfl rfl (jgb HT_.out HW_.out (by kernel_rfl)) (fun _ _ _ h=>h) (Or.inl ⟨by rfl,?_⟩) hHeld ?_ ?_
        rotate_left
        ·rintro w' ⟨s0,s1,s2,s3⟩
         go_simp
         with_reducible rfl
        rotate_left
        ·exact sa
        refine one_ (i:=8) (N:=some 25) #[true,true,true,true,true,true,true,true,true,false] rfl rfl (one_of HT_.out (by kernel_rfl)) (by decide) (fun K hK=>?_)
        refine goes_ Try.func78 (by kernel_rfl) rfl #[.agg #[.string ((jF l0 x5_1).f0), .int .i64 ((jF l0 x5_1).f1)], .agg #[.string ((jF l1 x5_1).f0), .int .i64 ((jF l1 x5_1).f1)]] (by rfl) rfl rfl (aq) ?_
        with_reducible refine (jwb.calls ((jF l0 x5_1).f0) ((jF l0 x5_1).f1) ((jF l1 x5_1).f0) ((jF l1 x5_1).f1) true _ A7.out).mono ?_
        rintro e w10 ⟨rfl,hb⟩
        refine ⟨_,rfl,?_⟩
        replace HB:=am (jd (bq) hb)
        (try clear hb)
        (try clear hb2)
        (try clear hk)
        (try clear hi)
        refine hK.out _ _ ⟨((HB.out.cell (World.block_lt_of_cell? w _ hw709_0)).trans hw709_0),((HB.out.cell (World.block_lt_of_cell? w _ hw709_1)).trans hw709_1),((HB.out.cell (World.block_lt_of_cell? w _ hw710_0)).trans hw710_0),((HB.out.cell (World.block_lt_of_cell? w _ hw710_1)).trans hw710_1)⟩ (fun hHeld=>?_)
        clear hK K
        refine norm_ (a':=?_) ?_ ?_
        rotate_left
        ·show Act.put _ (some 25) _=_
         simp only [Act.put,List.setIfInBounds_toArray,List.set_cons_zero,List.set_cons_succ,jLb,jOb]
         rfl
        refine pq (i:=9) (N:=some 26) #[true,true,true,true,true,true,true,true,true,true] ?_
        refine done_ (done_of HT_.out (by kernel_rfl)) ?_
        try go_wp2
        go_roundg k1
        case measure=>have:=HK1.out;omega
        case rel=>exact ⟨(wrap64 (x5_1+1)),(sq),H',⟨by have:=HK1.out;omega⟩,⟨bq⟩⟩
       ·replace c8:=Bool.eq_false_iff.mpr c8
        subst c8
        have H1:(some false)=some r:=by rw [if_neg (show ¬ (false=true) by decide)] at H;exact H
        clear H
        have H:=H1
        clear H1
        obtain rfl:=Option.some.inj H
        try go_wp2
        replace HB:=am (jl HB.out)
        have p709:0≤(x5_1:Int):=ozD (uq)
        have q709:x5_1<(l0.length:Int):=ozD (uq)
        obtain ⟨ad709,e709,hx709_0,hx709_1⟩:=at_T94 HR0.out x5_1 p709 q709
        have hw709_1:=hx709_1
        have hw709_0:=hx709_0
        cases e709
        replace hx709_0:=cb HB.out hx709_0
        replace hx709_1:=cb HB.out hx709_1
        replace p709:=ezT p709
        replace q709:=ezT q709
        have p710:0≤(x5_1:Int):=ozD (uq)
        have q710:x5_1<(l1.length:Int):=ozD (uq)
        obtain ⟨ad710,e710,hx710_0,hx710_1⟩:=at_T94 HR1.out x5_1 p710 q710
        have hw710_1:=hx710_1
        have hw710_0:=hx710_0
        cases e710
        replace hx710_0:=cb HB.out hx710_0
        replace hx710_1:=cb HB.out hx710_1
        replace p710:=ezT p710
        replace q710:=ezT q710
        refine start_ (n:=10) (S:=fun w'=>w'.cell? (ad709.add ((x5_1).toNat * 2))=some (.string ((jF l0 x5_1).f0))∧w'.cell? ⟨(ad709.add ((x5_1).toNat * 2)).block,(ad709.add ((x5_1).toNat * 2)).off+1,none⟩=some (.int .i64 ((jF l0 x5_1).f1))∧w'.cell? (ad710.add ((x5_1).toNat * 2))=some (.string ((jF l1 x5_1).f0))∧w'.cell? ⟨(ad710.add ((x5_1).toNat * 2)).block,(ad710.add ((x5_1).toNat * 2)).off+1,none⟩=some (.int .i64 ((jF l1 x5_1).f1))) (ds:=[]) #[false,false,false,false,false,false,false,false,false,false] (by kernel_rfl) rfl rfl ⟨((HB.out.cell (World.block_lt_of_cell? w _ hw709_0)).trans hw709_0),((HB.out.cell (World.block_lt_of_cell? w _ hw709_1)).trans hw709_1),((HB.out.cell (World.block_lt_of_cell? w _ hw710_0)).trans hw710_0),((HB.out.cell (World.block_lt_of_cell? w _ hw710_1)).trans hw710_1)⟩ (fun hHeld=>?_);refine jXb jP.tab6 jP.bits6 (fun HT_ HW_=>?_)
        generalize wr.drew=w11 at HB hx709_0 hx709_1 hx710_0 hx710_1 hHeld ⊢
        refine pq (i:=0) (N:=some 17) #[true,false,false,false,false,false,false,false,false,false] ?_
        refine pq (i:=1) (N:=some 18) #[true,true,false,false,false,false,false,false,false,false] ?_
        refine pq (i:=2) (N:=some 19) #[true,true,true,false,false,false,false,false,false,false] ?_
        refine pq (i:=4) (N:=some 21) #[true,true,true,false,true,false,false,false,false,false] ?_
        refine pq (i:=5) (N:=some 22) #[true,true,true,false,true,true,false,false,false,false] ?_
        refine pq (i:=6) (N:=some 23) #[true,true,true,false,true,true,true,false,false,false] ?_
        refine jKb (i:=3) (N:=some 20) (v:=?_) (a':=?_) #[true,true,true,true,true,true,true,false,false,false] rfl rfl (jgb HT_.out HW_.out (by kernel_rfl)) (fun _ _ _ h=>h) (Or.inl ⟨by rfl,?_⟩) hHeld ?_ ?_
        rotate_left
        ·rintro w' ⟨s0,s1,s2,s3⟩
         go_simp
         with_reducible rfl
        rotate_left
        ·exact sa
        refine jKb (i:=7) (N:=some 24) (v:=?_) (a':=?_) #[true,true,true,true,true,true,true,true,false,false] rfl rfl (jgb HT_.out HW_.out (by kernel_rfl)) (fun _ _ _ h=>h) (Or.inl ⟨by rfl,?_⟩) hHeld ?_ ?_
        rotate_left
        ·rintro w' ⟨s0,s1,s2,s3⟩
         go_simp
         with_reducible rfl
        rotate_left
        ·exact sa
        refine one_ (i:=8) (N:=some 25) #[true,true,true,true,true,true,true,true,true,false] rfl rfl (one_of HT_.out (by kernel_rfl)) (by decide) (fun K hK=>?_)
        refine goes_ Try.func78 (by kernel_rfl) rfl #[.agg #[.string ((jF l0 x5_1).f0), .int .i64 ((jF l0 x5_1).f1)], .agg #[.string ((jF l1 x5_1).f0), .int .i64 ((jF l1 x5_1).f1)]] (by rfl) rfl rfl (aq) ?_
        with_reducible refine (jwb.calls ((jF l0 x5_1).f0) ((jF l0 x5_1).f1) ((jF l1 x5_1).f0) ((jF l1 x5_1).f1) false _ A7.out).mono ?_
        rintro e w12 ⟨rfl,hb⟩
        refine ⟨_,rfl,?_⟩
        replace HB:=am (jd (bq) hb)
        (try clear hb)
        (try clear hb2)
        (try clear hk)
        (try clear hi)
        refine hK.out _ _ ⟨((HB.out.cell (World.block_lt_of_cell? w _ hw709_0)).trans hw709_0),((HB.out.cell (World.block_lt_of_cell? w _ hw709_1)).trans hw709_1),((HB.out.cell (World.block_lt_of_cell? w _ hw710_0)).trans hw710_0),((HB.out.cell (World.block_lt_of_cell? w _ hw710_1)).trans hw710_1)⟩ (fun hHeld=>?_)
        clear hK K
        refine norm_ (a':=?_) ?_ ?_
        rotate_left
        ·show Act.put _ (some 25) _=_
         simp only [Act.put,List.setIfInBounds_toArray,List.set_cons_zero,List.set_cons_succ,jLb,jOb]
         rfl
        refine pq (i:=9) (N:=some 26) #[true,true,true,true,true,true,true,true,true,true] ?_
        refine done_ (done_of HT_.out (by kernel_rfl)) ?_
        try go_wp2
        go_ret
        exact ⟨Y1,bq⟩
      ·rw [if_neg c6] at H
       exact absurd H (by simp)
     ·rw [if_neg c5] at H
      exact absurd H (by simp)
    ·rw [if_neg c4] at H
     have c4b0:decide (x5_1<(l0.length:Int))=false:=dzF c4
     clear c4
     obtain rfl:=Option.some.inj H
     go_wp2
     go_ret
     exact ⟨Y1,bq⟩
 ·rw [if_neg c3] at H
  have c3b0:((l0.length:Int) == (l1.length:Int))=false:=beq_eq_false_iff_ne.mpr c3
  have c3b1:((l0.length:Int) != (l1.length:Int))=true:=bne_iff_ne.mpr c3
  have c3b2:(l0.length == l1.length)=false:=by first | simpa using c3 |(simp at c3 ⊢;omega)
  obtain rfl:=Option.some.inj H
  go_enter Try.func48,Try.ntmps48
  go_wp2
  go_ret
  exact ⟨Y1,bq⟩
def jBa.f (k : Nat) (l0_0 : List (S94)) (l1_0 : List (S94)) : Option (Bool) := (jP.f k l0_0 l1_0).bind fun t714 => (if t714 = true then (some true) else (some false))
set_option maxHeartbeats 8000000 in
set_option maxRecDepth 100000 in
theorem jBa.calls (k : Nat) (A0_0 : Option Addr) (c0_0 : Nat) (l0_0 : List (S94)) (A1_0 : Option Addr) (c1_0 : Nat) (l1_0 : List (S94)) (r : Bool) (w : World) (hr0_0 : Kd.C k94 w A0_0 l0_0.length l0_0) (hc0_0 : l0_0.length ≤ c0_0) (hr1_0 : Kd.C k94 w A1_0 l1_0.length l1_0) (hc1_0 : l1_0.length ≤ c1_0) (h : jBa.f k l0_0 l1_0 = some r) :
  Calls Try.prog 16 #[.agg #[.slice A0_0 l0_0.length c0_0], .agg #[.slice A1_0 l1_0.length c1_0]] w fun e w'=>e=.returned (.bool r)∧Below w.heap.size w w':=by
 have hu37:=Try.underlying37
 have HR0_0:=am hr0_0
 have HC0_0:=am hc0_0
 clear hr0_0 hc0_0
 have HR1_0:=am hr1_0
 have HC1_0:=am hc1_0
 clear hr1_0 hc1_0
 have HB:=am (Below.refl w.heap.size w)
 have H:((jP.f k l0_0 l1_0).bind fun t714=>(if t714=true then (some true) else (some false)))=some r:=h
 clear h
 replace H:=bzS H
 obtain ⟨t714,A30,H⟩:=H
 replace H:(if t714=true then (some true) else (some false))=some r:=H
 have A3:=am A30
 clear A30
 by_cases c4:t714=true
 ·subst c4
  have H1:(some true)=some r:=by rw [if_pos rfl] at H;exact H
  clear H
  have H:=H1
  clear H1
  obtain rfl:=Option.some.inj H
  go_enter Try.func16,Try.ntmps16
  go_wp2_with (first |((with_reducible refine jv (N:=2) rfl ?_);refine bE (N:=2) (cs:=#[.slice A0_0 l0_0.length c0_0]) (t:=37) ?_;intro gb712 hg w5 hbox hb;have BK712:=am (hbox);have GW712:=am ((Y0:w.heap.size≤gb712));have GE712:=am ((Y0:w.heap.size≤gb712));replace HB:=am (jd (bq) hb);clear hb hbox hg) |((with_reducible refine jv (N:=3) rfl ?_);refine bE (N:=3) (cs:=#[.slice A1_0 l1_0.length c1_0]) (t:=37) ?_;intro gb713 hg w6 hbox hb;have BK713:=am (hbox);have GW713:=am ((Y46:w.heap.size≤gb713));have GE713:=am ((Y46:w.heap.size≤gb713));have NB712_713:=am ((by rw [hg];exact Nat.ne_of_lt (jZ (g:=gb712) (o:=.cells #[.slice A0_0 l0_0.length c0_0] 37 (0,0)) (kq BK712.out)):gb712≠gb713));have NB713_712:=am ((by rw [hg];exact Nat.ne_of_gt (jZ (g:=gb712) (o:=.cells #[.slice A0_0 l0_0.length c0_0] 37 (0,0)) (kq BK712.out)):gb713≠gb712));replace BK712:=am (jb (g:=gb712) (o:=.cells #[.slice A0_0 l0_0.length c0_0] 37 (0,0)) (kq BK712.out) hb);replace HB:=am (jd (Y83) hb);clear hb hbox hg;have hnb7:=NB712_713.out;have hnc7:=NB713_712.out;have hcz8_0:=bc0 BK712.out;have hfz8_0:=ja BK712.out 0;have hcz9_0:=bc0 BK713.out;have hfz9_0:=ja BK713.out 0) |((with_reducible refine jw (f:=48) rfl ?_);refine gL (some 9) Try.func48 #[.slice A0_0 l0_0.length c0_0, .slice A1_0 l1_0.length c1_0] ?_;(with_reducible refine (jP.calls k _ _ l0_0 _ _ l1_0 true _ ?side1 ?side2 ?side3 ?side4 A3.out).mono ?_);(case side1=>exact cq (Kd.jI HR0_0.out HB.out));(case side2=>exact HC0_0.out);(case side3=>exact cq (Kd.jI HR1_0.out HB.out));(case side4=>exact HC1_0.out);rintro e w10 ⟨rfl,hb⟩;refine ⟨_,rfl,?_⟩;replace BK712:=am (jb (g:=gb712) (o:=.cells #[.slice A0_0 l0_0.length c0_0] 37 (0,0)) (kq BK712.out) hb);replace BK713:=am (jb (g:=gb713) (o:=.cells #[.slice A1_0 l1_0.length c1_0] 37 (0,0)) (kq BK713.out) hb);replace HB:=am (jd (Y47) hb);(try clear hb);(try clear hb2);(try clear hk);(try clear hi)))
  go_ret
  exact ⟨Y1,Y47⟩
 ·replace c4:=Bool.eq_false_iff.mpr c4
  subst c4
  have H1:(some false)=some r:=by rw [if_neg (show ¬ (false=true) by decide)] at H;exact H
  clear H
  have H:=H1
  clear H1
  obtain rfl:=Option.some.inj H
  go_enter Try.func16,Try.ntmps16
  go_wp2_with (first |((with_reducible refine jv (N:=2) rfl ?_);refine bE (N:=2) (cs:=#[.slice A0_0 l0_0.length c0_0]) (t:=37) ?_;intro gb712 hg w11 hbox hb;have BK712:=am (hbox);have GW712:=am ((Y0:w.heap.size≤gb712));have GE712:=am ((Y0:w.heap.size≤gb712));replace HB:=am (jd (bq) hb);clear hb hbox hg) |((with_reducible refine jv (N:=3) rfl ?_);refine bE (N:=3) (cs:=#[.slice A1_0 l1_0.length c1_0]) (t:=37) ?_;intro gb713 hg w12 hbox hb;have BK713:=am (hbox);have GW713:=am ((Y46:w.heap.size≤gb713));have GE713:=am ((Y46:w.heap.size≤gb713));have NB712_713:=am ((by rw [hg];exact Nat.ne_of_lt (jZ (g:=gb712) (o:=.cells #[.slice A0_0 l0_0.length c0_0] 37 (0,0)) (kq BK712.out)):gb712≠gb713));have NB713_712:=am ((by rw [hg];exact Nat.ne_of_gt (jZ (g:=gb712) (o:=.cells #[.slice A0_0 l0_0.length c0_0] 37 (0,0)) (kq BK712.out)):gb713≠gb712));replace BK712:=am (jb (g:=gb712) (o:=.cells #[.slice A0_0 l0_0.length c0_0] 37 (0,0)) (kq BK712.out) hb);replace HB:=am (jd (Y83) hb);clear hb hbox hg;have hnb13:=NB712_713.out;have hnc13:=NB713_712.out;have hcz14_0:=bc0 BK712.out;have hfz14_0:=ja BK712.out 0;have hcz15_0:=bc0 BK713.out;have hfz15_0:=ja BK713.out 0) |((with_reducible refine jw (f:=48) rfl ?_);refine gL (some 9) Try.func48 #[.slice A0_0 l0_0.length c0_0, .slice A1_0 l1_0.length c1_0] ?_;(with_reducible refine (jP.calls k _ _ l0_0 _ _ l1_0 false _ ?side1 ?side2 ?side3 ?side4 A3.out).mono ?_);(case side1=>exact cq (Kd.jI HR0_0.out HB.out));(case side2=>exact HC0_0.out);(case side3=>exact cq (Kd.jI HR1_0.out HB.out));(case side4=>exact HC1_0.out);rintro e w16 ⟨rfl,hb⟩;refine ⟨_,rfl,?_⟩;replace BK712:=am (jb (g:=gb712) (o:=.cells #[.slice A0_0 l0_0.length c0_0] 37 (0,0)) (kq BK712.out) hb);replace BK713:=am (jb (g:=gb713) (o:=.cells #[.slice A1_0 l1_0.length c1_0] 37 (0,0)) (kq BK713.out) hb);replace HB:=am (jd (Y47) hb);(try clear hb);(try clear hb2);(try clear hk);(try clear hi)))
  go_ret
  exact ⟨Y1,Y47⟩
def jqa.l0 : Nat → Int → ByteArray → Option (ByteArray)
 | 0,_,_=>none
 | k+1,x0,x3=>if x0 > 0 then ((some (([(wrap64 (48+(Int.tmod x0 10))) % 256]:List Int):List Int)).bind fun y715=>(if (strOfNums y715).size+x3.size≤9223372036854775807 then (jqa.l0 k (wrap64 (Int.tdiv x0 10)) ((strOfNums y715) ++ x3)) else (none))) else (if 1+x3.size≤9223372036854775807 then (some ((⟨#[109]⟩:ByteArray) ++ x3)) else (none))
def jqa.f (k : Nat) (a0 : Int) : Option (ByteArray) := if a0 ≤ 0 then (some (⟨#[109, 48]⟩ : ByteArray)) else (jqa.l0 k a0 (⟨#[]⟩ : ByteArray))
set_option maxHeartbeats 8000000 in
set_option maxRecDepth 100000 in
theorem jqa.calls (k : Nat) (a0 : Int) (r : ByteArray) (w : World) (h : jqa.f k a0 = some r) :
  Calls Try.prog 79 #[.int .i64 a0] w fun e w'=>e=.returned (.string r)∧Below w.heap.size w w':=by
 have HB:=am (Below.refl w.heap.size w)
 have H:(if a0≤0 then (some (⟨#[109,48]⟩:ByteArray)) else (jqa.l0 k a0 (⟨#[]⟩:ByteArray)))=some r:=h
 clear h
 by_cases c2:a0≤0
 ·rw [if_pos c2] at H
  have c2b0:decide (a0≤0)=true:=dzT c2
  clear c2
  obtain rfl:=Option.some.inj H
  go_enter Try.func79,Try.ntmps79
  go_wp2
  go_ret
  exact ⟨Y1,bq⟩
 ·rw [if_neg c2] at H
  have c2b0:decide (a0≤0)=false:=dzF c2
  clear c2
  have H':=am H
  clear H
  go_enter Try.func79,Try.ntmps79
  go_wp2
  go_loopg [0,3] k (fun kq v0 v3 w'=>∃ (x0_1:Int) (x3_1:ByteArray),v0=.int .i64 x0_1∧v3=.string x3_1∧jy (jqa.l0 kq x0_1 x3_1=some r)∧jy (kq≤k)∧jy (Below w.heap.size w w'))
  case atStart=>exact ⟨(a0),((⟨#[]⟩:ByteArray)),(sq),(sq),H',⟨Nat.le_refl _⟩,⟨bq⟩⟩
  case round =>
   clear H'
   try clear c2
   try clear c2b0
   try clear p2
   obtain ⟨x0_1,x3_1,rfl,rfl,HA,HK1,HB⟩:=hrel
   cases gk with
   | zero=>exact absurd HA.out (by simp [jqa.l0])
   | succ k1 =>
    have H:=HA.out
    clear HA
    simp only [jqa.l0] at H
    by_cases c3:x0_1 > 0
    ·rw [if_pos c3] at H
     have c3b0:decide (0<x0_1)=true:=dzT c3
     clear c3
     obtain ⟨y715,hy715⟩:∃ y_:List Int,y_=(([(wrap64 (48+(Int.tmod x0_1 10))) % 256]:List Int)):=⟨_,rfl⟩
     replace H:(if (strOfNums y715).size+x3_1.size≤9223372036854775807 then (jqa.l0 k1 (wrap64 (Int.tdiv x0_1 10)) ((strOfNums y715) ++ x3_1)) else (none))=some r:=by first |(rw [hy715];with_reducible exact H) |(have H2_:=(Option.bind_some _ _).symm.trans H;rw [hy715];with_reducible exact H2_) |(have H2_:=(Option.bind_some _ _).symm.trans H;with_reducible exact H2_) | with_reducible exact H |(rw [hy715];exact H) | exact H
     have Ny715:=am hy715
     clear hy715
     by_cases c4:(strOfNums y715).size+x3_1.size≤9223372036854775807
     ·rw [if_pos c4] at H
      have c4b0:=ezT c4
      have c4b1:decide ((strOfNums y715).size+x3_1.size≤9223372036854775807)=true:=dzT c4
      try have c4b2:(9223372036854775807<(strOfNums y715).size+x3_1.size)=False:=eq_false (Nat.not_lt.2 c4)
      have H':=am H
      clear H
      go_wp2_with (first |((with_reducible refine jv (N:=12) rfl ?_);refine Kd.R_lit (Kd.int .u8) _ 5 ?hg (N:=12) ?hd (xs:=([(wrap64 (48+(Int.tmod x0_1 10))) % 256]:List Int)) (inner:=[.int .u8 ((wrap64 (48+(Int.tmod x0_1 10))) % 256)]) (ok:=fun _=>True) (okp:=fun _=>True) ?hr ?hp (fun _ hk=>hk) trivial (Below.refl _ _) (Nat.le_refl _) (by simp) ?_;(case hd=>rfl);(case hg=>rfl);(case hr=>exact Y3);(case hp=>exact (Reps.one (show Kd.M (Kd.int .u8) _ _ _ ((wrap64 (48+(Int.tmod x0_1 10))) % 256) [.int .u8 ((wrap64 (48+(Int.tmod x0_1 10))) % 256)] from rfl) (Reps.none _ _)));intro v716 w5 ho6 hb hg_ hnew_;clear hg_ hnew_;(first | rw [← Ny715.out] at ho6 |(simp only [Int.reduceToNat] at ho6;rw [← Ny715.out] at ho6));have HO717:=am (Kd.jya ho6 (jE (bq)));replace HB:=am (jd (bq) hb);clear hb ho6;have hcv7:=own_string (P:=Try.prog) Try.underlying49 Try.underlying5 Try.underlying9 (Kd.own_of_R HO717.out)))
      go_roundg k1
      case measure=>have:=HK1.out;omega
      case rel=>exact ⟨(wrap64 (Int.tdiv x0_1 10)),((strOfNums y715) ++ x3_1),(sq),(sq),H',⟨by have:=HK1.out;omega⟩,⟨bq⟩⟩
     ·rw [if_neg c4] at H
      exact absurd H (by simp)
    ·rw [if_neg c3] at H
     have c3b0:decide (0<x0_1)=false:=dzF c3
     clear c3
     by_cases c8:1+x3_1.size≤9223372036854775807
     ·rw [if_pos c8] at H
      have c8b0:=ezT c8
      have c8b1:decide (1+x3_1.size≤9223372036854775807)=true:=dzT c8
      try have c8b2:(9223372036854775807<1+x3_1.size)=False:=eq_false (Nat.not_lt.2 c8)
      obtain rfl:=Option.some.inj H
      go_wp2
      go_ret
      exact ⟨Y1,bq⟩
     ·rw [if_neg c8] at H
      exact absurd H (by simp)
def jaa.l0 : Nat → List (S94) → Int → Int → Option (Int × (List (S94)))
 | 0,_,_,_=>none
 | k+1,x0,x1,x5=>if x5<(x0.length:Int) then ((jqa.f k x1).bind fun t718=>(if 0≤x5 then ((some (x0.set (x5:Int).toNat (⟨t718,(jF x0 x5).f1⟩:S94):List (S94))).bind fun y719=>(jaa.l0 k (y719.set (x5:Int).toNat (⟨(jF y719 x5).f0,wrap64 (x1+1)⟩:S94)) (wrap64 ((wrap64 (x1+1))+1)) (wrap64 (x5+1)))) else (none))) else (some (x1,x0))
def jaa.f (k : Nat) (l0 : List (S94)) (a1 : Int) : Option (Int × (List (S94))) := jaa.l0 k l0 a1 0
set_option maxHeartbeats 8000000 in
set_option maxRecDepth 100000 in
theorem jaa.calls (k : Nat) (P0_ : Nat → Prop) (u9000_ : Value) (l0 : List (S94)) (a1 : Int) (r1 : Int) (r2 : List (S94)) (w0 w : World) (hB : Below w0.heap.size w0 w) (ho0 : Kd.R k94 94 w w0.heap.size P0_ u9000_ l0) (h : jaa.f k l0 a1 = some (r1, r2)) :
  Calls Try.prog 49 #[u9000_, .int .i64 a1] w fun e w'=>e=.returned (.int .i64 r1)∧Kd.R k94 94 w' w0.heap.size (fun k_=>(P0_ k_∨w.heap.size≤k_)) u9000_ r2∧Below w0.heap.size w0 w'∧Kept w w' (fun k_=>P0_ k_):=by
 have HO0:=am (show Kd.R k94 94 w w0.heap.size (fun k_=>(P0_ k_∨w.heap.size≤k_)) u9000_ l0 from Kd.jia ho0 (fun k_ hk=>(.inl hk)))
 have HK:=am (Kept.refl w (fun k_=>P0_ k_))
 have HW0:=am hB.size
 have HB:=am hB
 clear hB
 have H:(jaa.l0 k l0 a1 0)=some (r1,r2):=h
 clear h
 have H':=am H
 clear H
 go_enter Try.func49,Try.ntmps49
 go_wp2
 go_loopg [1,5] k (fun kq v1 v5 w'=>∃ (x0_1:List (S94)) (x1_1:Int) (x5_1:Int),v1=.int .i64 x1_1∧v5=.int .i64 x5_1∧jy (jaa.l0 kq x0_1 x1_1 x5_1=some (r1,r2))∧jy (kq≤k)∧jy (Kd.R k94 94 w' w0.heap.size (fun k_=>(P0_ k_∨w.heap.size≤k_)) u9000_ x0_1)∧jy (Kept w w' (fun k_=>P0_ k_))∧jy (Below w0.heap.size w0 w'))
 case atStart=>exact ⟨(l0),(a1),(0),(sq),(sq),H',⟨Nat.le_refl _⟩,⟨rq HO0.out⟩,⟨Y6⟩,⟨bq⟩⟩
 case round =>
  clear H'
  try clear p2
  obtain ⟨x0_1,x1_1,x5_1,rfl,rfl,HA,HK1,HO_0,HK,HB⟩:=hrel
  cases gk with
  | zero=>exact absurd HA.out (by simp [jaa.l0])
  | succ k1 =>
   have H:=HA.out
   clear HA
   simp only [jaa.l0] at H
   by_cases c3:x5_1<(x0_1.length:Int)
   ·rw [if_pos c3] at H
    have c3b0:decide (x5_1<(x0_1.length:Int))=true:=dzT c3
    clear c3
    replace H:=bzS H
    obtain ⟨t718,A40,H⟩:=H
    replace H:(if 0≤x5_1 then ((some (x0_1.set (x5_1:Int).toNat (⟨t718,(jF x0_1 x5_1).f1⟩:S94):List (S94))).bind fun y719=>(jaa.l0 k1 (y719.set (x5_1:Int).toNat (⟨(jF y719 x5_1).f0,wrap64 (x1_1+1)⟩:S94)) (wrap64 ((wrap64 (x1_1+1))+1)) (wrap64 (x5_1+1)))) else (none))=some (r1,r2):=H
    have A4:=am A40
    clear A40
    by_cases c5:0≤x5_1
    ·rw [if_pos c5] at H
     have c5b0:decide (0≤x5_1)=true:=dzT c5
     clear c5
     obtain ⟨y719,hy719⟩:∃ y_:List (S94),y_=(x0_1.set (x5_1:Int).toNat (⟨t718,(jF x0_1 x5_1).f1⟩:S94)):=⟨_,rfl⟩
     replace H:(jaa.l0 k1 (y719.set (x5_1:Int).toNat (⟨(jF y719 x5_1).f0,wrap64 (x1_1+1)⟩:S94)) (wrap64 ((wrap64 (x1_1+1))+1)) (wrap64 (x5_1+1)))=some (r1,r2):=by first |(rw [hy719];with_reducible exact H) |(have H2_:=(Option.bind_some _ _).symm.trans H;rw [hy719];with_reducible exact H2_) |(have H2_:=(Option.bind_some _ _).symm.trans H;with_reducible exact H2_) | with_reducible exact H |(rw [hy719];exact H) | exact H
     have Ny719:=am hy719
     clear hy719
     obtain ⟨y720,hy720⟩:∃ y_:List (S94),y_=(y719.set (x5_1:Int).toNat (⟨(jF y719 x5_1).f0,wrap64 (x1_1+1)⟩:S94)):=⟨_,rfl⟩
     replace H:(jaa.l0 k1 y720 (wrap64 ((wrap64 (x1_1+1))+1)) (wrap64 (x5_1+1)))=some (r1,r2):=by first |(rw [hy720];with_reducible exact H) |(have H2_:=(Option.bind_some _ _).symm.trans H;rw [hy720];with_reducible exact H2_) |(have H2_:=(Option.bind_some _ _).symm.trans H;with_reducible exact H2_) | with_reducible exact H |(rw [hy720];exact H) | exact H
     have Ny720:=am hy720
     clear hy720
     have H':=am H
     clear H
     obtain ⟨Ao8,co8,eo8⟩:=Kd.jwa HO_0.out
     subst eo8
     go_wp2_with (first |((with_reducible refine jw (f:=79) rfl ?_);refine gL (some 15) Try.func79 #[.int .i64 x1_1] ?_;(with_reducible refine (jqa.calls k1 x1_1 t718 _ A4.out).mono ?_);rintro e w9 ⟨rfl,hb⟩;refine ⟨_,rfl,?_⟩;replace HO_0:=am (Kd.jU (rq HO_0.out) hb);replace HK:=am (Kept.below (S:=(fun k_=>P0_ k_)) (Y6) hb);replace HB:=am (jd (bq) hb);(try clear hb);(try clear hb2);(try clear hk);(try clear hi);have p6:0≤(x5_1:Int):=ozD (uq);have q6:(x5_1:Int)<((x0_1.length:Int):Int):=ozD (uq);obtain ⟨go6,co6,eo6,gb6,gl6,cl6,HG6⟩:=Kd.R_form HO_0.out (by omega);(first | cases eo6 |(injection eo6 with ea_ en_ ec_;(first | subst ea_ |(injection ea_ with ea_;subst ea_));subst ec_;clear en_));have GB6:=am gb6;have GG6:=am HG6;clear gb6 gl6 HG6;have HMgo6:=am (show (P0_ go6∨w.heap.size≤go6) from (HO_0.out.1 _ rfl));obtain ⟨ce6,hcl6,hM6,hcc6,hfr6⟩:=Kd.jEb HO_0.out z94 (x5_1:Int) p6 q6;obtain rfl:=jZb hM6;have hx6_0:w9.cell? ⟨go6,(x5_1:Int).toNat * 2,none⟩=some (.string ((jF x0_1 x5_1).f0)):=hcc6 0 _ rfl;have hx6_1:w9.cell? ⟨go6,(x5_1:Int).toNat * 2+1,none⟩=some (.int .i64 ((jF x0_1 x5_1).f1)):=hcc6 1 _ rfl;have hf6_0:w9.frozen? ⟨go6,(x5_1:Int).toNat * 2,none⟩=false:=hfr6 0;have hf6_1:w9.frozen? ⟨go6,(x5_1:Int).toNat * 2+1,none⟩=false:=hfr6 1;clear hcl6 hcc6 hfr6 hM6;replace p6:=ezT p6;replace q6:=ezT q6;have HX10:=am (show Kd.R k94 94 w9 w0.heap.size (fun k_=>(P0_ k_∨w.heap.size≤k_)) (.slice (some ⟨go6,0,none⟩) x0_1.length co8) x0_1 from (rq HO_0.out));obtain ⟨ce10,hcl10,hM10,hcc10,hfr10⟩:=Kd.jEb HX10.out z94 (x5_1:Int) (ozD (uq)) (by have h_:(x5_1:Int)<((x0_1.length:Int):Int):=ozD (uq);first | exact h_ |(have e_:=(Kd.jq HO_0.out).1;omega) | simpa using h_);obtain rfl:=jZb hM10;have HP10:=Kd.R_seg HX10.out (x5_1:Int) (ozD (uq)) (by have h_:(x5_1:Int)<((x0_1.length:Int):Int):=ozD (uq);first | exact h_ |(have e_:=(Kd.jq HO_0.out).1;omega) | simpa using h_) (seg:=[.string t718]) (j:=0) hcl10 hcc10 (show 1≤2 from by decide) (x':=(⟨t718,(jF x0_1 x5_1).f1⟩:S94)) (k94_mkM _ _ _ (⟨t718,(jF x0_1 x5_1).f1⟩:S94) ) (fun _ hk=>hk);have hx10_0:=hcc10 0 _ rfl;(try simp only [show (k94).sz=2 from rfl,Nat.mul_one,Nat.add_zero] at hx10_0);have hf10_0:=hfr10 0;(try simp only [show (k94).sz=2 from rfl,Nat.mul_one,Nat.add_zero] at hf10_0);clear hcl10 hcc10 hfr10 hM10) |((with_reducible refine jfb (t:=9) (p:=17) rfl ?_);refine jVa (t:=9) (p:=17) (v:=?vo_w11) (w1:=(w9.setCell ⟨go6,(x5_1:Int).toNat * 2,none⟩ (.string t718))) ?hg ?ho ?hn ?hr ?_;(case ho=>rfl);(case hg=>rfl);(case hn=>rfl);(case hr=>exact Y3);intro w11 hw;have hg:w9.grownBy w11 (some go6):=(by rw [hw];exact HP10.2);have hp_:Kd.R k94 94 w11 w0.heap.size (fun k_=>(P0_ k_∨w.heap.size≤k_)) (.slice (some ⟨go6,0,none⟩) x0_1.length co8) y719:=(by rw [hw,Ny719.out];exact HP10.1);clear HP10;replace HB:=am ((by rw [hw];exact jh (HB.out) GB6.out:Below w0.heap.size w0 w11));replace HK:=am (Kept.jFb (S:=(fun k_=>P0_ k_)) hg (Y6) (fun k_ e_=>(HO_0.out.1 k_ e_)));replace HO_0:=am (hp_);clear hg hw hp_;have p7:0≤(x5_1:Int):=ozD (uq);have q7:(x5_1:Int)<((x0_1.length:Int):Int):=ozD (uq);obtain ⟨ce7,hcl7,hM7,hcc7,hfr7⟩:=Kd.jEb HO_0.out z94 (x5_1:Int) p7 q7;obtain rfl:=jZb hM7;have hx7_0:w11.cell? ⟨go6,(x5_1:Int).toNat * 2,none⟩=some (.string ((jF y719 x5_1).f0)):=hcc7 0 _ rfl;have hx7_1:w11.cell? ⟨go6,(x5_1:Int).toNat * 2+1,none⟩=some (.int .i64 ((jF y719 x5_1).f1)):=hcc7 1 _ rfl;have hf7_0:w11.frozen? ⟨go6,(x5_1:Int).toNat * 2,none⟩=false:=hfr7 0;have hf7_1:w11.frozen? ⟨go6,(x5_1:Int).toNat * 2+1,none⟩=false:=hfr7 1;clear hcl7 hcc7 hfr7 hM7;replace p7:=ezT p7;replace q7:=ezT q7;have HX12:=am (show Kd.R k94 94 w11 w0.heap.size (fun k_=>(P0_ k_∨w.heap.size≤k_)) (.slice (some ⟨go6,0,none⟩) x0_1.length co8) y719 from (rq HO_0.out));obtain ⟨ce12,hcl12,hM12,hcc12,hfr12⟩:=Kd.jEb HX12.out z94 (x5_1:Int) (ozD (uq)) (by have h_:(x5_1:Int)<((x0_1.length:Int):Int):=ozD (uq);first | exact h_ |(have e_:=(Kd.jq HO_0.out).1;omega) | simpa using h_);obtain rfl:=jZb hM12;have HP12:=Kd.R_seg HX12.out (x5_1:Int) (ozD (uq)) (by have h_:(x5_1:Int)<((x0_1.length:Int):Int):=ozD (uq);first | exact h_ |(have e_:=(Kd.jq HO_0.out).1;omega) | simpa using h_) (seg:=[.int .i64 (wrap64 (x1_1+1))]) (j:=1) hcl12 hcc12 (show 2≤2 from by decide) (x':=(⟨(jF y719 x5_1).f0,wrap64 (x1_1+1)⟩:S94)) (k94_mkM _ _ _ (⟨(jF y719 x5_1).f0,wrap64 (x1_1+1)⟩:S94) ) (fun _ hk=>hk);have hx12_1:=hcc12 1 _ rfl;(try simp only [show (k94).sz=2 from rfl,Nat.mul_one,Nat.add_zero] at hx12_1);have hf12_1:=hfr12 1;(try simp only [show (k94).sz=2 from rfl,Nat.mul_one,Nat.add_zero] at hf12_1);clear hcl12 hcc12 hfr12 hM12) |((with_reducible refine jfb (t:=3) (p:=24) rfl ?_);refine jVa (t:=3) (p:=24) (v:=?vo_w13) (w1:=(w11.setCell ⟨go6,(x5_1:Int).toNat * 2+1,none⟩ (.int .i64 (wrap64 (x1_1+1))))) ?hg ?ho ?hn ?hr ?_;(case ho=>rfl);(case hg=>rfl);(case hn=>rfl);(case hr=>exact Y3);intro w13 hw;have hg:w11.grownBy w13 (some go6):=(by rw [hw];exact HP12.2);have hp_:Kd.R k94 94 w13 w0.heap.size (fun k_=>(P0_ k_∨w.heap.size≤k_)) (.slice (some ⟨go6,0,none⟩) x0_1.length co8) y720:=(by rw [hw,Ny720.out];exact HP12.1);clear HP12;replace HB:=am ((by rw [hw];exact jh (HB.out) GB6.out:Below w0.heap.size w0 w13));replace HK:=am (Kept.jFb (S:=(fun k_=>P0_ k_)) hg (Y6) (fun k_ e_=>(HO_0.out.1 k_ e_)));replace HO_0:=am (hp_);clear hg hw hp_))
     go_roundg k1
     case measure=>have:=HK1.out;omega
     case rel=>exact ⟨(y720),(wrap64 ((wrap64 (x1_1+1))+1)),(wrap64 (x5_1+1)),(sq),(sq),H',⟨by have:=HK1.out;omega⟩,⟨rq HO_0.out⟩,⟨Y6⟩,⟨bq⟩⟩
    ·rw [if_neg c5] at H
     exact absurd H (by simp)
   ·rw [if_neg c3] at H
    have c3b0:decide (x5_1<(x0_1.length:Int))=false:=dzF c3
    clear c3
    simp only [Option.some.injEq,Prod.mk.injEq] at H
    obtain ⟨rfl,rfl⟩:=H
    obtain ⟨Ao14,co14,eo14⟩:=Kd.jwa HO_0.out
    subst eo14
    go_wp2
    go_ret
    exact ⟨Y1,rq HO_0.out,bq,Y6⟩
def jfa.f (k : Nat) (l0_0 : List (S94)) (a1 : Int) : Option (Int × (List (S94))) := (jaa.f k l0_0 a1).bind fun bt722 => (some (bt722.1, bt722.2))
set_option maxHeartbeats 8000000 in
set_option maxRecDepth 100000 in
theorem jfa.calls (k : Nat) (P0_0_ : Nat → Prop) (u9000_ : Value) (l0_0 : List (S94)) (a1 : Int) (r1 : Int) (r2 : List (S94)) (w0 w : World) (hB : Below w0.heap.size w0 w) (ho0_0 : Kd.R k94 94 w w0.heap.size P0_0_ u9000_ l0_0) (h : jfa.f k l0_0 a1 = some (r1, r2)) :
  Calls Try.prog 17 #[.agg #[u9000_], .int .i64 a1] w fun e w'=>e=.returned (.int .i64 r1)∧Kd.R k94 94 w' w0.heap.size (fun k_=>(P0_0_ k_∨w.heap.size≤k_)) u9000_ r2∧Below w0.heap.size w0 w'∧Kept w w' (fun k_=>P0_0_ k_):=by
 have hu37:=Try.underlying37
 have HO0_0:=am (show Kd.R k94 94 w w0.heap.size (fun k_=>(P0_0_ k_∨w.heap.size≤k_)) u9000_ l0_0 from Kd.jia ho0_0 (fun k_ hk=>(.inl hk)))
 have HK:=am (Kept.refl w (fun k_=>P0_0_ k_))
 have HW0:=am hB.size
 have HB:=am hB
 clear hB
 have H:((jaa.f k l0_0 a1).bind fun bt722=>(some (bt722.1,bt722.2)))=some (r1,r2):=h
 clear h
 replace H:=bzS H
 obtain ⟨⟨t722,t723⟩,A30,H⟩:=H
 replace H:(some (t722,t723))=some (r1,r2):=H
 have A3:=am A30
 clear A30
 simp only [Option.some.injEq,Prod.mk.injEq] at H
 obtain ⟨rfl,rfl⟩:=H
 obtain ⟨Ao4,co4,eo4⟩:=Kd.jwa HO0_0.out
 subst eo4
 go_enter Try.func17,Try.ntmps17
 go_wp2_with (first |((with_reducible refine jv (N:=2) rfl ?_);refine bE (N:=2) (cs:=#[.slice Ao4 l0_0.length co4]) (t:=37) ?_;intro gb721 hg w5 hbox hb;have BK721:=am (hbox);have GW721:=am ((Y84:w.heap.size≤gb721));have GE721:=am ((Y0:w0.heap.size≤gb721));replace HO0_0:=am (Kd.jU (rq HO0_0.out) hb);replace HK:=am (Kept.below (S:=(fun k_=>P0_0_ k_)) (Y6) hb);replace HB:=am (jd (bq) hb);clear hb hbox hg;have hcz6_0:=bc0 BK721.out;have hfz6_0:=ja BK721.out 0) |((with_reducible refine jw (f:=49) rfl ?_);refine gL (some 8) Try.func49 #[.slice Ao4 l0_0.length co4, .int .i64 a1] ?_;(with_reducible refine (jaa.calls k (fun k_=>some k_=(.slice Ao4 l0_0.length co4:Value).ownBlock) (.slice Ao4 l0_0.length co4) l0_0 a1 t722 t723 w0 _ ?side1 ?side2 A3.out).mono ?_);(case side1=>exact Y85);(case side2=>exact Kd.jdc rfl HO0_0.out);rintro e w7 ⟨rfl,hy0,hb,hkp⟩;refine ⟨_,rfl,?_⟩;replace BK721:=am (jPa (kq BK721.out) hkp (fun hs_=>(fun e_=>(Kd.R_ne HO0_0.out BK721.out (by decide)) e_) hs_));replace HK:=am (Kept.then_ (S:=(fun k_=>P0_0_ k_)) (Y86) hkp (fun k_ hs_=>(fun e_=>(HO0_0.out.1 k_ e_.symm)) hs_));replace HO0_0:=am (Kd.R_reok rfl hy0 (fun k_ e_=>HO0_0.out.1 k_ e_));replace HB:=am (hb);(try clear hb);(try clear hkp);(try clear hy0)))
 go_ret
 exact ⟨Y1,rq HO0_0.out,Y85,Y86⟩
def jY.l0 : Nat → List (S54) → Int → Int → Option (Int × (List (S54)))
 | 0,_,_,_=>none
 | k+1,x0,x1,x5=>if x5<(x0.length:Int) then (if 0≤x5 then ((some (x0.set (x5:Int).toNat (⟨x1,(jc x0 x5).f1,(jc x0 x5).f2,(jc x0 x5).f3,(jc x0 x5).f4⟩:S54):List (S54))).bind fun y724=>((some (y724.set (x5:Int).toNat (⟨(jc y724 x5).f0,wrap64 (x1+1),(jc y724 x5).f2,(jc y724 x5).f3,(jc y724 x5).f4⟩:S54):List (S54))).bind fun y725=>((some (y725.set (x5:Int).toNat (⟨(jc y725 x5).f0,(jc y725 x5).f1,wrap64 ((wrap64 (x1+1))+1),(jc y725 x5).f3,(jc y725 x5).f4⟩:S54):List (S54))).bind fun y726=>((some (y726.set (x5:Int).toNat (⟨(jc y726 x5).f0,(jc y726 x5).f1,(jc y726 x5).f2,wrap64 ((wrap64 ((wrap64 (x1+1))+1))+1),(jc y726 x5).f4⟩:S54):List (S54))).bind fun y727=>(jY.l0 k (y727.set (x5:Int).toNat (⟨(jc y727 x5).f0,(jc y727 x5).f1,(jc y727 x5).f2,(jc y727 x5).f3,((Int.tmod (wrap64 ((wrap64 ((wrap64 ((wrap64 (x1+1))+1))+1))+1)) 3) == 0)⟩:S54)) (wrap64 ((wrap64 ((wrap64 ((wrap64 ((wrap64 (x1+1))+1))+1))+1))+1)) (wrap64 (x5+1))))))) else (none)) else (some (x1,x0))
def jY.f (k : Nat) (l0 : List (S54)) (a1 : Int) : Option (Int × (List (S54))) := jY.l0 k l0 a1 0
set_option maxHeartbeats 8000000 in
set_option maxRecDepth 100000 in
theorem jY.calls (k : Nat) (P0_ : Nat → Prop) (u9000_ : Value) (l0 : List (S54)) (a1 : Int) (r1 : Int) (r2 : List (S54)) (w0 w : World) (hB : Below w0.heap.size w0 w) (ho0 : Kd.R k54 54 w w0.heap.size P0_ u9000_ l0) (h : jY.f k l0 a1 = some (r1, r2)) :
  Calls Try.prog 50 #[u9000_, .int .i64 a1] w fun e w'=>e=.returned (.int .i64 r1)∧Kd.R k54 54 w' w0.heap.size (fun k_=>(P0_ k_∨w.heap.size≤k_)) u9000_ r2∧Below w0.heap.size w0 w'∧Kept w w' (fun k_=>P0_ k_):=by
 have HO0:=am (show Kd.R k54 54 w w0.heap.size (fun k_=>(P0_ k_∨w.heap.size≤k_)) u9000_ l0 from Kd.jia ho0 (fun k_ hk=>(.inl hk)))
 have HK:=am (Kept.refl w (fun k_=>P0_ k_))
 have HW0:=am hB.size
 have HB:=am hB
 clear hB
 have H:(jY.l0 k l0 a1 0)=some (r1,r2):=h
 clear h
 have H':=am H
 clear H
 go_enter Try.func50,Try.ntmps50
 go_wp2
 go_loopg [1,5] k (fun kq v1 v5 w'=>∃ (x0_1:List (S54)) (x1_1:Int) (x5_1:Int),v1=.int .i64 x1_1∧v5=.int .i64 x5_1∧jy (jY.l0 kq x0_1 x1_1 x5_1=some (r1,r2))∧jy (kq≤k)∧jy (Kd.R k54 54 w' w0.heap.size (fun k_=>(P0_ k_∨w.heap.size≤k_)) u9000_ x0_1)∧jy (Kept w w' (fun k_=>P0_ k_))∧jy (Below w0.heap.size w0 w'))
 case atStart=>exact ⟨(l0),(a1),(0),(sq),(sq),H',⟨Nat.le_refl _⟩,⟨rq HO0.out⟩,⟨Y6⟩,⟨bq⟩⟩
 case round =>
  clear H'
  try clear p2
  obtain ⟨x0_1,x1_1,x5_1,rfl,rfl,HA,HK1,HO_0,HK,HB⟩:=hrel
  cases gk with
  | zero=>exact absurd HA.out (by simp [jY.l0])
  | succ k1 =>
   have H:=HA.out
   clear HA
   simp only [jY.l0] at H
   by_cases c3:x5_1<(x0_1.length:Int)
   ·rw [if_pos c3] at H
    have c3b0:decide (x5_1<(x0_1.length:Int))=true:=dzT c3
    clear c3
    by_cases c4:0≤x5_1
    ·rw [if_pos c4] at H
     have c4b0:decide (0≤x5_1)=true:=dzT c4
     clear c4
     obtain ⟨y724,hy724⟩:∃ y_:List (S54),y_=(x0_1.set (x5_1:Int).toNat (⟨x1_1,(jc x0_1 x5_1).f1,(jc x0_1 x5_1).f2,(jc x0_1 x5_1).f3,(jc x0_1 x5_1).f4⟩:S54)):=⟨_,rfl⟩
     replace H:((some (y724.set (x5_1:Int).toNat (⟨(jc y724 x5_1).f0,wrap64 (x1_1+1),(jc y724 x5_1).f2,(jc y724 x5_1).f3,(jc y724 x5_1).f4⟩:S54):List (S54))).bind fun y725=>((some (y725.set (x5_1:Int).toNat (⟨(jc y725 x5_1).f0,(jc y725 x5_1).f1,wrap64 ((wrap64 (x1_1+1))+1),(jc y725 x5_1).f3,(jc y725 x5_1).f4⟩:S54):List (S54))).bind fun y726=>((some (y726.set (x5_1:Int).toNat (⟨(jc y726 x5_1).f0,(jc y726 x5_1).f1,(jc y726 x5_1).f2,wrap64 ((wrap64 ((wrap64 (x1_1+1))+1))+1),(jc y726 x5_1).f4⟩:S54):List (S54))).bind fun y727=>(jY.l0 k1 (y727.set (x5_1:Int).toNat (⟨(jc y727 x5_1).f0,(jc y727 x5_1).f1,(jc y727 x5_1).f2,(jc y727 x5_1).f3,((Int.tmod (wrap64 ((wrap64 ((wrap64 ((wrap64 (x1_1+1))+1))+1))+1)) 3) == 0)⟩:S54)) (wrap64 ((wrap64 ((wrap64 ((wrap64 ((wrap64 (x1_1+1))+1))+1))+1))+1)) (wrap64 (x5_1+1))))))=some (r1,r2):=by first |(rw [hy724];with_reducible exact H) |(have H2_:=(Option.bind_some _ _).symm.trans H;rw [hy724];with_reducible exact H2_) |(have H2_:=(Option.bind_some _ _).symm.trans H;with_reducible exact H2_) | with_reducible exact H |(rw [hy724];exact H) | exact H
     have Ny724:=am hy724
     clear hy724
     obtain ⟨y725,hy725⟩:∃ y_:List (S54),y_=(y724.set (x5_1:Int).toNat (⟨(jc y724 x5_1).f0,wrap64 (x1_1+1),(jc y724 x5_1).f2,(jc y724 x5_1).f3,(jc y724 x5_1).f4⟩:S54)):=⟨_,rfl⟩
     replace H:((some (y725.set (x5_1:Int).toNat (⟨(jc y725 x5_1).f0,(jc y725 x5_1).f1,wrap64 ((wrap64 (x1_1+1))+1),(jc y725 x5_1).f3,(jc y725 x5_1).f4⟩:S54):List (S54))).bind fun y726=>((some (y726.set (x5_1:Int).toNat (⟨(jc y726 x5_1).f0,(jc y726 x5_1).f1,(jc y726 x5_1).f2,wrap64 ((wrap64 ((wrap64 (x1_1+1))+1))+1),(jc y726 x5_1).f4⟩:S54):List (S54))).bind fun y727=>(jY.l0 k1 (y727.set (x5_1:Int).toNat (⟨(jc y727 x5_1).f0,(jc y727 x5_1).f1,(jc y727 x5_1).f2,(jc y727 x5_1).f3,((Int.tmod (wrap64 ((wrap64 ((wrap64 ((wrap64 (x1_1+1))+1))+1))+1)) 3) == 0)⟩:S54)) (wrap64 ((wrap64 ((wrap64 ((wrap64 ((wrap64 (x1_1+1))+1))+1))+1))+1)) (wrap64 (x5_1+1)))))=some (r1,r2):=by first |(rw [hy725];with_reducible exact H) |(have H2_:=(Option.bind_some _ _).symm.trans H;rw [hy725];with_reducible exact H2_) |(have H2_:=(Option.bind_some _ _).symm.trans H;with_reducible exact H2_) | with_reducible exact H |(rw [hy725];exact H) | exact H
     have Ny725:=am hy725
     clear hy725
     obtain ⟨y726,hy726⟩:∃ y_:List (S54),y_=(y725.set (x5_1:Int).toNat (⟨(jc y725 x5_1).f0,(jc y725 x5_1).f1,wrap64 ((wrap64 (x1_1+1))+1),(jc y725 x5_1).f3,(jc y725 x5_1).f4⟩:S54)):=⟨_,rfl⟩
     replace H:((some (y726.set (x5_1:Int).toNat (⟨(jc y726 x5_1).f0,(jc y726 x5_1).f1,(jc y726 x5_1).f2,wrap64 ((wrap64 ((wrap64 (x1_1+1))+1))+1),(jc y726 x5_1).f4⟩:S54):List (S54))).bind fun y727=>(jY.l0 k1 (y727.set (x5_1:Int).toNat (⟨(jc y727 x5_1).f0,(jc y727 x5_1).f1,(jc y727 x5_1).f2,(jc y727 x5_1).f3,((Int.tmod (wrap64 ((wrap64 ((wrap64 ((wrap64 (x1_1+1))+1))+1))+1)) 3) == 0)⟩:S54)) (wrap64 ((wrap64 ((wrap64 ((wrap64 ((wrap64 (x1_1+1))+1))+1))+1))+1)) (wrap64 (x5_1+1))))=some (r1,r2):=by first |(rw [hy726];with_reducible exact H) |(have H2_:=(Option.bind_some _ _).symm.trans H;rw [hy726];with_reducible exact H2_) |(have H2_:=(Option.bind_some _ _).symm.trans H;with_reducible exact H2_) | with_reducible exact H |(rw [hy726];exact H) | exact H
     have Ny726:=am hy726
     clear hy726
     obtain ⟨y727,hy727⟩:∃ y_:List (S54),y_=(y726.set (x5_1:Int).toNat (⟨(jc y726 x5_1).f0,(jc y726 x5_1).f1,(jc y726 x5_1).f2,wrap64 ((wrap64 ((wrap64 (x1_1+1))+1))+1),(jc y726 x5_1).f4⟩:S54)):=⟨_,rfl⟩
     replace H:(jY.l0 k1 (y727.set (x5_1:Int).toNat (⟨(jc y727 x5_1).f0,(jc y727 x5_1).f1,(jc y727 x5_1).f2,(jc y727 x5_1).f3,((Int.tmod (wrap64 ((wrap64 ((wrap64 ((wrap64 (x1_1+1))+1))+1))+1)) 3) == 0)⟩:S54)) (wrap64 ((wrap64 ((wrap64 ((wrap64 ((wrap64 (x1_1+1))+1))+1))+1))+1)) (wrap64 (x5_1+1)))=some (r1,r2):=by first |(rw [hy727];with_reducible exact H) |(have H2_:=(Option.bind_some _ _).symm.trans H;rw [hy727];with_reducible exact H2_) |(have H2_:=(Option.bind_some _ _).symm.trans H;with_reducible exact H2_) | with_reducible exact H |(rw [hy727];exact H) | exact H
     have Ny727:=am hy727
     clear hy727
     obtain ⟨y728,hy728⟩:∃ y_:List (S54),y_=(y727.set (x5_1:Int).toNat (⟨(jc y727 x5_1).f0,(jc y727 x5_1).f1,(jc y727 x5_1).f2,(jc y727 x5_1).f3,((Int.tmod (wrap64 ((wrap64 ((wrap64 ((wrap64 (x1_1+1))+1))+1))+1)) 3) == 0)⟩:S54)):=⟨_,rfl⟩
     replace H:(jY.l0 k1 y728 (wrap64 ((wrap64 ((wrap64 ((wrap64 ((wrap64 (x1_1+1))+1))+1))+1))+1)) (wrap64 (x5_1+1)))=some (r1,r2):=by first |(rw [hy728];with_reducible exact H) |(have H2_:=(Option.bind_some _ _).symm.trans H;rw [hy728];with_reducible exact H2_) |(have H2_:=(Option.bind_some _ _).symm.trans H;with_reducible exact H2_) | with_reducible exact H |(rw [hy728];exact H) | exact H
     have Ny728:=am hy728
     clear hy728
     have H':=am H
     clear H
     obtain ⟨Ao10,co10,eo10⟩:=Kd.jwa HO_0.out
     subst eo10
     have p5:0≤(x5_1:Int):=ozD (uq)
     have q5:(x5_1:Int)<((x0_1.length:Int):Int):=ozD (uq)
     obtain ⟨go5,co5,eo5,gb5,gl5,cl5,HG5⟩:=Kd.R_form HO_0.out (by omega)
     (first | cases eo5 |(injection eo5 with ea_ en_ ec_;(first | subst ea_ |(injection ea_ with ea_;subst ea_));subst ec_;clear en_))
     have GB5:=am gb5
     have GG5:=am HG5
     clear gb5 gl5 HG5
     have HMgo5:=am (show (P0_ go5∨w.heap.size≤go5) from (HO_0.out.1 _ rfl))
     obtain ⟨ce5,hcl5,hM5,hcc5,hfr5⟩:=Kd.jEb HO_0.out z54 (x5_1:Int) p5 q5
     obtain rfl:=jeb hM5
     have hx5_0:wr.cell? ⟨go5,(x5_1:Int).toNat * 5,none⟩=some (.int .i64 ((jc x0_1 x5_1).f0)):=hcc5 0 _ rfl
     have hx5_1:wr.cell? ⟨go5,(x5_1:Int).toNat * 5+1,none⟩=some (.int .i64 ((jc x0_1 x5_1).f1)):=hcc5 1 _ rfl
     have hx5_2:wr.cell? ⟨go5,(x5_1:Int).toNat * 5+2,none⟩=some (.int .i64 ((jc x0_1 x5_1).f2)):=hcc5 2 _ rfl
     have hx5_3:wr.cell? ⟨go5,(x5_1:Int).toNat * 5+3,none⟩=some (.int .i64 ((jc x0_1 x5_1).f3)):=hcc5 3 _ rfl
     have hx5_4:wr.cell? ⟨go5,(x5_1:Int).toNat * 5+4,none⟩=some (.bool ((jc x0_1 x5_1).f4)):=hcc5 4 _ rfl
     have hf5_0:wr.frozen? ⟨go5,(x5_1:Int).toNat * 5,none⟩=false:=hfr5 0
     have hf5_1:wr.frozen? ⟨go5,(x5_1:Int).toNat * 5+1,none⟩=false:=hfr5 1
     have hf5_2:wr.frozen? ⟨go5,(x5_1:Int).toNat * 5+2,none⟩=false:=hfr5 2
     have hf5_3:wr.frozen? ⟨go5,(x5_1:Int).toNat * 5+3,none⟩=false:=hfr5 3
     have hf5_4:wr.frozen? ⟨go5,(x5_1:Int).toNat * 5+4,none⟩=false:=hfr5 4
     clear hcl5 hcc5 hfr5 hM5
     replace p5:=ezT p5
     replace q5:=ezT q5
     have HX11:=am (show Kd.R k54 54 wr w0.heap.size (fun k_=>(P0_ k_∨w.heap.size≤k_)) (.slice (some ⟨go5,0,none⟩) x0_1.length co10) x0_1 from (rq HO_0.out))
     obtain ⟨ce11,hcl11,hM11,hcc11,hfr11⟩:=Kd.jEb HX11.out z54 (x5_1:Int) (ozD (uq)) (by have h_:(x5_1:Int)<((x0_1.length:Int):Int):=ozD (uq);first | exact h_ |(have e_:=(Kd.jq HO_0.out).1;omega) | simpa using h_)
     obtain rfl:=jeb hM11
     have HP11:=Kd.R_seg HX11.out (x5_1:Int) (ozD (uq)) (by have h_:(x5_1:Int)<((x0_1.length:Int):Int):=ozD (uq);first | exact h_ |(have e_:=(Kd.jq HO_0.out).1;omega) | simpa using h_) (seg:=[.int .i64 x1_1]) (j:=0) hcl11 hcc11 (show 1≤5 from by decide) (x':=(⟨x1_1,(jc x0_1 x5_1).f1,(jc x0_1 x5_1).f2,(jc x0_1 x5_1).f3,(jc x0_1 x5_1).f4⟩:S54)) (k54_mkM _ _ _ (⟨x1_1,(jc x0_1 x5_1).f1,(jc x0_1 x5_1).f2,(jc x0_1 x5_1).f3,(jc x0_1 x5_1).f4⟩:S54) ) (fun _ hk=>hk)
     have hx11_0:=hcc11 0 _ rfl
     (try simp only [show (k54).sz=5 from rfl,Nat.mul_one,Nat.add_zero] at hx11_0)
     have hf11_0:=hfr11 0
     (try simp only [show (k54).sz=5 from rfl,Nat.mul_one,Nat.add_zero] at hf11_0)
     clear hcl11 hcc11 hfr11 hM11
     go_wp2_with (first |((with_reducible refine jfb (t:=3) (p:=16) rfl ?_);refine jVa (t:=3) (p:=16) (v:=?vo_w12) (w1:=(wr.setCell ⟨go5,(x5_1:Int).toNat * 5,none⟩ (.int .i64 x1_1))) ?hg ?ho ?hn ?hr ?_;(case ho=>rfl);(case hg=>rfl);(case hn=>rfl);(case hr=>exact Y3);intro w12 hw;have hg:wr.grownBy w12 (some go5):=(by rw [hw];exact HP11.2);have hp_:Kd.R k54 54 w12 w0.heap.size (fun k_=>(P0_ k_∨w.heap.size≤k_)) (.slice (some ⟨go5,0,none⟩) x0_1.length co10) y724:=(by rw [hw,Ny724.out];exact HP11.1);clear HP11;replace HB:=am ((by rw [hw];exact jh (HB.out) GB5.out:Below w0.heap.size w0 w12));replace HK:=am (Kept.jFb (S:=(fun k_=>P0_ k_)) hg (Y6) (fun k_ e_=>(HO_0.out.1 k_ e_)));replace HO_0:=am (hp_);clear hg hw hp_;have p6:0≤(x5_1:Int):=ozD (uq);have q6:(x5_1:Int)<((x0_1.length:Int):Int):=ozD (uq);obtain ⟨ce6,hcl6,hM6,hcc6,hfr6⟩:=Kd.jEb HO_0.out z54 (x5_1:Int) p6 q6;obtain rfl:=jeb hM6;have hx6_0:w12.cell? ⟨go5,(x5_1:Int).toNat * 5,none⟩=some (.int .i64 ((jc y724 x5_1).f0)):=hcc6 0 _ rfl;have hx6_1:w12.cell? ⟨go5,(x5_1:Int).toNat * 5+1,none⟩=some (.int .i64 ((jc y724 x5_1).f1)):=hcc6 1 _ rfl;have hx6_2:w12.cell? ⟨go5,(x5_1:Int).toNat * 5+2,none⟩=some (.int .i64 ((jc y724 x5_1).f2)):=hcc6 2 _ rfl;have hx6_3:w12.cell? ⟨go5,(x5_1:Int).toNat * 5+3,none⟩=some (.int .i64 ((jc y724 x5_1).f3)):=hcc6 3 _ rfl;have hx6_4:w12.cell? ⟨go5,(x5_1:Int).toNat * 5+4,none⟩=some (.bool ((jc y724 x5_1).f4)):=hcc6 4 _ rfl;have hf6_0:w12.frozen? ⟨go5,(x5_1:Int).toNat * 5,none⟩=false:=hfr6 0;have hf6_1:w12.frozen? ⟨go5,(x5_1:Int).toNat * 5+1,none⟩=false:=hfr6 1;have hf6_2:w12.frozen? ⟨go5,(x5_1:Int).toNat * 5+2,none⟩=false:=hfr6 2;have hf6_3:w12.frozen? ⟨go5,(x5_1:Int).toNat * 5+3,none⟩=false:=hfr6 3;have hf6_4:w12.frozen? ⟨go5,(x5_1:Int).toNat * 5+4,none⟩=false:=hfr6 4;clear hcl6 hcc6 hfr6 hM6;replace p6:=ezT p6;replace q6:=ezT q6;have HX13:=am (show Kd.R k54 54 w12 w0.heap.size (fun k_=>(P0_ k_∨w.heap.size≤k_)) (.slice (some ⟨go5,0,none⟩) x0_1.length co10) y724 from (rq HO_0.out));obtain ⟨ce13,hcl13,hM13,hcc13,hfr13⟩:=Kd.jEb HX13.out z54 (x5_1:Int) (ozD (uq)) (by have h_:(x5_1:Int)<((x0_1.length:Int):Int):=ozD (uq);first | exact h_ |(have e_:=(Kd.jq HO_0.out).1;omega) | simpa using h_);obtain rfl:=jeb hM13;have HP13:=Kd.R_seg HX13.out (x5_1:Int) (ozD (uq)) (by have h_:(x5_1:Int)<((x0_1.length:Int):Int):=ozD (uq);first | exact h_ |(have e_:=(Kd.jq HO_0.out).1;omega) | simpa using h_) (seg:=[.int .i64 (wrap64 (x1_1+1))]) (j:=1) hcl13 hcc13 (show 2≤5 from by decide) (x':=(⟨(jc y724 x5_1).f0,wrap64 (x1_1+1),(jc y724 x5_1).f2,(jc y724 x5_1).f3,(jc y724 x5_1).f4⟩:S54)) (k54_mkM _ _ _ (⟨(jc y724 x5_1).f0,wrap64 (x1_1+1),(jc y724 x5_1).f2,(jc y724 x5_1).f3,(jc y724 x5_1).f4⟩:S54) ) (fun _ hk=>hk);have hx13_1:=hcc13 1 _ rfl;(try simp only [show (k54).sz=5 from rfl,Nat.mul_one,Nat.add_zero] at hx13_1);have hf13_1:=hfr13 1;(try simp only [show (k54).sz=5 from rfl,Nat.mul_one,Nat.add_zero] at hf13_1);clear hcl13 hcc13 hfr13 hM13) |((with_reducible refine jfb (t:=3) (p:=23) rfl ?_);refine jVa (t:=3) (p:=23) (v:=?vo_w14) (w1:=(w12.setCell ⟨go5,(x5_1:Int).toNat * 5+1,none⟩ (.int .i64 (wrap64 (x1_1+1))))) ?hg ?ho ?hn ?hr ?_;(case ho=>rfl);(case hg=>rfl);(case hn=>rfl);(case hr=>exact Y3);intro w14 hw;have hg:w12.grownBy w14 (some go5):=(by rw [hw];exact HP13.2);have hp_:Kd.R k54 54 w14 w0.heap.size (fun k_=>(P0_ k_∨w.heap.size≤k_)) (.slice (some ⟨go5,0,none⟩) x0_1.length co10) y725:=(by rw [hw,Ny725.out];exact HP13.1);clear HP13;replace HB:=am ((by rw [hw];exact jh (HB.out) GB5.out:Below w0.heap.size w0 w14));replace HK:=am (Kept.jFb (S:=(fun k_=>P0_ k_)) hg (Y6) (fun k_ e_=>(HO_0.out.1 k_ e_)));replace HO_0:=am (hp_);clear hg hw hp_;have p7:0≤(x5_1:Int):=ozD (uq);have q7:(x5_1:Int)<((x0_1.length:Int):Int):=ozD (uq);obtain ⟨ce7,hcl7,hM7,hcc7,hfr7⟩:=Kd.jEb HO_0.out z54 (x5_1:Int) p7 q7;obtain rfl:=jeb hM7;have hx7_0:w14.cell? ⟨go5,(x5_1:Int).toNat * 5,none⟩=some (.int .i64 ((jc y725 x5_1).f0)):=hcc7 0 _ rfl;have hx7_1:w14.cell? ⟨go5,(x5_1:Int).toNat * 5+1,none⟩=some (.int .i64 ((jc y725 x5_1).f1)):=hcc7 1 _ rfl;have hx7_2:w14.cell? ⟨go5,(x5_1:Int).toNat * 5+2,none⟩=some (.int .i64 ((jc y725 x5_1).f2)):=hcc7 2 _ rfl;have hx7_3:w14.cell? ⟨go5,(x5_1:Int).toNat * 5+3,none⟩=some (.int .i64 ((jc y725 x5_1).f3)):=hcc7 3 _ rfl;have hx7_4:w14.cell? ⟨go5,(x5_1:Int).toNat * 5+4,none⟩=some (.bool ((jc y725 x5_1).f4)):=hcc7 4 _ rfl;have hf7_0:w14.frozen? ⟨go5,(x5_1:Int).toNat * 5,none⟩=false:=hfr7 0;have hf7_1:w14.frozen? ⟨go5,(x5_1:Int).toNat * 5+1,none⟩=false:=hfr7 1;have hf7_2:w14.frozen? ⟨go5,(x5_1:Int).toNat * 5+2,none⟩=false:=hfr7 2;have hf7_3:w14.frozen? ⟨go5,(x5_1:Int).toNat * 5+3,none⟩=false:=hfr7 3;have hf7_4:w14.frozen? ⟨go5,(x5_1:Int).toNat * 5+4,none⟩=false:=hfr7 4;clear hcl7 hcc7 hfr7 hM7;replace p7:=ezT p7;replace q7:=ezT q7;have HX15:=am (show Kd.R k54 54 w14 w0.heap.size (fun k_=>(P0_ k_∨w.heap.size≤k_)) (.slice (some ⟨go5,0,none⟩) x0_1.length co10) y725 from (rq HO_0.out));obtain ⟨ce15,hcl15,hM15,hcc15,hfr15⟩:=Kd.jEb HX15.out z54 (x5_1:Int) (ozD (uq)) (by have h_:(x5_1:Int)<((x0_1.length:Int):Int):=ozD (uq);first | exact h_ |(have e_:=(Kd.jq HO_0.out).1;omega) | simpa using h_);obtain rfl:=jeb hM15;have HP15:=Kd.R_seg HX15.out (x5_1:Int) (ozD (uq)) (by have h_:(x5_1:Int)<((x0_1.length:Int):Int):=ozD (uq);first | exact h_ |(have e_:=(Kd.jq HO_0.out).1;omega) | simpa using h_) (seg:=[.int .i64 (wrap64 ((wrap64 (x1_1+1))+1))]) (j:=2) hcl15 hcc15 (show 3≤5 from by decide) (x':=(⟨(jc y725 x5_1).f0,(jc y725 x5_1).f1,wrap64 ((wrap64 (x1_1+1))+1),(jc y725 x5_1).f3,(jc y725 x5_1).f4⟩:S54)) (k54_mkM _ _ _ (⟨(jc y725 x5_1).f0,(jc y725 x5_1).f1,wrap64 ((wrap64 (x1_1+1))+1),(jc y725 x5_1).f3,(jc y725 x5_1).f4⟩:S54) ) (fun _ hk=>hk);have hx15_2:=hcc15 2 _ rfl;(try simp only [show (k54).sz=5 from rfl,Nat.mul_one,Nat.add_zero] at hx15_2);have hf15_2:=hfr15 2;(try simp only [show (k54).sz=5 from rfl,Nat.mul_one,Nat.add_zero] at hf15_2);clear hcl15 hcc15 hfr15 hM15) |((with_reducible refine jfb (t:=3) (p:=30) rfl ?_);refine jVa (t:=3) (p:=30) (v:=?vo_w16) (w1:=(w14.setCell ⟨go5,(x5_1:Int).toNat * 5+2,none⟩ (.int .i64 (wrap64 ((wrap64 (x1_1+1))+1))))) ?hg ?ho ?hn ?hr ?_;(case ho=>rfl);(case hg=>rfl);(case hn=>rfl);(case hr=>exact Y3);intro w16 hw;have hg:w14.grownBy w16 (some go5):=(by rw [hw];exact HP15.2);have hp_:Kd.R k54 54 w16 w0.heap.size (fun k_=>(P0_ k_∨w.heap.size≤k_)) (.slice (some ⟨go5,0,none⟩) x0_1.length co10) y726:=(by rw [hw,Ny726.out];exact HP15.1);clear HP15;replace HB:=am ((by rw [hw];exact jh (HB.out) GB5.out:Below w0.heap.size w0 w16));replace HK:=am (Kept.jFb (S:=(fun k_=>P0_ k_)) hg (Y6) (fun k_ e_=>(HO_0.out.1 k_ e_)));replace HO_0:=am (hp_);clear hg hw hp_;have p8:0≤(x5_1:Int):=ozD (uq);have q8:(x5_1:Int)<((x0_1.length:Int):Int):=ozD (uq);obtain ⟨ce8,hcl8,hM8,hcc8,hfr8⟩:=Kd.jEb HO_0.out z54 (x5_1:Int) p8 q8;obtain rfl:=jeb hM8;have hx8_0:w16.cell? ⟨go5,(x5_1:Int).toNat * 5,none⟩=some (.int .i64 ((jc y726 x5_1).f0)):=hcc8 0 _ rfl;have hx8_1:w16.cell? ⟨go5,(x5_1:Int).toNat * 5+1,none⟩=some (.int .i64 ((jc y726 x5_1).f1)):=hcc8 1 _ rfl;have hx8_2:w16.cell? ⟨go5,(x5_1:Int).toNat * 5+2,none⟩=some (.int .i64 ((jc y726 x5_1).f2)):=hcc8 2 _ rfl;have hx8_3:w16.cell? ⟨go5,(x5_1:Int).toNat * 5+3,none⟩=some (.int .i64 ((jc y726 x5_1).f3)):=hcc8 3 _ rfl;have hx8_4:w16.cell? ⟨go5,(x5_1:Int).toNat * 5+4,none⟩=some (.bool ((jc y726 x5_1).f4)):=hcc8 4 _ rfl;have hf8_0:w16.frozen? ⟨go5,(x5_1:Int).toNat * 5,none⟩=false:=hfr8 0;have hf8_1:w16.frozen? ⟨go5,(x5_1:Int).toNat * 5+1,none⟩=false:=hfr8 1;have hf8_2:w16.frozen? ⟨go5,(x5_1:Int).toNat * 5+2,none⟩=false:=hfr8 2;have hf8_3:w16.frozen? ⟨go5,(x5_1:Int).toNat * 5+3,none⟩=false:=hfr8 3;have hf8_4:w16.frozen? ⟨go5,(x5_1:Int).toNat * 5+4,none⟩=false:=hfr8 4;clear hcl8 hcc8 hfr8 hM8;replace p8:=ezT p8;replace q8:=ezT q8;have HX17:=am (show Kd.R k54 54 w16 w0.heap.size (fun k_=>(P0_ k_∨w.heap.size≤k_)) (.slice (some ⟨go5,0,none⟩) x0_1.length co10) y726 from (rq HO_0.out));obtain ⟨ce17,hcl17,hM17,hcc17,hfr17⟩:=Kd.jEb HX17.out z54 (x5_1:Int) (ozD (uq)) (by have h_:(x5_1:Int)<((x0_1.length:Int):Int):=ozD (uq);first | exact h_ |(have e_:=(Kd.jq HO_0.out).1;omega) | simpa using h_);obtain rfl:=jeb hM17;have HP17:=Kd.R_seg HX17.out (x5_1:Int) (ozD (uq)) (by have h_:(x5_1:Int)<((x0_1.length:Int):Int):=ozD (uq);first | exact h_ |(have e_:=(Kd.jq HO_0.out).1;omega) | simpa using h_) (seg:=[.int .i64 (wrap64 ((wrap64 ((wrap64 (x1_1+1))+1))+1))]) (j:=3) hcl17 hcc17 (show 4≤5 from by decide) (x':=(⟨(jc y726 x5_1).f0,(jc y726 x5_1).f1,(jc y726 x5_1).f2,wrap64 ((wrap64 ((wrap64 (x1_1+1))+1))+1),(jc y726 x5_1).f4⟩:S54)) (k54_mkM _ _ _ (⟨(jc y726 x5_1).f0,(jc y726 x5_1).f1,(jc y726 x5_1).f2,wrap64 ((wrap64 ((wrap64 (x1_1+1))+1))+1),(jc y726 x5_1).f4⟩:S54) ) (fun _ hk=>hk);have hx17_3:=hcc17 3 _ rfl;(try simp only [show (k54).sz=5 from rfl,Nat.mul_one,Nat.add_zero] at hx17_3);have hf17_3:=hfr17 3;(try simp only [show (k54).sz=5 from rfl,Nat.mul_one,Nat.add_zero] at hf17_3);clear hcl17 hcc17 hfr17 hM17) |((with_reducible refine jfb (t:=3) (p:=37) rfl ?_);refine jVa (t:=3) (p:=37) (v:=?vo_w18) (w1:=(w16.setCell ⟨go5,(x5_1:Int).toNat * 5+3,none⟩ (.int .i64 (wrap64 ((wrap64 ((wrap64 (x1_1+1))+1))+1))))) ?hg ?ho ?hn ?hr ?_;(case ho=>rfl);(case hg=>rfl);(case hn=>rfl);(case hr=>exact Y3);intro w18 hw;have hg:w16.grownBy w18 (some go5):=(by rw [hw];exact HP17.2);have hp_:Kd.R k54 54 w18 w0.heap.size (fun k_=>(P0_ k_∨w.heap.size≤k_)) (.slice (some ⟨go5,0,none⟩) x0_1.length co10) y727:=(by rw [hw,Ny727.out];exact HP17.1);clear HP17;replace HB:=am ((by rw [hw];exact jh (HB.out) GB5.out:Below w0.heap.size w0 w18));replace HK:=am (Kept.jFb (S:=(fun k_=>P0_ k_)) hg (Y6) (fun k_ e_=>(HO_0.out.1 k_ e_)));replace HO_0:=am (hp_);clear hg hw hp_;have p9:0≤(x5_1:Int):=ozD (uq);have q9:(x5_1:Int)<((x0_1.length:Int):Int):=ozD (uq);obtain ⟨ce9,hcl9,hM9,hcc9,hfr9⟩:=Kd.jEb HO_0.out z54 (x5_1:Int) p9 q9;obtain rfl:=jeb hM9;have hx9_0:w18.cell? ⟨go5,(x5_1:Int).toNat * 5,none⟩=some (.int .i64 ((jc y727 x5_1).f0)):=hcc9 0 _ rfl;have hx9_1:w18.cell? ⟨go5,(x5_1:Int).toNat * 5+1,none⟩=some (.int .i64 ((jc y727 x5_1).f1)):=hcc9 1 _ rfl;have hx9_2:w18.cell? ⟨go5,(x5_1:Int).toNat * 5+2,none⟩=some (.int .i64 ((jc y727 x5_1).f2)):=hcc9 2 _ rfl;have hx9_3:w18.cell? ⟨go5,(x5_1:Int).toNat * 5+3,none⟩=some (.int .i64 ((jc y727 x5_1).f3)):=hcc9 3 _ rfl;have hx9_4:w18.cell? ⟨go5,(x5_1:Int).toNat * 5+4,none⟩=some (.bool ((jc y727 x5_1).f4)):=hcc9 4 _ rfl;have hf9_0:w18.frozen? ⟨go5,(x5_1:Int).toNat * 5,none⟩=false:=hfr9 0;have hf9_1:w18.frozen? ⟨go5,(x5_1:Int).toNat * 5+1,none⟩=false:=hfr9 1;have hf9_2:w18.frozen? ⟨go5,(x5_1:Int).toNat * 5+2,none⟩=false:=hfr9 2;have hf9_3:w18.frozen? ⟨go5,(x5_1:Int).toNat * 5+3,none⟩=false:=hfr9 3;have hf9_4:w18.frozen? ⟨go5,(x5_1:Int).toNat * 5+4,none⟩=false:=hfr9 4;clear hcl9 hcc9 hfr9 hM9;replace p9:=ezT p9;replace q9:=ezT q9;have HX19:=am (show Kd.R k54 54 w18 w0.heap.size (fun k_=>(P0_ k_∨w.heap.size≤k_)) (.slice (some ⟨go5,0,none⟩) x0_1.length co10) y727 from (rq HO_0.out));obtain ⟨ce19,hcl19,hM19,hcc19,hfr19⟩:=Kd.jEb HX19.out z54 (x5_1:Int) (ozD (uq)) (by have h_:(x5_1:Int)<((x0_1.length:Int):Int):=ozD (uq);first | exact h_ |(have e_:=(Kd.jq HO_0.out).1;omega) | simpa using h_);obtain rfl:=jeb hM19;have HP19:=Kd.R_seg HX19.out (x5_1:Int) (ozD (uq)) (by have h_:(x5_1:Int)<((x0_1.length:Int):Int):=ozD (uq);first | exact h_ |(have e_:=(Kd.jq HO_0.out).1;omega) | simpa using h_) (seg:=[.bool ((Int.tmod (wrap64 ((wrap64 ((wrap64 ((wrap64 (x1_1+1))+1))+1))+1)) 3) == 0)]) (j:=4) hcl19 hcc19 (show 5≤5 from by decide) (x':=(⟨(jc y727 x5_1).f0,(jc y727 x5_1).f1,(jc y727 x5_1).f2,(jc y727 x5_1).f3,((Int.tmod (wrap64 ((wrap64 ((wrap64 ((wrap64 (x1_1+1))+1))+1))+1)) 3) == 0)⟩:S54)) (k54_mkM _ _ _ (⟨(jc y727 x5_1).f0,(jc y727 x5_1).f1,(jc y727 x5_1).f2,(jc y727 x5_1).f3,((Int.tmod (wrap64 ((wrap64 ((wrap64 ((wrap64 (x1_1+1))+1))+1))+1)) 3) == 0)⟩:S54) ) (fun _ hk=>hk);have hx19_4:=hcc19 4 _ rfl;(try simp only [show (k54).sz=5 from rfl,Nat.mul_one,Nat.add_zero] at hx19_4);have hf19_4:=hfr19 4;(try simp only [show (k54).sz=5 from rfl,Nat.mul_one,Nat.add_zero] at hf19_4);clear hcl19 hcc19 hfr19 hM19) |((with_reducible refine jfb (t:=4) (p:=46) rfl ?_);refine jVa (t:=4) (p:=46) (v:=?vo_w20) (w1:=(w18.setCell ⟨go5,(x5_1:Int).toNat * 5+4,none⟩ (.bool ((Int.tmod (wrap64 ((wrap64 ((wrap64 ((wrap64 (x1_1+1))+1))+1))+1)) 3) == 0)))) ?hg ?ho ?hn ?hr ?_;(case ho=>rfl);(case hg=>rfl);(case hn=>rfl);(case hr=>exact Y3);intro w20 hw;have hg:w18.grownBy w20 (some go5):=(by rw [hw];exact HP19.2);have hp_:Kd.R k54 54 w20 w0.heap.size (fun k_=>(P0_ k_∨w.heap.size≤k_)) (.slice (some ⟨go5,0,none⟩) x0_1.length co10) y728:=(by rw [hw,Ny728.out];exact HP19.1);clear HP19;replace HB:=am ((by rw [hw];exact jh (HB.out) GB5.out:Below w0.heap.size w0 w20));replace HK:=am (Kept.jFb (S:=(fun k_=>P0_ k_)) hg (Y6) (fun k_ e_=>(HO_0.out.1 k_ e_)));replace HO_0:=am (hp_);clear hg hw hp_))
     go_roundg k1
     case measure=>have:=HK1.out;omega
     case rel=>exact ⟨(y728),(wrap64 ((wrap64 ((wrap64 ((wrap64 ((wrap64 (x1_1+1))+1))+1))+1))+1)),(wrap64 (x5_1+1)),(sq),(sq),H',⟨by have:=HK1.out;omega⟩,⟨rq HO_0.out⟩,⟨Y6⟩,⟨bq⟩⟩
    ·rw [if_neg c4] at H
     exact absurd H (by simp)
   ·rw [if_neg c3] at H
    have c3b0:decide (x5_1<(x0_1.length:Int))=false:=dzF c3
    clear c3
    simp only [Option.some.injEq,Prod.mk.injEq] at H
    obtain ⟨rfl,rfl⟩:=H
    obtain ⟨Ao21,co21,eo21⟩:=Kd.jwa HO_0.out
    subst eo21
    go_wp2
    go_ret
    exact ⟨Y1,rq HO_0.out,bq,Y6⟩
def jba.f (k : Nat) (l0_0 : List (S54)) (a1 : Int) : Option (Int × (List (S54))) := (jY.f k l0_0 a1).bind fun bt730 => (some (bt730.1, bt730.2))
set_option maxHeartbeats 8000000 in
set_option maxRecDepth 100000 in
theorem jba.calls (k : Nat) (P0_0_ : Nat → Prop) (u9000_ : Value) (l0_0 : List (S54)) (a1 : Int) (r1 : Int) (r2 : List (S54)) (w0 w : World) (hB : Below w0.heap.size w0 w) (ho0_0 : Kd.R k54 54 w w0.heap.size P0_0_ u9000_ l0_0) (h : jba.f k l0_0 a1 = some (r1, r2)) :
  Calls Try.prog 18 #[.agg #[u9000_], .int .i64 a1] w fun e w'=>e=.returned (.int .i64 r1)∧Kd.R k54 54 w' w0.heap.size (fun k_=>(P0_0_ k_∨w.heap.size≤k_)) u9000_ r2∧Below w0.heap.size w0 w'∧Kept w w' (fun k_=>P0_0_ k_):=by
 have hu32:=Try.underlying32
 have HO0_0:=am (show Kd.R k54 54 w w0.heap.size (fun k_=>(P0_0_ k_∨w.heap.size≤k_)) u9000_ l0_0 from Kd.jia ho0_0 (fun k_ hk=>(.inl hk)))
 have HK:=am (Kept.refl w (fun k_=>P0_0_ k_))
 have HW0:=am hB.size
 have HB:=am hB
 clear hB
 have H:((jY.f k l0_0 a1).bind fun bt730=>(some (bt730.1,bt730.2)))=some (r1,r2):=h
 clear h
 replace H:=bzS H
 obtain ⟨⟨t730,t731⟩,A30,H⟩:=H
 replace H:(some (t730,t731))=some (r1,r2):=H
 have A3:=am A30
 clear A30
 simp only [Option.some.injEq,Prod.mk.injEq] at H
 obtain ⟨rfl,rfl⟩:=H
 obtain ⟨Ao4,co4,eo4⟩:=Kd.jwa HO0_0.out
 subst eo4
 go_enter Try.func18,Try.ntmps18
 go_wp2_with (first |((with_reducible refine jv (N:=2) rfl ?_);refine bE (N:=2) (cs:=#[.slice Ao4 l0_0.length co4]) (t:=32) ?_;intro gb729 hg w5 hbox hb;have BK729:=am (hbox);have GW729:=am ((Y84:w.heap.size≤gb729));have GE729:=am ((Y0:w0.heap.size≤gb729));replace HO0_0:=am (Kd.jU (rq HO0_0.out) hb);replace HK:=am (Kept.below (S:=(fun k_=>P0_0_ k_)) (Y6) hb);replace HB:=am (jd (bq) hb);clear hb hbox hg;have hcz6_0:=bc0 BK729.out;have hfz6_0:=ja BK729.out 0) |((with_reducible refine jw (f:=50) rfl ?_);refine gL (some 8) Try.func50 #[.slice Ao4 l0_0.length co4, .int .i64 a1] ?_;(with_reducible refine (jY.calls k (fun k_=>some k_=(.slice Ao4 l0_0.length co4:Value).ownBlock) (.slice Ao4 l0_0.length co4) l0_0 a1 t730 t731 w0 _ ?side1 ?side2 A3.out).mono ?_);(case side1=>exact Y87);(case side2=>exact Kd.jdc rfl HO0_0.out);rintro e w7 ⟨rfl,hy0,hb,hkp⟩;refine ⟨_,rfl,?_⟩;replace BK729:=am (jPa (kq BK729.out) hkp (fun hs_=>(fun e_=>(Kd.R_ne HO0_0.out BK729.out (by decide)) e_) hs_));replace HK:=am (Kept.then_ (S:=(fun k_=>P0_0_ k_)) (Y88) hkp (fun k_ hs_=>(fun e_=>(HO0_0.out.1 k_ e_.symm)) hs_));replace HO0_0:=am (Kd.R_reok rfl hy0 (fun k_ e_=>HO0_0.out.1 k_ e_));replace HB:=am (hb);(try clear hb);(try clear hkp);(try clear hy0)))
 go_ret
 exact ⟨Y1,rq HO0_0.out,Y87,Y88⟩
def jD.l0 : Nat → List Int → List Int → Int → Option (Bool)
 | 0,_,_,_=>none
 | k+1,x0,x1,x5=>if x5<(x0.length:Int) then (if 0≤x5 then (if x5<(x1.length:Int) then (if (rd x0 x5)=(rd x1 x5) then (jD.l0 k x0 x1 (wrap64 (x5+1))) else (some false)) else (none)) else (none)) else (some true)
def jD.f (k : Nat) (l0 : List Int) (l1 : List Int) : Option (Bool) := if (l0.length : Int) = (l1.length : Int) then (jD.l0 k l0 l1 0) else (some false)
set_option maxHeartbeats 8000000 in
set_option maxRecDepth 100000 in
theorem jD.calls (k : Nat) (A0 : Option Addr) (c0 : Nat) (l0 : List Int) (A1 : Option Addr) (c1 : Nat) (l1 : List Int) (r : Bool) (w : World) (hr0 : Kd.C (Kd.int .i64) w A0 l0.length l0) (hc0 : l0.length ≤ c0) (hr1 : Kd.C (Kd.int .i64) w A1 l1.length l1) (hc1 : l1.length ≤ c1) (h : jD.f k l0 l1 = some r) :
  Calls Try.prog 22 #[.slice A0 l0.length c0, .slice A1 l1.length c1] w fun e w'=>e=.returned (.bool r)∧jSa w w':=by
 have HR0:=am hr0
 have HC0:=am hc0
 clear hr0 hc0
 have HR1:=am hr1
 have HC1:=am hc1
 clear hr1 hc1
 have H:(if (l0.length:Int)=(l1.length:Int) then (jD.l0 k l0 l1 0) else (some false))=some r:=h
 clear h
 by_cases c3:(l0.length:Int)=(l1.length:Int)
 ·rw [if_pos c3] at H
  have c3b0:((l0.length:Int) == (l1.length:Int))=true:=beq_iff_eq.mpr c3
  have c3b1:((l0.length:Int) != (l1.length:Int))=false:=bne_eq_false_iff_eq.mpr c3
  have c3b2:(l0.length == l1.length)=true:=by first | simpa using c3 |(simp at c3 ⊢;omega)
  clear c3
  have H':=am H
  clear H
  go_enter Try.func22,Try.ntmps22
  go_wp2
  repeat (go_quiet (fail);try go_wp2)
  go_loopg [5] k (fun kq v5 w'=>∃ (x5_1:Int),v5=.int .i64 x5_1∧jy (jD.l0 kq l0 l1 x5_1=some r)∧jy (kq≤k)∧jSa w w')
  case atStart=>exact ⟨(0),(sq),H',⟨Nat.le_refl _⟩,Y2⟩
  case round =>
   clear H'
   try clear c1
   try clear c2
   try clear p2
   try clear c3
   try clear c3b0
   try clear c3b1
   try clear c3b2
   obtain ⟨x5_1,rfl,HA,HK1,⟨m1,rfl⟩⟩:=hrel
   cases gk with
   | zero=>exact absurd HA.out (by simp [jD.l0])
   | succ k1 =>
    have H:=HA.out
    clear HA
    simp only [jD.l0] at H
    by_cases c4:x5_1<(l0.length:Int)
    ·rw [if_pos c4] at H
     have c4b0:decide (x5_1<(l0.length:Int))=true:=dzT c4
     clear c4
     by_cases c5:0≤x5_1
     ·rw [if_pos c5] at H
      have c5b0:decide (0≤x5_1)=true:=dzT c5
      clear c5
      by_cases c6:x5_1<(l1.length:Int)
      ·rw [if_pos c6] at H
       have c6b0:decide (x5_1<(l1.length:Int))=true:=dzT c6
       clear c6
       by_cases c7:(rd l0 x5_1)=(rd l1 x5_1)
       ·rw [if_pos c7] at H
        have c7b0:((rd l0 x5_1) == (rd l1 x5_1))=true:=beq_iff_eq.mpr c7
        have c7b1:((rd l0 x5_1) != (rd l1 x5_1))=false:=bne_eq_false_iff_eq.mpr c7
        clear c7
        have H':=am H
        clear H
        have p732:0≤(x5_1:Int):=ozD (uq)
        have q732:x5_1<(l0.length:Int):=ozD (uq)
        obtain ⟨ad732,e732,hx732_0⟩:=Kd.jrb HR0.out x5_1 p732 q732
        cases e732
        replace p732:=ezT p732
        replace q732:=ezT q732
        have p733:0≤(x5_1:Int):=ozD (uq)
        have q733:x5_1<(l1.length:Int):=ozD (uq)
        obtain ⟨ad733,e733,hx733_0⟩:=Kd.jrb HR1.out x5_1 p733 q733
        cases e733
        replace p733:=ezT p733
        replace q733:=ezT q733
        go_wp2
        repeat (go_quiet (fail);try go_wp2)
        go_roundg k1
        case measure=>have:=HK1.out;omega
        case rel=>exact ⟨(wrap64 (x5_1+1)),(sq),H',⟨by have:=HK1.out;omega⟩,Y2⟩
       ·rw [if_neg c7] at H
        have c7b0:((rd l0 x5_1) == (rd l1 x5_1))=false:=beq_eq_false_iff_ne.mpr c7
        have c7b1:((rd l0 x5_1) != (rd l1 x5_1))=true:=bne_iff_ne.mpr c7
        obtain rfl:=Option.some.inj H
        have p732:0≤(x5_1:Int):=ozD (uq)
        have q732:x5_1<(l0.length:Int):=ozD (uq)
        obtain ⟨ad732,e732,hx732_0⟩:=Kd.jrb HR0.out x5_1 p732 q732
        cases e732
        replace p732:=ezT p732
        replace q732:=ezT q732
        have p733:0≤(x5_1:Int):=ozD (uq)
        have q733:x5_1<(l1.length:Int):=ozD (uq)
        obtain ⟨ad733,e733,hx733_0⟩:=Kd.jrb HR1.out x5_1 p733 q733
        cases e733
        replace p733:=ezT p733
        replace q733:=ezT q733
        go_wp2
        repeat (go_quiet (fail);try go_wp2)
        go_ret
        exact ⟨sq,Y2⟩
      ·rw [if_neg c6] at H
       exact absurd H (by simp)
     ·rw [if_neg c5] at H
      exact absurd H (by simp)
    ·rw [if_neg c4] at H
     have c4b0:decide (x5_1<(l0.length:Int))=false:=dzF c4
     clear c4
     obtain rfl:=Option.some.inj H
     go_wp2
     repeat (go_quiet (fail);try go_wp2)
     go_ret
     exact ⟨sq,Y2⟩
 ·rw [if_neg c3] at H
  have c3b0:((l0.length:Int) == (l1.length:Int))=false:=beq_eq_false_iff_ne.mpr c3
  have c3b1:((l0.length:Int) != (l1.length:Int))=true:=bne_iff_ne.mpr c3
  have c3b2:(l0.length == l1.length)=false:=by first | simpa using c3 |(simp at c3 ⊢;omega)
  obtain rfl:=Option.some.inj H
  go_enter Try.func22,Try.ntmps22
  go_wp2
  repeat (go_quiet (fail);try go_wp2)
  go_ret
  exact ⟨sq,Y2⟩
def jra.l0 : Nat → List Int → Int → Int → Option (Int × List Int)
 | 0,_,_,_=>none
 | k+1,x0,x1,x5=>if x5<(x0.length:Int) then (if 0≤x5 then (jra.l0 k (x0.set (x5:Int).toNat x1) (wrap64 (x1+1)) (wrap64 (x5+1))) else (none)) else (some (x1,x0))
def jra.f (k : Nat) (l0 : List Int) (a1 : Int) : Option (Int × List Int) := jra.l0 k l0 a1 0
set_option maxHeartbeats 8000000 in
set_option maxRecDepth 100000 in
theorem jra.calls (k : Nat) (P0_ : Nat → Prop) (u9000_ : Value) (l0 : List Int) (a1 : Int) (r1 : Int) (r2 : List Int) (w0 w : World) (hB : Below w0.heap.size w0 w) (ho0 : Kd.R (Kd.int .i64) 3 w w0.heap.size P0_ u9000_ l0) (h : jra.f k l0 a1 = some (r1, r2)) :
  Calls Try.prog 23 #[u9000_, .int .i64 a1] w fun e w'=>e=.returned (.int .i64 r1)∧Kd.R (Kd.int .i64) 3 w' w0.heap.size (fun k_=>(P0_ k_∨w.heap.size≤k_)) u9000_ r2∧Below w0.heap.size w0 w'∧Kept w w' (fun k_=>P0_ k_):=by
 have HO0:=am (show Kd.R (Kd.int .i64) 3 w w0.heap.size (fun k_=>(P0_ k_∨w.heap.size≤k_)) u9000_ l0 from Kd.jia ho0 (fun k_ hk=>(.inl hk)))
 have HK:=am (Kept.refl w (fun k_=>P0_ k_))
 have HW0:=am hB.size
 have HB:=am hB
 clear hB
 have H:(jra.l0 k l0 a1 0)=some (r1,r2):=h
 clear h
 have H':=am H
 clear H
 go_enter Try.func23,Try.ntmps23
 go_wp2
 go_loopg [1,5] k (fun kq v1 v5 w'=>∃ (x0_1:List Int) (x1_1:Int) (x5_1:Int),v1=.int .i64 x1_1∧v5=.int .i64 x5_1∧jy (jra.l0 kq x0_1 x1_1 x5_1=some (r1,r2))∧jy (kq≤k)∧jy (Kd.R (Kd.int .i64) 3 w' w0.heap.size (fun k_=>(P0_ k_∨w.heap.size≤k_)) u9000_ x0_1)∧jy (Kept w w' (fun k_=>P0_ k_))∧jy (Below w0.heap.size w0 w'))
 case atStart=>exact ⟨(l0),(a1),(0),(sq),(sq),H',⟨Nat.le_refl _⟩,⟨rq HO0.out⟩,⟨Y6⟩,⟨bq⟩⟩
 case round =>
  clear H'
  try clear c2
  try clear p2
  obtain ⟨x0_1,x1_1,x5_1,rfl,rfl,HA,HK1,HO_0,HK,HB⟩:=hrel
  cases gk with
  | zero=>exact absurd HA.out (by simp [jra.l0])
  | succ k1 =>
   have H:=HA.out
   clear HA
   simp only [jra.l0] at H
   by_cases c3:x5_1<(x0_1.length:Int)
   ·rw [if_pos c3] at H
    have c3b0:decide (x5_1<(x0_1.length:Int))=true:=dzT c3
    clear c3
    by_cases c4:0≤x5_1
    ·rw [if_pos c4] at H
     have c4b0:decide (0≤x5_1)=true:=dzT c4
     clear c4
     obtain ⟨y734,hy734⟩:∃ y_:List Int,y_=(x0_1.set (x5_1:Int).toNat x1_1):=⟨_,rfl⟩
     replace H:(jra.l0 k1 y734 (wrap64 (x1_1+1)) (wrap64 (x5_1+1)))=some (r1,r2):=by first |(rw [hy734];with_reducible exact H) |(have H2_:=(Option.bind_some _ _).symm.trans H;rw [hy734];with_reducible exact H2_) |(have H2_:=(Option.bind_some _ _).symm.trans H;with_reducible exact H2_) | with_reducible exact H |(rw [hy734];exact H) | exact H
     have Ny734:=am hy734
     clear hy734
     have H':=am H
     clear H
     obtain ⟨Ao6,co6,eo6⟩:=Kd.jwa HO_0.out
     subst eo6
     have p5:0≤(x5_1:Int):=ozD (uq)
     have q5:(x5_1:Int)<((x0_1.length:Int):Int):=ozD (uq)
     obtain ⟨go5,co5,eo5,gb5,gl5,cl5,HG5⟩:=Kd.R_form HO_0.out (by omega)
     (first | cases eo5 |(injection eo5 with ea_ en_ ec_;(first | subst ea_ |(injection ea_ with ea_;subst ea_));subst ec_;clear en_))
     have GB5:=am gb5
     have GG5:=am HG5
     clear gb5 gl5 HG5
     have HMgo5:=am (show (P0_ go5∨w.heap.size≤go5) from (HO_0.out.1 _ rfl))
     obtain ⟨hx5_0,hf5_0⟩:=Kd.R_celln 0 HO_0.out (x5_1:Int) p5 q5
     replace p5:=ezT p5
     replace q5:=ezT q5
     have HP7:=Kd.R_putg HO_0.out (x5_1:Int) x1_1
     go_wp2_with (first |((with_reducible refine jfb (t:=3) (p:=15) rfl ?_);refine jVa (t:=3) (p:=15) (v:=?vo_w8) (w1:=(wr.setCell ⟨go5,(x5_1:Int).toNat,none⟩ (.int .i64 x1_1))) ?hg ?ho ?hn ?hr ?_;(case ho=>rfl);(case hg=>rfl);(case hn=>rfl);(case hr=>exact Y3);intro w8 hw;have hg:wr.grownBy w8 (some go5):=(by rw [hw];exact HP7.2);have hp_:Kd.R (Kd.int .i64) 3 w8 w0.heap.size (fun k_=>(P0_ k_∨w.heap.size≤k_)) (.slice (some ⟨go5,0,none⟩) x0_1.length co6) y734:=(by rw [hw,Ny734.out];exact HP7.1);clear HP7;replace HB:=am ((by rw [hw];exact jh (HB.out) GB5.out:Below w0.heap.size w0 w8));replace HK:=am (Kept.jFb (S:=(fun k_=>P0_ k_)) hg (Y6) (fun k_ e_=>(HO_0.out.1 k_ e_)));replace HO_0:=am (hp_);clear hg hw hp_))
     go_roundg k1
     case measure=>have:=HK1.out;omega
     case rel=>exact ⟨(y734),(wrap64 (x1_1+1)),(wrap64 (x5_1+1)),(sq),(sq),H',⟨by have:=HK1.out;omega⟩,⟨rq HO_0.out⟩,⟨Y6⟩,⟨bq⟩⟩
    ·rw [if_neg c4] at H
     exact absurd H (by simp)
   ·rw [if_neg c3] at H
    have c3b0:decide (x5_1<(x0_1.length:Int))=false:=dzF c3
    clear c3
    simp only [Option.some.injEq,Prod.mk.injEq] at H
    obtain ⟨rfl,rfl⟩:=H
    obtain ⟨Ao9,co9,eo9⟩:=Kd.jwa HO_0.out
    subst eo9
    go_wp2
    go_ret
    exact ⟨Y1,rq HO_0.out,bq,Y6⟩
def jV.l0 : Nat → List Int → Int → Int → Option (Int)
 | 0,_,_,_=>none
 | k+1,x0,x1,x5=>if x5<(x0.length:Int) then (if 0≤x5 then (if (rd x0 x5)=x1 then (jV.l0 k x0 (wrap64 (x1+1)) (wrap64 (x5+1))) else (some (-1))) else (none)) else (some x1)
def jV.f (k : Nat) (l0 : List Int) (a1 : Int) : Option (Int) := jV.l0 k l0 a1 0
set_option maxHeartbeats 8000000 in
set_option maxRecDepth 100000 in
theorem jV.calls (k : Nat) (A0 : Option Addr) (c0 : Nat) (l0 : List Int) (a1 : Int) (r : Int) (w : World) (hr0 : Kd.C (Kd.int .i64) w A0 l0.length l0) (hc0 : l0.length ≤ c0) (h : jV.f k l0 a1 = some r) :
  Calls Try.prog 24 #[.slice A0 l0.length c0, .int .i64 a1] w fun e w'=>e=.returned (.int .i64 r)∧jSa w w':=by
 have HR0:=am hr0
 have HC0:=am hc0
 clear hr0 hc0
 have H:(jV.l0 k l0 a1 0)=some r:=h
 clear h
 have H':=am H
 clear H
 go_enter Try.func24,Try.ntmps24
 go_wp2
 go_loopg [1,5] k (fun kq v1 v5 w'=>∃ (x1_1:Int) (x5_1:Int),v1=.int .i64 x1_1∧v5=.int .i64 x5_1∧jy (jV.l0 kq l0 x1_1 x5_1=some r)∧jy (kq≤k)∧jSa w w')
 case atStart=>exact ⟨(a1),(0),(sq),(sq),H',⟨Nat.le_refl _⟩,Y2⟩
 case round =>
  clear H'
  try clear c2
  try clear p2
  obtain ⟨x1_1,x5_1,rfl,rfl,HA,HK1,⟨m1,rfl⟩⟩:=hrel
  cases gk with
  | zero=>exact absurd HA.out (by simp [jV.l0])
  | succ k1 =>
   have H:=HA.out
   clear HA
   simp only [jV.l0] at H
   by_cases c3:x5_1<(l0.length:Int)
   ·rw [if_pos c3] at H
    have c3b0:decide (x5_1<(l0.length:Int))=true:=dzT c3
    clear c3
    by_cases c4:0≤x5_1
    ·rw [if_pos c4] at H
     have c4b0:decide (0≤x5_1)=true:=dzT c4
     clear c4
     by_cases c5:(rd l0 x5_1)=x1_1
     ·rw [if_pos c5] at H
      have c5b0:((rd l0 x5_1) == x1_1)=true:=beq_iff_eq.mpr c5
      have c5b1:((rd l0 x5_1) != x1_1)=false:=bne_eq_false_iff_eq.mpr c5
      clear c5
      have H':=am H
      clear H
      have p735:0≤(x5_1:Int):=ozD (uq)
      have q735:x5_1<(l0.length:Int):=ozD (uq)
      obtain ⟨ad735,e735,hx735_0⟩:=Kd.jrb HR0.out x5_1 p735 q735
      cases e735
      replace p735:=ezT p735
      replace q735:=ezT q735
      go_wp2
      go_roundg k1
      case measure=>have:=HK1.out;omega
      case rel=>exact ⟨(wrap64 (x1_1+1)),(wrap64 (x5_1+1)),(sq),(sq),H',⟨by have:=HK1.out;omega⟩,Y2⟩
     ·rw [if_neg c5] at H
      have c5b0:((rd l0 x5_1) == x1_1)=false:=beq_eq_false_iff_ne.mpr c5
      have c5b1:((rd l0 x5_1) != x1_1)=true:=bne_iff_ne.mpr c5
      obtain rfl:=Option.some.inj H
      have p735:0≤(x5_1:Int):=ozD (uq)
      have q735:x5_1<(l0.length:Int):=ozD (uq)
      obtain ⟨ad735,e735,hx735_0⟩:=Kd.jrb HR0.out x5_1 p735 q735
      cases e735
      replace p735:=ezT p735
      replace q735:=ezT q735
      go_wp2
      go_ret
      exact ⟨sq,Y2⟩
    ·rw [if_neg c4] at H
     exact absurd H (by simp)
   ·rw [if_neg c3] at H
    have c3b0:decide (x5_1<(l0.length:Int))=false:=dzF c3
    clear c3
    obtain rfl:=Option.some.inj H
    go_wp2
    go_ret
    exact ⟨sq,Y2⟩
end Go.Proofs.Ytecdfgejmbpclaa.P
end
