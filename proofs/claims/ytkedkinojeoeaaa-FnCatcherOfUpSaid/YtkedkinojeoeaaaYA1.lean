/- One part of the proofs on this program: functions of the program as plain functions, that the code comes to them, and facts on them. -/
import Derived.Test.YtkedkinojeoeaaaYAll1
import Derived.Test.YtkedkinojeoeaaaYAll4
import Derived.Test.YtkedkinojeoeaaaYAll6
import Derived.Test.YtkedkinojeoeaaaYAll7
import Derived.Test.YtkedkinojeoeaaaYAll8
import Derived.Test.YtkedkinojeoeaaaYAll9
import Derived.Test.YtkedkinojeoeaaaYWAuto
section
namespace Go.Proofs.Ytkedkinojeoeaaa.P
open Go.RowKit Go.Proofs.YtkedkinojeoeaaaW.PrintWords Go.Proofs.YtkedkinojeoeaaaW.PrintLast Go.Proofs.YtkedkinojeoeaaaW.PrintMore
attribute [local go_sem] jqa joa jCa jBa jaa jZ jpa jna jk
set_option linter.unusedVariables false
set_option linter.unusedSimpArgs false
def jKb.l0 : Nat → List Int → Int → Int → Option (Bool)
 | 0,_,_,_=>none
 | k+1,x0,x1,x5=>if x5<(x0.length:Int) then (if 0≤x5 then (if (rd x0 x5)=x1 then (some true) else (jKb.l0 k x0 x1 (wrap64 (x5+1)))) else (none)) else (some false)
def jKb.f (k : Nat) (l0 : List Int) (a1 : Int) : Option (Bool) := jKb.l0 k l0 a1 0
set_option maxHeartbeats 8000000 in
set_option maxRecDepth 100000 in
theorem jKb.calls (k : Nat) (A0 : Option Addr) (c0 : Nat) (l0 : List Int) (a1 : Int) (r : Bool) (w : World) (hr0 : Kd.C (Kd.int .i64) w A0 l0.length l0) (hc0 : l0.length ≤ c0) (h : jKb.f k l0 a1 = some r) :
  Calls Try.prog 24 #[.slice A0 l0.length c0, .int .i64 a1] w fun e w'=>e=.returned (.bool r)∧jwb w w':=by
 have HR0:=am hr0
 have HC0:=am hc0
 clear hr0 hc0
 have H:(jKb.l0 k l0 a1 0)=some r:=h
 clear h
 have H':=am H
 clear H
 go_enter Try.func24,Try.ntmps24
 go_wp2
 go_loopg [5] k (fun kq v5 w'=>∃ (x5_1:Int),v5=.int .i64 x5_1∧jo (jKb.l0 kq l0 a1 x5_1=some r)∧jo (kq≤k)∧jwb w w')
 case atStart=>exact ⟨(0),(sq),H',⟨Nat.le_refl _⟩,Y4⟩
 case round =>
  clear H'
  try clear c2
  try clear p2
  obtain ⟨x5_1,rfl,HA,HK1,⟨m1,rfl⟩⟩:=hrel
  cases gk with
  | zero=>exact absurd HA.out (by simp [jKb.l0])
  | succ k1 =>
   have H:=HA.out
   clear HA
   simp only [jKb.l0] at H
   by_cases c3:x5_1<(l0.length:Int)
   ·rw [if_pos c3] at H
    have c3b0:decide (x5_1<(l0.length:Int))=true:=dzT c3
    clear c3
    by_cases c4:0≤x5_1
    ·rw [if_pos c4] at H
     have c4b0:decide (0≤x5_1)=true:=dzT c4
     clear c4
     by_cases c5:(rd l0 x5_1)=a1
     ·rw [if_pos c5] at H
      have c5b0:((rd l0 x5_1) == a1)=true:=beq_iff_eq.mpr c5
      have c5b1:((rd l0 x5_1) != a1)=false:=bne_eq_false_iff_eq.mpr c5
      clear c5
      obtain rfl:=Option.some.inj H
      have p880:0≤(x5_1:Int):=ozD (uq)
      have q880:x5_1<(l0.length:Int):=ozD (uq)
      obtain ⟨ad880,e880,hx880_0⟩:=Kd.jXa HR0.out x5_1 p880 q880
      cases e880
      replace p880:=ezT p880
      replace q880:=ezT q880
      go_wp2
      go_ret
      exact ⟨sq,Y4⟩
     ·rw [if_neg c5] at H
      have c5b0:((rd l0 x5_1) == a1)=false:=beq_eq_false_iff_ne.mpr c5
      have c5b1:((rd l0 x5_1) != a1)=true:=bne_iff_ne.mpr c5
      have H':=am H
      clear H
      have p880:0≤(x5_1:Int):=ozD (uq)
      have q880:x5_1<(l0.length:Int):=ozD (uq)
      obtain ⟨ad880,e880,hx880_0⟩:=Kd.jXa HR0.out x5_1 p880 q880
      cases e880
      replace p880:=ezT p880
      replace q880:=ezT q880
      go_wp2
      go_roundg k1
      case measure=>have:=HK1.out;omega
      case rel=>exact ⟨(wrap64 (x5_1+1)),(sq),H',⟨by have:=HK1.out;omega⟩,Y4⟩
    ·rw [if_neg c4] at H
     exact absurd H (by simp)
   ·rw [if_neg c3] at H
    have c3b0:decide (x5_1<(l0.length:Int))=false:=dzF c3
    clear c3
    obtain rfl:=Option.some.inj H
    go_wp2
    go_ret
    exact ⟨sq,Y4⟩
def jDc.f (k : Nat) (l0_0 : List (S75)) (l1 : List (S36)) (a2 : Int) : Option (List Int) := (jTa.f k l0_0 l1 a2).bind fun t882 => (if t882 = true then (if 0 ≤ a2 then (if a2 < (l1.length : Int) then ((jO.f ((je l1 a2).f1) 7 10).bind fun t884 => (if t884 = true then ((jLa.f k l1 a2).bind fun t885 => (some t885)) else (some ([] : List Int)))) else (none)) else (none)) else (some ([] : List Int)))
set_option maxHeartbeats 8000000 in
set_option maxRecDepth 100000 in
theorem jDc.calls (k : Nat) (A0_0 : Option Addr) (c0_0 : Nat) (l0_0 : List (S75)) (A1 : Option Addr) (c1 : Nat) (l1 : List (S36)) (a2 : Int) (r : List Int) (w : World) (hr0_0 : Kd.C k75 w A0_0 l0_0.length l0_0) (hc0_0 : l0_0.length ≤ c0_0) (hr1 : Kd.C k36 w A1 l1.length l1) (hc1 : l1.length ≤ c1) (h : jDc.f k l0_0 l1 a2 = some r) :
  Calls Try.prog 25 #[.agg #[.slice A0_0 l0_0.length c0_0], .slice A1 l1.length c1, .int .i64 a2] w fun e w'=>∃ v0_:Value,e=.returned (v0_)∧Kd.R (Kd.int .i64) 3 w' w.heap.size (fun _=>True) v0_ r∧Below w.heap.size w w':=by
 have hu25:=Try.underlying25
 have HR0_0:=am hr0_0
 have HC0_0:=am hc0_0
 clear hr0_0 hc0_0
 have HR1:=am hr1
 have HC1:=am hc1
 clear hr1 hc1
 have HB:=am (Below.refl w.heap.size w)
 have H:((jTa.f k l0_0 l1 a2).bind fun t882=>(if t882=true then (if 0≤a2 then (if a2<(l1.length:Int) then ((jO.f ((je l1 a2).f1) 7 10).bind fun t884=>(if t884=true then ((jLa.f k l1 a2).bind fun t885=>(some t885)) else (some ([]:List Int)))) else (none)) else (none)) else (some ([]:List Int))))=some r:=h
 clear h
 replace H:=bzS H
 obtain ⟨t882,A40,H⟩:=H
 replace H:(if t882=true then (if 0≤a2 then (if a2<(l1.length:Int) then ((jO.f ((je l1 a2).f1) 7 10).bind fun t884=>(if t884=true then ((jLa.f k l1 a2).bind fun t885=>(some t885)) else (some ([]:List Int)))) else (none)) else (none)) else (some ([]:List Int)))=some r:=H
 have A4:=am A40
 clear A40
 by_cases c5:t882=true
 ·subst c5
  have H1:(if 0≤a2 then (if a2<(l1.length:Int) then ((jO.f ((je l1 a2).f1) 7 10).bind fun t884=>(if t884=true then ((jLa.f k l1 a2).bind fun t885=>(some t885)) else (some ([]:List Int)))) else (none)) else (none))=some r:=by rw [if_pos rfl] at H;exact H
  clear H
  have H:=H1
  clear H1
  by_cases c6:0≤a2
  ·rw [if_pos c6] at H
   have c6b0:decide (0≤a2)=true:=dzT c6
   clear c6
   by_cases c7:a2<(l1.length:Int)
   ·rw [if_pos c7] at H
    have c7b0:decide (a2<(l1.length:Int))=true:=dzT c7
    clear c7
    replace H:=bzS H
    obtain ⟨t884,A80,H⟩:=H
    replace H:(if t884=true then ((jLa.f k l1 a2).bind fun t885=>(some t885)) else (some ([]:List Int)))=some r:=H
    have A8:=am A80
    clear A80
    by_cases c9:t884=true
    ·subst c9
     have H1:((jLa.f k l1 a2).bind fun t885=>(some t885))=some r:=by rw [if_pos rfl] at H;exact H
     clear H
     have H:=H1
     clear H1
     replace H:=bzS H
     obtain ⟨t885,A100,H⟩:=H
     replace H:(some t885)=some r:=H
     have A10:=am A100
     clear A100
     obtain rfl:=Option.some.inj H
     go_enter Try.func25,Try.ntmps25
     go_wp2_with (first |((with_reducible refine jJ (N:=3) rfl ?_);refine bE (N:=3) (cs:=#[.slice A0_0 l0_0.length c0_0]) (t:=25) ?_;intro gb881 hg w11 hbox hb;have BK881:=am (hbox);have GW881:=am ((Y1:w.heap.size≤gb881));have GE881:=am ((Y1:w.heap.size≤gb881));replace HB:=am (jd (bq) hb);clear hb hbox hg;have hcz12_0:=bc0 BK881.out;have hfz12_0:=ja BK881.out 0) |((with_reducible refine jc (f:=31) rfl ?_);refine gL (some 10) Try.func31 #[.agg #[.slice A0_0 l0_0.length c0_0], .slice A1 l1.length c1, .int .i64 a2] ?_;(with_reducible refine (jTa.calls k _ _ l0_0 _ _ l1 a2 true _ ?side1 ?side2 ?side3 ?side4 A4.out).mono ?_);(case side1=>exact cq (Kd.jI HR0_0.out HB.out));(case side2=>exact HC0_0.out);(case side3=>exact cq (Kd.jI HR1.out HB.out));(case side4=>exact HC1.out);rintro e w13 ⟨rfl,hb⟩;refine ⟨_,rfl,?_⟩;replace BK881:=am (jh (g:=gb881) (o:=.cells #[.slice A0_0 l0_0.length c0_0] 25 (0,0)) (kq BK881.out) hb);replace HB:=am (jd (Y67) hb);(try clear hb);(try clear hb2);(try clear hk);(try clear hi);have p883:0≤(a2:Int):=ozD (uq);have q883:a2<(l1.length:Int):=ozD (uq);obtain ⟨ad883,e883,hx883_0,hx883_1,hx883_2,hx883_3⟩:=jsa HR1.out a2 p883 q883;cases e883;replace hx883_0:=cb HB.out hx883_0;replace hx883_1:=cb HB.out hx883_1;replace hx883_2:=cb HB.out hx883_2;replace hx883_3:=cb HB.out hx883_3;replace p883:=ezT p883;replace q883:=ezT q883) |(go_at_call 38;(with_reducible refine (jO.calls ((je l1 a2).f1) 7 10 true _ A8.out).mono ?_);rintro e w' ⟨rfl,⟨nd,rfl⟩⟩) |((with_reducible refine jc (f:=56) rfl ?_);refine gL (some 23) Try.func56 #[.slice (some ad883) l1.length c1, .int .i64 a2] ?_;(with_reducible refine (jLa.calls k _ _ l1 a2 t885 _ ?side1 ?side2 A10.out).mono ?_);(case side1=>repeat (first | exact (Kd.jI HR1.out (by repeat (first |(with_reducible first | exact HB.out | apply jM | apply jq | apply jD | refine jL ?_ GE881.out) | exact HB.out))) |(with_reducible refine Kd.jlc ?_ _) |(with_reducible refine Kd.jic ?_ _) |(with_reducible refine Kd.jIc ?_)));(case side2=>exact HC1.out);rintro e w14 ⟨v886,rfl,ho0,hb⟩;refine ⟨_,rfl,?_⟩;have HO887:=am (Kd.jW ho0 (jP (Y67)));replace BK881:=am (jh (g:=gb881) (o:=.cells #[.slice A0_0 l0_0.length c0_0] 25 (0,0)) (kq BK881.out) hb);replace HB:=am (jd (Y67) hb);(try clear hb);(try clear hb2);(try clear hk);(try clear hi);(try clear ho0)))
     go_ret
     exact ⟨_,Y0,rq HO887.out,Y67⟩
    ·replace c9:=Bool.eq_false_iff.mpr c9
     subst c9
     have H1:(some ([]:List Int))=some r:=by rw [if_neg (show ¬ (false=true) by decide)] at H;exact H
     clear H
     have H:=H1
     clear H1
     obtain rfl:=Option.some.inj H
     go_enter Try.func25,Try.ntmps25
     go_wp2_with (first |((with_reducible refine jJ (N:=3) rfl ?_);refine bE (N:=3) (cs:=#[.slice A0_0 l0_0.length c0_0]) (t:=25) ?_;intro gb881 hg w15 hbox hb;have BK881:=am (hbox);have GW881:=am ((Y1:w.heap.size≤gb881));have GE881:=am ((Y1:w.heap.size≤gb881));replace HB:=am (jd (bq) hb);clear hb hbox hg;have hcz16_0:=bc0 BK881.out;have hfz16_0:=ja BK881.out 0) |((with_reducible refine jc (f:=31) rfl ?_);refine gL (some 10) Try.func31 #[.agg #[.slice A0_0 l0_0.length c0_0], .slice A1 l1.length c1, .int .i64 a2] ?_;(with_reducible refine (jTa.calls k _ _ l0_0 _ _ l1 a2 true _ ?side1 ?side2 ?side3 ?side4 A4.out).mono ?_);(case side1=>exact cq (Kd.jI HR0_0.out HB.out));(case side2=>exact HC0_0.out);(case side3=>exact cq (Kd.jI HR1.out HB.out));(case side4=>exact HC1.out);rintro e w17 ⟨rfl,hb⟩;refine ⟨_,rfl,?_⟩;replace BK881:=am (jh (g:=gb881) (o:=.cells #[.slice A0_0 l0_0.length c0_0] 25 (0,0)) (kq BK881.out) hb);replace HB:=am (jd (Y67) hb);(try clear hb);(try clear hb2);(try clear hk);(try clear hi);have p883:0≤(a2:Int):=ozD (uq);have q883:a2<(l1.length:Int):=ozD (uq);obtain ⟨ad883,e883,hx883_0,hx883_1,hx883_2,hx883_3⟩:=jsa HR1.out a2 p883 q883;cases e883;replace hx883_0:=cb HB.out hx883_0;replace hx883_1:=cb HB.out hx883_1;replace hx883_2:=cb HB.out hx883_2;replace hx883_3:=cb HB.out hx883_3;replace p883:=ezT p883;replace q883:=ezT q883) |(go_at_call 38;(with_reducible refine (jO.calls ((je l1 a2).f1) 7 10 false _ A8.out).mono ?_);rintro e w' ⟨rfl,⟨nd,rfl⟩⟩))
     go_ret
     exact ⟨_,Y0,Y57,Y67⟩
   ·rw [if_neg c7] at H
    exact absurd H (by simp)
  ·rw [if_neg c6] at H
   exact absurd H (by simp)
 ·replace c5:=Bool.eq_false_iff.mpr c5
  subst c5
  have H1:(some ([]:List Int))=some r:=by rw [if_neg (show ¬ (false=true) by decide)] at H;exact H
  clear H
  have H:=H1
  clear H1
  obtain rfl:=Option.some.inj H
  go_enter Try.func25,Try.ntmps25
  go_wp2_with (first |((with_reducible refine jJ (N:=3) rfl ?_);refine bE (N:=3) (cs:=#[.slice A0_0 l0_0.length c0_0]) (t:=25) ?_;intro gb881 hg w18 hbox hb;have BK881:=am (hbox);have GW881:=am ((Y1:w.heap.size≤gb881));have GE881:=am ((Y1:w.heap.size≤gb881));replace HB:=am (jd (bq) hb);clear hb hbox hg;have hcz19_0:=bc0 BK881.out;have hfz19_0:=ja BK881.out 0) |((with_reducible refine jc (f:=31) rfl ?_);refine gL (some 10) Try.func31 #[.agg #[.slice A0_0 l0_0.length c0_0], .slice A1 l1.length c1, .int .i64 a2] ?_;(with_reducible refine (jTa.calls k _ _ l0_0 _ _ l1 a2 false _ ?side1 ?side2 ?side3 ?side4 A4.out).mono ?_);(case side1=>exact cq (Kd.jI HR0_0.out HB.out));(case side2=>exact HC0_0.out);(case side3=>exact cq (Kd.jI HR1.out HB.out));(case side4=>exact HC1.out);rintro e w20 ⟨rfl,hb⟩;refine ⟨_,rfl,?_⟩;replace BK881:=am (jh (g:=gb881) (o:=.cells #[.slice A0_0 l0_0.length c0_0] 25 (0,0)) (kq BK881.out) hb);replace HB:=am (jd (Y67) hb);(try clear hb);(try clear hb2);(try clear hk);(try clear hi)))
  go_ret
  exact ⟨_,Y0,Y57,Y67⟩
def ji.j0 : Nat → List (S36) → Int → Int → Int → Bool → List (S75) → Option (Bool)
 | 0,_,_,_,_,_,_=>none
 | k+1,x4,x5,x6,x7,x53,x897000=>if x53=true then ((jY.f k x897000 x4 x5 x6).bind fun t901=>(some (x7 == t901))) else ((jBb.f k x897000 x4 x5).bind fun t902=>(if (t902.length:Int)=0 then (some (x7 == (-1))) else (if 0<(t902.length:Int) then ((jGa.f k x897000 x4 (rd t902 0) x6).bind fun t906=>(if x7=t906 then (some true) else (if x7=(rd t902 0) then (some true) else ((jDc.f k x897000 x4 (rd t902 0)).bind fun t909=>((jKb.f k t909 x7).bind fun t912=>(some t912)))))) else (none))))
def ji.f (k : Nat) (l0 : List Int) : Option (Bool) := if (l0.length : Int) > 1048576 then (some true) else ((jza.f k l0).bind fun bt888 => ((jGa.f k bt888.1 bt888.2.1 bt888.2.2.1 bt888.2.2.2).bind fun t897 => ((jY.f k bt888.1 bt888.2.1 bt888.2.2.1 bt888.2.2.2).bind fun t898 => (if t897 = t898 then ((jw.f k bt888.1 bt888.2.1).bind fun t899 => (if t899 = true then (if bt888.2.2.1 < 0 then (ji.j0 k bt888.2.1 bt888.2.2.1 bt888.2.2.2 t897 true bt888.1) else (if bt888.2.2.1 ≥ (bt888.2.1.length : Int) then (ji.j0 k bt888.2.1 bt888.2.2.1 bt888.2.2.2 t897 true bt888.1) else ((jOb.f bt888.1 bt888.2.2.2).bind fun t900 => (ji.j0 k bt888.2.1 bt888.2.2.1 bt888.2.2.2 t897 (!t900) bt888.1)))) else (ji.j0 k bt888.2.1 bt888.2.2.1 bt888.2.2.2 t897 true bt888.1))) else (ji.j0 k bt888.2.1 bt888.2.2.1 bt888.2.2.2 t897 true bt888.1)))))
def ji.T10 : Bool × List (List Nat × List Nat) := (true, [([], []), ([], []), ([], []), ([2], [2]), ([3], [3]), ([], []), ([0, 1, 4, 5], [0, 1, 4, 5]), ([6, 6, 0, 1, 2, 3, 4, 5, 6], [6])])
def ji.B10 : List Nat := [0, 0, 0, 4, 12, 0, 63, 127]
theorem ji.tab10 : rtab .any (opsOf Try.f6 10) = ji.T10 := by kernel_rfl
theorem ji.bits10 : juc ji.T10.2 ji.B10 = true := by kernel_rfl
def ji.T11 : Bool × List (List Nat × List Nat) := (true, [([], []), ([], []), ([0, 1], [0, 1]), ([2], [2]), ([3], [3]), ([3], [3]), ([5, 3], [3, 5]), ([6, 3], [3, 6]), ([4, 7, 3], [3, 4, 7]), ([3, 8], [3, 8]), ([9, 3], [9]), ([10], [10]), ([10], [10]), ([10], [10]), ([13, 10], [10, 13]), ([14, 10], [10, 14]), ([11, 12, 15, 10, 10], [10, 11, 12, 15]), ([10], [10]), ([16, 17, 16, 10], [10, 16, 17]), ([10, 18], [10, 18]), ([19, 18, 0, 1, 2, 3, 4, 5, 6, 7, 8, 9, 10, 11, 12, 13, 14, 15, 16, 17, 18, 19], [19])])
def ji.B11 : List Nat := [0, 0, 3, 7, 15, 15, 47, 111, 255, 511, 1023, 2047, 2047, 2047, 10239, 26623, 65535, 2047, 262143, 524287, 1048575]
theorem ji.tab11 : rtab .any (opsOf Try.f6 11) = ji.T11 := by kernel_rfl
theorem ji.bits11 : juc ji.T11.2 ji.B11 = true := by kernel_rfl
set_option maxHeartbeats 8000000 in
set_option maxRecDepth 100000 in
theorem ji.calls (k : Nat) (A0 : Option Addr) (c0 : Nat) (l0 : List Int) (r : Bool) (w : World) (hr0 : Kd.C (Kd.int .u8) w A0 l0.length l0) (hc0 : l0.length ≤ c0) (hT : r = true) (h : ji.f k l0 = some r) :
  Calls Try.prog 6 #[.slice A0 l0.length c0] w fun e w'=>e=.returned (.bool r)∧Below w.heap.size w w':=by
 have hu25:=Try.underlying25
 have HR0:=am hr0
 have HC0:=am hc0
 clear hr0 hc0
 have HB:=am (Below.refl w.heap.size w)
 have H:(if (l0.length:Int) > 1048576 then (some true) else ((jza.f k l0).bind fun bt888=>((jGa.f k bt888.1 bt888.2.1 bt888.2.2.1 bt888.2.2.2).bind fun t897=>((jY.f k bt888.1 bt888.2.1 bt888.2.2.1 bt888.2.2.2).bind fun t898=>(if t897=t898 then ((jw.f k bt888.1 bt888.2.1).bind fun t899=>(if t899=true then (if bt888.2.2.1<0 then (ji.j0 k bt888.2.1 bt888.2.2.1 bt888.2.2.2 t897 true bt888.1) else (if bt888.2.2.1≥(bt888.2.1.length:Int) then (ji.j0 k bt888.2.1 bt888.2.2.1 bt888.2.2.2 t897 true bt888.1) else ((jOb.f bt888.1 bt888.2.2.2).bind fun t900=>(ji.j0 k bt888.2.1 bt888.2.2.1 bt888.2.2.2 t897 (!t900) bt888.1)))) else (ji.j0 k bt888.2.1 bt888.2.2.1 bt888.2.2.2 t897 true bt888.1))) else (ji.j0 k bt888.2.1 bt888.2.2.1 bt888.2.2.2 t897 true bt888.1))))))=some r:=h
 clear h
 by_cases c2:(l0.length:Int) > 1048576
 ·rw [if_pos c2] at H
  have c2b0:decide (1048576<(l0.length:Int))=true:=dzT c2
  have c2b1:decide (1048576<l0.length)=true:=dzT (by omega)
  clear c2
  obtain rfl:=Option.some.inj H
  go_enter Try.func6,Try.ntmps6
  go_wp2
  go_ret
  exact ⟨Y0,bq⟩
 ·rw [if_neg c2] at H
  have c2b0:decide (1048576<(l0.length:Int))=false:=dzF c2
  have c2b1:decide (1048576<l0.length)=false:=dzF (by omega)
  clear c2
  replace H:=bzS H
  obtain ⟨⟨t888,t891,t894,t895⟩,A30,H⟩:=H
  replace H:((jGa.f k t888 t891 t894 t895).bind fun t897=>((jY.f k t888 t891 t894 t895).bind fun t898=>(if t897=t898 then ((jw.f k t888 t891).bind fun t899=>(if t899=true then (if t894<0 then (ji.j0 k t891 t894 t895 t897 true t888) else (if t894≥(t891.length:Int) then (ji.j0 k t891 t894 t895 t897 true t888) else ((jOb.f t888 t895).bind fun t900=>(ji.j0 k t891 t894 t895 t897 (!t900) t888)))) else (ji.j0 k t891 t894 t895 t897 true t888))) else (ji.j0 k t891 t894 t895 t897 true t888))))=some r:=H
  have A3:=am A30
  clear A30
  replace H:=bzS H
  obtain ⟨t897,A40,H⟩:=H
  replace H:((jY.f k t888 t891 t894 t895).bind fun t898=>(if t897=t898 then ((jw.f k t888 t891).bind fun t899=>(if t899=true then (if t894<0 then (ji.j0 k t891 t894 t895 t897 true t888) else (if t894≥(t891.length:Int) then (ji.j0 k t891 t894 t895 t897 true t888) else ((jOb.f t888 t895).bind fun t900=>(ji.j0 k t891 t894 t895 t897 (!t900) t888)))) else (ji.j0 k t891 t894 t895 t897 true t888))) else (ji.j0 k t891 t894 t895 t897 true t888)))=some r:=H
  have A4:=am A40
  clear A40
  have HC5:=am H
  clear H
  go_enter Try.func6,Try.ntmps6
  go_upto_region 5 with (first |((with_reducible refine jc (f:=18) rfl ?_);refine gL (some 15) Try.func18 #[.slice A0 l0.length c0] ?_;(with_reducible refine (jza.calls k _ _ l0 t888 t891 t894 t895 _ ?side1 ?side2 A3.out).mono ?_);(case side1=>exact Y35);(case side2=>exact HC0.out);rintro e w6 ⟨v889,v892,rfl,ho0,ho1,hb⟩;refine ⟨_,rfl,?_⟩;have HO890:=am (Kd.jW ho0 (jP (bq)));have HO893:=am (Kd.Q_lower ho1 (jP (bq)));replace HB:=am (jd (bq) hb);(try clear hb);(try clear hb2);(try clear hk);(try clear hi);(try clear ho0);(try clear ho1)) |((with_reducible refine jJ (N:=3) rfl ?_);(try (refine jEc (by rfl) ?_;dsimp only));refine jHc ?hg (N:=3) ?hd (cs:=#[.slice none 0 0]) (t:=25) ?hr ?_;(case hd=>rfl);(case hg=>rfl);(case hr=>exact Y6);intro gb896 hg w7 hbox hb;have BK896:=am (hbox);have GW896:=am ((Y1:w.heap.size≤gb896));have GE896:=am ((Y1:w.heap.size≤gb896));replace HO890:=am (Kd.jU (rq HO890.out) hb);replace HO893:=am (Kd.jab (Y47) hb);replace HB:=am (jd (bq) hb);clear hb hbox hg;obtain ⟨Ao8,co8,eo8⟩:=Kd.jba HO890.out;subst eo8;have hcz9_0:=bc0 BK896.out;have hfz9_0:=ja BK896.out 0;obtain ⟨Ao10,co10,eo10,_⟩:=Kd.Q_slice HO893.out;subst eo10) |((with_reducible refine jc (f:=19) rfl ?_);refine gL (some 24) Try.func19 #[.agg #[.slice Ao8 t888.length co8], .slice Ao10 t891.length co10, .int .i64 t894, .int .i64 t895] ?_;(with_reducible refine (jGa.calls k _ _ t888 _ _ t891 t894 t895 t897 _ ?side1 ?side2 ?side3 ?side4 A4.out).mono ?_);(case side1=>refine (Kd.jm (e:=75) (base:=w.heap.size) (ok:=fun k_=>True) (n:=t888.length) (c:=co8) ?_).2.2;exact (Y141));(case side2=>exact (Kd.jm HO890.out).2.1);(case side3=>refine (Kd.jra (e:=36) (base:=w.heap.size) (ok:=fun k_=>True) (n:=t891.length) (c:=co10) ?_).2.2;exact (Y142));(case side4=>exact (Kd.jra HO893.out).2.1);rintro e w11 ⟨rfl,hb⟩;refine ⟨_,rfl,?_⟩;replace HO890:=am (Kd.jU (Y141) hb);replace HO893:=am (Kd.jab (Y142) hb);replace BK896:=am (jh (g:=gb896) (o:=.cells #[.slice Ao8 t888.length co8] 25 (0,0)) (by (with_reducible repeat (first | refine jy ?_ _ | refine jA ?_ | refine jC ?_ _));refine jjb (cs:=#[.slice none 0 0]) ?_ 0 _ rfl;(with_reducible repeat (first | refine jy ?_ _ | refine jA ?_ | refine jC ?_ _));exact BK896.out) hb);replace HB:=am (jd (Y12) hb);(try clear hb);(try clear hb2);(try clear hk);(try clear hi)))
  (try simp only [Act.put,List.setIfInBounds_toArray,List.set_cons_zero,List.set_cons_succ])
  go_cut [53] (fun v53 wc=>∃ (kq:Nat) (x53_4:Bool),v53=.bool x53_4∧jo (ji.j0 kq t891 t894 t895 t897 x53_4 t888=some r)∧jo (kq≤k)∧jo (Kd.Q k36 36 wc w.heap.size (fun _=>True) (.slice Ao10 t891.length co10) t891)∧jo (Kd.R k75 75 wc w.heap.size (fun _=>True) (.slice Ao8 t888.length co8) t888)∧jo (wc.heap[gb896]?=some (.cells #[(.slice Ao8 t888.length co8)] 25 (0,0)))∧jo (Below w.heap.size w wc))
  case first =>
   have H:=HC5.out
   clear HC5
   replace H:=bzS H
   obtain ⟨t898,A120,H⟩:=H
   replace H:(if t897=t898 then ((jw.f k t888 t891).bind fun t899=>(if t899=true then (if t894<0 then (ji.j0 k t891 t894 t895 t897 true t888) else (if t894≥(t891.length:Int) then (ji.j0 k t891 t894 t895 t897 true t888) else ((jOb.f t888 t895).bind fun t900=>(ji.j0 k t891 t894 t895 t897 (!t900) t888)))) else (ji.j0 k t891 t894 t895 t897 true t888))) else (ji.j0 k t891 t894 t895 t897 true t888))=some r:=H
   have A12:=am A120
   clear A120
   by_cases c13:t897=t898
   ·rw [if_pos c13] at H
    have c13b0:(t897 == t898)=true:=beq_iff_eq.mpr c13
    have c13b1:(t897 != t898)=false:=bne_eq_false_iff_eq.mpr c13
    clear c13
    (first | rw [c13b0] |(simp only [jkb,job];rw [c13b0]) | skip)
    replace H:=bzS H
    obtain ⟨t899,A140,H⟩:=H
    replace H:(if t899=true then (if t894<0 then (ji.j0 k t891 t894 t895 t897 true t888) else (if t894≥(t891.length:Int) then (ji.j0 k t891 t894 t895 t897 true t888) else ((jOb.f t888 t895).bind fun t900=>(ji.j0 k t891 t894 t895 t897 (!t900) t888)))) else (ji.j0 k t891 t894 t895 t897 true t888))=some r:=H
    have A14:=am A140
    clear A140
    by_cases c15:t899=true
    ·subst c15
     have H1:(if t894<0 then (ji.j0 k t891 t894 t895 t897 true t888) else (if t894≥(t891.length:Int) then (ji.j0 k t891 t894 t895 t897 true t888) else ((jOb.f t888 t895).bind fun t900=>(ji.j0 k t891 t894 t895 t897 (!t900) t888))))=some r:=by rw [if_pos rfl] at H;exact H
     clear H
     have H:=H1
     clear H1
     by_cases c16:t894<0
     ·rw [if_pos c16] at H
      have c16b0:decide (t894<0)=true:=dzT c16
      clear c16
      have H':=am H
      clear H
      have hcz17_0:=bc0 BK896.out
      have hfz17_0:=ja BK896.out 0
      go_wp2_with (first |((with_reducible refine jc (f:=20) rfl ?_);refine gL (some 30) Try.func20 #[.agg #[.slice Ao8 t888.length co8], .slice Ao10 t891.length co10, .int .i64 t894, .int .i64 t895] ?_;(with_reducible refine (jY.calls k _ _ t888 _ _ t891 t894 t895 t898 _ ?side1 ?side2 ?side3 ?side4 A12.out).mono ?_);(case side1=>exact cq (Kd.jm HO890.out).2.2);(case side2=>exact (Kd.jm HO890.out).2.1);(case side3=>exact cq (Kd.jra HO893.out).2.2);(case side4=>exact (Kd.jra HO893.out).2.1);rintro e w18 ⟨rfl,hb⟩;refine ⟨_,rfl,?_⟩;replace HO890:=am (Kd.jU (rq HO890.out) hb);replace HO893:=am (Kd.jab (Y47) hb);replace BK896:=am (jh (g:=gb896) (o:=.cells #[.slice Ao8 t888.length co8] 25 (0,0)) (kq BK896.out) hb);replace HB:=am (jd (Y12) hb);(try clear hb);(try clear hb2);(try clear hk);(try clear hi);have hcz19_0:=bc0 BK896.out;have hfz19_0:=ja BK896.out 0) |(go_at_call 12;(with_reducible refine (jw.calls k _ _ t888 _ _ t891 true _ ?side1 ?side2 ?side3 ?side4 A14.out).mono ?_);(case side1=>exact cq (Kd.jm HO890.out).2.2);(case side2=>exact (Kd.jm HO890.out).2.1);(case side3=>exact cq (Kd.jra HO893.out).2.2);(case side4=>exact (Kd.jra HO893.out).2.1);rintro e w20 ⟨rfl,hb⟩;replace HO890:=am (Kd.jU (rq HO890.out) hb);replace HO893:=am (Kd.jab (Y47) hb);replace BK896:=am (jh (g:=gb896) (o:=.cells #[.slice Ao8 t888.length co8] 25 (0,0)) (kq BK896.out) hb);replace HB:=am (jd (Y12) hb);(try clear hb);(try clear hb2);(try clear hk);(try clear hi)))
      go_meet
      case rel=>exact ⟨_,(true),(sq),H',⟨Y20⟩,⟨by (with_reducible repeat (first | apply Kd.jWb | apply Kd.jUb | apply Kd.jVb));exact HO893.out⟩,⟨rq HO890.out⟩,⟨kq BK896.out⟩,⟨Y12⟩⟩
     ·rw [if_neg c16] at H
      have c16b0:decide (t894<0)=false:=dzF c16
      clear c16
      by_cases c21:t894≥(t891.length:Int)
      ·rw [if_pos c21] at H
       have c21b0:decide ((t891.length:Int)≤t894)=true:=dzT c21
       clear c21
       have H':=am H
       clear H
       have hcz22_0:=bc0 BK896.out
       have hfz22_0:=ja BK896.out 0
       go_wp2_with (first |((with_reducible refine jc (f:=20) rfl ?_);refine gL (some 30) Try.func20 #[.agg #[.slice Ao8 t888.length co8], .slice Ao10 t891.length co10, .int .i64 t894, .int .i64 t895] ?_;(with_reducible refine (jY.calls k _ _ t888 _ _ t891 t894 t895 t898 _ ?side1 ?side2 ?side3 ?side4 A12.out).mono ?_);(case side1=>exact cq (Kd.jm HO890.out).2.2);(case side2=>exact (Kd.jm HO890.out).2.1);(case side3=>exact cq (Kd.jra HO893.out).2.2);(case side4=>exact (Kd.jra HO893.out).2.1);rintro e w23 ⟨rfl,hb⟩;refine ⟨_,rfl,?_⟩;replace HO890:=am (Kd.jU (rq HO890.out) hb);replace HO893:=am (Kd.jab (Y47) hb);replace BK896:=am (jh (g:=gb896) (o:=.cells #[.slice Ao8 t888.length co8] 25 (0,0)) (kq BK896.out) hb);replace HB:=am (jd (Y12) hb);(try clear hb);(try clear hb2);(try clear hk);(try clear hi);have hcz24_0:=bc0 BK896.out;have hfz24_0:=ja BK896.out 0) |(go_at_call 12;(with_reducible refine (jw.calls k _ _ t888 _ _ t891 true _ ?side1 ?side2 ?side3 ?side4 A14.out).mono ?_);(case side1=>exact cq (Kd.jm HO890.out).2.2);(case side2=>exact (Kd.jm HO890.out).2.1);(case side3=>exact cq (Kd.jra HO893.out).2.2);(case side4=>exact (Kd.jra HO893.out).2.1);rintro e w25 ⟨rfl,hb⟩;replace HO890:=am (Kd.jU (rq HO890.out) hb);replace HO893:=am (Kd.jab (Y47) hb);replace BK896:=am (jh (g:=gb896) (o:=.cells #[.slice Ao8 t888.length co8] 25 (0,0)) (kq BK896.out) hb);replace HB:=am (jd (Y12) hb);(try clear hb);(try clear hb2);(try clear hk);(try clear hi)))
       go_meet
       case rel=>exact ⟨_,(true),(sq),H',⟨Y20⟩,⟨by (with_reducible repeat (first | apply Kd.jWb | apply Kd.jUb | apply Kd.jVb));exact HO893.out⟩,⟨rq HO890.out⟩,⟨kq BK896.out⟩,⟨Y12⟩⟩
      ·rw [if_neg c21] at H
       have c21b0:decide ((t891.length:Int)≤t894)=false:=dzF c21
       clear c21
       replace H:=bzS H
       obtain ⟨t900,A260,H⟩:=H
       replace H:(ji.j0 k t891 t894 t895 t897 (!t900) t888)=some r:=H
       have A26:=am A260
       clear A260
       have H':=am H
       clear H
       have hcz27_0:=bc0 BK896.out
       have hfz27_0:=ja BK896.out 0
       go_wp2_with (first |((with_reducible refine jc (f:=20) rfl ?_);refine gL (some 30) Try.func20 #[.agg #[.slice Ao8 t888.length co8], .slice Ao10 t891.length co10, .int .i64 t894, .int .i64 t895] ?_;(with_reducible refine (jY.calls k _ _ t888 _ _ t891 t894 t895 t898 _ ?side1 ?side2 ?side3 ?side4 A12.out).mono ?_);(case side1=>exact cq (Kd.jm HO890.out).2.2);(case side2=>exact (Kd.jm HO890.out).2.1);(case side3=>exact cq (Kd.jra HO893.out).2.2);(case side4=>exact (Kd.jra HO893.out).2.1);rintro e w28 ⟨rfl,hb⟩;refine ⟨_,rfl,?_⟩;replace HO890:=am (Kd.jU (rq HO890.out) hb);replace HO893:=am (Kd.jab (Y47) hb);replace BK896:=am (jh (g:=gb896) (o:=.cells #[.slice Ao8 t888.length co8] 25 (0,0)) (kq BK896.out) hb);replace HB:=am (jd (Y12) hb);(try clear hb);(try clear hb2);(try clear hk);(try clear hi);have hcz29_0:=bc0 BK896.out;have hfz29_0:=ja BK896.out 0) |(go_at_call 12;(with_reducible refine (jw.calls k _ _ t888 _ _ t891 true _ ?side1 ?side2 ?side3 ?side4 A14.out).mono ?_);(case side1=>exact cq (Kd.jm HO890.out).2.2);(case side2=>exact (Kd.jm HO890.out).2.1);(case side3=>exact cq (Kd.jra HO893.out).2.2);(case side4=>exact (Kd.jra HO893.out).2.1);rintro e w30 ⟨rfl,hb⟩;replace HO890:=am (Kd.jU (rq HO890.out) hb);replace HO893:=am (Kd.jab (Y47) hb);replace BK896:=am (jh (g:=gb896) (o:=.cells #[.slice Ao8 t888.length co8] 25 (0,0)) (kq BK896.out) hb);replace HB:=am (jd (Y12) hb);(try clear hb);(try clear hb2);(try clear hk);(try clear hi);have hcz31_0:=bc0 BK896.out;have hfz31_0:=ja BK896.out 0) |(go_at_call 21;(with_reducible refine (jOb.calls _ _ t888 t895 t900 _ ?side1 ?side2 A26.out).mono ?_);(case side1=>exact cq (Kd.jm HO890.out).2.2);(case side2=>exact (Kd.jm HO890.out).2.1);rintro e w32 ⟨rfl,hb⟩;replace HO890:=am (Kd.jU (rq HO890.out) hb);replace HO893:=am (Kd.jab (Y47) hb);replace BK896:=am (jh (g:=gb896) (o:=.cells #[.slice Ao8 t888.length co8] 25 (0,0)) (kq BK896.out) hb);replace HB:=am (jd (Y12) hb);(try clear hb);(try clear hb2);(try clear hk);(try clear hi)))
       go_meet
       case rel=>exact ⟨_,(!t900),(sq),H',⟨Y20⟩,⟨by (with_reducible repeat (first | apply Kd.jWb | apply Kd.jUb | apply Kd.jVb));exact HO893.out⟩,⟨rq HO890.out⟩,⟨kq BK896.out⟩,⟨Y12⟩⟩
    ·replace c15:=Bool.eq_false_iff.mpr c15
     subst c15
     have H1:(ji.j0 k t891 t894 t895 t897 true t888)=some r:=by rw [if_neg (show ¬ (false=true) by decide)] at H;exact H
     clear H
     have H:=H1
     clear H1
     have H':=am H
     clear H
     have hcz33_0:=bc0 BK896.out
     have hfz33_0:=ja BK896.out 0
     go_wp2_with (first |((with_reducible refine jc (f:=20) rfl ?_);refine gL (some 30) Try.func20 #[.agg #[.slice Ao8 t888.length co8], .slice Ao10 t891.length co10, .int .i64 t894, .int .i64 t895] ?_;(with_reducible refine (jY.calls k _ _ t888 _ _ t891 t894 t895 t898 _ ?side1 ?side2 ?side3 ?side4 A12.out).mono ?_);(case side1=>exact cq (Kd.jm HO890.out).2.2);(case side2=>exact (Kd.jm HO890.out).2.1);(case side3=>exact cq (Kd.jra HO893.out).2.2);(case side4=>exact (Kd.jra HO893.out).2.1);rintro e w34 ⟨rfl,hb⟩;refine ⟨_,rfl,?_⟩;replace HO890:=am (Kd.jU (rq HO890.out) hb);replace HO893:=am (Kd.jab (Y47) hb);replace BK896:=am (jh (g:=gb896) (o:=.cells #[.slice Ao8 t888.length co8] 25 (0,0)) (kq BK896.out) hb);replace HB:=am (jd (Y12) hb);(try clear hb);(try clear hb2);(try clear hk);(try clear hi);have hcz35_0:=bc0 BK896.out;have hfz35_0:=ja BK896.out 0) |(go_at_call 12;(with_reducible refine (jw.calls k _ _ t888 _ _ t891 false _ ?side1 ?side2 ?side3 ?side4 A14.out).mono ?_);(case side1=>exact cq (Kd.jm HO890.out).2.2);(case side2=>exact (Kd.jm HO890.out).2.1);(case side3=>exact cq (Kd.jra HO893.out).2.2);(case side4=>exact (Kd.jra HO893.out).2.1);rintro e w36 ⟨rfl,hb⟩;replace HO890:=am (Kd.jU (rq HO890.out) hb);replace HO893:=am (Kd.jab (Y47) hb);replace BK896:=am (jh (g:=gb896) (o:=.cells #[.slice Ao8 t888.length co8] 25 (0,0)) (kq BK896.out) hb);replace HB:=am (jd (Y12) hb);(try clear hb);(try clear hb2);(try clear hk);(try clear hi)))
     go_meet
     case rel=>exact ⟨_,(true),(sq),H',⟨Y20⟩,⟨by (with_reducible repeat (first | apply Kd.jWb | apply Kd.jUb | apply Kd.jVb));exact HO893.out⟩,⟨rq HO890.out⟩,⟨kq BK896.out⟩,⟨Y12⟩⟩
   ·rw [if_neg c13] at H
    have c13b0:(t897 == t898)=false:=beq_eq_false_iff_ne.mpr c13
    have c13b1:(t897 != t898)=true:=bne_iff_ne.mpr c13
    (first | rw [c13b0] |(simp only [jkb,job];rw [c13b0]) | skip)
    have H':=am H
    clear H
    have hcz37_0:=bc0 BK896.out
    have hfz37_0:=ja BK896.out 0
    go_wp2_with (first |((with_reducible refine jc (f:=20) rfl ?_);refine gL (some 30) Try.func20 #[.agg #[.slice Ao8 t888.length co8], .slice Ao10 t891.length co10, .int .i64 t894, .int .i64 t895] ?_;(with_reducible refine (jY.calls k _ _ t888 _ _ t891 t894 t895 t898 _ ?side1 ?side2 ?side3 ?side4 A12.out).mono ?_);(case side1=>exact cq (Kd.jm HO890.out).2.2);(case side2=>exact (Kd.jm HO890.out).2.1);(case side3=>exact cq (Kd.jra HO893.out).2.2);(case side4=>exact (Kd.jra HO893.out).2.1);rintro e w38 ⟨rfl,hb⟩;refine ⟨_,rfl,?_⟩;replace HO890:=am (Kd.jU (rq HO890.out) hb);replace HO893:=am (Kd.jab (Y47) hb);replace BK896:=am (jh (g:=gb896) (o:=.cells #[.slice Ao8 t888.length co8] 25 (0,0)) (kq BK896.out) hb);replace HB:=am (jd (Y12) hb);(try clear hb);(try clear hb2);(try clear hk);(try clear hi)))
    go_meet
    case rel=>exact ⟨_,(true),(sq),H',⟨Y20⟩,⟨by (with_reducible repeat (first | apply Kd.jWb | apply Kd.jUb | apply Kd.jVb));exact HO893.out⟩,⟨rq HO890.out⟩,⟨kq BK896.out⟩,⟨Y12⟩⟩
  case rest =>
   clear HC5
   try clear c1
   try clear c2
   try clear c2b0
   try clear c2b1
   try clear p2
   try clear c6
   try clear c13
   try clear c13b0
   try clear c13b1
   try clear c15
   try clear c16
   try clear c16b0
   try clear c18
   try clear c19
   try clear c20
   try clear c21
   try clear c21b0
   try clear hcz17_0
   try clear hcz19_0
   try clear hcz22_0
   try clear hcz24_0
   try clear hcz27_0
   try clear hcz29_0
   try clear hcz31_0
   try clear hcz33_0
   try clear hcz35_0
   try clear hcz37_0
   try clear hcz9_0
   try clear hfz17_0
   try clear hfz19_0
   try clear hfz22_0
   try clear hfz24_0
   try clear hfz27_0
   try clear hfz29_0
   try clear hfz31_0
   try clear hfz33_0
   try clear hfz35_0
   try clear hfz37_0
   try clear hfz9_0
   obtain ⟨kq,x53_4,rfl,HA,HJ4,HO_4,HO_897000,BK896,HB⟩:=hcut
   cases kq with
   | zero=>exact absurd HA.out (by simp [ji.j0])
   | succ kj4 =>
    have H:=HA.out
    clear HA
    simp only [ji.j0] at H
    by_cases c39:x53_4=true
    ·subst c39
     have H1:((jY.f kj4 t888 t891 t894 t895).bind fun t901=>(some (t897 == t901)))=some r:=by rw [if_pos rfl] at H;exact H
     clear H
     have H:=H1
     clear H1
     replace H:=bzS H
     obtain ⟨t901,A400,H⟩:=H
     replace H:(some (t897 == t901))=some r:=H
     have A40:=am A400
     clear A400
     obtain rfl:=Option.some.inj H
     have hcz41_0:=bc0 BK896.out
     have hfz41_0:=ja BK896.out 0
     go_wp2_with (first |((with_reducible refine jc (f:=20) rfl ?_);refine gL (some 59) Try.func20 #[.agg #[.slice Ao8 t888.length co8], .slice Ao10 t891.length co10, .int .i64 t894, .int .i64 t895] ?_;(with_reducible refine (jY.calls kj4 _ _ t888 _ _ t891 t894 t895 t901 _ ?side1 ?side2 ?side3 ?side4 A40.out).mono ?_);(case side1=>exact cq (Kd.jm HO_897000.out).2.2);(case side2=>exact (Kd.jm HO_897000.out).2.1);(case side3=>exact cq (Kd.jra HO_4.out).2.2);(case side4=>exact (Kd.jra HO_4.out).2.1);rintro e w42 ⟨rfl,hb⟩;refine ⟨_,rfl,?_⟩;replace HO_4:=am (Kd.jab (Y37) hb);replace HO_897000:=am (Kd.jU (rq HO_897000.out) hb);replace BK896:=am (jh (g:=gb896) (o:=.cells #[.slice Ao8 t888.length co8] 25 (0,0)) (kq BK896.out) hb);replace HB:=am (jd (Y12) hb);(try clear hb);(try clear hb2);(try clear hk);(try clear hi)))
     go_ret
     exact ⟨Y0,Y12⟩
    ·replace c39:=Bool.eq_false_iff.mpr c39
     subst c39
     have H1:((jBb.f kj4 t888 t891 t894).bind fun t902=>(if (t902.length:Int)=0 then (some (t897 == (-1))) else (if 0<(t902.length:Int) then ((jGa.f kj4 t888 t891 (rd t902 0) t895).bind fun t906=>(if t897=t906 then (some true) else (if t897=(rd t902 0) then (some true) else ((jDc.f kj4 t888 t891 (rd t902 0)).bind fun t909=>((jKb.f kj4 t909 t897).bind fun t912=>(some t912)))))) else (none))))=some r:=by rw [if_neg (show ¬ (false=true) by decide)] at H;exact H
     clear H
     have H:=H1
     clear H1
     replace H:=bzS H
     obtain ⟨t902,A430,H⟩:=H
     replace H:(if (t902.length:Int)=0 then (some (t897 == (-1))) else (if 0<(t902.length:Int) then ((jGa.f kj4 t888 t891 (rd t902 0) t895).bind fun t906=>(if t897=t906 then (some true) else (if t897=(rd t902 0) then (some true) else ((jDc.f kj4 t888 t891 (rd t902 0)).bind fun t909=>((jKb.f kj4 t909 t897).bind fun t912=>(some t912)))))) else (none)))=some r:=H
     have A43:=am A430
     clear A430
     by_cases c44:(t902.length:Int)=0
     ·rw [if_pos c44] at H
      have c44b0:((t902.length:Int) == 0)=true:=beq_iff_eq.mpr c44
      have c44b1:((t902.length:Int) != 0)=false:=bne_eq_false_iff_eq.mpr c44
      clear c44
      obtain rfl:=Option.some.inj H
      have hcz45_0:=bc0 BK896.out
      have hfz45_0:=ja BK896.out 0
      go_wp2_with (first |((with_reducible refine jc (f:=13) rfl ?_);refine gL (some 64) Try.func13 #[.agg #[.slice Ao8 t888.length co8], .slice Ao10 t891.length co10, .int .i64 t894] ?_;(with_reducible refine (jBb.calls kj4 _ _ t888 _ _ t891 t894 t902 _ ?side1 ?side2 ?side3 ?side4 A43.out).mono ?_);(case side1=>exact cq (Kd.jm HO_897000.out).2.2);(case side2=>exact (Kd.jm HO_897000.out).2.1);(case side3=>exact cq (Kd.jra HO_4.out).2.2);(case side4=>exact (Kd.jra HO_4.out).2.1);rintro e w46 ⟨v903,rfl,ho0,hb⟩;refine ⟨_,rfl,?_⟩;have HO904:=am (Kd.jW ho0 (jP (Y12)));replace HO_4:=am (Kd.jab (Y37) hb);replace HO_897000:=am (Kd.jU (rq HO_897000.out) hb);replace BK896:=am (jh (g:=gb896) (o:=.cells #[.slice Ao8 t888.length co8] 25 (0,0)) (kq BK896.out) hb);replace HB:=am (jd (Y12) hb);(try clear hb);(try clear hb2);(try clear hk);(try clear hi);(try clear ho0);obtain ⟨Ao47,co47,eo47⟩:=Kd.jba HO904.out;subst eo47))
      go_ret
      exact ⟨Y0,Y12⟩
     ·rw [if_neg c44] at H
      have c44b0:((t902.length:Int) == 0)=false:=beq_eq_false_iff_ne.mpr c44
      have c44b1:((t902.length:Int) != 0)=true:=bne_iff_ne.mpr c44
      have c44b2:¬ (t902=[]):=fun h_=>c44 (by rw [h_];rfl)
      by_cases c48:0<(t902.length:Int)
      ·rw [if_pos c48] at H
       have c48b0:decide (0<(t902.length:Int))=true:=dzT c48
       have c48b1:decide (0<t902.length)=true:=dzT (by omega)
       clear c48
       replace H:=bzS H
       obtain ⟨t906,A490,H⟩:=H
       replace H:(if t897=t906 then (some true) else (if t897=(rd t902 0) then (some true) else ((jDc.f kj4 t888 t891 (rd t902 0)).bind fun t909=>((jKb.f kj4 t909 t897).bind fun t912=>(some t912)))))=some r:=H
       have A49:=am A490
       clear A490
       by_cases c50:t897=t906
       ·rw [if_pos c50] at H
        have c50b0:(t897 == t906)=true:=beq_iff_eq.mpr c50
        have c50b1:(t897 != t906)=false:=bne_eq_false_iff_eq.mpr c50
        clear c50
        obtain rfl:=Option.some.inj H
        have hcz51_0:=bc0 BK896.out
        have hfz51_0:=ja BK896.out 0
        try go_wp2_with (first |((with_reducible refine jc (f:=13) rfl ?_);refine gL (some 64) Try.func13 #[.agg #[.slice Ao8 t888.length co8], .slice Ao10 t891.length co10, .int .i64 t894] ?_;(with_reducible refine (jBb.calls kj4 _ _ t888 _ _ t891 t894 t902 _ ?side1 ?side2 ?side3 ?side4 A43.out).mono ?_);(case side1=>exact cq (Kd.jm HO_897000.out).2.2);(case side2=>exact (Kd.jm HO_897000.out).2.1);(case side3=>exact cq (Kd.jra HO_4.out).2.2);(case side4=>exact (Kd.jra HO_4.out).2.1);rintro e w52 ⟨v903,rfl,ho0,hb⟩;refine ⟨_,rfl,?_⟩;have HO904:=am (Kd.jW ho0 (jP (Y12)));replace HO_4:=am (Kd.jab (Y37) hb);replace HO_897000:=am (Kd.jU (rq HO_897000.out) hb);replace BK896:=am (jh (g:=gb896) (o:=.cells #[.slice Ao8 t888.length co8] 25 (0,0)) (kq BK896.out) hb);replace HB:=am (jd (Y12) hb);(try clear hb);(try clear hb2);(try clear hk);(try clear hi);(try clear ho0);obtain ⟨Ao53,co53,eo53⟩:=Kd.jba HO904.out;subst eo53))
        replace HO_4:=am (Kd.jVb HO_4.out)
        replace HO_897000:=am (Kd.jga HO_897000.out)
        replace HO904:=am (Kd.jga HO904.out)
        replace BK896:=am (jA BK896.out)
        replace HB:=am (jD HB.out)
        have p905:0≤(0:Int):=(by omega)
        have q905:0<(t902.length:Int):=ozD (uq)
        obtain ⟨ad905,e905,hx905_0⟩:=Kd.jXa (Kd.jm HO904.out).2.2 0 p905 q905
        cases e905
        have qi905:(0<t902.length)=True:=ezT (by omega)
        (try rw [show ((0:Int)).toNat=0 from rfl] at hx905_0)
        (try rw [Addr.add_zero'] at hx905_0)
        replace p905:=ezT p905
        replace q905:=ezT q905
        refine jrc (n:=8) (S:=fun w'=>w'.cell? ⟨gb896,0,none⟩=some (.slice Ao8 t888.length co8)∧w'.cell? ad905=some (.int .i64 (rd t902 0))) (ds:=[]) #[false,false,false,false,false,false,false,false] (by kernel_rfl) rfl rfl ⟨(jH BK896.out 0).trans rfl,hx905_0⟩ (fun hHeld=>?_);refine jpb ji.tab10 ji.bits10 (fun HT_ HW_=>?_)
        generalize w52.drew=w54 at HO_4 HO_897000 HO904 BK896 HB hx905_0 hHeld ⊢
        refine pq (i:=1) (N:=some 71) #[false,true,false,false,false,false,false,false] ?_
        refine pq (i:=2) (N:=some 72) #[false,true,true,false,false,false,false,false] ?_
        refine pq (i:=3) (N:=some 73) #[false,true,true,true,false,false,false,false] ?_
        refine pq (i:=5) (N:=some 75) #[false,true,true,true,false,true,false,false] ?_
        refine jXb (i:=0) (N:=some 70) (v:=?_) (a':=?_) #[true,true,true,true,false,true,false,false] rfl rfl (jIa HT_.out HW_.out (by kernel_rfl)) (fun _ _ _ h=>h) (Or.inl ⟨by rfl,?_⟩) hHeld ?_ ?_
        rotate_left
        ·rintro w' ⟨s0,s1⟩
         go_simp
         with_reducible rfl
        rotate_left
        ·exact sa
        refine jXb (i:=4) (N:=some 74) (v:=?_) (a':=?_) #[true,true,true,true,true,true,false,false] rfl rfl (jIa HT_.out HW_.out (by kernel_rfl)) (fun _ _ _ h=>h) (Or.inl ⟨by rfl,?_⟩) hHeld ?_ ?_
        rotate_left
        ·rintro w' ⟨s0,s1⟩
         go_simp
         with_reducible rfl
        rotate_left
        ·exact sa
        refine one_ (i:=6) (N:=some 76) #[true,true,true,true,true,true,true,false] rfl rfl (jNb HT_.out (by kernel_rfl)) (by decide) (fun K hK=>?_)
        refine jSc Try.func19 (by kernel_rfl) rfl #[.agg #[.slice Ao8 t888.length co8], .slice Ao10 t891.length co10, .int .i64 (rd t902 0), .int .i64 t895] (by rfl) rfl rfl (aq) ?_
        with_reducible refine (jGa.calls kj4 _ _ t888 _ _ t891 (rd t902 0) t895 t906 _ ?side1 ?side2 ?side3 ?side4 A49.out).mono ?_
        (case side1=>exact cq (Kd.jm HO_897000.out).2.2)
        (case side2=>exact (Kd.jm HO_897000.out).2.1)
        (case side3=>exact cq (Kd.jra HO_4.out).2.2)
        (case side4=>exact (Kd.jra HO_4.out).2.1)
        rintro e w55 ⟨rfl,hb⟩
        have HS1_:=(hb.cell (World.block_lt_of_cell? _ _ (hHeld.2))).trans (hHeld.2)
        refine ⟨_,rfl,?_⟩
        replace HO_4:=am (Kd.jab (Y37) hb)
        replace HO_897000:=am (Kd.jU (rq HO_897000.out) hb)
        replace HO904:=am (Kd.jU (rq HO904.out) hb)
        replace BK896:=am (jh (g:=gb896) (o:=.cells #[.slice Ao8 t888.length co8] 25 (0,0)) (kq BK896.out) hb)
        replace HB:=am (jd (Y12) hb)
        (try clear hb)
        (try clear hb2)
        (try clear hk)
        (try clear hi)
        refine hK.out _ _ ⟨(jH BK896.out 0).trans rfl,HS1_⟩ (fun hHeld=>?_)
        clear hK K
        refine jmc (a':=?_) ?_ ?_
        rotate_left
        ·show Act.put _ (some 76) _=_
         simp only [Act.put,List.setIfInBounds_toArray,List.set_cons_zero,List.set_cons_succ,jkb,job]
         rfl
        refine pq (i:=7) (N:=some 9) #[true,true,true,true,true,true,true,true] ?_
        refine jQc (jZb HT_.out (by kernel_rfl)) ?_
        try go_wp2
        replace HO_4:=am (Kd.jVb HO_4.out)
        replace HO_897000:=am (Kd.jga HO_897000.out)
        replace HO904:=am (Kd.jga HO904.out)
        replace BK896:=am (jA BK896.out)
        replace HB:=am (jD HB.out)
        refine jrc (n:=21) (S:=fun w'=>True) (ds:=[]) #[false,false,false,false,false,false,false,false,false,false,false,false,false,false,false,false,false,false,false,false,false] (by kernel_rfl) rfl rfl trivial (fun hHeld=>?_);refine jpb ji.tab11 ji.bits11 (fun HT_ HW_=>?_)
        generalize w55.drew=w56 at HO_4 HO_897000 HO904 BK896 HB hHeld ⊢
        refine pq (i:=0) (N:=some 77) #[true,false,false,false,false,false,false,false,false,false,false,false,false,false,false,false,false,false,false,false,false] ?_
        refine pq (i:=1) (N:=some 78) #[true,true,false,false,false,false,false,false,false,false,false,false,false,false,false,false,false,false,false,false,false] ?_
        refine pq (i:=2) (N:=some 79) #[true,true,true,false,false,false,false,false,false,false,false,false,false,false,false,false,false,false,false,false,false] ?_
        refine pq (i:=3) (N:=some 80) #[true,true,true,true,false,false,false,false,false,false,false,false,false,false,false,false,false,false,false,false,false] ?_
        refine jac (i:=4) (N:=some 81) (v:=undef) (a':=?_) #[true,true,true,true,true,false,false,false,false,false,false,false,false,false,false,false,false,false,false,false,false] rfl rfl (jub HT_.out (by kernel_rfl)) (fun _ _ _ h=>h) (Or.inr ⟨by rfl,rfl⟩) ?_ ?_
        rotate_left
        ·exact sa
        refine jac (i:=5) (N:=some 82) (v:=undef) (a':=?_) #[true,true,true,true,true,true,false,false,false,false,false,false,false,false,false,false,false,false,false,false,false] rfl rfl (jub HT_.out (by kernel_rfl)) (fun _ _ _ h=>h) (Or.inr ⟨by rfl,rfl⟩) ?_ ?_
        rotate_left
        ·exact sa
        refine jac (i:=6) (N:=some 83) (v:=undef) (a':=?_) #[true,true,true,true,true,true,true,false,false,false,false,false,false,false,false,false,false,false,false,false,false] rfl rfl (jub HT_.out (by kernel_rfl)) (fun _ _ _ h=>h) (Or.inr ⟨by rfl,rfl⟩) ?_ ?_
        rotate_left
        ·exact sa
        refine jac (i:=7) (N:=some 84) (v:=undef) (a':=?_) #[true,true,true,true,true,true,true,true,false,false,false,false,false,false,false,false,false,false,false,false,false] rfl rfl (jub HT_.out (by kernel_rfl)) (fun _ _ _ h=>h) (Or.inr ⟨by rfl,rfl⟩) ?_ ?_
        rotate_left
        ·exact sa
        refine jac (i:=8) (N:=some 85) (v:=undef) (a':=?_) #[true,true,true,true,true,true,true,true,true,false,false,false,false,false,false,false,false,false,false,false,false] rfl rfl (jub HT_.out (by kernel_rfl)) (fun _ _ _ h=>h) (Or.inr ⟨by rfl,rfl⟩) ?_ ?_
        rotate_left
        ·exact sa
        refine pq (i:=9) (N:=some 86) #[true,true,true,true,true,true,true,true,true,true,false,false,false,false,false,false,false,false,false,false,false] ?_
        refine pq (i:=10) (N:=some 87) #[true,true,true,true,true,true,true,true,true,true,true,false,false,false,false,false,false,false,false,false,false] ?_
        refine jac (i:=11) (N:=some 88) (v:=undef) (a':=?_) #[true,true,true,true,true,true,true,true,true,true,true,true,false,false,false,false,false,false,false,false,false] rfl rfl (jub HT_.out (by kernel_rfl)) (fun _ _ _ h=>h) (Or.inr ⟨by rfl,rfl⟩) ?_ ?_
        rotate_left
        ·exact sa
        refine jac (i:=12) (N:=some 89) (v:=undef) (a':=?_) #[true,true,true,true,true,true,true,true,true,true,true,true,true,false,false,false,false,false,false,false,false] rfl rfl (jub HT_.out (by kernel_rfl)) (fun _ _ _ h=>h) (Or.inr ⟨by rfl,rfl⟩) ?_ ?_
        rotate_left
        ·exact sa
        refine jac (i:=13) (N:=some 90) (v:=undef) (a':=?_) #[true,true,true,true,true,true,true,true,true,true,true,true,true,true,false,false,false,false,false,false,false] rfl rfl (jub HT_.out (by kernel_rfl)) (fun _ _ _ h=>h) (Or.inr ⟨by rfl,rfl⟩) ?_ ?_
        rotate_left
        ·exact sa
        refine jac (i:=14) (N:=some 91) (v:=undef) (a':=?_) #[true,true,true,true,true,true,true,true,true,true,true,true,true,true,true,false,false,false,false,false,false] rfl rfl (jub HT_.out (by kernel_rfl)) (fun _ _ _ h=>h) (Or.inr ⟨by rfl,rfl⟩) ?_ ?_
        rotate_left
        ·exact sa
        refine jac (i:=15) (N:=some 92) (v:=undef) (a':=?_) #[true,true,true,true,true,true,true,true,true,true,true,true,true,true,true,true,false,false,false,false,false] rfl rfl (jub HT_.out (by kernel_rfl)) (fun _ _ _ h=>h) (Or.inr ⟨by rfl,rfl⟩) ?_ ?_
        rotate_left
        ·exact sa
        refine jac (i:=16) (N:=some 93) (v:=undef) (a':=?_) #[true,true,true,true,true,true,true,true,true,true,true,true,true,true,true,true,true,false,false,false,false] rfl rfl (jub HT_.out (by kernel_rfl)) (fun _ _ _ h=>h) (Or.inr ⟨by rfl,rfl⟩) ?_ ?_
        rotate_left
        ·exact sa
        refine jac (i:=17) (N:=some 94) (v:=undef) (a':=?_) #[true,true,true,true,true,true,true,true,true,true,true,true,true,true,true,true,true,true,false,false,false] rfl rfl (jub HT_.out (by kernel_rfl)) (fun _ _ _ h=>h) (Or.inr ⟨by rfl,rfl⟩) ?_ ?_
        rotate_left
        ·exact sa
        refine jac (i:=18) (N:=some 95) (v:=undef) (a':=?_) #[true,true,true,true,true,true,true,true,true,true,true,true,true,true,true,true,true,true,true,false,false] rfl rfl (jub HT_.out (by kernel_rfl)) (fun _ _ _ h=>h) (Or.inr ⟨by rfl,rfl⟩) ?_ ?_
        rotate_left
        ·exact sa
        refine pq (i:=19) (N:=some 96) #[true,true,true,true,true,true,true,true,true,true,true,true,true,true,true,true,true,true,true,true,false] ?_
        refine pq (i:=20) (N:=some 2) #[true,true,true,true,true,true,true,true,true,true,true,true,true,true,true,true,true,true,true,true,true] ?_
        refine jQc (jZb HT_.out (by kernel_rfl)) ?_
        try go_wp2
        go_ret
        exact ⟨Y0,Y12⟩
       ·rw [if_neg c50] at H
        have c50b0:(t897 == t906)=false:=beq_eq_false_iff_ne.mpr c50
        have c50b1:(t897 != t906)=true:=bne_iff_ne.mpr c50
        by_cases c57:t897=(rd t902 0)
        ·rw [if_pos c57] at H
         have c57b0:(t897 == (rd t902 0))=true:=beq_iff_eq.mpr c57
         have c57b1:(t897 != (rd t902 0))=false:=bne_eq_false_iff_eq.mpr c57
         clear c57
         obtain rfl:=Option.some.inj H
         have hcz58_0:=bc0 BK896.out
         have hfz58_0:=ja BK896.out 0
         try go_wp2_with (first |((with_reducible refine jc (f:=13) rfl ?_);refine gL (some 64) Try.func13 #[.agg #[.slice Ao8 t888.length co8], .slice Ao10 t891.length co10, .int .i64 t894] ?_;(with_reducible refine (jBb.calls kj4 _ _ t888 _ _ t891 t894 t902 _ ?side1 ?side2 ?side3 ?side4 A43.out).mono ?_);(case side1=>exact cq (Kd.jm HO_897000.out).2.2);(case side2=>exact (Kd.jm HO_897000.out).2.1);(case side3=>exact cq (Kd.jra HO_4.out).2.2);(case side4=>exact (Kd.jra HO_4.out).2.1);rintro e w59 ⟨v903,rfl,ho0,hb⟩;refine ⟨_,rfl,?_⟩;have HO904:=am (Kd.jW ho0 (jP (Y12)));replace HO_4:=am (Kd.jab (Y37) hb);replace HO_897000:=am (Kd.jU (rq HO_897000.out) hb);replace BK896:=am (jh (g:=gb896) (o:=.cells #[.slice Ao8 t888.length co8] 25 (0,0)) (kq BK896.out) hb);replace HB:=am (jd (Y12) hb);(try clear hb);(try clear hb2);(try clear hk);(try clear hi);(try clear ho0);obtain ⟨Ao60,co60,eo60⟩:=Kd.jba HO904.out;subst eo60))
         replace HO_4:=am (Kd.jVb HO_4.out)
         replace HO_897000:=am (Kd.jga HO_897000.out)
         replace HO904:=am (Kd.jga HO904.out)
         replace BK896:=am (jA BK896.out)
         replace HB:=am (jD HB.out)
         have p905:0≤(0:Int):=(by omega)
         have q905:0<(t902.length:Int):=ozD (uq)
         obtain ⟨ad905,e905,hx905_0⟩:=Kd.jXa (Kd.jm HO904.out).2.2 0 p905 q905
         cases e905
         have qi905:(0<t902.length)=True:=ezT (by omega)
         (try rw [show ((0:Int)).toNat=0 from rfl] at hx905_0)
         (try rw [Addr.add_zero'] at hx905_0)
         replace p905:=ezT p905
         replace q905:=ezT q905
         refine jrc (n:=8) (S:=fun w'=>w'.cell? ⟨gb896,0,none⟩=some (.slice Ao8 t888.length co8)∧w'.cell? ad905=some (.int .i64 (rd t902 0))) (ds:=[]) #[false,false,false,false,false,false,false,false] (by kernel_rfl) rfl rfl ⟨(jH BK896.out 0).trans rfl,hx905_0⟩ (fun hHeld=>?_);refine jpb ji.tab10 ji.bits10 (fun HT_ HW_=>?_)
         generalize w59.drew=w61 at HO_4 HO_897000 HO904 BK896 HB hx905_0 hHeld ⊢
         refine pq (i:=1) (N:=some 71) #[false,true,false,false,false,false,false,false] ?_
         refine pq (i:=2) (N:=some 72) #[false,true,true,false,false,false,false,false] ?_
         refine pq (i:=3) (N:=some 73) #[false,true,true,true,false,false,false,false] ?_
         refine pq (i:=5) (N:=some 75) #[false,true,true,true,false,true,false,false] ?_
         refine jXb (i:=0) (N:=some 70) (v:=?_) (a':=?_) #[true,true,true,true,false,true,false,false] rfl rfl (jIa HT_.out HW_.out (by kernel_rfl)) (fun _ _ _ h=>h) (Or.inl ⟨by rfl,?_⟩) hHeld ?_ ?_
         rotate_left
         ·rintro w' ⟨s0,s1⟩
          go_simp
          with_reducible rfl
         rotate_left
         ·exact sa
         refine jXb (i:=4) (N:=some 74) (v:=?_) (a':=?_) #[true,true,true,true,true,true,false,false] rfl rfl (jIa HT_.out HW_.out (by kernel_rfl)) (fun _ _ _ h=>h) (Or.inl ⟨by rfl,?_⟩) hHeld ?_ ?_
         rotate_left
         ·rintro w' ⟨s0,s1⟩
          go_simp
          with_reducible rfl
         rotate_left
         ·exact sa
         refine one_ (i:=6) (N:=some 76) #[true,true,true,true,true,true,true,false] rfl rfl (jNb HT_.out (by kernel_rfl)) (by decide) (fun K hK=>?_)
         refine jSc Try.func19 (by kernel_rfl) rfl #[.agg #[.slice Ao8 t888.length co8], .slice Ao10 t891.length co10, .int .i64 (rd t902 0), .int .i64 t895] (by rfl) rfl rfl (aq) ?_
         with_reducible refine (jGa.calls kj4 _ _ t888 _ _ t891 (rd t902 0) t895 t906 _ ?side1 ?side2 ?side3 ?side4 A49.out).mono ?_
         (case side1=>exact cq (Kd.jm HO_897000.out).2.2)
         (case side2=>exact (Kd.jm HO_897000.out).2.1)
         (case side3=>exact cq (Kd.jra HO_4.out).2.2)
         (case side4=>exact (Kd.jra HO_4.out).2.1)
         rintro e w62 ⟨rfl,hb⟩
         have HS1_:=(hb.cell (World.block_lt_of_cell? _ _ (hHeld.2))).trans (hHeld.2)
         refine ⟨_,rfl,?_⟩
         replace HO_4:=am (Kd.jab (Y37) hb)
         replace HO_897000:=am (Kd.jU (rq HO_897000.out) hb)
         replace HO904:=am (Kd.jU (rq HO904.out) hb)
         replace BK896:=am (jh (g:=gb896) (o:=.cells #[.slice Ao8 t888.length co8] 25 (0,0)) (kq BK896.out) hb)
         replace HB:=am (jd (Y12) hb)
         (try clear hb)
         (try clear hb2)
         (try clear hk)
         (try clear hi)
         refine hK.out _ _ ⟨(jH BK896.out 0).trans rfl,HS1_⟩ (fun hHeld=>?_)
         clear hK K
         refine jmc (a':=?_) ?_ ?_
         rotate_left
         ·show Act.put _ (some 76) _=_
          simp only [Act.put,List.setIfInBounds_toArray,List.set_cons_zero,List.set_cons_succ,jkb,job]
          rfl
         refine pq (i:=7) (N:=some 9) #[true,true,true,true,true,true,true,true] ?_
         refine jQc (jZb HT_.out (by kernel_rfl)) ?_
         try go_wp2
         replace HO_4:=am (Kd.jVb HO_4.out)
         replace HO_897000:=am (Kd.jga HO_897000.out)
         replace HO904:=am (Kd.jga HO904.out)
         replace BK896:=am (jA BK896.out)
         replace HB:=am (jD HB.out)
         have p907:0≤(0:Int):=(by omega)
         have q907:0<(t902.length:Int):=ozD (uq)
         obtain ⟨ad907,e907,hx907_0⟩:=Kd.jXa (Kd.jm HO904.out).2.2 0 p907 q907
         obtain rfl:ad905=ad907:=(by injection e907)
         have qi907:(0<t902.length)=True:=ezT (by omega)
         (try rw [show ((0:Int)).toNat=0 from rfl] at hx907_0)
         (try rw [Addr.add_zero'] at hx907_0)
         replace p907:=ezT p907
         replace q907:=ezT q907
         refine jrc (n:=21) (S:=fun w'=>w'.cell? ad905=some (.int .i64 (rd t902 0))) (ds:=[]) #[false,false,false,false,false,false,false,false,false,false,false,false,false,false,false,false,false,false,false,false,false] (by kernel_rfl) rfl rfl (hx907_0) (fun hHeld=>?_);refine jpb ji.tab11 ji.bits11 (fun HT_ HW_=>?_)
         generalize w62.drew=w63 at HO_4 HO_897000 HO904 BK896 HB hx907_0 hHeld ⊢
         refine pq (i:=0) (N:=some 77) #[true,false,false,false,false,false,false,false,false,false,false,false,false,false,false,false,false,false,false,false,false] ?_
         refine pq (i:=1) (N:=some 78) #[true,true,false,false,false,false,false,false,false,false,false,false,false,false,false,false,false,false,false,false,false] ?_
         refine pq (i:=2) (N:=some 79) #[true,true,true,false,false,false,false,false,false,false,false,false,false,false,false,false,false,false,false,false,false] ?_
         refine pq (i:=3) (N:=some 80) #[true,true,true,true,false,false,false,false,false,false,false,false,false,false,false,false,false,false,false,false,false] ?_
         refine pq (i:=4) (N:=some 81) #[true,true,true,true,true,false,false,false,false,false,false,false,false,false,false,false,false,false,false,false,false] ?_
         refine pq (i:=5) (N:=some 82) #[true,true,true,true,true,true,false,false,false,false,false,false,false,false,false,false,false,false,false,false,false] ?_
         refine pq (i:=6) (N:=some 83) #[true,true,true,true,true,true,true,false,false,false,false,false,false,false,false,false,false,false,false,false,false] ?_
         refine jXb (i:=7) (N:=some 84) (v:=?_) (a':=?_) #[true,true,true,true,true,true,true,true,false,false,false,false,false,false,false,false,false,false,false,false,false] rfl rfl (jIa HT_.out HW_.out (by kernel_rfl)) (fun _ _ _ h=>h) (Or.inl ⟨by rfl,?_⟩) hHeld ?_ ?_
         rotate_left
         ·intro w' s0
          go_simp
          with_reducible rfl
         rotate_left
         ·exact sa
         refine pq (i:=8) (N:=some 85) #[true,true,true,true,true,true,true,true,true,false,false,false,false,false,false,false,false,false,false,false,false] ?_
         refine pq (i:=9) (N:=some 86) #[true,true,true,true,true,true,true,true,true,true,false,false,false,false,false,false,false,false,false,false,false] ?_
         refine pq (i:=10) (N:=some 87) #[true,true,true,true,true,true,true,true,true,true,true,false,false,false,false,false,false,false,false,false,false] ?_
         refine jac (i:=11) (N:=some 88) (v:=undef) (a':=?_) #[true,true,true,true,true,true,true,true,true,true,true,true,false,false,false,false,false,false,false,false,false] rfl rfl (jub HT_.out (by kernel_rfl)) (fun _ _ _ h=>h) (Or.inr ⟨by rfl,rfl⟩) ?_ ?_
         rotate_left
         ·exact sa
         refine jac (i:=12) (N:=some 89) (v:=undef) (a':=?_) #[true,true,true,true,true,true,true,true,true,true,true,true,true,false,false,false,false,false,false,false,false] rfl rfl (jub HT_.out (by kernel_rfl)) (fun _ _ _ h=>h) (Or.inr ⟨by rfl,rfl⟩) ?_ ?_
         rotate_left
         ·exact sa
         refine jac (i:=13) (N:=some 90) (v:=undef) (a':=?_) #[true,true,true,true,true,true,true,true,true,true,true,true,true,true,false,false,false,false,false,false,false] rfl rfl (jub HT_.out (by kernel_rfl)) (fun _ _ _ h=>h) (Or.inr ⟨by rfl,rfl⟩) ?_ ?_
         rotate_left
         ·exact sa
         refine jac (i:=14) (N:=some 91) (v:=undef) (a':=?_) #[true,true,true,true,true,true,true,true,true,true,true,true,true,true,true,false,false,false,false,false,false] rfl rfl (jub HT_.out (by kernel_rfl)) (fun _ _ _ h=>h) (Or.inr ⟨by rfl,rfl⟩) ?_ ?_
         rotate_left
         ·exact sa
         refine jac (i:=15) (N:=some 92) (v:=undef) (a':=?_) #[true,true,true,true,true,true,true,true,true,true,true,true,true,true,true,true,false,false,false,false,false] rfl rfl (jub HT_.out (by kernel_rfl)) (fun _ _ _ h=>h) (Or.inr ⟨by rfl,rfl⟩) ?_ ?_
         rotate_left
         ·exact sa
         refine jac (i:=16) (N:=some 93) (v:=undef) (a':=?_) #[true,true,true,true,true,true,true,true,true,true,true,true,true,true,true,true,true,false,false,false,false] rfl rfl (jub HT_.out (by kernel_rfl)) (fun _ _ _ h=>h) (Or.inr ⟨by rfl,rfl⟩) ?_ ?_
         rotate_left
         ·exact sa
         refine jac (i:=17) (N:=some 94) (v:=undef) (a':=?_) #[true,true,true,true,true,true,true,true,true,true,true,true,true,true,true,true,true,true,false,false,false] rfl rfl (jub HT_.out (by kernel_rfl)) (fun _ _ _ h=>h) (Or.inr ⟨by rfl,rfl⟩) ?_ ?_
         rotate_left
         ·exact sa
         refine jac (i:=18) (N:=some 95) (v:=undef) (a':=?_) #[true,true,true,true,true,true,true,true,true,true,true,true,true,true,true,true,true,true,true,false,false] rfl rfl (jub HT_.out (by kernel_rfl)) (fun _ _ _ h=>h) (Or.inr ⟨by rfl,rfl⟩) ?_ ?_
         rotate_left
         ·exact sa
         refine pq (i:=19) (N:=some 96) #[true,true,true,true,true,true,true,true,true,true,true,true,true,true,true,true,true,true,true,true,false] ?_
         refine pq (i:=20) (N:=some 2) #[true,true,true,true,true,true,true,true,true,true,true,true,true,true,true,true,true,true,true,true,true] ?_
         refine jQc (jZb HT_.out (by kernel_rfl)) ?_
         try go_wp2
         go_ret
         exact ⟨Y0,Y12⟩
        ·rw [if_neg c57] at H
         have c57b0:(t897 == (rd t902 0))=false:=beq_eq_false_iff_ne.mpr c57
         have c57b1:(t897 != (rd t902 0))=true:=bne_iff_ne.mpr c57
         replace H:=bzS H
         obtain ⟨t909,A640,H⟩:=H
         replace H:((jKb.f kj4 t909 t897).bind fun t912=>(some t912))=some r:=H
         have A64:=am A640
         clear A640
         replace H:=bzS H
         obtain ⟨t912,A650,H⟩:=H
         replace H:(some t912)=some r:=H
         have A65:=am A650
         clear A650
         obtain rfl:=Option.some.inj H
         have hcz66_0:=bc0 BK896.out
         have hfz66_0:=ja BK896.out 0
         try go_wp2_with (first |((with_reducible refine jc (f:=13) rfl ?_);refine gL (some 64) Try.func13 #[.agg #[.slice Ao8 t888.length co8], .slice Ao10 t891.length co10, .int .i64 t894] ?_;(with_reducible refine (jBb.calls kj4 _ _ t888 _ _ t891 t894 t902 _ ?side1 ?side2 ?side3 ?side4 A43.out).mono ?_);(case side1=>exact cq (Kd.jm HO_897000.out).2.2);(case side2=>exact (Kd.jm HO_897000.out).2.1);(case side3=>exact cq (Kd.jra HO_4.out).2.2);(case side4=>exact (Kd.jra HO_4.out).2.1);rintro e w67 ⟨v903,rfl,ho0,hb⟩;refine ⟨_,rfl,?_⟩;have HO904:=am (Kd.jW ho0 (jP (Y12)));replace HO_4:=am (Kd.jab (Y37) hb);replace HO_897000:=am (Kd.jU (rq HO_897000.out) hb);replace BK896:=am (jh (g:=gb896) (o:=.cells #[.slice Ao8 t888.length co8] 25 (0,0)) (kq BK896.out) hb);replace HB:=am (jd (Y12) hb);(try clear hb);(try clear hb2);(try clear hk);(try clear hi);(try clear ho0);obtain ⟨Ao68,co68,eo68⟩:=Kd.jba HO904.out;subst eo68))
         replace HO_4:=am (Kd.jVb HO_4.out)
         replace HO_897000:=am (Kd.jga HO_897000.out)
         replace HO904:=am (Kd.jga HO904.out)
         replace BK896:=am (jA BK896.out)
         replace HB:=am (jD HB.out)
         have p905:0≤(0:Int):=(by omega)
         have q905:0<(t902.length:Int):=ozD (uq)
         obtain ⟨ad905,e905,hx905_0⟩:=Kd.jXa (Kd.jm HO904.out).2.2 0 p905 q905
         cases e905
         have qi905:(0<t902.length)=True:=ezT (by omega)
         (try rw [show ((0:Int)).toNat=0 from rfl] at hx905_0)
         (try rw [Addr.add_zero'] at hx905_0)
         replace p905:=ezT p905
         replace q905:=ezT q905
         refine jrc (n:=8) (S:=fun w'=>w'.cell? ⟨gb896,0,none⟩=some (.slice Ao8 t888.length co8)∧w'.cell? ad905=some (.int .i64 (rd t902 0))) (ds:=[]) #[false,false,false,false,false,false,false,false] (by kernel_rfl) rfl rfl ⟨(jH BK896.out 0).trans rfl,hx905_0⟩ (fun hHeld=>?_);refine jpb ji.tab10 ji.bits10 (fun HT_ HW_=>?_)
         generalize w67.drew=w69 at HO_4 HO_897000 HO904 BK896 HB hx905_0 hHeld ⊢
         refine pq (i:=1) (N:=some 71) #[false,true,false,false,false,false,false,false] ?_
         refine pq (i:=2) (N:=some 72) #[false,true,true,false,false,false,false,false] ?_
         refine pq (i:=3) (N:=some 73) #[false,true,true,true,false,false,false,false] ?_
         refine pq (i:=5) (N:=some 75) #[false,true,true,true,false,true,false,false] ?_
         refine jXb (i:=0) (N:=some 70) (v:=?_) (a':=?_) #[true,true,true,true,false,true,false,false] rfl rfl (jIa HT_.out HW_.out (by kernel_rfl)) (fun _ _ _ h=>h) (Or.inl ⟨by rfl,?_⟩) hHeld ?_ ?_
         rotate_left
         ·rintro w' ⟨s0,s1⟩
          go_simp
          with_reducible rfl
         rotate_left
         ·exact sa
         refine jXb (i:=4) (N:=some 74) (v:=?_) (a':=?_) #[true,true,true,true,true,true,false,false] rfl rfl (jIa HT_.out HW_.out (by kernel_rfl)) (fun _ _ _ h=>h) (Or.inl ⟨by rfl,?_⟩) hHeld ?_ ?_
         rotate_left
         ·rintro w' ⟨s0,s1⟩
          go_simp
          with_reducible rfl
         rotate_left
         ·exact sa
         refine one_ (i:=6) (N:=some 76) #[true,true,true,true,true,true,true,false] rfl rfl (jNb HT_.out (by kernel_rfl)) (by decide) (fun K hK=>?_)
         refine jSc Try.func19 (by kernel_rfl) rfl #[.agg #[.slice Ao8 t888.length co8], .slice Ao10 t891.length co10, .int .i64 (rd t902 0), .int .i64 t895] (by rfl) rfl rfl (aq) ?_
         with_reducible refine (jGa.calls kj4 _ _ t888 _ _ t891 (rd t902 0) t895 t906 _ ?side1 ?side2 ?side3 ?side4 A49.out).mono ?_
         (case side1=>exact cq (Kd.jm HO_897000.out).2.2)
         (case side2=>exact (Kd.jm HO_897000.out).2.1)
         (case side3=>exact cq (Kd.jra HO_4.out).2.2)
         (case side4=>exact (Kd.jra HO_4.out).2.1)
         rintro e w70 ⟨rfl,hb⟩
         have HS1_:=(hb.cell (World.block_lt_of_cell? _ _ (hHeld.2))).trans (hHeld.2)
         refine ⟨_,rfl,?_⟩
         replace HO_4:=am (Kd.jab (Y37) hb)
         replace HO_897000:=am (Kd.jU (rq HO_897000.out) hb)
         replace HO904:=am (Kd.jU (rq HO904.out) hb)
         replace BK896:=am (jh (g:=gb896) (o:=.cells #[.slice Ao8 t888.length co8] 25 (0,0)) (kq BK896.out) hb)
         replace HB:=am (jd (Y12) hb)
         (try clear hb)
         (try clear hb2)
         (try clear hk)
         (try clear hi)
         refine hK.out _ _ ⟨(jH BK896.out 0).trans rfl,HS1_⟩ (fun hHeld=>?_)
         clear hK K
         refine jmc (a':=?_) ?_ ?_
         rotate_left
         ·show Act.put _ (some 76) _=_
          simp only [Act.put,List.setIfInBounds_toArray,List.set_cons_zero,List.set_cons_succ,jkb,job]
          rfl
         refine pq (i:=7) (N:=some 9) #[true,true,true,true,true,true,true,true] ?_
         refine jQc (jZb HT_.out (by kernel_rfl)) ?_
         try go_wp2
         replace HO_4:=am (Kd.jVb HO_4.out)
         replace HO_897000:=am (Kd.jga HO_897000.out)
         replace HO904:=am (Kd.jga HO904.out)
         replace BK896:=am (jA BK896.out)
         replace HB:=am (jD HB.out)
         have p907:0≤(0:Int):=(by omega)
         have q907:0<(t902.length:Int):=ozD (uq)
         obtain ⟨ad907,e907,hx907_0⟩:=Kd.jXa (Kd.jm HO904.out).2.2 0 p907 q907
         obtain rfl:ad905=ad907:=(by injection e907)
         have qi907:(0<t902.length)=True:=ezT (by omega)
         (try rw [show ((0:Int)).toNat=0 from rfl] at hx907_0)
         (try rw [Addr.add_zero'] at hx907_0)
         replace p907:=ezT p907
         replace q907:=ezT q907
         have p908:0≤(0:Int):=(by omega)
         have q908:0<(t902.length:Int):=ozD (uq)
         obtain ⟨ad908,e908,hx908_0⟩:=Kd.jXa (Kd.jm HO904.out).2.2 0 p908 q908
         obtain rfl:ad905=ad908:=(by injection e908)
         have qi908:(0<t902.length)=True:=ezT (by omega)
         (try rw [show ((0:Int)).toNat=0 from rfl] at hx908_0)
         (try rw [Addr.add_zero'] at hx908_0)
         replace p908:=ezT p908
         replace q908:=ezT q908
         refine jrc (n:=21) (S:=fun w'=>w'.cell? ⟨gb896,0,none⟩=some (.slice Ao8 t888.length co8)∧w'.cell? ad905=some (.int .i64 (rd t902 0))∧w'.cell? ad905=some (.int .i64 (rd t902 0))) (ds:=[]) #[false,false,false,false,false,false,false,false,false,false,false,false,false,false,false,false,false,false,false,false,false] (by kernel_rfl) rfl rfl ⟨(jH BK896.out 0).trans rfl,hx907_0,hx908_0⟩ (fun hHeld=>?_);refine jpb ji.tab11 ji.bits11 (fun HT_ HW_=>?_)
         generalize w70.drew=w71 at HO_4 HO_897000 HO904 BK896 HB hx907_0 hx908_0 hHeld ⊢
         refine pq (i:=0) (N:=some 77) #[true,false,false,false,false,false,false,false,false,false,false,false,false,false,false,false,false,false,false,false,false] ?_
         refine pq (i:=1) (N:=some 78) #[true,true,false,false,false,false,false,false,false,false,false,false,false,false,false,false,false,false,false,false,false] ?_
         refine pq (i:=2) (N:=some 79) #[true,true,true,false,false,false,false,false,false,false,false,false,false,false,false,false,false,false,false,false,false] ?_
         refine pq (i:=3) (N:=some 80) #[true,true,true,true,false,false,false,false,false,false,false,false,false,false,false,false,false,false,false,false,false] ?_
         refine pq (i:=4) (N:=some 81) #[true,true,true,true,true,false,false,false,false,false,false,false,false,false,false,false,false,false,false,false,false] ?_
         refine pq (i:=5) (N:=some 82) #[true,true,true,true,true,true,false,false,false,false,false,false,false,false,false,false,false,false,false,false,false] ?_
         refine pq (i:=6) (N:=some 83) #[true,true,true,true,true,true,true,false,false,false,false,false,false,false,false,false,false,false,false,false,false] ?_
         refine jXb (i:=7) (N:=some 84) (v:=?_) (a':=?_) #[true,true,true,true,true,true,true,true,false,false,false,false,false,false,false,false,false,false,false,false,false] rfl rfl (jIa HT_.out HW_.out (by kernel_rfl)) (fun _ _ _ h=>h) (Or.inl ⟨by rfl,?_⟩) hHeld ?_ ?_
         rotate_left
         ·rintro w' ⟨s0,s1,s2⟩
          go_simp
          with_reducible rfl
         rotate_left
         ·exact sa
         refine pq (i:=8) (N:=some 85) #[true,true,true,true,true,true,true,true,true,false,false,false,false,false,false,false,false,false,false,false,false] ?_
         refine pq (i:=9) (N:=some 86) #[true,true,true,true,true,true,true,true,true,true,false,false,false,false,false,false,false,false,false,false,false] ?_
         refine pq (i:=10) (N:=some 87) #[true,true,true,true,true,true,true,true,true,true,true,false,false,false,false,false,false,false,false,false,false] ?_
         refine pq (i:=12) (N:=some 89) #[true,true,true,true,true,true,true,true,true,true,true,false,true,false,false,false,false,false,false,false,false] ?_
         refine pq (i:=13) (N:=some 90) #[true,true,true,true,true,true,true,true,true,true,true,false,true,true,false,false,false,false,false,false,false] ?_
         refine pq (i:=14) (N:=some 91) #[true,true,true,true,true,true,true,true,true,true,true,false,true,true,true,false,false,false,false,false,false] ?_
         refine pq (i:=17) (N:=some 94) #[true,true,true,true,true,true,true,true,true,true,true,false,true,true,true,false,false,true,false,false,false] ?_
         refine jXb (i:=11) (N:=some 88) (v:=?_) (a':=?_) #[true,true,true,true,true,true,true,true,true,true,true,true,true,true,true,false,false,true,false,false,false] rfl rfl (jIa HT_.out HW_.out (by kernel_rfl)) (fun _ _ _ h=>h) (Or.inl ⟨by rfl,?_⟩) hHeld ?_ ?_
         rotate_left
         ·rintro w' ⟨s0,s1,s2⟩
          go_simp
          with_reducible rfl
         rotate_left
         ·exact sa
         refine jXb (i:=15) (N:=some 92) (v:=?_) (a':=?_) #[true,true,true,true,true,true,true,true,true,true,true,true,true,true,true,true,false,true,false,false,false] rfl rfl (jIa HT_.out HW_.out (by kernel_rfl)) (fun _ _ _ h=>h) (Or.inl ⟨by rfl,?_⟩) hHeld ?_ ?_
         rotate_left
         ·rintro w' ⟨s0,s1,s2⟩
          go_simp
          with_reducible rfl
         rotate_left
         ·exact sa
         refine one_ (i:=16) (N:=some 93) #[true,true,true,true,true,true,true,true,true,true,true,true,true,true,true,true,true,true,false,false,false] rfl rfl (jNb HT_.out (by kernel_rfl)) (by decide) (fun K hK=>?_)
         refine jSc Try.func25 (by kernel_rfl) rfl #[.agg #[.slice Ao8 t888.length co8], .slice Ao10 t891.length co10, .int .i64 (rd t902 0)] (by rfl) rfl rfl (aq) ?_
         with_reducible refine (jDc.calls kj4 _ _ t888 _ _ t891 (rd t902 0) t909 _ ?side1 ?side2 ?side3 ?side4 A64.out).mono ?_
         (case side1=>exact cq (Kd.jm HO_897000.out).2.2)
         (case side2=>exact (Kd.jm HO_897000.out).2.1)
         (case side3=>exact cq (Kd.jra HO_4.out).2.2)
         (case side4=>exact (Kd.jra HO_4.out).2.1)
         rintro e w72 ⟨v910,rfl,ho0,hb⟩
         have HS1_:=(hb.cell (World.block_lt_of_cell? _ _ (hHeld.2.1))).trans (hHeld.2.1)
         have HS2_:=(hb.cell (World.block_lt_of_cell? _ _ (hHeld.2.2))).trans (hHeld.2.2)
         refine ⟨_,rfl,?_⟩
         have HO911:=am (Kd.jW (Kd.jfc ho0 (Kd.R_lt (rq HO904.out))) (jP (Y12)))
         replace HO_4:=am (Kd.jab (Y37) hb)
         replace HO_897000:=am (Kd.jU (rq HO_897000.out) hb)
         replace HO904:=am (Kd.jRb (rq HO904.out) (Kd.jgc ho0) hb)
         replace BK896:=am (jh (g:=gb896) (o:=.cells #[.slice Ao8 t888.length co8] 25 (0,0)) (kq BK896.out) hb)
         replace HB:=am (jd (Y12) hb)
         (try clear hb)
         (try clear hb2)
         (try clear hk)
         (try clear hi)
         (try clear ho0)
         obtain ⟨Ao73,co73,eo73⟩:=Kd.jba HO911.out
         (first | subst eo73 |(injection eo73 with f1_ f2_ f3_;have f4_:=f1_.symm;have f5_:=f3_.symm;clear f1_ f2_ f3_;subst f4_;subst f5_))
         refine hK.out _ _ ⟨(jH BK896.out 0).trans rfl,HS1_,HS2_⟩ (fun hHeld=>?_)
         clear hK K
         refine jmc (a':=?_) ?_ ?_
         rotate_left
         ·show Act.put _ (some 93) _=_
          simp only [Act.put,List.setIfInBounds_toArray,List.set_cons_zero,List.set_cons_succ,jkb,job]
          rfl
         refine one_ (i:=18) (N:=some 95) #[true,true,true,true,true,true,true,true,true,true,true,true,true,true,true,true,true,true,true,false,false] rfl rfl (jNb HT_.out (by kernel_rfl)) (by decide) (fun K hK=>?_)
         refine jSc Try.func24 (by kernel_rfl) rfl #[.slice Ao73 t909.length co73, .int .i64 t897] (by rfl) rfl rfl (aq) ?_
         with_reducible refine (jKb.calls kj4 _ _ t909 t897 t912 _ ?side1 ?side2 A65.out).mono ?_
         (case side1=>exact cq (Kd.jm HO911.out).2.2)
         (case side2=>exact (Kd.jm HO911.out).2.1)
         rintro e w' ⟨rfl,⟨nd,rfl⟩⟩
         refine ⟨_,rfl,?_⟩
         refine hK.out _ _ ⟨(jH BK896.out 0).trans rfl,hHeld.2.1,hHeld.2.2⟩ (fun hHeld=>?_)
         clear hK K
         refine jmc (a':=?_) ?_ ?_
         rotate_left
         ·show Act.put _ (some 95) _=_
          simp only [Act.put,List.setIfInBounds_toArray,List.set_cons_zero,List.set_cons_succ,jkb,job]
          rfl
         refine pq (i:=19) (N:=some 96) #[true,true,true,true,true,true,true,true,true,true,true,true,true,true,true,true,true,true,true,true,false] ?_
         refine pq (i:=20) (N:=some 2) #[true,true,true,true,true,true,true,true,true,true,true,true,true,true,true,true,true,true,true,true,true] ?_
         refine jQc (jZb HT_.out (by kernel_rfl)) ?_
         try go_wp2
         go_ret
         exact ⟨Y0,Y12⟩
      ·rw [if_neg c48] at H
       exact absurd H (by simp)
def ji.Pure : Prop := ∀ (l0 : List Int), l0.length ≤ maxLen → l0.length * 1 ≤ 140737488351232 → (∀ x ∈ l0, (Lit.int .u8 x).wf = true) → ∃ k, ji.f k l0 = some true
theorem ji.walk (P : ji.Pure) (a0 : Option Addr) (len0 cap0 : Nat) (z0 : List Int) (w : World) (w0 : (a0 = none ∧ len0 = 0 ∧ cap0 = 0 ∧ z0 = []) ∨ ∃ x, a0 = some x ∧ len0 ≤ cap0 ∧ cap0 ≤ maxLen ∧ z0.length = cap0 ∧ (∀ i, i < z0.length → w.cell? (x.add i) = some (.int .u8 (z0.getD i 0))) ∧ ∀ n ∈ z0, (Lit.int .u8 n).wf = true) (y0 : len0 * 1 ≤ 140737488351232) :
  Calls Try.prog 6 #[.slice a0 len0 cap0] w fun e w'=>e=.returned (.bool true)∧Below w.heap.size w w':=by
 obtain ⟨l0,rfl,hr0,hm0,hw0,hc0⟩:=jJb.ofRowC w0
 obtain ⟨k,h⟩:=P l0 hm0 y0 hw0
 refine (ji.calls k _ _ l0 true w (Kd.C_of_reads (d:=(0:Int)) (h1:=fun _=>rfl) hr0) hc0 rfl h).mono ?_
 rintro e w' ⟨rfl,hd⟩
 exact ⟨rfl,hd⟩
end Go.Proofs.Ytkedkinojeoeaaa.P
end
