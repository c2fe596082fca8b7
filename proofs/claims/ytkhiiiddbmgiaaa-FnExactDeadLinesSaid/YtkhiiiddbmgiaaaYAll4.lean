/- One part of the proofs on this program: functions of the program as plain functions, that the code comes to them, and facts on them. -/
import Derived.Test.YtkhiiiddbmgiaaaYAll1
import Derived.Test.YtkhiiiddbmgiaaaYAll3
import Derived.Test.YtkhiiiddbmgiaaaYWAuto
section
namespace Go.Proofs.Ytkhiiiddbmgiaaa.P
open Go.RowKit Go.Proofs.YtkhiiiddbmgiaaaW.PrintWords Go.Proofs.YtkhiiiddbmgiaaaW.PrintLast Go.Proofs.YtkhiiiddbmgiaaaW.PrintMore
attribute [local go_sem] jU jS jia jha jM jL jT jR jc
set_option linter.unusedVariables false
set_option linter.unusedSimpArgs false
mutual
def jl.l0 : Nat → List (S52) → List Int → Int → List (S78) → Option (List Int)
 | 0,_,_,_,_=>none
 | k+1,x1,x5,x6,x500000=>if x6<(x1.length:Int) then ((jQ.f k x1 x6).bind fun t504=>(if t504=true then (jl.j1 k x1 x5 x6 true x500000) else ((jC.f k x500000 x1 x6).bind fun t505=>(jl.j1 k x1 x5 x6 t505 x500000)))) else (some x5)
def jl.j1 : Nat → List (S52) → List Int → Int → Bool → List (S78) → Option (List Int)
 | 0,_,_,_,_,_=>none
 | k+1,x1,x5,x6,x7,x500000=>(jua.f k x1 x6).bind fun t506=>(if (t506.length:Int) > 0 then (if 0<(t506.length:Int) then (if x7=true then (jl.j2 k x1 x5 x6 true x500000) else ((jza.f k x5 (rd t506 0)).bind fun t510=>(if t510=true then (jl.j2 k x1 x5 x6 true x500000) else (if 0≤(rd t506 0) then (if (rd t506 0)<(x1.length:Int) then (if ((jb x1 (rd t506 0)).f1)=12 then (jl.j2 k x1 x5 x6 (((jb x1 (rd t506 0)).f2) == 0) x500000) else (jl.j2 k x1 x5 x6 false x500000)) else (none)) else (none))))) else (none)) else (jl.j2 k x1 x5 x6 x7 x500000))
def jl.j2 : Nat → List (S52) → List Int → Int → Bool → List (S78) → Option (List Int)
 | 0,_,_,_,_,_=>none
 | k+1,x1,x5,x6,x7,x500000=>if x7=true then (if x5.length<17592186044416 then (jl.l0 k x1 (x5 ++ [x6]) (wrap64 (x6+1)) x500000) else (none)) else (jl.l0 k x1 x5 (wrap64 (x6+1)) x500000)
end
def jl.f (k : Nat) (l0_0 : List (S78)) (l1 : List (S52)) : Option (List Int) := (jO.f k l0_0 l1).bind fun t500 => (if t500 = true then (jl.l0 k l1 (([] : List Int)) 0 l0_0) else (some ([] : List Int)))
set_option maxHeartbeats 8000000 in
set_option maxRecDepth 100000 in
theorem jl.calls (k : Nat) (A0_0 : Option Addr) (c0_0 : Nat) (l0_0 : List (S78)) (A1 : Option Addr) (c1 : Nat) (l1 : List (S52)) (r : List Int) (w : World) (hr0_0 : Kd.C k78 w A0_0 l0_0.length l0_0) (hc0_0 : l0_0.length ≤ c0_0) (hr1 : Kd.C k52 w A1 l1.length l1) (hc1 : l1.length ≤ c1) (h : jl.f k l0_0 l1 = some r) :
  Calls Try.prog 20 #[.agg #[.slice A0_0 l0_0.length c0_0], .slice A1 l1.length c1] w fun e w'=>∃ v0_:Value,e=.returned (v0_)∧Kd.R (Kd.int .i64) 3 w' w.heap.size (fun _=>True) v0_ r∧Below w.heap.size w w':=by
 have hu32:=Try.underlying32
 have HR0_0:=am hr0_0
 have HC0_0:=am hc0_0
 clear hr0_0 hc0_0
 have HR1:=am hr1
 have HC1:=am hc1
 clear hr1 hc1
 have HB:=am (Below.refl w.heap.size w)
 have H:((jO.f k l0_0 l1).bind fun t500=>(if t500=true then (jl.l0 k l1 (([]:List Int)) 0 l0_0) else (some ([]:List Int))))=some r:=h
 clear h
 replace H:=bzS H
 obtain ⟨t500,A30,H⟩:=H
 replace H:(if t500=true then (jl.l0 k l1 (([]:List Int)) 0 l0_0) else (some ([]:List Int)))=some r:=H
 have A3:=am A30
 clear A30
 by_cases c4:t500=true
 ·subst c4
  have H1:(jl.l0 k l1 (([]:List Int)) 0 l0_0)=some r:=by rw [if_pos rfl] at H;exact H
  clear H
  have H:=H1
  clear H1
  obtain ⟨y501,hy501⟩:∃ y_:List Int,y_=(([]:List Int)):=⟨_,rfl⟩
  replace H:(jl.l0 k l1 y501 0 l0_0)=some r:=by first |(rw [hy501];with_reducible exact H) |(have H2_:=(Option.bind_some _ _).symm.trans H;rw [hy501];with_reducible exact H2_) |(have H2_:=(Option.bind_some _ _).symm.trans H;with_reducible exact H2_) | with_reducible exact H |(rw [hy501];exact H) | exact H
  have Ny501:=am hy501
  clear hy501
  have H':=am H
  clear H
  go_enter Try.func20,Try.ntmps20
  go_wp2_with (first |((with_reducible refine jP (N:=2) rfl ?_);refine bE (N:=2) (cs:=#[.slice A0_0 l0_0.length c0_0]) (t:=32) ?_;intro gb499 hg w5 hbox hb;have BK499:=am (hbox);have GW499:=am ((Y1:w.heap.size≤gb499));have GE499:=am ((Y1:w.heap.size≤gb499));replace HB:=am (jd (bq) hb);clear hb hbox hg;have hcz6_0:=bc0 BK499.out;have hfz6_0:=ja BK499.out 0) |((with_reducible refine je (f:=29) rfl ?_);refine gL (some 12) Try.func29 #[.agg #[.slice A0_0 l0_0.length c0_0], .slice A1 l1.length c1] ?_;(with_reducible refine (jO.calls k _ _ l0_0 _ _ l1 true _ ?side1 ?side2 ?side3 ?side4 A3.out).mono ?_);(case side1=>exact cq (Kd.jF HR0_0.out HB.out));(case side2=>exact HC0_0.out);(case side3=>exact cq (Kd.jF HR1.out HB.out));(case side4=>exact HC1.out);rintro e w7 ⟨rfl,hb⟩;refine ⟨_,rfl,?_⟩;replace BK499:=am (jm (g:=gb499) (o:=.cells #[.slice A0_0 l0_0.length c0_0] 32 (0,0)) (kq BK499.out) hb);replace HB:=am (jd (Y5) hb);(try clear hb);(try clear hb2);(try clear hk);(try clear hi)) |((with_reducible refine jP (N:=14) rfl ?_);refine Kd.R_lit (Kd.int .i64) _ 3 ?hg (N:=14) ?hd (xs:=([]:List Int)) (inner:=[]) (ok:=fun _=>True) (okp:=fun _=>True) ?hr ?hp (fun _ hk=>hk) trivial (Below.refl _ _) (Nat.le_refl _) (by simp) ?_;(case hd=>rfl);(case hg=>rfl);(case hr=>exact Y4);(case hp=>exact (Reps.none _ _));intro v502 w8 ho9 hb hg_ hnew_;clear hg_ hnew_;(first | rw [← Ny501.out] at ho9 |(simp only [Int.reduceToNat] at ho9;rw [← Ny501.out] at ho9));have HO503:=am (Kd.jRa ho9 (jH (Y5)));replace BK499:=am (jm (g:=gb499) (o:=.cells #[.slice A0_0 l0_0.length c0_0] 32 (0,0)) (kq BK499.out) hb);replace HB:=am (jd (Y5) hb);clear hb ho9))
  go_loopg [5,6] k (fun kq v5 v6 w'=>∃ (x5_1:List Int) (x6_1:Int),v6=.int .i64 x6_1∧jk (jl.l0 kq l1 x5_1 x6_1 l0_0=some r)∧jk (kq≤k)∧jk (Kd.R (Kd.int .i64) 3 w' w.heap.size (fun _=>True) v5 x5_1)∧jk (w'.heap[gb499]?=some (.cells #[(.slice A0_0 l0_0.length c0_0)] 32 (0,0)))∧jk (Below w.heap.size w w'))
  case atStart=>exact ⟨(y501),(0),(sq),H',⟨Nat.le_refl _⟩,⟨rq HO503.out⟩,⟨kq BK499.out⟩,⟨Y5⟩⟩
  case round =>
   clear H'
   try clear c1
   try clear c2
   try clear p2
   try clear c4
   try clear hcz6_0
   try clear hfz6_0
   obtain ⟨x5_1,x6_1,rfl,HA,HK1,HO_5,BK499,HB⟩:=hrel
   cases gk with
   | zero=>exact absurd HA.out (by simp [jl.l0])
   | succ k1 =>
    have H:=HA.out
    clear HA
    simp only [jl.l0] at H
    by_cases c10:x6_1<(l1.length:Int)
    ·rw [if_pos c10] at H
     have c10b0:decide (x6_1<(l1.length:Int))=true:=dzT c10
     clear c10
     have HC11:=am H
     clear H
     go_upto_region 7 with (fail)
     go_cut [7] (fun v7 wc=>∃ (kq:Nat) (x7_10:Bool),v7=.bool x7_10∧jk (jl.j1 kq l1 x5_1 x6_1 x7_10 l0_0=some r)∧jk (kq≤k1)∧jk (Kd.R (Kd.int .i64) 3 wc w.heap.size (fun _=>True) u5 x5_1)∧jk (wc.heap[gb499]?=some (.cells #[(.slice A0_0 l0_0.length c0_0)] 32 (0,0)))∧jk (Below w.heap.size w wc))
     case first =>
      have H:=HC11.out
      clear HC11
      replace H:=bzS H
      obtain ⟨t504,A120,H⟩:=H
      replace H:(if t504=true then (jl.j1 k1 l1 x5_1 x6_1 true l0_0) else ((jC.f k1 l0_0 l1 x6_1).bind fun t505=>(jl.j1 k1 l1 x5_1 x6_1 t505 l0_0)))=some r:=H
      have A12:=am A120
      clear A120
      by_cases c13:t504=true
      ·subst c13
       have H1:(jl.j1 k1 l1 x5_1 x6_1 true l0_0)=some r:=by rw [if_pos rfl] at H;exact H
       clear H
       have H:=H1
       clear H1
       have H':=am H
       clear H
       go_wp2_with (first |((with_reducible refine je (f:=30) rfl ?_);refine gL (some 23) Try.func30 #[.slice A1 l1.length c1, .int .i64 x6_1] ?_;(with_reducible refine (jQ.calls k1 _ _ l1 x6_1 true _ ?side1 ?side2 A12.out).mono ?_);(case side1=>exact cq (Kd.jF HR1.out HB.out));(case side2=>exact HC1.out);rintro e w' ⟨rfl,⟨nd,rfl⟩⟩;refine ⟨_,rfl,?_⟩))
       all_goals (try (exfalso; first | exact absurd (ozD c21b1) (by assumption) | exact absurd (by assumption) (of_decide_eq_false c21b1)))   -- cannot be here
       go_meet
       case rel=>exact ⟨_,(true),(sq),H',⟨by have:=HK1.out;first | omega | exact Nat.le_refl _⟩,⟨rq HO_5.out⟩,⟨kq BK499.out⟩,⟨Y5⟩⟩
      ·replace c13:=Bool.eq_false_iff.mpr c13
       subst c13
       have H1:((jC.f k1 l0_0 l1 x6_1).bind fun t505=>(jl.j1 k1 l1 x5_1 x6_1 t505 l0_0))=some r:=by rw [if_neg (show ¬ (false=true) by decide)] at H;exact H
       clear H
       have H:=H1
       clear H1
       replace H:=bzS H
       obtain ⟨t505,A140,H⟩:=H
       replace H:(jl.j1 k1 l1 x5_1 x6_1 t505 l0_0)=some r:=H
       have A14:=am A140
       clear A140
       have H':=am H
       clear H
       go_wp2_with (first |((with_reducible refine je (f:=30) rfl ?_);refine gL (some 23) Try.func30 #[.slice A1 l1.length c1, .int .i64 x6_1] ?_;(with_reducible refine (jQ.calls k1 _ _ l1 x6_1 false _ ?side1 ?side2 A12.out).mono ?_);(case side1=>exact cq (Kd.jF HR1.out HB.out));(case side2=>exact HC1.out);rintro e w' ⟨rfl,⟨nd,rfl⟩⟩;refine ⟨_,rfl,?_⟩;have hcz15_0:=bc0 BK499.out;have hfz15_0:=ja BK499.out 0) |(go_at_call 43;(with_reducible refine (jC.calls k1 _ _ l0_0 _ _ l1 x6_1 t505 _ ?side1 ?side2 ?side3 ?side4 A14.out).mono ?_);(case side1=>repeat (first | exact (Kd.jF HR0_0.out (by repeat (first |(with_reducible first | exact HB.out | apply jv | apply jg | apply jr | refine jw ?_ GE499.out) | exact HB.out))) |(with_reducible refine Kd.C_alloc ?_ _) |(with_reducible refine Kd.C_drewN ?_ _) |(with_reducible refine Kd.C_drew ?_)));(case side2=>exact HC0_0.out);(case side3=>repeat (first | exact (Kd.jF HR1.out (by repeat (first |(with_reducible first | exact HB.out | apply jv | apply jg | apply jr | refine jw ?_ GE499.out) | exact HB.out))) |(with_reducible refine Kd.C_alloc ?_ _) |(with_reducible refine Kd.C_drewN ?_ _) |(with_reducible refine Kd.C_drew ?_)));(case side4=>exact HC1.out);rintro e w16 ⟨rfl,hb⟩;replace HO_5:=am (Kd.jX (rq HO_5.out) hb);replace BK499:=am (jm (g:=gb499) (o:=.cells #[.slice A0_0 l0_0.length c0_0] 32 (0,0)) (kq BK499.out) hb);replace HB:=am (jd (Y5) hb);(try clear hb);(try clear hb2);(try clear hk);(try clear hi)))
       all_goals (try (exfalso; first | exact absurd (ozD c21b1) (by assumption) | exact absurd (by assumption) (of_decide_eq_false c21b1)))   -- cannot be here
       go_meet
       case rel=>exact ⟨_,(t505),(sq),H',⟨by have:=HK1.out;first | omega | exact Nat.le_refl _⟩,⟨rq HO_5.out⟩,⟨kq BK499.out⟩,⟨Y5⟩⟩
     case rest =>
      clear HC11
      try clear c1
      try clear c2
      try clear p2
      try clear c3
      try clear c4
      try clear c10
      try clear c10b0
      try clear c13
      try clear hcz15_0
      try clear hcz6_0
      try clear hfz15_0
      try clear hfz6_0
      try clear p2
      obtain ⟨kq,x7_10,rfl,HA,HJ10,HO_5,BK499,HB⟩:=hcut
      cases kq with
      | zero=>exact absurd HA.out (by simp [jl.j1])
      | succ kj10 =>
       have H:=HA.out
       clear HA
       simp only [jl.j1] at H
       replace H:=bzS H
       obtain ⟨t506,A170,H⟩:=H
       replace H:(if (t506.length:Int) > 0 then (if 0<(t506.length:Int) then (if x7_10=true then (jl.j2 kj10 l1 x5_1 x6_1 true l0_0) else ((jza.f kj10 x5_1 (rd t506 0)).bind fun t510=>(if t510=true then (jl.j2 kj10 l1 x5_1 x6_1 true l0_0) else (if 0≤(rd t506 0) then (if (rd t506 0)<(l1.length:Int) then (if ((jb l1 (rd t506 0)).f1)=12 then (jl.j2 kj10 l1 x5_1 x6_1 (((jb l1 (rd t506 0)).f2) == 0) l0_0) else (jl.j2 kj10 l1 x5_1 x6_1 false l0_0)) else (none)) else (none))))) else (none)) else (jl.j2 kj10 l1 x5_1 x6_1 x7_10 l0_0))=some r:=H
       have A17:=am A170
       clear A170
       have HC18:=am H
       clear H
       go_upto_if 35 with (first |((with_reducible refine je (f:=44) rfl ?_);refine gL (some 32) Try.func44 #[.slice A1 l1.length c1, .int .i64 x6_1] ?_;(with_reducible refine (jua.calls kj10 _ _ l1 x6_1 t506 _ ?side1 ?side2 A17.out).mono ?_);(case side1=>exact cq (Kd.jF HR1.out HB.out));(case side2=>exact HC1.out);rintro e w19 ⟨v507,rfl,ho0,hb⟩;refine ⟨_,rfl,?_⟩;have HO508:=am (Kd.jRa (Kd.jlc ho0 (Kd.R_lt (rq HO_5.out))) (jH (Y5)));replace HO_5:=am (Kd.jCb (rq HO_5.out) (Kd.jmc ho0) hb);replace BK499:=am (jm (g:=gb499) (o:=.cells #[.slice A0_0 l0_0.length c0_0] 32 (0,0)) (kq BK499.out) hb);replace HB:=am (jd (Y5) hb);(try clear hb);(try clear hb2);(try clear hk);(try clear hi);(try clear ho0);obtain ⟨Ao20,co20,eo20⟩:=Kd.jGa HO508.out;subst eo20))
       (try simp only [Act.put,List.setIfInBounds_toArray,List.set_cons_zero,List.set_cons_succ])
       go_cut [7] (fun v7 wc=>∃ (kq:Nat) (x7_17:Bool),v7=.bool x7_17∧jk (jl.j2 kq l1 x5_1 x6_1 x7_17 l0_0=some r)∧jk (kq≤kj10)∧jk (Kd.R (Kd.int .i64) 3 wc w.heap.size (fun _=>True) u5 x5_1)∧jk (wc.heap[gb499]?=some (.cells #[(.slice A0_0 l0_0.length c0_0)] 32 (0,0)))∧jk (Below w.heap.size w wc))
       case first =>
        have H:=HC18.out
        clear HC18
        by_cases c21:(t506.length:Int) > 0
        ·rw [if_pos c21] at H
         have c21b0:decide (0<(t506.length:Int))=true:=dzT c21
         have c21b1:decide (0<t506.length)=true:=dzT (by omega)
         clear c21
         (first | rw [c21b0] |(simp only [jub,jvb];rw [c21b0]) | skip)
         by_cases c22:0<(t506.length:Int)
         ·rw [if_pos c22] at H
          have c22b0:decide (0<(t506.length:Int))=true:=dzT c22
          have c22b1:decide (0<t506.length)=true:=dzT (by omega)
          clear c22
          by_cases c23:x7_10=true
          ·subst c23
           have H1:(jl.j2 kj10 l1 x5_1 x6_1 true l0_0)=some r:=by rw [if_pos rfl] at H;exact H
           clear H
           have H:=H1
           clear H1
           have H':=am H
           clear H
           have p509:0≤(0:Int):=(by omega)
           have q509:0<(t506.length:Int):=ozD (uq)
           obtain ⟨ad509,e509,hx509_0⟩:=Kd.jcb (Kd.jA HO508.out).2.2 0 p509 q509
           cases e509
           have qi509:(0<t506.length)=True:=ezT (by omega)
           (try rw [show ((0:Int)).toNat=0 from rfl] at hx509_0)
           (try rw [Addr.add_zero'] at hx509_0)
           replace p509:=ezT p509
           replace q509:=ezT q509
           go_wp2
           all_goals (try (exfalso; first | exact absurd (ozD c21b1) (by assumption) | exact absurd (by assumption) (of_decide_eq_false c21b1)))   -- cannot be here
           go_meet
           case rel=>exact ⟨_,(true),(sq),H',⟨by have:=HK1.out;have:=HJ10.out;first | omega | exact Nat.le_refl _⟩,⟨by (with_reducible repeat (first | apply Kd.jzb | apply Kd.jyb | apply Kd.jsb));exact Kd.jSa HO_5.out (fun _ hk=>trivial)⟩,⟨kq BK499.out⟩,⟨Y5⟩⟩
          ·replace c23:=Bool.eq_false_iff.mpr c23
           subst c23
           have H1:((jza.f kj10 x5_1 (rd t506 0)).bind fun t510=>(if t510=true then (jl.j2 kj10 l1 x5_1 x6_1 true l0_0) else (if 0≤(rd t506 0) then (if (rd t506 0)<(l1.length:Int) then (if ((jb l1 (rd t506 0)).f1)=12 then (jl.j2 kj10 l1 x5_1 x6_1 (((jb l1 (rd t506 0)).f2) == 0) l0_0) else (jl.j2 kj10 l1 x5_1 x6_1 false l0_0)) else (none)) else (none))))=some r:=by rw [if_neg (show ¬ (false=true) by decide)] at H;exact H
           clear H
           have H:=H1
           clear H1
           replace H:=bzS H
           obtain ⟨t510,A240,H⟩:=H
           replace H:(if t510=true then (jl.j2 kj10 l1 x5_1 x6_1 true l0_0) else (if 0≤(rd t506 0) then (if (rd t506 0)<(l1.length:Int) then (if ((jb l1 (rd t506 0)).f1)=12 then (jl.j2 kj10 l1 x5_1 x6_1 (((jb l1 (rd t506 0)).f2) == 0) l0_0) else (jl.j2 kj10 l1 x5_1 x6_1 false l0_0)) else (none)) else (none)))=some r:=H
           have A24:=am A240
           clear A240
           by_cases c25:t510=true
           ·subst c25
            have H1:(jl.j2 kj10 l1 x5_1 x6_1 true l0_0)=some r:=by rw [if_pos rfl] at H;exact H
            clear H
            have H:=H1
            clear H1
            have H':=am H
            clear H
            have p509:0≤(0:Int):=(by omega)
            have q509:0<(t506.length:Int):=ozD (uq)
            obtain ⟨ad509,e509,hx509_0⟩:=Kd.jcb (Kd.jA HO508.out).2.2 0 p509 q509
            cases e509
            have qi509:(0<t506.length)=True:=ezT (by omega)
            (try rw [show ((0:Int)).toNat=0 from rfl] at hx509_0)
            (try rw [Addr.add_zero'] at hx509_0)
            replace p509:=ezT p509
            replace q509:=ezT q509
            obtain ⟨Ao26,co26,eo26⟩:=Kd.jGa HO_5.out
            subst eo26
            go_wp2_with (first |(go_at_call 45;(with_reducible refine (jza.calls kj10 _ _ x5_1 (rd t506 0) true _ ?side1 ?side2 A24.out).mono ?_);(case side1=>exact cq (Kd.jA HO_5.out).2.2);(case side2=>exact (Kd.jA HO_5.out).2.1);rintro e w' ⟨rfl,⟨nd,rfl⟩⟩))
            all_goals (try (exfalso; first | exact absurd (ozD c21b1) (by assumption) | exact absurd (by assumption) (of_decide_eq_false c21b1)))   -- cannot be here
            go_meet
            case rel=>exact ⟨_,(true),(sq),H',⟨by have:=HK1.out;have:=HJ10.out;first | omega | exact Nat.le_refl _⟩,⟨by (with_reducible repeat (first | apply Kd.jzb | apply Kd.jyb | apply Kd.jsb));exact Kd.jSa HO_5.out (fun _ hk=>trivial)⟩,⟨kq BK499.out⟩,⟨Y5⟩⟩
           ·replace c25:=Bool.eq_false_iff.mpr c25
            subst c25
            have H1:(if 0≤(rd t506 0) then (if (rd t506 0)<(l1.length:Int) then (if ((jb l1 (rd t506 0)).f1)=12 then (jl.j2 kj10 l1 x5_1 x6_1 (((jb l1 (rd t506 0)).f2) == 0) l0_0) else (jl.j2 kj10 l1 x5_1 x6_1 false l0_0)) else (none)) else (none))=some r:=by rw [if_neg (show ¬ (false=true) by decide)] at H;exact H
            clear H
            have H:=H1
            clear H1
            by_cases c27:0≤(rd t506 0)
            ·rw [if_pos c27] at H
             have c27b0:decide (0≤(rd t506 0))=true:=dzT c27
             clear c27
             by_cases c28:(rd t506 0)<(l1.length:Int)
             ·rw [if_pos c28] at H
              have c28b0:decide ((rd t506 0)<(l1.length:Int))=true:=dzT c28
              clear c28
              by_cases c29:((jb l1 (rd t506 0)).f1)=12
              ·rw [if_pos c29] at H
               have c29b0:(((jb l1 (rd t506 0)).f1) == 12)=true:=beq_iff_eq.mpr c29
               have c29b1:(((jb l1 (rd t506 0)).f1) != 12)=false:=bne_eq_false_iff_eq.mpr c29
               clear c29
               have H':=am H
               clear H
               have p509:0≤(0:Int):=(by omega)
               have q509:0<(t506.length:Int):=ozD (uq)
               obtain ⟨ad509,e509,hx509_0⟩:=Kd.jcb (Kd.jA HO508.out).2.2 0 p509 q509
               cases e509
               have qi509:(0<t506.length)=True:=ezT (by omega)
               (try rw [show ((0:Int)).toNat=0 from rfl] at hx509_0)
               (try rw [Addr.add_zero'] at hx509_0)
               replace p509:=ezT p509
               replace q509:=ezT q509
               obtain ⟨Ao30,co30,eo30⟩:=Kd.jGa HO_5.out
               subst eo30
               go_wp2_with (first |(go_at_call 45;(with_reducible refine (jza.calls kj10 _ _ x5_1 (rd t506 0) false _ ?side1 ?side2 A24.out).mono ?_);(case side1=>exact cq (Kd.jA HO_5.out).2.2);(case side2=>exact (Kd.jA HO_5.out).2.1);rintro e w' ⟨rfl,⟨nd,rfl⟩⟩;have p511:0≤((rd t506 0):Int):=ozD (uq);have q511:(rd t506 0)<(l1.length:Int):=ozD (uq);obtain ⟨ad511,e511,hx511_0,hx511_1,hx511_2,hx511_3⟩:=jba HR1.out (rd t506 0) p511 q511;cases e511;replace hx511_0:=cb HB.out hx511_0;replace hx511_1:=cb HB.out hx511_1;replace hx511_2:=cb HB.out hx511_2;replace hx511_3:=cb HB.out hx511_3;replace p511:=ezT p511;replace q511:=ezT q511;have p512:0≤((rd t506 0):Int):=ozD (uq);have q512:(rd t506 0)<(l1.length:Int):=ozD (uq);obtain ⟨ad512,e512,hx512_0,hx512_1,hx512_2,hx512_3⟩:=jba HR1.out (rd t506 0) p512 q512;obtain rfl:ad511=ad512:=(by injection e512);replace hx512_0:=cb HB.out hx512_0;replace hx512_1:=cb HB.out hx512_1;replace hx512_2:=cb HB.out hx512_2;replace hx512_3:=cb HB.out hx512_3;replace p512:=ezT p512;replace q512:=ezT q512))
               all_goals (try (exfalso; first | exact absurd (ozD c21b1) (by assumption) | exact absurd (by assumption) (of_decide_eq_false c21b1)))   -- cannot be here
               go_meet
               case rel=>exact ⟨_,((((jb l1 (rd t506 0)).f2) == 0)),(sq),H',⟨by have:=HK1.out;have:=HJ10.out;first | omega | exact Nat.le_refl _⟩,⟨by (with_reducible repeat (first | apply Kd.jzb | apply Kd.jyb | apply Kd.jsb));exact Kd.jSa HO_5.out (fun _ hk=>trivial)⟩,⟨kq BK499.out⟩,⟨Y5⟩⟩
              ·rw [if_neg c29] at H
               have c29b0:(((jb l1 (rd t506 0)).f1) == 12)=false:=beq_eq_false_iff_ne.mpr c29
               have c29b1:(((jb l1 (rd t506 0)).f1) != 12)=true:=bne_iff_ne.mpr c29
               have H':=am H
               clear H
               have p509:0≤(0:Int):=(by omega)
               have q509:0<(t506.length:Int):=ozD (uq)
               obtain ⟨ad509,e509,hx509_0⟩:=Kd.jcb (Kd.jA HO508.out).2.2 0 p509 q509
               cases e509
               have qi509:(0<t506.length)=True:=ezT (by omega)
               (try rw [show ((0:Int)).toNat=0 from rfl] at hx509_0)
               (try rw [Addr.add_zero'] at hx509_0)
               replace p509:=ezT p509
               replace q509:=ezT q509
               obtain ⟨Ao31,co31,eo31⟩:=Kd.jGa HO_5.out
               subst eo31
               go_wp2_with (first |(go_at_call 45;(with_reducible refine (jza.calls kj10 _ _ x5_1 (rd t506 0) false _ ?side1 ?side2 A24.out).mono ?_);(case side1=>exact cq (Kd.jA HO_5.out).2.2);(case side2=>exact (Kd.jA HO_5.out).2.1);rintro e w' ⟨rfl,⟨nd,rfl⟩⟩;have p511:0≤((rd t506 0):Int):=ozD (uq);have q511:(rd t506 0)<(l1.length:Int):=ozD (uq);obtain ⟨ad511,e511,hx511_0,hx511_1,hx511_2,hx511_3⟩:=jba HR1.out (rd t506 0) p511 q511;cases e511;replace hx511_0:=cb HB.out hx511_0;replace hx511_1:=cb HB.out hx511_1;replace hx511_2:=cb HB.out hx511_2;replace hx511_3:=cb HB.out hx511_3;replace p511:=ezT p511;replace q511:=ezT q511))
               all_goals (try (exfalso; first | exact absurd (ozD c21b1) (by assumption) | exact absurd (by assumption) (of_decide_eq_false c21b1)))   -- cannot be here
               go_meet
               case rel=>exact ⟨_,(false),(sq),H',⟨by have:=HK1.out;have:=HJ10.out;first | omega | exact Nat.le_refl _⟩,⟨by (with_reducible repeat (first | apply Kd.jzb | apply Kd.jyb | apply Kd.jsb));exact Kd.jSa HO_5.out (fun _ hk=>trivial)⟩,⟨kq BK499.out⟩,⟨Y5⟩⟩
             ·rw [if_neg c28] at H
              exact absurd H (by simp)
            ·rw [if_neg c27] at H
             exact absurd H (by simp)
         ·rw [if_neg c22] at H
          exact absurd H (by simp)
        ·rw [if_neg c21] at H
         have c21b0:decide (0<(t506.length:Int))=false:=dzF c21
         have c21b1:decide (0<t506.length)=false:=dzF (by omega)
         clear c21
         (first | rw [c21b0] |(simp only [jub,jvb];rw [c21b0]) | skip)
         have H':=am H
         clear H
         go_wp2
         all_goals (try (exfalso; first | exact absurd (ozD c21b1) (by assumption) | exact absurd (by assumption) (of_decide_eq_false c21b1)))   -- cannot be here
         go_meet
         case rel=>exact ⟨_,(x7_10),(sq),H',⟨by have:=HK1.out;have:=HJ10.out;first | omega | exact Nat.le_refl _⟩,⟨by (with_reducible repeat (first | apply Kd.jzb | apply Kd.jyb | apply Kd.jsb));exact Kd.jSa HO_5.out (fun _ hk=>trivial)⟩,⟨kq BK499.out⟩,⟨Y5⟩⟩
       case rest =>
        clear HC18
        try clear c1
        try clear c2
        try clear p2
        try clear c3
        try clear c4
        try clear p5
        try clear q5
        try clear hx5
        try clear qi5
        try clear c10
        try clear c10b0
        try clear c13
        try clear c20
        try clear c21
        try clear c21b0
        try clear c21b1
        try clear c22
        try clear c22b0
        try clear c22b1
        try clear c23
        try clear c25
        try clear c27
        try clear c27b0
        try clear c28
        try clear c28b0
        try clear c29
        try clear c29b0
        try clear c29b1
        try clear c30
        try clear hcz15_0
        try clear hcz6_0
        try clear hfz15_0
        try clear hfz6_0
        try clear hx509_0
        try clear hx511_0
        try clear hx511_1
        try clear hx511_2
        try clear hx511_3
        try clear hx512_0
        try clear hx512_1
        try clear hx512_2
        try clear hx512_3
        try clear p2
        try clear p509
        try clear p511
        try clear p512
        try clear q509
        try clear q511
        try clear q512
        obtain ⟨kq,x7_17,rfl,HA,HJ17,HO_5,BK499,HB⟩:=hcut
        cases kq with
        | zero=>exact absurd HA.out (by simp [jl.j2])
        | succ kj17 =>
         have H:=HA.out
         clear HA
         simp only [jl.j2] at H
         by_cases c32:x7_17=true
         ·subst c32
          have H1:(if x5_1.length<17592186044416 then (jl.l0 kj17 l1 (x5_1 ++ [x6_1]) (wrap64 (x6_1+1)) l0_0) else (none))=some r:=by rw [if_pos rfl] at H;exact H
          clear H
          have H:=H1
          clear H1
          by_cases c33:x5_1.length<17592186044416
          ·rw [if_pos c33] at H
           have LMc33:=am c33
           clear c33
           obtain ⟨y513,hy513⟩:∃ y_:List Int,y_=(x5_1 ++ [x6_1]):=⟨_,rfl⟩
           replace H:(jl.l0 kj17 l1 y513 (wrap64 (x6_1+1)) l0_0)=some r:=by first |(rw [hy513];with_reducible exact H) |(have H2_:=(Option.bind_some _ _).symm.trans H;rw [hy513];with_reducible exact H2_) |(have H2_:=(Option.bind_some _ _).symm.trans H;with_reducible exact H2_) | with_reducible exact H |(rw [hy513];exact H) | exact H
           have Ny513:=am hy513
           clear hy513
           have H':=am H
           clear H
           go_wp2_with (first |((with_reducible refine jPa (b:=.append) (xs:=#[.tmp 62, .tmp 64]) rfl ?_);at_builtin;refine Kd.job (Kd.int .i64) (w0:=w) w.heap.size rfl (.tmp 62) (.tmp 64) 40 3 (.int .i64 0) 8 rfl Try.underlying40 info3 rfl (by decide) (by omega) u5 x5_1 x6_1 [.int .i64 x6_1] (fun _=>True) (fun _=>False) rfl rfl ?aP (fun _ hk=>hk.elim) ?aF ?aO ?aB ?aS ?aL ?_;(case aP=>exact rfl);(case aB=>exact (Y5));(case aF=>exact (fun _ _=>trivial));(case aO=>exact (rq HO_5.out));(case aS=>exact (jH (Y5)));(case aL=>have:=LMc33.out;omega);intro v514 w34 ho hb hg hat;rw [← Ny513.out] at ho;have n0_:=am (blk_grown (g:=gb499) (o:=.cells #[.slice A0_0 l0_0.length c0_0] 32 (0,0)) (kq BK499.out) hg (Kd.R_ne HO_5.out BK499.out (by decide)));have n1_:=am (hb);have n2_:=am (ho);clear BK499 HB HO_5;have BK499:=n0_;have HB:=n1_;have HO515:=n2_;clear n0_ n1_ n2_ ho hb hg hat))
           go_roundg kj17
           case measure=>have:=HK1.out;have:=HJ10.out;have:=HJ17.out;omega
           case rel=>exact ⟨(y513),(wrap64 (x6_1+1)),(sq),H',⟨by have:=HK1.out;have:=HJ10.out;have:=HJ17.out;omega⟩,⟨rq HO515.out⟩,⟨kq BK499.out⟩,⟨Y5⟩⟩
          ·rw [if_neg c33] at H
           exact absurd H (by simp)
         ·replace c32:=Bool.eq_false_iff.mpr c32
          subst c32
          have H1:(jl.l0 kj17 l1 x5_1 (wrap64 (x6_1+1)) l0_0)=some r:=by rw [if_neg (show ¬ (false=true) by decide)] at H;exact H
          clear H
          have H:=H1
          clear H1
          have H':=am H
          clear H
          go_wp2
          go_roundg kj17
          case measure=>have:=HK1.out;have:=HJ10.out;have:=HJ17.out;omega
          case rel=>exact ⟨(x5_1),(wrap64 (x6_1+1)),(sq),H',⟨by have:=HK1.out;have:=HJ10.out;have:=HJ17.out;omega⟩,⟨rq HO_5.out⟩,⟨kq BK499.out⟩,⟨Y5⟩⟩
    ·rw [if_neg c10] at H
     have c10b0:decide (x6_1<(l1.length:Int))=false:=dzF c10
     clear c10
     obtain rfl:=Option.some.inj H
     go_wp2
     go_ret
     exact ⟨_,Y0,rq HO_5.out,Y5⟩
 ·replace c4:=Bool.eq_false_iff.mpr c4
  subst c4
  have H1:(some ([]:List Int))=some r:=by rw [if_neg (show ¬ (false=true) by decide)] at H;exact H
  clear H
  have H:=H1
  clear H1
  obtain rfl:=Option.some.inj H
  go_enter Try.func20,Try.ntmps20
  go_wp2_with (first |((with_reducible refine jP (N:=2) rfl ?_);refine bE (N:=2) (cs:=#[.slice A0_0 l0_0.length c0_0]) (t:=32) ?_;intro gb499 hg w35 hbox hb;have BK499:=am (hbox);have GW499:=am ((Y1:w.heap.size≤gb499));have GE499:=am ((Y1:w.heap.size≤gb499));replace HB:=am (jd (bq) hb);clear hb hbox hg;have hcz36_0:=bc0 BK499.out;have hfz36_0:=ja BK499.out 0) |((with_reducible refine je (f:=29) rfl ?_);refine gL (some 12) Try.func29 #[.agg #[.slice A0_0 l0_0.length c0_0], .slice A1 l1.length c1] ?_;(with_reducible refine (jO.calls k _ _ l0_0 _ _ l1 false _ ?side1 ?side2 ?side3 ?side4 A3.out).mono ?_);(case side1=>exact cq (Kd.jF HR0_0.out HB.out));(case side2=>exact HC0_0.out);(case side3=>exact cq (Kd.jF HR1.out HB.out));(case side4=>exact HC1.out);rintro e w37 ⟨rfl,hb⟩;refine ⟨_,rfl,?_⟩;replace BK499:=am (jm (g:=gb499) (o:=.cells #[.slice A0_0 l0_0.length c0_0] 32 (0,0)) (kq BK499.out) hb);replace HB:=am (jd (Y5) hb);(try clear hb);(try clear hb2);(try clear hk);(try clear hi)))
  go_ret
  exact ⟨_,Y0,by first | exact Kd.R_nil _ _ _ _ _ | exact Kd.N_nil _ _ _ _ _ | exact Kd.V_nil _ _ _ _ _ | exact Kd.Q_nil _ _ _ _ _ | exact Kd.S_nil _ _ _ _ _,Y5⟩
def jE.f (a0 : Int) (a1 : Int) (a2 : Int) : Option (Bool) := if a0 ≥ a1 then (some (decide (a0 ≤ a2))) else (some false)
set_option maxHeartbeats 8000000 in
set_option maxRecDepth 100000 in
theorem jE.calls (a0 : Int) (a1 : Int) (a2 : Int) (r : Bool) (w : World) (h : jE.f a0 a1 a2 = some r) :
  Calls Try.prog 53 #[.int .i64 a0, .int .i64 a1, .int .i64 a2] w fun e w'=>e=.returned (.bool r)∧jKa w w':=by
 have H:(if a0≥a1 then (some (decide (a0≤a2))) else (some false))=some r:=h
 clear h
 by_cases c4:a0≥a1
 ·rw [if_pos c4] at H
  have c4b0:decide (a1≤a0)=true:=dzT c4
  clear c4
  obtain rfl:=Option.some.inj H
  go_enter Try.func53,Try.ntmps53
  go_wp2
  go_ret
  exact ⟨sq,Y2⟩
 ·rw [if_neg c4] at H
  have c4b0:decide (a1≤a0)=false:=dzF c4
  clear c4
  obtain rfl:=Option.some.inj H
  go_enter Try.func53,Try.ntmps53
  go_wp2
  go_ret
  exact ⟨sq,Y2⟩
def jIa.l0 : Nat → ByteArray → Int → Int → Option (Bool)
 | 0,_,_,_=>none
 | k+1,x0,x5,x6=>if x6<x5 then (if 0≤x6 then (if x6<(x0.size:Int) then (if (bt x0 x6)<97 then (some false) else (if (bt x0 x6) > 122 then (some false) else (jIa.l0 k x0 x5 (wrap64 (x6+1))))) else (none)) else (none)) else ((jE.f (x0.size:Int) 1 6).bind fun t203=>(some t203))
def jIa.f (k : Nat) (a0 : ByteArray) : Option (Bool) := jIa.l0 k a0 (a0.size : Int) 0
set_option maxHeartbeats 8000000 in
set_option maxRecDepth 100000 in
theorem jIa.calls (k : Nat) (a0 : ByteArray) (r : Bool) (w : World) (h : jIa.f k a0 = some r) :
  Calls Try.prog 78 #[.string a0] w fun e w'=>e=.returned (.bool r)∧jKa w w':=by
 have H:(jIa.l0 k a0 (a0.size:Int) 0)=some r:=h
 clear h
 have H':=am H
 clear H
 go_enter Try.func78,Try.ntmps78
 go_wp2
 go_loopg [6] k (fun kq v6 w'=>∃ (x6_1:Int),v6=.int .i64 x6_1∧jk (jIa.l0 kq a0 (a0.size:Int) x6_1=some r)∧jk (kq≤k)∧jKa w w')
 case atStart=>exact ⟨(0),(sq),H',⟨Nat.le_refl _⟩,Y2⟩
 case round =>
  clear H'
  obtain ⟨x6_1,rfl,HA,HK1,⟨m1,rfl⟩⟩:=hrel
  cases gk with
  | zero=>exact absurd HA.out (by simp [jIa.l0])
  | succ k1 =>
   have H:=HA.out
   clear HA
   simp only [jIa.l0] at H
   by_cases c2:x6_1<(a0.size:Int)
   ·rw [if_pos c2] at H
    have c2b0:decide (x6_1<(a0.size:Int))=true:=dzT c2
    clear c2
    by_cases c3:0≤x6_1
    ·rw [if_pos c3] at H
     have c3b0:decide (0≤x6_1)=true:=dzT c3
     clear c3
     by_cases c4:x6_1<(a0.size:Int)
     ·rw [if_pos c4] at H
      have c4b0:decide (x6_1<(a0.size:Int))=true:=dzT c4
      clear c4
      by_cases c6:(bt a0 x6_1)<97
      ·rw [if_pos c6] at H
       have c6b0:decide ((bt a0 x6_1)<97)=true:=dzT c6
       clear c6
       obtain rfl:=Option.some.inj H
       have p5:0≤(x6_1:Int):=ozD (uq)
       have q5:x6_1<(a0.size:Int):=ozD (uq)
       have hx5:=bt_at a0 x6_1
       replace p5:=ezT p5
       replace q5:=ezT q5
       go_wp2
       go_ret
       exact ⟨sq,Y2⟩
      ·rw [if_neg c6] at H
       have c6b0:decide ((bt a0 x6_1)<97)=false:=dzF c6
       clear c6
       by_cases c8:(bt a0 x6_1) > 122
       ·rw [if_pos c8] at H
        have c8b0:decide (122<(bt a0 x6_1))=true:=dzT c8
        clear c8
        obtain rfl:=Option.some.inj H
        have p5:0≤(x6_1:Int):=ozD (uq)
        have q5:x6_1<(a0.size:Int):=ozD (uq)
        have hx5:=bt_at a0 x6_1
        replace p5:=ezT p5
        replace q5:=ezT q5
        have p7:0≤(x6_1:Int):=ozD (uq)
        have q7:x6_1<(a0.size:Int):=ozD (uq)
        have hx7:=bt_at a0 x6_1
        replace p7:=ezT p7
        replace q7:=ezT q7
        go_wp2
        go_ret
        exact ⟨sq,Y2⟩
       ·rw [if_neg c8] at H
        have c8b0:decide (122<(bt a0 x6_1))=false:=dzF c8
        clear c8
        have H':=am H
        clear H
        have p5:0≤(x6_1:Int):=ozD (uq)
        have q5:x6_1<(a0.size:Int):=ozD (uq)
        have hx5:=bt_at a0 x6_1
        replace p5:=ezT p5
        replace q5:=ezT q5
        have p7:0≤(x6_1:Int):=ozD (uq)
        have q7:x6_1<(a0.size:Int):=ozD (uq)
        have hx7:=bt_at a0 x6_1
        replace p7:=ezT p7
        replace q7:=ezT q7
        go_wp2
        go_roundg k1
        case measure=>have:=HK1.out;omega
        case rel=>exact ⟨(wrap64 (x6_1+1)),(sq),H',⟨by have:=HK1.out;omega⟩,Y2⟩
     ·rw [if_neg c4] at H
      exact absurd H (by simp)
    ·rw [if_neg c3] at H
     exact absurd H (by simp)
   ·rw [if_neg c2] at H
    have c2b0:decide (x6_1<(a0.size:Int))=false:=dzF c2
    clear c2
    replace H:=bzS H
    obtain ⟨t203,A90,H⟩:=H
    replace H:(some t203)=some r:=H
    have A9:=am A90
    clear A90
    obtain rfl:=Option.some.inj H
    go_wp2_with (first |((with_reducible refine je (f:=53) rfl ?_);refine gL (some 22) Try.func53 #[.int .i64 (a0.size:Int), .int .i64 1, .int .i64 6] ?_;(with_reducible refine (jE.calls (a0.size:Int) 1 6 t203 _ A9.out).mono ?_);rintro e w' ⟨rfl,⟨nd,rfl⟩⟩;refine ⟨_,rfl,?_⟩))
    go_ret
    exact ⟨sq,Y2⟩

theorem impl_named1_calls (a b : ByteArray) (p : Int) (B : Nat) (w : World) (hB : B < w.heap.size) (hc : w.cell? ⟨B, 0, none⟩ = some (.string b)) :
  Calls Try.prog 102 #[.agg #[.string a, .int .i64 p], .pointer (some ⟨B,0,none⟩)] w fun e w'=>e=.returned (.bool (a.toList == b.toList))∧Below w.heap.size w w':=by
 have hne:B≠w.heap.size:=by omega
 go_enter Try.func102,Try.ntmps102
 go_wp2
 go_ret
 exact ⟨rfl,(Below.refl _ _).alloc (Nat.le_refl _) _⟩
set_option maxHeartbeats 8000000 in
set_option maxRecDepth 100000 in
theorem impl_named_idx (A_ : Option Addr) (c_ : Nat) (l : List (S78)) (B0_ : Nat) (p : S78 → Option Bool) (r : Int) (w : World) (hr : Kd.C k78 w A_ l.length l) (h : idxFrom p l 0 = some r)
  (hp:∀ W,Below w.heap.size w W→∀ (x:S78) (b:Bool),p x=some b→Calls Try.prog 102 #[.agg #[.string x.f0, .int .i64 x.f1], .pointer (some ⟨B0_,0,none⟩)] W fun e w'=>e=.returned (.bool b)∧Below W.heap.size W w') :
  Calls Try.prog 101 #[.slice A_ l.length c_, .func (.func 102) #[] #[.pointer (some ⟨B0_,0,none⟩)]] w fun e w'=>e=.returned (.int .i64 r)∧Below w.heap.size w w':=by
 have hm:l.length≤9223372036854775807:=Kd.C_max hr
 have HR:=am hr
 have HP:=am hp
 have H0:=am h
 clear hr hp h
 go_enter Try.func101,Try.ntmps101
 go_wp2
 go_loopw [5,8] (fun i5 i8 wr=>∃ k:Nat,k≤l.length∧i8=.int .i64 k∧jk (idxFrom p (l.drop k) k=some r)∧Below w.heap.size w wr) (fun _ i8 _=>l.length - (intOf i8).toNat)
 case atStart=>exact ⟨0,Nat.zero_le _,rfl,H0,Below.refl _ _⟩
 case round =>
  clear H0
  obtain ⟨k,hk,rfl,HA,hb⟩:=hrel
  by_cases hlt:k<l.length
  ·have HB:=am (idxFrom_step hlt HA.out)
   clear HA
   obtain ⟨ad,rfl,hx0,hx1⟩:=at_T78 HR.out (k:Int) (by omega) (by omega)
   have hrd:jK l (k:Int)=l[k]:=by simp [jK,List.getD_eq_getElem?_getD,hlt]
   replace hx0:=jZ hb hx0
   replace hx1:=jZ hb hx1
   rw [hrd] at hx0 hx1
   simp only [Int.toNat_natCast] at hx0 hx1
   clear hrd
   obtain ⟨b,hb1,hb0⟩:=HB.out
   have HQ:=am hb1
   clear hb1 HB
   cases b with
   | true =>
    have HZ:=am (by simpa using hb0:(k:Int)=r)
    clear hb0
    go_wp2_with (go_at_call 102;refine (HP.out _ hb _ _ HQ.out).mono ?_;rintro e w' ⟨rfl,hb2⟩)
    go_ret
    exact ⟨by rw [← HZ.out];rfl,jV hb hb.size hb2⟩
   | false =>
    have HZ:=am (by simpa using hb0:idxFrom p (l.drop (k+1)) (k+1)=some r)
    clear hb0
    go_wp2_with (go_at_call 102;refine (HP.out _ hb _ _ HQ.out).mono ?_;rintro e w' ⟨rfl,hb2⟩)
    go_roundw
    case rel=>exact ⟨k+1,hlt,by go_num,HZ,jV hb hb.size hb2⟩
    case measure=>simp [intOf];omega
  ·have HZ:=am (idxFrom_end (by omega) HA.out)
   clear HA
   go_wp2
   go_ret
   exact ⟨by rw [HZ.out];rfl,hb⟩
def jNa.f (l0_0 : List S78) (a1 : ByteArray) : Option Int := idxFrom (fun x : S78 => some (x.f0.toList == a1.toList)) l0_0 0
set_option maxHeartbeats 8000000 in
set_option maxRecDepth 100000 in
theorem jNa.calls (A0_0 : Option Addr) (c0_0 : Nat) (l0_0 : List (S78)) (a1 : ByteArray) (r : Int) (w : World) (hr0_0 : Kd.C k78 w A0_0 l0_0.length l0_0) (hc0_0 : l0_0.length ≤ c0_0) (h : jNa.f l0_0 a1 = some r) :
  Calls Try.prog 79 #[.agg #[.slice A0_0 l0_0.length c0_0], .string a1] w fun e w'=>e=.returned (.int .i64 r)∧Below w.heap.size w w':=by
 have hu32:=Try.underlying32
 have HF:=am (fun W (hb:Below w.heap.size w W) (B:Nat) (hB:B<W.heap.size) (hc:W.cell? ⟨B,0,none⟩=some (.string a1))=>impl_named_idx A0_0 c0_0 l0_0 B (fun x:S78=>some (x.f0.toList == a1.toList)) r W (Kd.jF hr0_0 hb) h (fun W' hb' x b hx=>by
  obtain rfl:=Option.some.inj hx
  exact impl_named1_calls x.f0 a1 x.f1 B W' (Nat.lt_of_lt_of_le hB hb'.size) (jZ hb' hc)))
 clear h hr0_0
 go_enter Try.func79,Try.ntmps79
 go_wp2_with (go_at_call 101;refine (HF.out _ (((Below.refl _ _).alloc (Nat.le_refl _) _).alloc (by simp) _) _ (by simp) (by simp)).mono ?_;rintro e w' ⟨rfl,hb2⟩)
 go_ret
 exact ⟨rfl,(((Below.refl _ _).alloc (Nat.le_refl _) _).alloc (by simp) _).trans (hb2.mono (by simp;omega))⟩
mutual
def jo.l0 : Nat → List (S78) → Int → Int → List (S78) → Option (Bool)
 | 0,_,_,_,_=>none
 | k+1,x6,x7,x8,x205000=>if x8<x7 then (if 0≤x8 then (if x8<(x6.length:Int) then ((jIa.f k ((jK x6 x8).f0)).bind fun t208=>(if t208=true then ((jNa.f x205000 ((jK x6 x8).f0)).bind fun t209=>(if t209=x8 then (if x8=0 then (if ((jK x6 x8).f1)=(-1) then (if x8 > 0 then ((jE.f ((jK x6 x8).f1) 0 (wrap64 (x8 - 1))).bind fun t210=>(jo.j1 k x6 x7 x8 (!t210) x205000)) else (jo.j1 k x6 x7 x8 false x205000)) else (jo.j1 k x6 x7 x8 true x205000)) else (if x8 > 0 then ((jE.f ((jK x6 x8).f1) 0 (wrap64 (x8 - 1))).bind fun t211=>(jo.j1 k x6 x7 x8 (!t211) x205000)) else (jo.j1 k x6 x7 x8 false x205000))) else (jo.j1 k x6 x7 x8 true x205000))) else (jo.j1 k x6 x7 x8 true x205000))) else (none)) else (none)) else ((jE.f (x205000.length:Int) 1 8).bind fun t205=>(some t205))
def jo.j1 : Nat → List (S78) → Int → Int → Bool → List (S78) → Option (Bool)
 | 0,_,_,_,_,_=>none
 | k+1,x6,x7,x8,x45,x205000=>if x45=true then (some false) else (jo.l0 k x6 x7 (wrap64 (x8+1)) x205000)
end
def jo.f (k : Nat) (l0_0 : List (S78)) : Option (Bool) := jo.l0 k l0_0 (l0_0.length : Int) 0 l0_0
set_option maxHeartbeats 8000000 in
set_option maxRecDepth 100000 in
theorem jo.calls (k : Nat) (A0_0 : Option Addr) (c0_0 : Nat) (l0_0 : List (S78)) (r : Bool) (w : World) (hr0_0 : Kd.C k78 w A0_0 l0_0.length l0_0) (hc0_0 : l0_0.length ≤ c0_0) (h : jo.f k l0_0 = some r) :
  Calls Try.prog 51 #[.agg #[.slice A0_0 l0_0.length c0_0]] w fun e w'=>e=.returned (.bool r)∧Below w.heap.size w w':=by
 have hu32:=Try.underlying32
 have hu78:=Try.underlying78
 have HR0_0:=am hr0_0
 have HC0_0:=am hc0_0
 clear hr0_0 hc0_0
 have HB:=am (Below.refl w.heap.size w)
 have H:(jo.l0 k l0_0 (l0_0.length:Int) 0 l0_0)=some r:=h
 clear h
 have H':=am H
 clear H
 go_enter Try.func51,Try.ntmps51
 go_wp2_with (first |((with_reducible refine jP (N:=1) rfl ?_);refine bE (N:=1) (cs:=#[.slice A0_0 l0_0.length c0_0]) (t:=32) ?_;intro gb204 hg w2 hbox hb;have BK204:=am (hbox);have GW204:=am ((Y1:w.heap.size≤gb204));have GE204:=am ((Y1:w.heap.size≤gb204));replace HB:=am (jd (bq) hb);clear hb hbox hg;have hcz3_0:=bc0 BK204.out;have hfz3_0:=ja BK204.out 0))
 go_loopg [8] k (fun kq v8 w'=>∃ (x8_1:Int),v8=.int .i64 x8_1∧jk (jo.l0 kq l0_0 (l0_0.length:Int) x8_1 l0_0=some r)∧jk (kq≤k)∧jk (w'.heap[gb204]?=some (.cells #[(.slice A0_0 l0_0.length c0_0)] 32 (0,0)))∧jk (Below w.heap.size w w'))
 case atStart=>exact ⟨(0),(sq),H',⟨Nat.le_refl _⟩,⟨kq BK204.out⟩,⟨Y36⟩⟩
 case round =>
  clear H'
  try clear p2
  try clear hcz3_0
  try clear hfz3_0
  obtain ⟨x8_1,rfl,HA,HK1,BK204,HB⟩:=hrel
  cases gk with
  | zero=>exact absurd HA.out (by simp [jo.l0])
  | succ k1 =>
   have H:=HA.out
   clear HA
   simp only [jo.l0] at H
   by_cases c4:x8_1<(l0_0.length:Int)
   ·rw [if_pos c4] at H
    have c4b0:decide (x8_1<(l0_0.length:Int))=true:=dzT c4
    clear c4
    by_cases c5:0≤x8_1
    ·rw [if_pos c5] at H
     have c5b0:decide (0≤x8_1)=true:=dzT c5
     clear c5
     by_cases c6:x8_1<(l0_0.length:Int)
     ·rw [if_pos c6] at H
      have c6b0:decide (x8_1<(l0_0.length:Int))=true:=dzT c6
      clear c6
      have HC7:=am H
      clear H
      have p206:0≤(x8_1:Int):=ozD (uq)
      have q206:x8_1<(l0_0.length:Int):=ozD (uq)
      obtain ⟨ad206,e206,hx206_0,hx206_1⟩:=at_T78 HR0_0.out x8_1 p206 q206
      cases e206
      replace hx206_0:=cb HB.out hx206_0
      replace hx206_1:=cb HB.out hx206_1
      replace p206:=ezT p206
      replace q206:=ezT q206
      go_upto_region 4 with (first |((with_reducible refine jP (N:=4) rfl ?_);refine bE (N:=4) (cs:=#[.string (⟨#[]⟩:ByteArray), .int .i64 0]) (t:=78) ?_;intro gb207 hg w8 hbox hb;have BK207:=am (hbox);have GW207:=am ((Y52:w.heap.size≤gb207));have GE207:=am ((Y52:w.heap.size≤gb207));have NB204_207:=am ((by rw [hg];exact Nat.ne_of_lt (jVa (g:=gb204) (o:=.cells #[.slice (some ad206) l0_0.length c0_0] 32 (0,0)) (kq BK204.out)):gb204≠gb207));have NB207_204:=am ((by rw [hg];exact Nat.ne_of_gt (jVa (g:=gb204) (o:=.cells #[.slice (some ad206) l0_0.length c0_0] 32 (0,0)) (kq BK204.out)):gb207≠gb204));replace BK204:=am (jm (g:=gb204) (o:=.cells #[.slice (some ad206) l0_0.length c0_0] 32 (0,0)) (kq BK204.out) hb);replace HB:=am (jd (Y36) hb);clear hb hbox hg;have hnb9:=NB207_204.out;have hnc9:=NB204_207.out;have hcz10_0:=bc0 BK207.out;have hcz10_1:=bc1 BK207.out;have hfz10_0:=ja BK207.out 0;have hfz10_1:=ja BK207.out 1))
      (try simp only [Act.put,List.setIfInBounds_toArray,List.set_cons_zero,List.set_cons_succ])
      go_cut [45] (fun v45 wc=>∃ (kq:Nat) (x45_6:Bool),v45=.bool x45_6∧jk (jo.j1 kq l0_0 (l0_0.length:Int) x8_1 x45_6 l0_0=some r)∧jk (kq≤k1)∧jk (wc.heap[gb204]?=some (.cells #[(.slice (some ad206) l0_0.length c0_0)] 32 (0,0)))∧jk (wc.heap[gb207]?=some (.cells #[.string ((jK l0_0 x8_1).f0), .int .i64 ((jK l0_0 x8_1).f1)] 78 (0,0)))∧jk (Below w.heap.size w wc))
      case first =>
       have H:=HC7.out
       clear HC7
       replace H:=bzS H
       obtain ⟨t208,A110,H⟩:=H
       replace H:(if t208=true then ((jNa.f l0_0 ((jK l0_0 x8_1).f0)).bind fun t209=>(if t209=x8_1 then (if x8_1=0 then (if ((jK l0_0 x8_1).f1)=(-1) then (if x8_1 > 0 then ((jE.f ((jK l0_0 x8_1).f1) 0 (wrap64 (x8_1 - 1))).bind fun t210=>(jo.j1 k1 l0_0 (l0_0.length:Int) x8_1 (!t210) l0_0)) else (jo.j1 k1 l0_0 (l0_0.length:Int) x8_1 false l0_0)) else (jo.j1 k1 l0_0 (l0_0.length:Int) x8_1 true l0_0)) else (if x8_1 > 0 then ((jE.f ((jK l0_0 x8_1).f1) 0 (wrap64 (x8_1 - 1))).bind fun t211=>(jo.j1 k1 l0_0 (l0_0.length:Int) x8_1 (!t211) l0_0)) else (jo.j1 k1 l0_0 (l0_0.length:Int) x8_1 false l0_0))) else (jo.j1 k1 l0_0 (l0_0.length:Int) x8_1 true l0_0))) else (jo.j1 k1 l0_0 (l0_0.length:Int) x8_1 true l0_0))=some r:=H
       have A11:=am A110
       clear A110
       by_cases c12:t208=true
       ·subst c12
        have H1:((jNa.f l0_0 ((jK l0_0 x8_1).f0)).bind fun t209=>(if t209=x8_1 then (if x8_1=0 then (if ((jK l0_0 x8_1).f1)=(-1) then (if x8_1 > 0 then ((jE.f ((jK l0_0 x8_1).f1) 0 (wrap64 (x8_1 - 1))).bind fun t210=>(jo.j1 k1 l0_0 (l0_0.length:Int) x8_1 (!t210) l0_0)) else (jo.j1 k1 l0_0 (l0_0.length:Int) x8_1 false l0_0)) else (jo.j1 k1 l0_0 (l0_0.length:Int) x8_1 true l0_0)) else (if x8_1 > 0 then ((jE.f ((jK l0_0 x8_1).f1) 0 (wrap64 (x8_1 - 1))).bind fun t211=>(jo.j1 k1 l0_0 (l0_0.length:Int) x8_1 (!t211) l0_0)) else (jo.j1 k1 l0_0 (l0_0.length:Int) x8_1 false l0_0))) else (jo.j1 k1 l0_0 (l0_0.length:Int) x8_1 true l0_0)))=some r:=by rw [if_pos rfl] at H;exact H
        clear H
        have H:=H1
        clear H1
        replace H:=bzS H
        obtain ⟨t209,A130,H⟩:=H
        replace H:(if t209=x8_1 then (if x8_1=0 then (if ((jK l0_0 x8_1).f1)=(-1) then (if x8_1 > 0 then ((jE.f ((jK l0_0 x8_1).f1) 0 (wrap64 (x8_1 - 1))).bind fun t210=>(jo.j1 k1 l0_0 (l0_0.length:Int) x8_1 (!t210) l0_0)) else (jo.j1 k1 l0_0 (l0_0.length:Int) x8_1 false l0_0)) else (jo.j1 k1 l0_0 (l0_0.length:Int) x8_1 true l0_0)) else (if x8_1 > 0 then ((jE.f ((jK l0_0 x8_1).f1) 0 (wrap64 (x8_1 - 1))).bind fun t211=>(jo.j1 k1 l0_0 (l0_0.length:Int) x8_1 (!t211) l0_0)) else (jo.j1 k1 l0_0 (l0_0.length:Int) x8_1 false l0_0))) else (jo.j1 k1 l0_0 (l0_0.length:Int) x8_1 true l0_0))=some r:=H
        have A13:=am A130
        clear A130
        by_cases c14:t209=x8_1
        ·rw [if_pos c14] at H
         have c14b0:(t209 == x8_1)=true:=beq_iff_eq.mpr c14
         have c14b1:(t209 != x8_1)=false:=bne_eq_false_iff_eq.mpr c14
         clear c14
         (first | rw [c14b0] |(simp only [jub,jvb];rw [c14b0]) | skip)
         by_cases c15:x8_1=0
         ·rw [if_pos c15] at H
          have c15b0:(x8_1 == 0)=true:=beq_iff_eq.mpr c15
          have c15b1:(x8_1 != 0)=false:=bne_eq_false_iff_eq.mpr c15
          clear c15
          by_cases c16:((jK l0_0 x8_1).f1)=(-1)
          ·rw [if_pos c16] at H
           have c16b0:(((jK l0_0 x8_1).f1) == (-1))=true:=beq_iff_eq.mpr c16
           have c16b1:(((jK l0_0 x8_1).f1) != (-1))=false:=bne_eq_false_iff_eq.mpr c16
           clear c16
           by_cases c17:x8_1 > 0
           ·rw [if_pos c17] at H
            have c17b0:decide (0<x8_1)=true:=dzT c17
            clear c17
            replace H:=bzS H
            obtain ⟨t210,A180,H⟩:=H
            replace H:(jo.j1 k1 l0_0 (l0_0.length:Int) x8_1 (!t210) l0_0)=some r:=H
            have A18:=am A180
            clear A180
            have H':=am H
            clear H
            have hnb19:=NB207_204.out
            have hnc19:=NB204_207.out
            have hcz20_0:=bc0 BK207.out
            have hcz20_1:=bc1 BK207.out
            have hfz20_0:=ja BK207.out 0
            have hfz20_1:=ja BK207.out 1
            go_wp2_with (first |((with_reducible refine je (f:=78) rfl ?_);refine gL (some 15) Try.func78 #[.string ((jK l0_0 x8_1).f0)] ?_;(with_reducible refine (jIa.calls k1 ((jK l0_0 x8_1).f0) true _ A11.out).mono ?_);rintro e w' ⟨rfl,⟨nd,rfl⟩⟩;refine ⟨_,rfl,?_⟩;have hcz21_0:=bc0 BK204.out;have hfz21_0:=ja BK204.out 0) |(go_at_call 79;(with_reducible refine (jNa.calls _ _ l0_0 ((jK l0_0 x8_1).f0) t209 _ ?side1 ?side2 A13.out).mono ?_);(case side1=>exact Kd.jF HR0_0.out (Y6));(case side2=>exact HC0_0.out);rintro e w22 ⟨rfl,hb⟩;replace BK204:=am (jm (g:=gb204) (o:=.cells #[.slice (some ad206) l0_0.length c0_0] 32 (0,0)) (Y20) hb);replace BK207:=am (jm (g:=gb207) (o:=.cells #[.string ((jK l0_0 x8_1).f0), .int .i64 ((jK l0_0 x8_1).f1)] 78 (0,0)) (Y21) hb);replace HB:=am (jd (Y6) hb);(try clear hb);(try clear hb2);(try clear hk);(try clear hi);have hcz23_0:=bc0 BK207.out;have hcz23_1:=bc1 BK207.out;have hfz23_0:=ja BK207.out 0;have hfz23_1:=ja BK207.out 1) |(go_at_call 53;(with_reducible refine (jE.calls ((jK l0_0 x8_1).f1) 0 (wrap64 (x8_1 - 1)) t210 _ A18.out).mono ?_);rintro e w' ⟨rfl,⟨nd,rfl⟩⟩))
            go_meet
            case rel=>exact ⟨_,(!t210),(sq),H',⟨by have:=HK1.out;first | omega | exact Nat.le_refl _⟩,⟨kq BK204.out⟩,⟨kq BK207.out⟩,⟨Y6⟩⟩
           ·rw [if_neg c17] at H
            have c17b0:decide (0<x8_1)=false:=dzF c17
            clear c17
            have H':=am H
            clear H
            have hnb24:=NB207_204.out
            have hnc24:=NB204_207.out
            have hcz25_0:=bc0 BK207.out
            have hcz25_1:=bc1 BK207.out
            have hfz25_0:=ja BK207.out 0
            have hfz25_1:=ja BK207.out 1
            go_wp2_with (first |((with_reducible refine je (f:=78) rfl ?_);refine gL (some 15) Try.func78 #[.string ((jK l0_0 x8_1).f0)] ?_;(with_reducible refine (jIa.calls k1 ((jK l0_0 x8_1).f0) true _ A11.out).mono ?_);rintro e w' ⟨rfl,⟨nd,rfl⟩⟩;refine ⟨_,rfl,?_⟩;have hcz26_0:=bc0 BK204.out;have hfz26_0:=ja BK204.out 0) |(go_at_call 79;(with_reducible refine (jNa.calls _ _ l0_0 ((jK l0_0 x8_1).f0) t209 _ ?side1 ?side2 A13.out).mono ?_);(case side1=>exact Kd.jF HR0_0.out (Y6));(case side2=>exact HC0_0.out);rintro e w27 ⟨rfl,hb⟩;replace BK204:=am (jm (g:=gb204) (o:=.cells #[.slice (some ad206) l0_0.length c0_0] 32 (0,0)) (Y20) hb);replace BK207:=am (jm (g:=gb207) (o:=.cells #[.string ((jK l0_0 x8_1).f0), .int .i64 ((jK l0_0 x8_1).f1)] 78 (0,0)) (Y21) hb);replace HB:=am (jd (Y6) hb);(try clear hb);(try clear hb2);(try clear hk);(try clear hi);have hcz28_0:=bc0 BK207.out;have hcz28_1:=bc1 BK207.out;have hfz28_0:=ja BK207.out 0;have hfz28_1:=ja BK207.out 1))
            go_meet
            case rel=>exact ⟨_,(false),(sq),H',⟨by have:=HK1.out;first | omega | exact Nat.le_refl _⟩,⟨kq BK204.out⟩,⟨kq BK207.out⟩,⟨Y6⟩⟩
          ·rw [if_neg c16] at H
           have c16b0:(((jK l0_0 x8_1).f1) == (-1))=false:=beq_eq_false_iff_ne.mpr c16
           have c16b1:(((jK l0_0 x8_1).f1) != (-1))=true:=bne_iff_ne.mpr c16
           have H':=am H
           clear H
           have hnb29:=NB207_204.out
           have hnc29:=NB204_207.out
           have hcz30_0:=bc0 BK207.out
           have hcz30_1:=bc1 BK207.out
           have hfz30_0:=ja BK207.out 0
           have hfz30_1:=ja BK207.out 1
           go_wp2_with (first |((with_reducible refine je (f:=78) rfl ?_);refine gL (some 15) Try.func78 #[.string ((jK l0_0 x8_1).f0)] ?_;(with_reducible refine (jIa.calls k1 ((jK l0_0 x8_1).f0) true _ A11.out).mono ?_);rintro e w' ⟨rfl,⟨nd,rfl⟩⟩;refine ⟨_,rfl,?_⟩;have hcz31_0:=bc0 BK204.out;have hfz31_0:=ja BK204.out 0) |(go_at_call 79;(with_reducible refine (jNa.calls _ _ l0_0 ((jK l0_0 x8_1).f0) t209 _ ?side1 ?side2 A13.out).mono ?_);(case side1=>exact Kd.jF HR0_0.out (Y6));(case side2=>exact HC0_0.out);rintro e w32 ⟨rfl,hb⟩;replace BK204:=am (jm (g:=gb204) (o:=.cells #[.slice (some ad206) l0_0.length c0_0] 32 (0,0)) (Y20) hb);replace BK207:=am (jm (g:=gb207) (o:=.cells #[.string ((jK l0_0 x8_1).f0), .int .i64 ((jK l0_0 x8_1).f1)] 78 (0,0)) (Y21) hb);replace HB:=am (jd (Y6) hb);(try clear hb);(try clear hb2);(try clear hk);(try clear hi);have hcz33_0:=bc0 BK207.out;have hcz33_1:=bc1 BK207.out;have hfz33_0:=ja BK207.out 0;have hfz33_1:=ja BK207.out 1))
           go_meet
           case rel=>exact ⟨_,(true),(sq),H',⟨by have:=HK1.out;first | omega | exact Nat.le_refl _⟩,⟨kq BK204.out⟩,⟨kq BK207.out⟩,⟨Y6⟩⟩
         ·rw [if_neg c15] at H
          have c15b0:(x8_1 == 0)=false:=beq_eq_false_iff_ne.mpr c15
          have c15b1:(x8_1 != 0)=true:=bne_iff_ne.mpr c15
          by_cases c34:x8_1 > 0
          ·rw [if_pos c34] at H
           have c34b0:decide (0<x8_1)=true:=dzT c34
           clear c34
           replace H:=bzS H
           obtain ⟨t211,A350,H⟩:=H
           replace H:(jo.j1 k1 l0_0 (l0_0.length:Int) x8_1 (!t211) l0_0)=some r:=H
           have A35:=am A350
           clear A350
           have H':=am H
           clear H
           have hnb36:=NB207_204.out
           have hnc36:=NB204_207.out
           have hcz37_0:=bc0 BK207.out
           have hcz37_1:=bc1 BK207.out
           have hfz37_0:=ja BK207.out 0
           have hfz37_1:=ja BK207.out 1
           go_wp2_with (first |((with_reducible refine je (f:=78) rfl ?_);refine gL (some 15) Try.func78 #[.string ((jK l0_0 x8_1).f0)] ?_;(with_reducible refine (jIa.calls k1 ((jK l0_0 x8_1).f0) true _ A11.out).mono ?_);rintro e w' ⟨rfl,⟨nd,rfl⟩⟩;refine ⟨_,rfl,?_⟩;have hcz38_0:=bc0 BK204.out;have hfz38_0:=ja BK204.out 0) |(go_at_call 79;(with_reducible refine (jNa.calls _ _ l0_0 ((jK l0_0 x8_1).f0) t209 _ ?side1 ?side2 A13.out).mono ?_);(case side1=>exact Kd.jF HR0_0.out (Y6));(case side2=>exact HC0_0.out);rintro e w39 ⟨rfl,hb⟩;replace BK204:=am (jm (g:=gb204) (o:=.cells #[.slice (some ad206) l0_0.length c0_0] 32 (0,0)) (Y20) hb);replace BK207:=am (jm (g:=gb207) (o:=.cells #[.string ((jK l0_0 x8_1).f0), .int .i64 ((jK l0_0 x8_1).f1)] 78 (0,0)) (Y21) hb);replace HB:=am (jd (Y6) hb);(try clear hb);(try clear hb2);(try clear hk);(try clear hi);have hcz40_0:=bc0 BK207.out;have hcz40_1:=bc1 BK207.out;have hfz40_0:=ja BK207.out 0;have hfz40_1:=ja BK207.out 1) |(go_at_call 53;(with_reducible refine (jE.calls ((jK l0_0 x8_1).f1) 0 (wrap64 (x8_1 - 1)) t211 _ A35.out).mono ?_);rintro e w' ⟨rfl,⟨nd,rfl⟩⟩))
           go_meet
           case rel=>exact ⟨_,(!t211),(sq),H',⟨by have:=HK1.out;first | omega | exact Nat.le_refl _⟩,⟨kq BK204.out⟩,⟨kq BK207.out⟩,⟨Y6⟩⟩
          ·rw [if_neg c34] at H
           have c34b0:decide (0<x8_1)=false:=dzF c34
           clear c34
           have H':=am H
           clear H
           have hnb41:=NB207_204.out
           have hnc41:=NB204_207.out
           have hcz42_0:=bc0 BK207.out
           have hcz42_1:=bc1 BK207.out
           have hfz42_0:=ja BK207.out 0
           have hfz42_1:=ja BK207.out 1
           go_wp2_with (first |((with_reducible refine je (f:=78) rfl ?_);refine gL (some 15) Try.func78 #[.string ((jK l0_0 x8_1).f0)] ?_;(with_reducible refine (jIa.calls k1 ((jK l0_0 x8_1).f0) true _ A11.out).mono ?_);rintro e w' ⟨rfl,⟨nd,rfl⟩⟩;refine ⟨_,rfl,?_⟩;have hcz43_0:=bc0 BK204.out;have hfz43_0:=ja BK204.out 0) |(go_at_call 79;(with_reducible refine (jNa.calls _ _ l0_0 ((jK l0_0 x8_1).f0) t209 _ ?side1 ?side2 A13.out).mono ?_);(case side1=>exact Kd.jF HR0_0.out (Y6));(case side2=>exact HC0_0.out);rintro e w44 ⟨rfl,hb⟩;replace BK204:=am (jm (g:=gb204) (o:=.cells #[.slice (some ad206) l0_0.length c0_0] 32 (0,0)) (Y20) hb);replace BK207:=am (jm (g:=gb207) (o:=.cells #[.string ((jK l0_0 x8_1).f0), .int .i64 ((jK l0_0 x8_1).f1)] 78 (0,0)) (Y21) hb);replace HB:=am (jd (Y6) hb);(try clear hb);(try clear hb2);(try clear hk);(try clear hi)))
           go_meet
           case rel=>exact ⟨_,(false),(sq),H',⟨by have:=HK1.out;first | omega | exact Nat.le_refl _⟩,⟨kq BK204.out⟩,⟨kq BK207.out⟩,⟨Y6⟩⟩
        ·rw [if_neg c14] at H
         have c14b0:(t209 == x8_1)=false:=beq_eq_false_iff_ne.mpr c14
         have c14b1:(t209 != x8_1)=true:=bne_iff_ne.mpr c14
         (first | rw [c14b0] |(simp only [jub,jvb];rw [c14b0]) | skip)
         have H':=am H
         clear H
         have hnb45:=NB207_204.out
         have hnc45:=NB204_207.out
         have hcz46_0:=bc0 BK207.out
         have hcz46_1:=bc1 BK207.out
         have hfz46_0:=ja BK207.out 0
         have hfz46_1:=ja BK207.out 1
         go_wp2_with (first |((with_reducible refine je (f:=78) rfl ?_);refine gL (some 15) Try.func78 #[.string ((jK l0_0 x8_1).f0)] ?_;(with_reducible refine (jIa.calls k1 ((jK l0_0 x8_1).f0) true _ A11.out).mono ?_);rintro e w' ⟨rfl,⟨nd,rfl⟩⟩;refine ⟨_,rfl,?_⟩;have hcz47_0:=bc0 BK204.out;have hfz47_0:=ja BK204.out 0) |(go_at_call 79;(with_reducible refine (jNa.calls _ _ l0_0 ((jK l0_0 x8_1).f0) t209 _ ?side1 ?side2 A13.out).mono ?_);(case side1=>exact Kd.jF HR0_0.out (Y6));(case side2=>exact HC0_0.out);rintro e w48 ⟨rfl,hb⟩;replace BK204:=am (jm (g:=gb204) (o:=.cells #[.slice (some ad206) l0_0.length c0_0] 32 (0,0)) (Y20) hb);replace BK207:=am (jm (g:=gb207) (o:=.cells #[.string ((jK l0_0 x8_1).f0), .int .i64 ((jK l0_0 x8_1).f1)] 78 (0,0)) (Y21) hb);replace HB:=am (jd (Y6) hb);(try clear hb);(try clear hb2);(try clear hk);(try clear hi)))
         go_meet
         case rel=>exact ⟨_,(true),(sq),H',⟨by have:=HK1.out;first | omega | exact Nat.le_refl _⟩,⟨kq BK204.out⟩,⟨kq BK207.out⟩,⟨Y6⟩⟩
       ·replace c12:=Bool.eq_false_iff.mpr c12
        subst c12
        have H1:(jo.j1 k1 l0_0 (l0_0.length:Int) x8_1 true l0_0)=some r:=by rw [if_neg (show ¬ (false=true) by decide)] at H;exact H
        clear H
        have H:=H1
        clear H1
        have H':=am H
        clear H
        have hnb49:=NB207_204.out
        have hnc49:=NB204_207.out
        have hcz50_0:=bc0 BK207.out
        have hcz50_1:=bc1 BK207.out
        have hfz50_0:=ja BK207.out 0
        have hfz50_1:=ja BK207.out 1
        go_wp2_with (first |((with_reducible refine je (f:=78) rfl ?_);refine gL (some 15) Try.func78 #[.string ((jK l0_0 x8_1).f0)] ?_;(with_reducible refine (jIa.calls k1 ((jK l0_0 x8_1).f0) false _ A11.out).mono ?_);rintro e w' ⟨rfl,⟨nd,rfl⟩⟩;refine ⟨_,rfl,?_⟩))
        go_meet
        case rel=>exact ⟨_,(true),(sq),H',⟨by have:=HK1.out;first | omega | exact Nat.le_refl _⟩,⟨by (with_reducible repeat (first | refine jea ?_ _ | refine jta ?_ | refine joa ?_ _));refine jMb ?_ NB204_207.out _;(with_reducible repeat (first | refine jea ?_ _ | refine jta ?_ | refine joa ?_ _));refine jMb ?_ NB204_207.out _;(with_reducible repeat (first | refine jea ?_ _ | refine jta ?_ | refine joa ?_ _));exact BK204.out⟩,⟨by (with_reducible repeat (first | refine jea ?_ _ | refine jta ?_ | refine joa ?_ _));refine jLb (cs:=#[.string ((jK l0_0 x8_1).f0), .int .i64 0]) ?_ 1 _ rfl;(with_reducible repeat (first | refine jea ?_ _ | refine jta ?_ | refine joa ?_ _));refine jLb (cs:=#[.string (⟨#[]⟩:ByteArray), .int .i64 0]) ?_ 0 _ rfl;(with_reducible repeat (first | refine jea ?_ _ | refine jta ?_ | refine joa ?_ _));exact BK207.out⟩,⟨Y6⟩⟩
      case rest =>
       clear HC7
       try clear c1
       try clear c2
       try clear p2
       try clear q2
       try clear hx2
       try clear c3
       try clear c4
       try clear c4b0
       try clear c5
       try clear c5b0
       try clear c6
       try clear c6b0
       try clear p6
       try clear c7
       try clear c9
       try clear c12
       try clear c14
       try clear c14b0
       try clear c14b1
       try clear c15
       try clear c15b0
       try clear c15b1
       try clear c16
       try clear c16b0
       try clear c16b1
       try clear c17
       try clear c17b0
       try clear c19
       try clear p20
       try clear q20
       try clear hx20
       try clear c24
       try clear c29
       try clear c34
       try clear c34b0
       try clear c36
       try clear c41
       try clear c45
       try clear c49
       try clear hcz10_0
       try clear hcz10_1
       try clear hcz20_0
       try clear hcz20_1
       try clear hcz21_0
       try clear hcz23_0
       try clear hcz23_1
       try clear hcz25_0
       try clear hcz25_1
       try clear hcz26_0
       try clear hcz28_0
       try clear hcz28_1
       try clear hcz30_0
       try clear hcz30_1
       try clear hcz31_0
       try clear hcz33_0
       try clear hcz33_1
       try clear hcz37_0
       try clear hcz37_1
       try clear hcz38_0
       try clear hcz3_0
       try clear hcz40_0
       try clear hcz40_1
       try clear hcz42_0
       try clear hcz42_1
       try clear hcz43_0
       try clear hcz46_0
       try clear hcz46_1
       try clear hcz47_0
       try clear hcz50_0
       try clear hcz50_1
       try clear hfz10_0
       try clear hfz10_1
       try clear hfz20_0
       try clear hfz20_1
       try clear hfz21_0
       try clear hfz23_0
       try clear hfz23_1
       try clear hfz25_0
       try clear hfz25_1
       try clear hfz26_0
       try clear hfz28_0
       try clear hfz28_1
       try clear hfz30_0
       try clear hfz30_1
       try clear hfz31_0
       try clear hfz33_0
       try clear hfz33_1
       try clear hfz37_0
       try clear hfz37_1
       try clear hfz38_0
       try clear hfz3_0
       try clear hfz40_0
       try clear hfz40_1
       try clear hfz42_0
       try clear hfz42_1
       try clear hfz43_0
       try clear hfz46_0
       try clear hfz46_1
       try clear hfz47_0
       try clear hfz50_0
       try clear hfz50_1
       try clear hx206_0
       try clear hx206_1
       try clear p2
       try clear p206
       try clear q206
       obtain ⟨kq,x45_6,rfl,HA,HJ6,BK204,BK207,HB⟩:=hcut
       cases kq with
       | zero=>exact absurd HA.out (by simp [jo.j1])
       | succ kj6 =>
        have H:=HA.out
        clear HA
        simp only [jo.j1] at H
        by_cases c51:x45_6=true
        ·subst c51
         have H1:(some false)=some r:=by rw [if_pos rfl] at H;exact H
         clear H
         have H:=H1
         clear H1
         obtain rfl:=Option.some.inj H
         go_wp2
         go_ret
         exact ⟨Y0,Y6⟩
        ·replace c51:=Bool.eq_false_iff.mpr c51
         subst c51
         have H1:(jo.l0 kj6 l0_0 (l0_0.length:Int) (wrap64 (x8_1+1)) l0_0)=some r:=by rw [if_neg (show ¬ (false=true) by decide)] at H;exact H
         clear H
         have H:=H1
         clear H1
         have H':=am H
         clear H
         go_wp2
         go_roundg kj6
         case measure=>have:=HK1.out;have:=HJ6.out;omega
         case rel=>exact ⟨(wrap64 (x8_1+1)),(sq),H',⟨by have:=HK1.out;have:=HJ6.out;omega⟩,⟨kq BK204.out⟩,⟨Y6⟩⟩
     ·rw [if_neg c6] at H
      exact absurd H (by simp)
    ·rw [if_neg c5] at H
     exact absurd H (by simp)
   ·rw [if_neg c4] at H
    have c4b0:decide (x8_1<(l0_0.length:Int))=false:=dzF c4
    clear c4
    replace H:=bzS H
    obtain ⟨t205,A520,H⟩:=H
    replace H:(some t205)=some r:=H
    have A52:=am A520
    clear A520
    obtain rfl:=Option.some.inj H
    have hcz53_0:=bc0 BK204.out
    have hfz53_0:=ja BK204.out 0
    go_wp2_with (first |((with_reducible refine je (f:=53) rfl ?_);refine gL (some 50) Try.func53 #[.int .i64 (l0_0.length:Int), .int .i64 1, .int .i64 8] ?_;(with_reducible refine (jE.calls (l0_0.length:Int) 1 8 t205 _ A52.out).mono ?_);rintro e w' ⟨rfl,⟨nd,rfl⟩⟩;refine ⟨_,rfl,?_⟩))
    go_ret
    exact ⟨Y0,Y36⟩
def jbb.f (a0 : Int) : Option (Bool) := (jE.f a0 0 99).bind fun t212 => (some t212)
set_option maxHeartbeats 8000000 in
set_option maxRecDepth 100000 in
theorem jbb.calls (a0 : Int) (r : Bool) (w : World) (h : jbb.f a0 = some r) :
  Calls Try.prog 80 #[.int .i64 a0] w fun e w'=>e=.returned (.bool r)∧jKa w w':=by
 have H:((jE.f a0 0 99).bind fun t212=>(some t212))=some r:=h
 clear h
 replace H:=bzS H
 obtain ⟨t212,A20,H⟩:=H
 replace H:(some t212)=some r:=H
 have A2:=am A20
 clear A20
 obtain rfl:=Option.some.inj H
 go_enter Try.func80,Try.ntmps80
 go_wp2_with (first |((with_reducible refine je (f:=53) rfl ?_);refine gL (some 4) Try.func53 #[.int .i64 a0, .int .i64 0, .int .i64 99] ?_;(with_reducible refine (jE.calls a0 0 99 t212 _ A2.out).mono ?_);rintro e w' ⟨rfl,⟨nd,rfl⟩⟩;refine ⟨_,rfl,?_⟩))
 go_ret
 exact ⟨sq,Y2⟩
def jXa.f (l0_0 : List (S78)) (a1 : Int) : Option (Bool) := (jE.f a1 0 (wrap64 ((l0_0.length : Int) - 1))).bind fun t214 => (some t214)
set_option maxHeartbeats 8000000 in
set_option maxRecDepth 100000 in
theorem jXa.calls (A0_0 : Option Addr) (c0_0 : Nat) (l0_0 : List (S78)) (a1 : Int) (r : Bool) (w : World) (hr0_0 : Kd.C k78 w A0_0 l0_0.length l0_0) (hc0_0 : l0_0.length ≤ c0_0) (h : jXa.f l0_0 a1 = some r) :
  Calls Try.prog 81 #[.agg #[.slice A0_0 l0_0.length c0_0], .int .i64 a1] w fun e w'=>e=.returned (.bool r)∧Below w.heap.size w w':=by
 have hu32:=Try.underlying32
 have HR0_0:=am hr0_0
 have HC0_0:=am hc0_0
 clear hr0_0 hc0_0
 have HB:=am (Below.refl w.heap.size w)
 have H:((jE.f a1 0 (wrap64 ((l0_0.length:Int) - 1))).bind fun t214=>(some t214))=some r:=h
 clear h
 replace H:=bzS H
 obtain ⟨t214,A30,H⟩:=H
 replace H:(some t214)=some r:=H
 have A3:=am A30
 clear A30
 obtain rfl:=Option.some.inj H
 go_enter Try.func81,Try.ntmps81
 go_wp2_with (first |((with_reducible refine jP (N:=2) rfl ?_);refine bE (N:=2) (cs:=#[.slice A0_0 l0_0.length c0_0]) (t:=32) ?_;intro gb213 hg w4 hbox hb;have BK213:=am (hbox);have GW213:=am ((Y1:w.heap.size≤gb213));have GE213:=am ((Y1:w.heap.size≤gb213));replace HB:=am (jd (bq) hb);clear hb hbox hg;have hcz5_0:=bc0 BK213.out;have hfz5_0:=ja BK213.out 0) |((with_reducible refine je (f:=53) rfl ?_);refine gL (some 10) Try.func53 #[.int .i64 a1, .int .i64 0, .int .i64 (wrap64 ((l0_0.length:Int) - 1))] ?_;(with_reducible refine (jE.calls a1 0 (wrap64 ((l0_0.length:Int) - 1)) t214 _ A3.out).mono ?_);rintro e w' ⟨rfl,⟨nd,rfl⟩⟩;refine ⟨_,rfl,?_⟩))
 go_ret
 exact ⟨Y0,by repeat (first |(with_reducible first | exact HB.out | apply jv | apply jg | apply jr | refine jw ?_ GE213.out) | exact HB.out)⟩
def jsa.j0 : Nat → Int → Bool → Int → Int → Int → Int → List (S78) → Option (Bool)
 | 0,_,_,_,_,_,_,_=>none
 | k+1,x6,x7,x216000,x216001,x216002,x216003,x217000=>if x7=true then ((jbb.f x216002).bind fun t217=>(if t217=true then (some (x216003 == 0)) else (some false))) else (if x6=2 then ((jXa.f x217000 x216002).bind fun t218=>(if t218=true then ((jbb.f x216003).bind fun t219=>(some t219)) else (some false))) else (if x6=8 then ((jXa.f x217000 x216002).bind fun t220=>(if t220=true then (some (x216003 == 0)) else (some false))) else (if x6=11 then ((jE.f x216002 0 9).bind fun t221=>(if t221=true then ((jE.f x216003 0 1).bind fun t222=>(some t222)) else (some false))) else (if x6=12 then ((jE.f x216002 0 3).bind fun t223=>(if t223=true then (some (x216003 == 0)) else (some false))) else ((jE.f x216001 0 12).bind fun t224=>(if t224=true then (if x216002=0 then (some (x216003 == 0)) else (some false)) else (some false)))))))
def jsa.f (k : Nat) (a0_0 : Int) (a0_1 : Int) (a0_2 : Int) (a0_3 : Int) (l1_0 : List (S78)) : Option (Bool) := if a0_1 = 1 then (jsa.j0 k a0_1 (a0_1 == 1) a0_0 a0_1 a0_2 a0_3 l1_0) else (jsa.j0 k a0_1 (a0_1 == 4) a0_0 a0_1 a0_2 a0_3 l1_0)
set_option maxHeartbeats 8000000 in
set_option maxRecDepth 100000 in
theorem jsa.calls (k : Nat) (a0_0 : Int) (a0_1 : Int) (a0_2 : Int) (a0_3 : Int) (A1_0 : Option Addr) (c1_0 : Nat) (l1_0 : List (S78)) (r : Bool) (w : World) (hr1_0 : Kd.C k78 w A1_0 l1_0.length l1_0) (hc1_0 : l1_0.length ≤ c1_0) (h : jsa.f k a0_0 a0_1 a0_2 a0_3 l1_0 = some r) :
  Calls Try.prog 52 #[.agg #[.int .i64 a0_0, .int .i64 a0_1, .int .i64 a0_2, .int .i64 a0_3], .agg #[.slice A1_0 l1_0.length c1_0]] w fun e w'=>e=.returned (.bool r)∧Below w.heap.size w w':=by
 have hu52:=Try.underlying52
 have hu32:=Try.underlying32
 have HR1_0:=am hr1_0
 have HC1_0:=am hc1_0
 clear hr1_0 hc1_0
 have HB:=am (Below.refl w.heap.size w)
 have H:(if a0_1=1 then (jsa.j0 k a0_1 (a0_1 == 1) a0_0 a0_1 a0_2 a0_3 l1_0) else (jsa.j0 k a0_1 (a0_1 == 4) a0_0 a0_1 a0_2 a0_3 l1_0))=some r:=h
 clear h
 have HC3:=am H
 clear H
 go_enter Try.func52,Try.ntmps52
 go_upto_if 7 with (first |((with_reducible refine jP (N:=2) rfl ?_);refine bE (N:=2) (cs:=#[.int .i64 a0_0, .int .i64 a0_1, .int .i64 a0_2, .int .i64 a0_3]) (t:=52) ?_;intro gb215 hg w4 hbox hb;have BK215:=am (hbox);have GW215:=am ((Y1:w.heap.size≤gb215));have GE215:=am ((Y1:w.heap.size≤gb215));replace HB:=am (jd (bq) hb);clear hb hbox hg) |((with_reducible refine jP (N:=3) rfl ?_);refine bE (N:=3) (cs:=#[.slice A1_0 l1_0.length c1_0]) (t:=32) ?_;intro gb216 hg w5 hbox hb;have BK216:=am (hbox);have GW216:=am ((Y53:w.heap.size≤gb216));have GE216:=am ((Y53:w.heap.size≤gb216));have NB215_216:=am ((by rw [hg];exact Nat.ne_of_lt (jVa (g:=gb215) (o:=.cells #[.int .i64 a0_0, .int .i64 a0_1, .int .i64 a0_2, .int .i64 a0_3] 52 (0,0)) (kq BK215.out)):gb215≠gb216));have NB216_215:=am ((by rw [hg];exact Nat.ne_of_gt (jVa (g:=gb215) (o:=.cells #[.int .i64 a0_0, .int .i64 a0_1, .int .i64 a0_2, .int .i64 a0_3] 52 (0,0)) (kq BK215.out)):gb216≠gb215));replace BK215:=am (jm (g:=gb215) (o:=.cells #[.int .i64 a0_0, .int .i64 a0_1, .int .i64 a0_2, .int .i64 a0_3] 52 (0,0)) (kq BK215.out) hb);replace HB:=am (jd (by repeat (first |(with_reducible first | exact HB.out | apply jv | apply jg | apply jr | refine jw ?_ GE215.out) | exact HB.out)) hb);clear hb hbox hg;have hnb6:=NB215_216.out;have hnc6:=NB216_215.out;have hcz7_0:=bc0 BK215.out;have hcz7_1:=bc1 BK215.out;have hcz7_2:=bc2 BK215.out;have hcz7_3:=bc3 BK215.out;have hfz7_0:=ja BK215.out 0;have hfz7_1:=ja BK215.out 1;have hfz7_2:=ja BK215.out 2;have hfz7_3:=ja BK215.out 3))
 (try simp only [Act.put,List.setIfInBounds_toArray,List.set_cons_zero,List.set_cons_succ])
 go_cut [7] (fun v7 wc=>∃ (kq:Nat) (x7_2:Bool),v7=.bool x7_2∧jk (jsa.j0 kq a0_1 x7_2 a0_0 a0_1 a0_2 a0_3 l1_0=some r)∧jk (kq≤k)∧jk (wc.heap[gb215]?=some (.cells #[.int .i64 a0_0, .int .i64 a0_1, .int .i64 a0_2, .int .i64 a0_3] 52 (0,0)))∧jk (wc.heap[gb216]?=some (.cells #[(.slice A1_0 l1_0.length c1_0)] 32 (0,0)))∧jk (Below w.heap.size w wc))
 case first =>
  have H:=HC3.out
  clear HC3
  by_cases c8:a0_1=1
  ·rw [if_pos c8] at H
   have c8b0:(a0_1 == 1)=true:=beq_iff_eq.mpr c8
   have c8b1:(a0_1 != 1)=false:=bne_eq_false_iff_eq.mpr c8
   clear c8
   (first | rw [c8b0] |(simp only [jub,jvb];rw [c8b0]) | skip)
   have H':=am H
   clear H
   go_wp2
   go_meet
   case rel=>exact ⟨_,((a0_1 == 1)),(sq),H',⟨Y19⟩,⟨kq BK215.out⟩,⟨kq BK216.out⟩,⟨Y9⟩⟩
  ·rw [if_neg c8] at H
   have c8b0:(a0_1 == 1)=false:=beq_eq_false_iff_ne.mpr c8
   have c8b1:(a0_1 != 1)=true:=bne_iff_ne.mpr c8
   (first | rw [c8b0] |(simp only [jub,jvb];rw [c8b0]) | skip)
   have H':=am H
   clear H
   go_wp2
   go_meet
   case rel=>exact ⟨_,((a0_1 == 4)),(sq),H',⟨Y19⟩,⟨kq BK215.out⟩,⟨kq BK216.out⟩,⟨Y9⟩⟩
 case rest =>
  clear HC3
  try clear c1
  try clear p2
  try clear c5
  try clear c6
  try clear c8
  try clear c8b0
  try clear c8b1
  try clear hcz7_0
  try clear hcz7_1
  try clear hcz7_2
  try clear hcz7_3
  try clear hfz7_0
  try clear hfz7_1
  try clear hfz7_2
  try clear hfz7_3
  obtain ⟨kq,x7_2,rfl,HA,HJ2,BK215,BK216,HB⟩:=hcut
  cases kq with
  | zero=>exact absurd HA.out (by simp [jsa.j0])
  | succ kj2 =>
   have H:=HA.out
   clear HA
   simp only [jsa.j0] at H
   by_cases c9:x7_2=true
   ·subst c9
    have H1:((jbb.f a0_2).bind fun t217=>(if t217=true then (some (a0_3 == 0)) else (some false)))=some r:=by rw [if_pos rfl] at H;exact H
    clear H
    have H:=H1
    clear H1
    replace H:=bzS H
    obtain ⟨t217,A100,H⟩:=H
    replace H:(if t217=true then (some (a0_3 == 0)) else (some false))=some r:=H
    have A10:=am A100
    clear A100
    by_cases c11:t217=true
    ·subst c11
     have H1:(some (a0_3 == 0))=some r:=by rw [if_pos rfl] at H;exact H
     clear H
     have H:=H1
     clear H1
     obtain rfl:=Option.some.inj H
     have hnb12:=NB215_216.out
     have hnc12:=NB216_215.out
     have hcz13_0:=bc0 BK215.out
     have hcz13_1:=bc1 BK215.out
     have hcz13_2:=bc2 BK215.out
     have hcz13_3:=bc3 BK215.out
     have hfz13_0:=ja BK215.out 0
     have hfz13_1:=ja BK215.out 1
     have hfz13_2:=ja BK215.out 2
     have hfz13_3:=ja BK215.out 3
     go_wp2_with (first |((with_reducible refine je (f:=80) rfl ?_);refine gL (some 12) Try.func80 #[.int .i64 a0_2] ?_;(with_reducible refine (jbb.calls a0_2 true _ A10.out).mono ?_);rintro e w' ⟨rfl,⟨nd,rfl⟩⟩;refine ⟨_,rfl,?_⟩))
     go_ret
     exact ⟨Y0,Y9⟩
    ·replace c11:=Bool.eq_false_iff.mpr c11
     subst c11
     have H1:(some false)=some r:=by rw [if_neg (show ¬ (false=true) by decide)] at H;exact H
     clear H
     have H:=H1
     clear H1
     obtain rfl:=Option.some.inj H
     have hnb14:=NB215_216.out
     have hnc14:=NB216_215.out
     have hcz15_0:=bc0 BK215.out
     have hcz15_1:=bc1 BK215.out
     have hcz15_2:=bc2 BK215.out
     have hcz15_3:=bc3 BK215.out
     have hfz15_0:=ja BK215.out 0
     have hfz15_1:=ja BK215.out 1
     have hfz15_2:=ja BK215.out 2
     have hfz15_3:=ja BK215.out 3
     go_wp2_with (first |((with_reducible refine je (f:=80) rfl ?_);refine gL (some 12) Try.func80 #[.int .i64 a0_2] ?_;(with_reducible refine (jbb.calls a0_2 false _ A10.out).mono ?_);rintro e w' ⟨rfl,⟨nd,rfl⟩⟩;refine ⟨_,rfl,?_⟩))
     go_ret
     exact ⟨Y0,Y9⟩
   ·replace c9:=Bool.eq_false_iff.mpr c9
    subst c9
    have H1:(if a0_1=2 then ((jXa.f l1_0 a0_2).bind fun t218=>(if t218=true then ((jbb.f a0_3).bind fun t219=>(some t219)) else (some false))) else (if a0_1=8 then ((jXa.f l1_0 a0_2).bind fun t220=>(if t220=true then (some (a0_3 == 0)) else (some false))) else (if a0_1=11 then ((jE.f a0_2 0 9).bind fun t221=>(if t221=true then ((jE.f a0_3 0 1).bind fun t222=>(some t222)) else (some false))) else (if a0_1=12 then ((jE.f a0_2 0 3).bind fun t223=>(if t223=true then (some (a0_3 == 0)) else (some false))) else ((jE.f a0_1 0 12).bind fun t224=>(if t224=true then (if a0_2=0 then (some (a0_3 == 0)) else (some false)) else (some false)))))))=some r:=by rw [if_neg (show ¬ (false=true) by decide)] at H;exact H
    clear H
    have H:=H1
    clear H1
    by_cases c16:a0_1=2
    ·rw [if_pos c16] at H
     have c16b0:(a0_1 == 2)=true:=beq_iff_eq.mpr c16
     have c16b1:(a0_1 != 2)=false:=bne_eq_false_iff_eq.mpr c16
     clear c16
     replace H:=bzS H
     obtain ⟨t218,A170,H⟩:=H
     replace H:(if t218=true then ((jbb.f a0_3).bind fun t219=>(some t219)) else (some false))=some r:=H
     have A17:=am A170
     clear A170
     by_cases c18:t218=true
     ·subst c18
      have H1:((jbb.f a0_3).bind fun t219=>(some t219))=some r:=by rw [if_pos rfl] at H;exact H
      clear H
      have H:=H1
      clear H1
      replace H:=bzS H
      obtain ⟨t219,A190,H⟩:=H
      replace H:(some t219)=some r:=H
      have A19:=am A190
      clear A190
      obtain rfl:=Option.some.inj H
      have hnb20:=NB216_215.out
      have hnc20:=NB215_216.out
      have hcz21_0:=bc0 BK216.out
      have hfz21_0:=ja BK216.out 0
      have hcz22_0:=bc0 BK215.out
      have hcz22_1:=bc1 BK215.out
      have hcz22_2:=bc2 BK215.out
      have hcz22_3:=bc3 BK215.out
      have hfz22_0:=ja BK215.out 0
      have hfz22_1:=ja BK215.out 1
      have hfz22_2:=ja BK215.out 2
      have hfz22_3:=ja BK215.out 3
      go_wp2_with (first |((with_reducible refine je (f:=81) rfl ?_);refine gL (some 23) Try.func81 #[.agg #[.slice A1_0 l1_0.length c1_0], .int .i64 a0_2] ?_;(with_reducible refine (jXa.calls _ _ l1_0 a0_2 true _ ?side1 ?side2 A17.out).mono ?_);(case side1=>exact cq (Kd.jF HR1_0.out HB.out));(case side2=>exact HC1_0.out);rintro e w23 ⟨rfl,hb⟩;refine ⟨_,rfl,?_⟩;replace BK215:=am (jm (g:=gb215) (o:=.cells #[.int .i64 a0_0, .int .i64 a0_1, .int .i64 a0_2, .int .i64 a0_3] 52 (0,0)) (kq BK215.out) hb);replace BK216:=am (jm (g:=gb216) (o:=.cells #[.slice A1_0 l1_0.length c1_0] 32 (0,0)) (kq BK216.out) hb);replace HB:=am (jd (Y9) hb);(try clear hb);(try clear hb2);(try clear hk);(try clear hi);have hcz24_0:=bc0 BK215.out;have hcz24_1:=bc1 BK215.out;have hcz24_2:=bc2 BK215.out;have hcz24_3:=bc3 BK215.out;have hfz24_0:=ja BK215.out 0;have hfz24_1:=ja BK215.out 1;have hfz24_2:=ja BK215.out 2;have hfz24_3:=ja BK215.out 3) |(go_at_call 80;(with_reducible refine (jbb.calls a0_3 t219 _ A19.out).mono ?_);rintro e w' ⟨rfl,⟨nd,rfl⟩⟩))
      go_ret
      exact ⟨Y0,Y9⟩
     ·replace c18:=Bool.eq_false_iff.mpr c18
      subst c18
      have H1:(some false)=some r:=by rw [if_neg (show ¬ (false=true) by decide)] at H;exact H
      clear H
      have H:=H1
      clear H1
      obtain rfl:=Option.some.inj H
      have hnb25:=NB216_215.out
      have hnc25:=NB215_216.out
      have hcz26_0:=bc0 BK216.out
      have hfz26_0:=ja BK216.out 0
      have hcz27_0:=bc0 BK215.out
      have hcz27_1:=bc1 BK215.out
      have hcz27_2:=bc2 BK215.out
      have hcz27_3:=bc3 BK215.out
      have hfz27_0:=ja BK215.out 0
      have hfz27_1:=ja BK215.out 1
      have hfz27_2:=ja BK215.out 2
      have hfz27_3:=ja BK215.out 3
      go_wp2_with (first |((with_reducible refine je (f:=81) rfl ?_);refine gL (some 23) Try.func81 #[.agg #[.slice A1_0 l1_0.length c1_0], .int .i64 a0_2] ?_;(with_reducible refine (jXa.calls _ _ l1_0 a0_2 false _ ?side1 ?side2 A17.out).mono ?_);(case side1=>exact cq (Kd.jF HR1_0.out HB.out));(case side2=>exact HC1_0.out);rintro e w28 ⟨rfl,hb⟩;refine ⟨_,rfl,?_⟩;replace BK215:=am (jm (g:=gb215) (o:=.cells #[.int .i64 a0_0, .int .i64 a0_1, .int .i64 a0_2, .int .i64 a0_3] 52 (0,0)) (kq BK215.out) hb);replace BK216:=am (jm (g:=gb216) (o:=.cells #[.slice A1_0 l1_0.length c1_0] 32 (0,0)) (kq BK216.out) hb);replace HB:=am (jd (Y9) hb);(try clear hb);(try clear hb2);(try clear hk);(try clear hi)))
      go_ret
      exact ⟨Y0,Y9⟩
    ·rw [if_neg c16] at H
     have c16b0:(a0_1 == 2)=false:=beq_eq_false_iff_ne.mpr c16
     have c16b1:(a0_1 != 2)=true:=bne_iff_ne.mpr c16
     by_cases c29:a0_1=8
     ·rw [if_pos c29] at H
      have c29b0:(a0_1 == 8)=true:=beq_iff_eq.mpr c29
      have c29b1:(a0_1 != 8)=false:=bne_eq_false_iff_eq.mpr c29
      clear c29
      replace H:=bzS H
      obtain ⟨t220,A300,H⟩:=H
      replace H:(if t220=true then (some (a0_3 == 0)) else (some false))=some r:=H
      have A30:=am A300
      clear A300
      by_cases c31:t220=true
      ·subst c31
       have H1:(some (a0_3 == 0))=some r:=by rw [if_pos rfl] at H;exact H
       clear H
       have H:=H1
       clear H1
       obtain rfl:=Option.some.inj H
       have hnb32:=NB216_215.out
       have hnc32:=NB215_216.out
       have hcz33_0:=bc0 BK216.out
       have hfz33_0:=ja BK216.out 0
       have hcz34_0:=bc0 BK215.out
       have hcz34_1:=bc1 BK215.out
       have hcz34_2:=bc2 BK215.out
       have hcz34_3:=bc3 BK215.out
       have hfz34_0:=ja BK215.out 0
       have hfz34_1:=ja BK215.out 1
       have hfz34_2:=ja BK215.out 2
       have hfz34_3:=ja BK215.out 3
       go_wp2_with (first |((with_reducible refine je (f:=81) rfl ?_);refine gL (some 34) Try.func81 #[.agg #[.slice A1_0 l1_0.length c1_0], .int .i64 a0_2] ?_;(with_reducible refine (jXa.calls _ _ l1_0 a0_2 true _ ?side1 ?side2 A30.out).mono ?_);(case side1=>exact cq (Kd.jF HR1_0.out HB.out));(case side2=>exact HC1_0.out);rintro e w35 ⟨rfl,hb⟩;refine ⟨_,rfl,?_⟩;replace BK215:=am (jm (g:=gb215) (o:=.cells #[.int .i64 a0_0, .int .i64 a0_1, .int .i64 a0_2, .int .i64 a0_3] 52 (0,0)) (kq BK215.out) hb);replace BK216:=am (jm (g:=gb216) (o:=.cells #[.slice A1_0 l1_0.length c1_0] 32 (0,0)) (kq BK216.out) hb);replace HB:=am (jd (Y9) hb);(try clear hb);(try clear hb2);(try clear hk);(try clear hi);have hcz36_0:=bc0 BK215.out;have hcz36_1:=bc1 BK215.out;have hcz36_2:=bc2 BK215.out;have hcz36_3:=bc3 BK215.out;have hfz36_0:=ja BK215.out 0;have hfz36_1:=ja BK215.out 1;have hfz36_2:=ja BK215.out 2;have hfz36_3:=ja BK215.out 3))
       go_ret
       exact ⟨Y0,Y9⟩
      ·replace c31:=Bool.eq_false_iff.mpr c31
       subst c31
       have H1:(some false)=some r:=by rw [if_neg (show ¬ (false=true) by decide)] at H;exact H
       clear H
       have H:=H1
       clear H1
       obtain rfl:=Option.some.inj H
       have hnb37:=NB216_215.out
       have hnc37:=NB215_216.out
       have hcz38_0:=bc0 BK216.out
       have hfz38_0:=ja BK216.out 0
       have hcz39_0:=bc0 BK215.out
       have hcz39_1:=bc1 BK215.out
       have hcz39_2:=bc2 BK215.out
       have hcz39_3:=bc3 BK215.out
       have hfz39_0:=ja BK215.out 0
       have hfz39_1:=ja BK215.out 1
       have hfz39_2:=ja BK215.out 2
       have hfz39_3:=ja BK215.out 3
       go_wp2_with (first |((with_reducible refine je (f:=81) rfl ?_);refine gL (some 34) Try.func81 #[.agg #[.slice A1_0 l1_0.length c1_0], .int .i64 a0_2] ?_;(with_reducible refine (jXa.calls _ _ l1_0 a0_2 false _ ?side1 ?side2 A30.out).mono ?_);(case side1=>exact cq (Kd.jF HR1_0.out HB.out));(case side2=>exact HC1_0.out);rintro e w40 ⟨rfl,hb⟩;refine ⟨_,rfl,?_⟩;replace BK215:=am (jm (g:=gb215) (o:=.cells #[.int .i64 a0_0, .int .i64 a0_1, .int .i64 a0_2, .int .i64 a0_3] 52 (0,0)) (kq BK215.out) hb);replace BK216:=am (jm (g:=gb216) (o:=.cells #[.slice A1_0 l1_0.length c1_0] 32 (0,0)) (kq BK216.out) hb);replace HB:=am (jd (Y9) hb);(try clear hb);(try clear hb2);(try clear hk);(try clear hi)))
       go_ret
       exact ⟨Y0,Y9⟩
     ·rw [if_neg c29] at H
      have c29b0:(a0_1 == 8)=false:=beq_eq_false_iff_ne.mpr c29
      have c29b1:(a0_1 != 8)=true:=bne_iff_ne.mpr c29
      by_cases c41:a0_1=11
      ·rw [if_pos c41] at H
       have c41b0:(a0_1 == 11)=true:=beq_iff_eq.mpr c41
       have c41b1:(a0_1 != 11)=false:=bne_eq_false_iff_eq.mpr c41
       clear c41
       replace H:=bzS H
       obtain ⟨t221,A420,H⟩:=H
       replace H:(if t221=true then ((jE.f a0_3 0 1).bind fun t222=>(some t222)) else (some false))=some r:=H
       have A42:=am A420
       clear A420
       by_cases c43:t221=true
       ·subst c43
        have H1:((jE.f a0_3 0 1).bind fun t222=>(some t222))=some r:=by rw [if_pos rfl] at H;exact H
        clear H
        have H:=H1
        clear H1
        replace H:=bzS H
        obtain ⟨t222,A440,H⟩:=H
        replace H:(some t222)=some r:=H
        have A44:=am A440
        clear A440
        obtain rfl:=Option.some.inj H
        have hnb45:=NB215_216.out
        have hnc45:=NB216_215.out
        have hcz46_0:=bc0 BK215.out
        have hcz46_1:=bc1 BK215.out
        have hcz46_2:=bc2 BK215.out
        have hcz46_3:=bc3 BK215.out
        have hfz46_0:=ja BK215.out 0
        have hfz46_1:=ja BK215.out 1
        have hfz46_2:=ja BK215.out 2
        have hfz46_3:=ja BK215.out 3
        go_wp2_with (first |((with_reducible refine je (f:=53) rfl ?_);refine gL (some 44) Try.func53 #[.int .i64 a0_2, .int .i64 0, .int .i64 9] ?_;(with_reducible refine (jE.calls a0_2 0 9 true _ A42.out).mono ?_);rintro e w' ⟨rfl,⟨nd,rfl⟩⟩;refine ⟨_,rfl,?_⟩) |(go_at_call 53;(with_reducible refine (jE.calls a0_3 0 1 t222 _ A44.out).mono ?_);rintro e w' ⟨rfl,⟨nd,rfl⟩⟩))
        go_ret
        exact ⟨Y0,Y9⟩
       ·replace c43:=Bool.eq_false_iff.mpr c43
        subst c43
        have H1:(some false)=some r:=by rw [if_neg (show ¬ (false=true) by decide)] at H;exact H
        clear H
        have H:=H1
        clear H1
        obtain rfl:=Option.some.inj H
        have hnb47:=NB215_216.out
        have hnc47:=NB216_215.out
        have hcz48_0:=bc0 BK215.out
        have hcz48_1:=bc1 BK215.out
        have hcz48_2:=bc2 BK215.out
        have hcz48_3:=bc3 BK215.out
        have hfz48_0:=ja BK215.out 0
        have hfz48_1:=ja BK215.out 1
        have hfz48_2:=ja BK215.out 2
        have hfz48_3:=ja BK215.out 3
        go_wp2_with (first |((with_reducible refine je (f:=53) rfl ?_);refine gL (some 44) Try.func53 #[.int .i64 a0_2, .int .i64 0, .int .i64 9] ?_;(with_reducible refine (jE.calls a0_2 0 9 false _ A42.out).mono ?_);rintro e w' ⟨rfl,⟨nd,rfl⟩⟩;refine ⟨_,rfl,?_⟩))
        go_ret
        exact ⟨Y0,Y9⟩
      ·rw [if_neg c41] at H
       have c41b0:(a0_1 == 11)=false:=beq_eq_false_iff_ne.mpr c41
       have c41b1:(a0_1 != 11)=true:=bne_iff_ne.mpr c41
       by_cases c49:a0_1=12
       ·rw [if_pos c49] at H
        have c49b0:(a0_1 == 12)=true:=beq_iff_eq.mpr c49
        have c49b1:(a0_1 != 12)=false:=bne_eq_false_iff_eq.mpr c49
        clear c49
        replace H:=bzS H
        obtain ⟨t223,A500,H⟩:=H
        replace H:(if t223=true then (some (a0_3 == 0)) else (some false))=some r:=H
        have A50:=am A500
        clear A500
        by_cases c51:t223=true
        ·subst c51
         have H1:(some (a0_3 == 0))=some r:=by rw [if_pos rfl] at H;exact H
         clear H
         have H:=H1
         clear H1
         obtain rfl:=Option.some.inj H
         have hnb52:=NB215_216.out
         have hnc52:=NB216_215.out
         have hcz53_0:=bc0 BK215.out
         have hcz53_1:=bc1 BK215.out
         have hcz53_2:=bc2 BK215.out
         have hcz53_3:=bc3 BK215.out
         have hfz53_0:=ja BK215.out 0
         have hfz53_1:=ja BK215.out 1
         have hfz53_2:=ja BK215.out 2
         have hfz53_3:=ja BK215.out 3
         go_wp2_with (first |((with_reducible refine je (f:=53) rfl ?_);refine gL (some 54) Try.func53 #[.int .i64 a0_2, .int .i64 0, .int .i64 3] ?_;(with_reducible refine (jE.calls a0_2 0 3 true _ A50.out).mono ?_);rintro e w' ⟨rfl,⟨nd,rfl⟩⟩;refine ⟨_,rfl,?_⟩))
         go_ret
         exact ⟨Y0,Y9⟩
        ·replace c51:=Bool.eq_false_iff.mpr c51
         subst c51
         have H1:(some false)=some r:=by rw [if_neg (show ¬ (false=true) by decide)] at H;exact H
         clear H
         have H:=H1
         clear H1
         obtain rfl:=Option.some.inj H
         have hnb54:=NB215_216.out
         have hnc54:=NB216_215.out
         have hcz55_0:=bc0 BK215.out
         have hcz55_1:=bc1 BK215.out
         have hcz55_2:=bc2 BK215.out
         have hcz55_3:=bc3 BK215.out
         have hfz55_0:=ja BK215.out 0
         have hfz55_1:=ja BK215.out 1
         have hfz55_2:=ja BK215.out 2
         have hfz55_3:=ja BK215.out 3
         go_wp2_with (first |((with_reducible refine je (f:=53) rfl ?_);refine gL (some 54) Try.func53 #[.int .i64 a0_2, .int .i64 0, .int .i64 3] ?_;(with_reducible refine (jE.calls a0_2 0 3 false _ A50.out).mono ?_);rintro e w' ⟨rfl,⟨nd,rfl⟩⟩;refine ⟨_,rfl,?_⟩))
         go_ret
         exact ⟨Y0,Y9⟩
       ·rw [if_neg c49] at H
        have c49b0:(a0_1 == 12)=false:=beq_eq_false_iff_ne.mpr c49
        have c49b1:(a0_1 != 12)=true:=bne_iff_ne.mpr c49
        replace H:=bzS H
        obtain ⟨t224,A560,H⟩:=H
        replace H:(if t224=true then (if a0_2=0 then (some (a0_3 == 0)) else (some false)) else (some false))=some r:=H
        have A56:=am A560
        clear A560
        by_cases c57:t224=true
        ·subst c57
         have H1:(if a0_2=0 then (some (a0_3 == 0)) else (some false))=some r:=by rw [if_pos rfl] at H;exact H
         clear H
         have H:=H1
         clear H1
         by_cases c58:a0_2=0
         ·rw [if_pos c58] at H
          have c58b0:(a0_2 == 0)=true:=beq_iff_eq.mpr c58
          have c58b1:(a0_2 != 0)=false:=bne_eq_false_iff_eq.mpr c58
          clear c58
          obtain rfl:=Option.some.inj H
          have hnb59:=NB215_216.out
          have hnc59:=NB216_215.out
          have hcz60_0:=bc0 BK215.out
          have hcz60_1:=bc1 BK215.out
          have hcz60_2:=bc2 BK215.out
          have hcz60_3:=bc3 BK215.out
          have hfz60_0:=ja BK215.out 0
          have hfz60_1:=ja BK215.out 1
          have hfz60_2:=ja BK215.out 2
          have hfz60_3:=ja BK215.out 3
          go_wp2_with (first |((with_reducible refine je (f:=53) rfl ?_);refine gL (some 62) Try.func53 #[.int .i64 a0_1, .int .i64 0, .int .i64 12] ?_;(with_reducible refine (jE.calls a0_1 0 12 true _ A56.out).mono ?_);rintro e w' ⟨rfl,⟨nd,rfl⟩⟩;refine ⟨_,rfl,?_⟩))
          go_ret
          exact ⟨Y0,Y9⟩
         ·rw [if_neg c58] at H
          have c58b0:(a0_2 == 0)=false:=beq_eq_false_iff_ne.mpr c58
          have c58b1:(a0_2 != 0)=true:=bne_iff_ne.mpr c58
          obtain rfl:=Option.some.inj H
          have hnb61:=NB215_216.out
          have hnc61:=NB216_215.out
          have hcz62_0:=bc0 BK215.out
          have hcz62_1:=bc1 BK215.out
          have hcz62_2:=bc2 BK215.out
          have hcz62_3:=bc3 BK215.out
          have hfz62_0:=ja BK215.out 0
          have hfz62_1:=ja BK215.out 1
          have hfz62_2:=ja BK215.out 2
          have hfz62_3:=ja BK215.out 3
          go_wp2_with (first |((with_reducible refine je (f:=53) rfl ?_);refine gL (some 62) Try.func53 #[.int .i64 a0_1, .int .i64 0, .int .i64 12] ?_;(with_reducible refine (jE.calls a0_1 0 12 true _ A56.out).mono ?_);rintro e w' ⟨rfl,⟨nd,rfl⟩⟩;refine ⟨_,rfl,?_⟩))
          go_ret
          exact ⟨Y0,Y9⟩
        ·replace c57:=Bool.eq_false_iff.mpr c57
         subst c57
         have H1:(some false)=some r:=by rw [if_neg (show ¬ (false=true) by decide)] at H;exact H
         clear H
         have H:=H1
         clear H1
         obtain rfl:=Option.some.inj H
         have hnb63:=NB215_216.out
         have hnc63:=NB216_215.out
         have hcz64_0:=bc0 BK215.out
         have hcz64_1:=bc1 BK215.out
         have hcz64_2:=bc2 BK215.out
         have hcz64_3:=bc3 BK215.out
         have hfz64_0:=ja BK215.out 0
         have hfz64_1:=ja BK215.out 1
         have hfz64_2:=ja BK215.out 2
         have hfz64_3:=ja BK215.out 3
         go_wp2_with (first |((with_reducible refine je (f:=53) rfl ?_);refine gL (some 62) Try.func53 #[.int .i64 a0_1, .int .i64 0, .int .i64 12] ?_;(with_reducible refine (jE.calls a0_1 0 12 false _ A56.out).mono ?_);rintro e w' ⟨rfl,⟨nd,rfl⟩⟩;refine ⟨_,rfl,?_⟩))
         go_ret
         exact ⟨Y0,Y9⟩
def jOa.f (a0_0 : Int) (a0_1 : Int) (a0_2 : Int) (a0_3 : Int) : Option (Bool) := (jE.f a0_1 7 12).bind fun t226 => (some t226)
set_option maxHeartbeats 8000000 in
set_option maxRecDepth 100000 in
theorem jOa.calls (a0_0 : Int) (a0_1 : Int) (a0_2 : Int) (a0_3 : Int) (r : Bool) (w : World) (h : jOa.f a0_0 a0_1 a0_2 a0_3 = some r) :
  Calls Try.prog 54 #[.agg #[.int .i64 a0_0, .int .i64 a0_1, .int .i64 a0_2, .int .i64 a0_3]] w fun e w'=>e=.returned (.bool r)∧Below w.heap.size w w':=by
 have hu52:=Try.underlying52
 have HB:=am (Below.refl w.heap.size w)
 have H:((jE.f a0_1 7 12).bind fun t226=>(some t226))=some r:=h
 clear h
 replace H:=bzS H
 obtain ⟨t226,A20,H⟩:=H
 replace H:(some t226)=some r:=H
 have A2:=am A20
 clear A20
 obtain rfl:=Option.some.inj H
 go_enter Try.func54,Try.ntmps54
 go_wp2_with (first |((with_reducible refine jP (N:=1) rfl ?_);refine bE (N:=1) (cs:=#[.int .i64 a0_0, .int .i64 a0_1, .int .i64 a0_2, .int .i64 a0_3]) (t:=52) ?_;intro gb225 hg w3 hbox hb;have BK225:=am (hbox);have GW225:=am ((Y1:w.heap.size≤gb225));have GE225:=am ((Y1:w.heap.size≤gb225));replace HB:=am (jd (bq) hb);clear hb hbox hg;have hcz4_0:=bc0 BK225.out;have hcz4_1:=bc1 BK225.out;have hcz4_2:=bc2 BK225.out;have hcz4_3:=bc3 BK225.out;have hfz4_0:=ja BK225.out 0;have hfz4_1:=ja BK225.out 1;have hfz4_2:=ja BK225.out 2;have hfz4_3:=ja BK225.out 3) |((with_reducible refine je (f:=53) rfl ?_);refine gL (some 5) Try.func53 #[.int .i64 a0_1, .int .i64 7, .int .i64 12] ?_;(with_reducible refine (jE.calls a0_1 7 12 t226 _ A2.out).mono ?_);rintro e w' ⟨rfl,⟨nd,rfl⟩⟩;refine ⟨_,rfl,?_⟩))
 go_ret
 exact ⟨Y0,by repeat (first |(with_reducible first | exact HB.out | apply jv | apply jg | apply jr | refine jw ?_ GE225.out) | exact HB.out)⟩
def jda.l0 : Nat → List (S52) → Int → Int → Option (Int)
 | 0,_,_,_=>none
 | k+1,x0,x1,x5=>if x5<(x0.length:Int) then (if 0≤x5 then (if 0≤x1 then (if x1<(x0.length:Int) then (if ((jb x0 x5).f0) > ((jb x0 x1).f0) then (jda.l0 k x0 x1 (wrap64 (x5+1))) else (some x5)) else (none)) else (none)) else (none)) else (some x5)
def jda.f (k : Nat) (l0 : List (S52)) (a1 : Int) : Option (Int) := jda.l0 k l0 a1 (wrap64 (a1 + 1))
set_option maxHeartbeats 8000000 in
set_option maxRecDepth 100000 in
theorem jda.calls (k : Nat) (A0 : Option Addr) (c0 : Nat) (l0 : List (S52)) (a1 : Int) (r : Int) (w : World) (hr0 : Kd.C k52 w A0 l0.length l0) (hc0 : l0.length ≤ c0) (h : jda.f k l0 a1 = some r) :
  Calls Try.prog 62 #[.slice A0 l0.length c0, .int .i64 a1] w fun e w'=>e=.returned (.int .i64 r)∧jKa w w':=by
 have HR0:=am hr0
 have HC0:=am hc0
 clear hr0 hc0
 have H:(jda.l0 k l0 a1 (wrap64 (a1+1)))=some r:=h
 clear h
 have H':=am H
 clear H
 go_enter Try.func62,Try.ntmps62
 go_wp2
 repeat (go_quiet (fail);try go_wp2)
 go_loopg [5] k (fun kq v5 w'=>∃ (x5_1:Int),v5=.int .i64 x5_1∧jk (jda.l0 kq l0 a1 x5_1=some r)∧jk (kq≤k)∧jKa w w')
 case atStart=>exact ⟨(wrap64 (a1+1)),(sq),H',⟨Nat.le_refl _⟩,Y2⟩
 case round =>
  clear H'
  try clear p2
  obtain ⟨x5_1,rfl,HA,HK1,⟨m1,rfl⟩⟩:=hrel
  cases gk with
  | zero=>exact absurd HA.out (by simp [jda.l0])
  | succ k1 =>
   have H:=HA.out
   clear HA
   simp only [jda.l0] at H
   by_cases c3:x5_1<(l0.length:Int)
   ·rw [if_pos c3] at H
    have c3b0:decide (x5_1<(l0.length:Int))=true:=dzT c3
    clear c3
    by_cases c4:0≤x5_1
    ·rw [if_pos c4] at H
     have c4b0:decide (0≤x5_1)=true:=dzT c4
     clear c4
     by_cases c5:0≤a1
     ·rw [if_pos c5] at H
      have c5b0:decide (0≤a1)=true:=dzT c5
      clear c5
      by_cases c6:a1<(l0.length:Int)
      ·rw [if_pos c6] at H
       have c6b0:decide (a1<(l0.length:Int))=true:=dzT c6
       clear c6
       by_cases c7:((jb l0 x5_1).f0) > ((jb l0 a1).f0)
       ·rw [if_pos c7] at H
        have c7b0:decide (((jb l0 a1).f0)<((jb l0 x5_1).f0))=true:=dzT c7
        clear c7
        have H':=am H
        clear H
        have p227:0≤(x5_1:Int):=ozD (uq)
        have q227:x5_1<(l0.length:Int):=ozD (uq)
        obtain ⟨ad227,e227,hx227_0,hx227_1,hx227_2,hx227_3⟩:=jba HR0.out x5_1 p227 q227
        cases e227
        replace p227:=ezT p227
        replace q227:=ezT q227
        have p228:0≤(a1:Int):=ozD (uq)
        have q228:a1<(l0.length:Int):=ozD (uq)
        obtain ⟨ad228,e228,hx228_0,hx228_1,hx228_2,hx228_3⟩:=jba HR0.out a1 p228 q228
        obtain rfl:ad227=ad228:=(by injection e228)
        replace p228:=ezT p228
        replace q228:=ezT q228
        go_wp2
        repeat (go_quiet (fail);try go_wp2)
        go_roundg k1
        case measure=>have:=HK1.out;omega
        case rel=>exact ⟨(wrap64 (x5_1+1)),(sq),H',⟨by have:=HK1.out;omega⟩,Y2⟩
       ·rw [if_neg c7] at H
        have c7b0:decide (((jb l0 a1).f0)<((jb l0 x5_1).f0))=false:=dzF c7
        clear c7
        obtain rfl:=Option.some.inj H
        have p227:0≤(x5_1:Int):=ozD (uq)
        have q227:x5_1<(l0.length:Int):=ozD (uq)
        obtain ⟨ad227,e227,hx227_0,hx227_1,hx227_2,hx227_3⟩:=jba HR0.out x5_1 p227 q227
        cases e227
        replace p227:=ezT p227
        replace q227:=ezT q227
        have p228:0≤(a1:Int):=ozD (uq)
        have q228:a1<(l0.length:Int):=ozD (uq)
        obtain ⟨ad228,e228,hx228_0,hx228_1,hx228_2,hx228_3⟩:=jba HR0.out a1 p228 q228
        obtain rfl:ad227=ad228:=(by injection e228)
        replace p228:=ezT p228
        replace q228:=ezT q228
        go_wp2
        repeat (go_quiet (fail);try go_wp2)
        go_ret
        exact ⟨sq,Y2⟩
      ·rw [if_neg c6] at H
       exact absurd H (by simp)
     ·rw [if_neg c5] at H
      exact absurd H (by simp)
    ·rw [if_neg c4] at H
     exact absurd H (by simp)
   ·rw [if_neg c3] at H
    have c3b0:decide (x5_1<(l0.length:Int))=false:=dzF c3
    clear c3
    obtain rfl:=Option.some.inj H
    go_wp2
    repeat (go_quiet (fail);try go_wp2)
    go_ret
    exact ⟨sq,Y2⟩
mutual
def jW.l0 : Nat → List (S52) → Int → List Int → Int → Option (List Int)
 | 0,_,_,_,_=>none
 | k+1,x0,x1,x5,x6=>if x6<(x0.length:Int) then (if 0≤x6 then (if 0≤x1 then (if x1<(x0.length:Int) then (if ((jb x0 x6).f0)=((jb x0 x1).f0) then ((jE.f ((jb x0 x6).f1) 8 10).bind fun t236=>(jW.j1 k x0 x1 x5 x6 t236)) else (jW.j1 k x0 x1 x5 x6 false)) else (none)) else (none)) else (none)) else (jW.j1 k x0 x1 x5 x6 false)
def jW.j1 : Nat → List (S52) → Int → List Int → Int → Bool → Option (List Int)
 | 0,_,_,_,_,_=>none
 | k+1,x0,x1,x5,x6,x36=>if x36=true then (if x5.length<17592186044416 then ((jda.f k x0 x6).bind fun t240=>(jW.l0 k x0 x1 (x5 ++ [x6]) t240)) else (none)) else (some x5)
end
def jW.f (k : Nat) (l0 : List (S52)) (a1 : Int) : Option (List Int) := (jda.f k l0 a1).bind fun t232 => (jW.l0 k l0 a1 (([a1] : List Int)) t232)
set_option maxHeartbeats 8000000 in
set_option maxRecDepth 100000 in
theorem jW.calls (k : Nat) (A0 : Option Addr) (c0 : Nat) (l0 : List (S52)) (a1 : Int) (r : List Int) (w : World) (hr0 : Kd.C k52 w A0 l0.length l0) (hc0 : l0.length ≤ c0) (h : jW.f k l0 a1 = some r) :
  Calls Try.prog 68 #[.slice A0 l0.length c0, .int .i64 a1] w fun e w'=>∃ v0_:Value,e=.returned (v0_)∧Kd.R (Kd.int .i64) 3 w' w.heap.size (fun _=>True) v0_ r∧Below w.heap.size w w':=by
 have HR0:=am hr0
 have HC0:=am hc0
 clear hr0 hc0
 have HB:=am (Below.refl w.heap.size w)
 have H:((jda.f k l0 a1).bind fun t232=>(jW.l0 k l0 a1 (([a1]:List Int)) t232))=some r:=h
 clear h
 obtain ⟨y229,hy229⟩:∃ y_:List Int,y_=(([a1]:List Int)):=⟨_,rfl⟩
 replace H:((jda.f k l0 a1).bind fun t232=>(jW.l0 k l0 a1 y229 t232))=some r:=by first |(rw [hy229];with_reducible exact H) |(have H2_:=(Option.bind_some _ _).symm.trans H;rw [hy229];with_reducible exact H2_) |(have H2_:=(Option.bind_some _ _).symm.trans H;with_reducible exact H2_) | with_reducible exact H |(rw [hy229];exact H) | exact H
 have Ny229:=am hy229
 clear hy229
 replace H:=bzS H
 obtain ⟨t232,A30,H⟩:=H
 replace H:(jW.l0 k l0 a1 y229 t232)=some r:=H
 have A3:=am A30
 clear A30
 have H':=am H
 clear H
 go_enter Try.func68,Try.ntmps68
 go_wp2_with (first |((with_reducible refine jP (N:=8) rfl ?_);refine Kd.R_lit (Kd.int .i64) _ 3 ?hg (N:=8) ?hd (xs:=([a1]:List Int)) (inner:=[.int .i64 a1]) (ok:=fun _=>True) (okp:=fun _=>True) ?hr ?hp (fun _ hk=>hk) trivial (Below.refl _ _) (Nat.le_refl _) (by simp) ?_;(case hd=>rfl);(case hg=>rfl);(case hr=>exact Y4);(case hp=>exact (Reps.one (show Kd.M (Kd.int .i64) _ _ _ a1 [.int .i64 a1] from rfl) (Reps.none _ _)));intro v230 w4 ho5 hb hg_ hnew_;clear hg_ hnew_;(first | rw [← Ny229.out] at ho5 |(simp only [Int.reduceToNat] at ho5;rw [← Ny229.out] at ho5));have HO231:=am (Kd.jRa ho5 (jH (bq)));replace HB:=am (jd (bq) hb);clear hb ho5) |(go_at_call 62;(with_reducible refine (jda.calls k _ _ l0 a1 t232 _ ?side1 ?side2 A3.out).mono ?_);(case side1=>exact cq (Kd.jF HR0.out HB.out));(case side2=>exact HC0.out);rintro e w' ⟨rfl,⟨nd,rfl⟩⟩;(try first | exact ⟨rfl,_,World.drewN_drewN _ _ _⟩ | exact ⟨rfl,_,Eq.trans (World.drewN_drewN _ _ _) (congrArg (World.drewN _) (Nat.add_assoc _ _ _))⟩)))
 repeat (go_quiet (first |((with_reducible refine jP (N:=8) rfl ?_);refine Kd.R_lit (Kd.int .i64) _ 3 ?hg (N:=8) ?hd (xs:=([a1]:List Int)) (inner:=[.int .i64 a1]) (ok:=fun _=>True) (okp:=fun _=>True) ?hr ?hp (fun _ hk=>hk) trivial (Below.refl _ _) (Nat.le_refl _) (by simp) ?_;(case hd=>rfl);(case hg=>rfl);(case hr=>exact Y4);(case hp=>exact (Reps.one (show Kd.M (Kd.int .i64) _ _ _ a1 [.int .i64 a1] from rfl) (Reps.none _ _)));intro v230 w4 ho5 hb hg_ hnew_;clear hg_ hnew_;(first | rw [← Ny229.out] at ho5 |(simp only [Int.reduceToNat] at ho5;rw [← Ny229.out] at ho5));have HO231:=am (Kd.jRa ho5 (jH (bq)));replace HB:=am (jd (bq) hb);clear hb ho5) |(go_at_call 62;(with_reducible refine (jda.calls k _ _ l0 a1 t232 _ ?side1 ?side2 A3.out).mono ?_);(case side1=>exact cq (Kd.jF HR0.out HB.out));(case side2=>exact HC0.out);rintro e w' ⟨rfl,⟨nd,rfl⟩⟩;(try first | exact ⟨rfl,_,World.drewN_drewN _ _ _⟩ | exact ⟨rfl,_,Eq.trans (World.drewN_drewN _ _ _) (congrArg (World.drewN _) (Nat.add_assoc _ _ _))⟩)));try go_wp2_with (first |((with_reducible refine jP (N:=8) rfl ?_);refine Kd.R_lit (Kd.int .i64) _ 3 ?hg (N:=8) ?hd (xs:=([a1]:List Int)) (inner:=[.int .i64 a1]) (ok:=fun _=>True) (okp:=fun _=>True) ?hr ?hp (fun _ hk=>hk) trivial (Below.refl _ _) (Nat.le_refl _) (by simp) ?_;(case hd=>rfl);(case hg=>rfl);(case hr=>exact Y4);(case hp=>exact (Reps.one (show Kd.M (Kd.int .i64) _ _ _ a1 [.int .i64 a1] from rfl) (Reps.none _ _)));intro v230 w4 ho5 hb hg_ hnew_;clear hg_ hnew_;(first | rw [← Ny229.out] at ho5 |(simp only [Int.reduceToNat] at ho5;rw [← Ny229.out] at ho5));have HO231:=am (Kd.jRa ho5 (jH (bq)));replace HB:=am (jd (bq) hb);clear hb ho5) |(go_at_call 62;(with_reducible refine (jda.calls k _ _ l0 a1 t232 _ ?side1 ?side2 A3.out).mono ?_);(case side1=>exact cq (Kd.jF HR0.out HB.out));(case side2=>exact HC0.out);rintro e w' ⟨rfl,⟨nd,rfl⟩⟩;(try first | exact ⟨rfl,_,World.drewN_drewN _ _ _⟩ | exact ⟨rfl,_,Eq.trans (World.drewN_drewN _ _ _) (congrArg (World.drewN _) (Nat.add_assoc _ _ _))⟩))))
 go_loopg [5,6] k (fun kq v5 v6 w'=>∃ (x5_1:List Int) (x6_1:Int),v6=.int .i64 x6_1∧jk (jW.l0 kq l0 a1 x5_1 x6_1=some r)∧jk (kq≤k)∧jk (Kd.R (Kd.int .i64) 3 w' w.heap.size (fun _=>True) v5 x5_1)∧jk (Below w.heap.size w w'))
 case atStart=>exact ⟨(y229),(t232),(sq),H',⟨Nat.le_refl _⟩,⟨rq HO231.out⟩,⟨bq⟩⟩
 case round =>
  clear H'
  try clear p2
  obtain ⟨x5_1,x6_1,rfl,HA,HK1,HO_5,HB⟩:=hrel
  cases gk with
  | zero=>exact absurd HA.out (by simp [jW.l0])
  | succ k1 =>
   have H:=HA.out
   clear HA
   simp only [jW.l0] at H
   have HC6:=am H
   clear H
   go_upto_region 3 with (fail)
   repeat (go_quiet (fail);go_upto_region 3 with (fail))
   go_cut [36] (fun v36 wc=>∃ (kq:Nat) (x36_5:Bool),v36=.bool x36_5∧jk (jW.j1 kq l0 a1 x5_1 x6_1 x36_5=some r)∧jk (kq≤k1)∧jk (Kd.R (Kd.int .i64) 3 wc w.heap.size (fun _=>True) u5 x5_1)∧jk (Below w.heap.size w wc))
   case first =>
    have H:=HC6.out
    clear HC6
    by_cases c7:x6_1<(l0.length:Int)
    ·rw [if_pos c7] at H
     have c7b0:decide (x6_1<(l0.length:Int))=true:=dzT c7
     clear c7
     (first | rw [c7b0] |(simp only [jub,jvb];rw [c7b0]) | skip)
     by_cases c8:0≤x6_1
     ·rw [if_pos c8] at H
      have c8b0:decide (0≤x6_1)=true:=dzT c8
      clear c8
      by_cases c9:0≤a1
      ·rw [if_pos c9] at H
       have c9b0:decide (0≤a1)=true:=dzT c9
       clear c9
       by_cases c10:a1<(l0.length:Int)
       ·rw [if_pos c10] at H
        have c10b0:decide (a1<(l0.length:Int))=true:=dzT c10
        clear c10
        by_cases c11:((jb l0 x6_1).f0)=((jb l0 a1).f0)
        ·rw [if_pos c11] at H
         have c11b0:(((jb l0 x6_1).f0) == ((jb l0 a1).f0))=true:=beq_iff_eq.mpr c11
         have c11b1:(((jb l0 x6_1).f0) != ((jb l0 a1).f0))=false:=bne_eq_false_iff_eq.mpr c11
         clear c11
         replace H:=bzS H
         obtain ⟨t236,A120,H⟩:=H
         replace H:(jW.j1 k1 l0 a1 x5_1 x6_1 t236)=some r:=H
         have A12:=am A120
         clear A120
         have H':=am H
         clear H
         have p233:0≤(x6_1:Int):=ozD (uq)
         have q233:x6_1<(l0.length:Int):=ozD (uq)
         obtain ⟨ad233,e233,hx233_0,hx233_1,hx233_2,hx233_3⟩:=jba HR0.out x6_1 p233 q233
         cases e233
         replace hx233_0:=cb HB.out hx233_0
         replace hx233_1:=cb HB.out hx233_1
         replace hx233_2:=cb HB.out hx233_2
         replace hx233_3:=cb HB.out hx233_3
         replace p233:=ezT p233
         replace q233:=ezT q233
         have p234:0≤(a1:Int):=ozD (uq)
         have q234:a1<(l0.length:Int):=ozD (uq)
         obtain ⟨ad234,e234,hx234_0,hx234_1,hx234_2,hx234_3⟩:=jba HR0.out a1 p234 q234
         obtain rfl:ad233=ad234:=(by injection e234)
         replace hx234_0:=cb HB.out hx234_0
         replace hx234_1:=cb HB.out hx234_1
         replace hx234_2:=cb HB.out hx234_2
         replace hx234_3:=cb HB.out hx234_3
         replace p234:=ezT p234
         replace q234:=ezT q234
         have p235:0≤(x6_1:Int):=ozD (uq)
         have q235:x6_1<(l0.length:Int):=ozD (uq)
         obtain ⟨ad235,e235,hx235_0,hx235_1,hx235_2,hx235_3⟩:=jba HR0.out x6_1 p235 q235
         obtain rfl:ad233=ad235:=(by injection e235)
         replace hx235_0:=cb HB.out hx235_0
         replace hx235_1:=cb HB.out hx235_1
         replace hx235_2:=cb HB.out hx235_2
         replace hx235_3:=cb HB.out hx235_3
         replace p235:=ezT p235
         replace q235:=ezT q235
         go_wp2_with (first |(go_at_call 53;(with_reducible refine (jE.calls ((jb l0 x6_1).f1) 8 10 t236 _ A12.out).mono ?_);rintro e w' ⟨rfl,⟨nd,rfl⟩⟩;(try first | exact ⟨rfl,_,World.drewN_drewN _ _ _⟩ | exact ⟨rfl,_,Eq.trans (World.drewN_drewN _ _ _) (congrArg (World.drewN _) (Nat.add_assoc _ _ _))⟩)))
         repeat (go_quiet (first |(go_at_call 53;(with_reducible refine (jE.calls ((jb l0 x6_1).f1) 8 10 t236 _ A12.out).mono ?_);rintro e w' ⟨rfl,⟨nd,rfl⟩⟩;(try first | exact ⟨rfl,_,World.drewN_drewN _ _ _⟩ | exact ⟨rfl,_,Eq.trans (World.drewN_drewN _ _ _) (congrArg (World.drewN _) (Nat.add_assoc _ _ _))⟩)));try go_wp2_with (first |(go_at_call 53;(with_reducible refine (jE.calls ((jb l0 x6_1).f1) 8 10 t236 _ A12.out).mono ?_);rintro e w' ⟨rfl,⟨nd,rfl⟩⟩;(try first | exact ⟨rfl,_,World.drewN_drewN _ _ _⟩ | exact ⟨rfl,_,Eq.trans (World.drewN_drewN _ _ _) (congrArg (World.drewN _) (Nat.add_assoc _ _ _))⟩))))
         go_meet
         case rel=>exact ⟨_,(t236),(sq),H',⟨by have:=HK1.out;first | omega | exact Nat.le_refl _⟩,⟨rq HO_5.out⟩,⟨bq⟩⟩
        ·rw [if_neg c11] at H
         have c11b0:(((jb l0 x6_1).f0) == ((jb l0 a1).f0))=false:=beq_eq_false_iff_ne.mpr c11
         have c11b1:(((jb l0 x6_1).f0) != ((jb l0 a1).f0))=true:=bne_iff_ne.mpr c11
         have H':=am H
         clear H
         have p233:0≤(x6_1:Int):=ozD (uq)
         have q233:x6_1<(l0.length:Int):=ozD (uq)
         obtain ⟨ad233,e233,hx233_0,hx233_1,hx233_2,hx233_3⟩:=jba HR0.out x6_1 p233 q233
         cases e233
         replace hx233_0:=cb HB.out hx233_0
         replace hx233_1:=cb HB.out hx233_1
         replace hx233_2:=cb HB.out hx233_2
         replace hx233_3:=cb HB.out hx233_3
         replace p233:=ezT p233
         replace q233:=ezT q233
         have p234:0≤(a1:Int):=ozD (uq)
         have q234:a1<(l0.length:Int):=ozD (uq)
         obtain ⟨ad234,e234,hx234_0,hx234_1,hx234_2,hx234_3⟩:=jba HR0.out a1 p234 q234
         obtain rfl:ad233=ad234:=(by injection e234)
         replace hx234_0:=cb HB.out hx234_0
         replace hx234_1:=cb HB.out hx234_1
         replace hx234_2:=cb HB.out hx234_2
         replace hx234_3:=cb HB.out hx234_3
         replace p234:=ezT p234
         replace q234:=ezT q234
         go_wp2
         repeat (go_quiet (fail);try go_wp2)
         go_meet
         case rel=>exact ⟨_,(false),(sq),H',⟨by have:=HK1.out;first | omega | exact Nat.le_refl _⟩,⟨rq HO_5.out⟩,⟨bq⟩⟩
       ·rw [if_neg c10] at H
        exact absurd H (by simp)
      ·rw [if_neg c9] at H
       exact absurd H (by simp)
     ·rw [if_neg c8] at H
      exact absurd H (by simp)
    ·rw [if_neg c7] at H
     have c7b0:decide (x6_1<(l0.length:Int))=false:=dzF c7
     clear c7
     (first | rw [c7b0] |(simp only [jub,jvb];rw [c7b0]) | skip)
     have H':=am H
     clear H
     go_wp2
     repeat (go_quiet (fail);try go_wp2)
     go_meet
     case rel=>exact ⟨_,(false),(sq),H',⟨by have:=HK1.out;first | omega | exact Nat.le_refl _⟩,⟨rq HO_5.out⟩,⟨bq⟩⟩
   case rest =>
    clear HC6
    try clear c1
    try clear p2
    try clear q2
    try clear hx2
    try clear c6
    try clear c7
    try clear c7b0
    try clear c8
    try clear c8b0
    try clear c9
    try clear c9b0
    try clear c10
    try clear c10b0
    try clear c11
    try clear c11b0
    try clear c11b1
    try clear hx233_0
    try clear hx233_1
    try clear hx233_2
    try clear hx233_3
    try clear hx234_0
    try clear hx234_1
    try clear hx234_2
    try clear hx234_3
    try clear hx235_0
    try clear hx235_1
    try clear hx235_2
    try clear hx235_3
    try clear p2
    try clear p233
    try clear p234
    try clear p235
    try clear q233
    try clear q234
    try clear q235
    obtain ⟨kq,x36_5,rfl,HA,HJ5,HO_5,HB⟩:=hcut
    cases kq with
    | zero=>exact absurd HA.out (by simp [jW.j1])
    | succ kj5 =>
     have H:=HA.out
     clear HA
     simp only [jW.j1] at H
     by_cases c13:x36_5=true
     ·subst c13
      have H1:(if x5_1.length<17592186044416 then ((jda.f kj5 l0 x6_1).bind fun t240=>(jW.l0 kj5 l0 a1 (x5_1 ++ [x6_1]) t240)) else (none))=some r:=by rw [if_pos rfl] at H;exact H
      clear H
      have H:=H1
      clear H1
      by_cases c14:x5_1.length<17592186044416
      ·rw [if_pos c14] at H
       have LMc14:=am c14
       clear c14
       obtain ⟨y237,hy237⟩:∃ y_:List Int,y_=(x5_1 ++ [x6_1]):=⟨_,rfl⟩
       replace H:((jda.f kj5 l0 x6_1).bind fun t240=>(jW.l0 kj5 l0 a1 y237 t240))=some r:=by first |(rw [hy237];with_reducible exact H) |(have H2_:=(Option.bind_some _ _).symm.trans H;rw [hy237];with_reducible exact H2_) |(have H2_:=(Option.bind_some _ _).symm.trans H;with_reducible exact H2_) | with_reducible exact H |(rw [hy237];exact H) | exact H
       have Ny237:=am hy237
       clear hy237
       replace H:=bzS H
       obtain ⟨t240,A150,H⟩:=H
       replace H:(jW.l0 kj5 l0 a1 y237 t240)=some r:=H
       have A15:=am A150
       clear A150
       have H':=am H
       clear H
       go_wp2_with (first |((with_reducible refine jPa (b:=.append) (xs:=#[.tmp 40, .tmp 42]) rfl ?_);at_builtin;refine Kd.job (Kd.int .i64) (w0:=w) w.heap.size rfl (.tmp 40) (.tmp 42) 40 3 (.int .i64 0) 8 rfl Try.underlying40 info3 rfl (by decide) (by omega) u5 x5_1 x6_1 [.int .i64 x6_1] (fun _=>True) (fun _=>False) rfl rfl ?aP (fun _ hk=>hk.elim) ?aF ?aO ?aB ?aS ?aL ?_;(case aP=>exact rfl);(case aB=>exact (bq));(case aF=>exact (fun _ _=>trivial));(case aO=>exact (rq HO_5.out));(case aS=>exact (jH (bq)));(case aL=>have:=LMc14.out;omega);intro v238 w16 ho hb hg hat;rw [← Ny237.out] at ho;have n0_:=am (hb);have n1_:=am (ho);clear HB HO_5;have HB:=n0_;have HO239:=n1_;clear n0_ n1_ ho hb hg hat) |(go_at_call 62;(with_reducible refine (jda.calls kj5 _ _ l0 x6_1 t240 _ ?side1 ?side2 A15.out).mono ?_);(case side1=>exact cq (Kd.jF HR0.out HB.out));(case side2=>exact HC0.out);rintro e w' ⟨rfl,⟨nd,rfl⟩⟩;(try first | exact ⟨rfl,_,World.drewN_drewN _ _ _⟩ | exact ⟨rfl,_,Eq.trans (World.drewN_drewN _ _ _) (congrArg (World.drewN _) (Nat.add_assoc _ _ _))⟩)))
       repeat (go_quiet (first |((with_reducible refine jPa (b:=.append) (xs:=#[.tmp 40, .tmp 42]) rfl ?_);at_builtin;refine Kd.job (Kd.int .i64) (w0:=w) w.heap.size rfl (.tmp 40) (.tmp 42) 40 3 (.int .i64 0) 8 rfl Try.underlying40 info3 rfl (by decide) (by omega) u5 x5_1 x6_1 [.int .i64 x6_1] (fun _=>True) (fun _=>False) rfl rfl ?aP (fun _ hk=>hk.elim) ?aF ?aO ?aB ?aS ?aL ?_;(case aP=>exact rfl);(case aB=>exact (bq));(case aF=>exact (fun _ _=>trivial));(case aO=>exact (rq HO_5.out));(case aS=>exact (jH (bq)));(case aL=>have:=LMc14.out;omega);intro v238 w16 ho hb hg hat;rw [← Ny237.out] at ho;have n0_:=am (hb);have n1_:=am (ho);clear HB HO_5;have HB:=n0_;have HO239:=n1_;clear n0_ n1_ ho hb hg hat) |(go_at_call 62;(with_reducible refine (jda.calls kj5 _ _ l0 x6_1 t240 _ ?side1 ?side2 A15.out).mono ?_);(case side1=>exact cq (Kd.jF HR0.out HB.out));(case side2=>exact HC0.out);rintro e w' ⟨rfl,⟨nd,rfl⟩⟩;(try first | exact ⟨rfl,_,World.drewN_drewN _ _ _⟩ | exact ⟨rfl,_,Eq.trans (World.drewN_drewN _ _ _) (congrArg (World.drewN _) (Nat.add_assoc _ _ _))⟩)));try go_wp2_with (first |((with_reducible refine jPa (b:=.append) (xs:=#[.tmp 40, .tmp 42]) rfl ?_);at_builtin;refine Kd.job (Kd.int .i64) (w0:=w) w.heap.size rfl (.tmp 40) (.tmp 42) 40 3 (.int .i64 0) 8 rfl Try.underlying40 info3 rfl (by decide) (by omega) u5 x5_1 x6_1 [.int .i64 x6_1] (fun _=>True) (fun _=>False) rfl rfl ?aP (fun _ hk=>hk.elim) ?aF ?aO ?aB ?aS ?aL ?_;(case aP=>exact rfl);(case aB=>exact (bq));(case aF=>exact (fun _ _=>trivial));(case aO=>exact (rq HO_5.out));(case aS=>exact (jH (bq)));(case aL=>have:=LMc14.out;omega);intro v238 w16 ho hb hg hat;rw [← Ny237.out] at ho;have n0_:=am (hb);have n1_:=am (ho);clear HB HO_5;have HB:=n0_;have HO239:=n1_;clear n0_ n1_ ho hb hg hat) |(go_at_call 62;(with_reducible refine (jda.calls kj5 _ _ l0 x6_1 t240 _ ?side1 ?side2 A15.out).mono ?_);(case side1=>exact cq (Kd.jF HR0.out HB.out));(case side2=>exact HC0.out);rintro e w' ⟨rfl,⟨nd,rfl⟩⟩;(try first | exact ⟨rfl,_,World.drewN_drewN _ _ _⟩ | exact ⟨rfl,_,Eq.trans (World.drewN_drewN _ _ _) (congrArg (World.drewN _) (Nat.add_assoc _ _ _))⟩))))
       go_roundg kj5
       case measure=>have:=HK1.out;have:=HJ5.out;omega
       case rel=>exact ⟨(y237),(t240),(sq),H',⟨by have:=HK1.out;have:=HJ5.out;omega⟩,⟨rq HO239.out⟩,⟨bq⟩⟩
      ·rw [if_neg c14] at H
       exact absurd H (by simp)
     ·replace c13:=Bool.eq_false_iff.mpr c13
      subst c13
      have H1:(some x5_1)=some r:=by rw [if_neg (show ¬ (false=true) by decide)] at H;exact H
      clear H
      have H:=H1
      clear H1
      obtain rfl:=Option.some.inj H
      go_wp2
      repeat (go_quiet (fail);try go_wp2)
      go_ret
      exact ⟨_,Y0,rq HO_5.out,bq⟩
def jxa.l0 : Nat → List (S52) → Int → List Int → Int → Option (List Int)
 | 0,_,_,_,_=>none
 | k+1,x0,x2,x7,x8=>if x8<x2 then (if x7.length<17592186044416 then ((jda.f k x0 x8).bind fun t247=>(jxa.l0 k x0 x2 (x7 ++ [x8]) t247)) else (none)) else (some x7)
def jxa.f (k : Nat) (l0 : List (S52)) (a1 : Int) (a2 : Int) : Option (List Int) := jxa.l0 k l0 a2 (([] : List Int)) a1
set_option maxHeartbeats 8000000 in
set_option maxRecDepth 100000 in
theorem jxa.calls (k : Nat) (A0 : Option Addr) (c0 : Nat) (l0 : List (S52)) (a1 : Int) (a2 : Int) (r : List Int) (w : World) (hr0 : Kd.C k52 w A0 l0.length l0) (hc0 : l0.length ≤ c0) (h : jxa.f k l0 a1 a2 = some r) :
  Calls Try.prog 82 #[.slice A0 l0.length c0, .int .i64 a1, .int .i64 a2] w fun e w'=>∃ v0_:Value,e=.returned (v0_)∧Kd.R (Kd.int .i64) 3 w' w.heap.size (fun _=>True) v0_ r∧Below w.heap.size w w':=by
 have HR0:=am hr0
 have HC0:=am hc0
 clear hr0 hc0
 have HB:=am (Below.refl w.heap.size w)
 have H:(jxa.l0 k l0 a2 (([]:List Int)) a1)=some r:=h
 clear h
 obtain ⟨y241,hy241⟩:∃ y_:List Int,y_=(([]:List Int)):=⟨_,rfl⟩
 replace H:(jxa.l0 k l0 a2 y241 a1)=some r:=by first |(rw [hy241];with_reducible exact H) |(have H2_:=(Option.bind_some _ _).symm.trans H;rw [hy241];with_reducible exact H2_) |(have H2_:=(Option.bind_some _ _).symm.trans H;with_reducible exact H2_) | with_reducible exact H |(rw [hy241];exact H) | exact H
 have Ny241:=am hy241
 clear hy241
 have H':=am H
 clear H
 go_enter Try.func82,Try.ntmps82
 go_wp2_with (first |((with_reducible refine jP (N:=9) rfl ?_);refine Kd.R_lit (Kd.int .i64) _ 3 ?hg (N:=9) ?hd (xs:=([]:List Int)) (inner:=[]) (ok:=fun _=>True) (okp:=fun _=>True) ?hr ?hp (fun _ hk=>hk) trivial (Below.refl _ _) (Nat.le_refl _) (by simp) ?_;(case hd=>rfl);(case hg=>rfl);(case hr=>exact Y4);(case hp=>exact (Reps.none _ _));intro v242 w4 ho5 hb hg_ hnew_;clear hg_ hnew_;(first | rw [← Ny241.out] at ho5 |(simp only [Int.reduceToNat] at ho5;rw [← Ny241.out] at ho5));have HO243:=am (Kd.jRa ho5 (jH (bq)));replace HB:=am (jd (bq) hb);clear hb ho5))
 go_loopg [7,8] k (fun kq v7 v8 w'=>∃ (x7_1:List Int) (x8_1:Int),v8=.int .i64 x8_1∧jk (jxa.l0 kq l0 a2 x7_1 x8_1=some r)∧jk (kq≤k)∧jk (Kd.R (Kd.int .i64) 3 w' w.heap.size (fun _=>True) v7 x7_1)∧jk (Below w.heap.size w w'))
 case atStart=>exact ⟨(y241),(a1),(sq),H',⟨Nat.le_refl _⟩,⟨rq HO243.out⟩,⟨bq⟩⟩
 case round =>
  clear H'
  try clear p2
  obtain ⟨x7_1,x8_1,rfl,HA,HK1,HO_7,HB⟩:=hrel
  cases gk with
  | zero=>exact absurd HA.out (by simp [jxa.l0])
  | succ k1 =>
   have H:=HA.out
   clear HA
   simp only [jxa.l0] at H
   by_cases c6:x8_1<a2
   ·rw [if_pos c6] at H
    have c6b0:decide (x8_1<a2)=true:=dzT c6
    clear c6
    by_cases c7:x7_1.length<17592186044416
    ·rw [if_pos c7] at H
     have LMc7:=am c7
     clear c7
     obtain ⟨y244,hy244⟩:∃ y_:List Int,y_=(x7_1 ++ [x8_1]):=⟨_,rfl⟩
     replace H:((jda.f k1 l0 x8_1).bind fun t247=>(jxa.l0 k1 l0 a2 y244 t247))=some r:=by first |(rw [hy244];with_reducible exact H) |(have H2_:=(Option.bind_some _ _).symm.trans H;rw [hy244];with_reducible exact H2_) |(have H2_:=(Option.bind_some _ _).symm.trans H;with_reducible exact H2_) | with_reducible exact H |(rw [hy244];exact H) | exact H
     have Ny244:=am hy244
     clear hy244
     replace H:=bzS H
     obtain ⟨t247,A80,H⟩:=H
     replace H:(jxa.l0 k1 l0 a2 y244 t247)=some r:=H
     have A8:=am A80
     clear A80
     have H':=am H
     clear H
     go_wp2_with (first |((with_reducible refine jPa (b:=.append) (xs:=#[.tmp 17, .tmp 19]) rfl ?_);at_builtin;refine Kd.job (Kd.int .i64) (w0:=w) w.heap.size rfl (.tmp 17) (.tmp 19) 40 3 (.int .i64 0) 8 rfl Try.underlying40 info3 rfl (by decide) (by omega) u7 x7_1 x8_1 [.int .i64 x8_1] (fun _=>True) (fun _=>False) rfl rfl ?aP (fun _ hk=>hk.elim) ?aF ?aO ?aB ?aS ?aL ?_;(case aP=>exact rfl);(case aB=>exact (bq));(case aF=>exact (fun _ _=>trivial));(case aO=>exact (rq HO_7.out));(case aS=>exact (jH (bq)));(case aL=>have:=LMc7.out;omega);intro v245 w9 ho hb hg hat;rw [← Ny244.out] at ho;have n0_:=am (hb);have n1_:=am (ho);clear HB HO_7;have HB:=n0_;have HO246:=n1_;clear n0_ n1_ ho hb hg hat) |((with_reducible refine je (f:=62) rfl ?_);refine gL (some 16) Try.func62 #[.slice A0 l0.length c0, .int .i64 x8_1] ?_;(with_reducible refine (jda.calls k1 _ _ l0 x8_1 t247 _ ?side1 ?side2 A8.out).mono ?_);(case side1=>exact cq (Kd.jF HR0.out HB.out));(case side2=>exact HC0.out);rintro e w' ⟨rfl,⟨nd,rfl⟩⟩;refine ⟨_,rfl,?_⟩))
     go_roundg k1
     case measure=>have:=HK1.out;omega
     case rel=>exact ⟨(y244),(t247),(sq),H',⟨by have:=HK1.out;omega⟩,⟨rq HO246.out⟩,⟨bq⟩⟩
    ·rw [if_neg c7] at H
     exact absurd H (by simp)
   ·rw [if_neg c6] at H
    have c6b0:decide (x8_1<a2)=false:=dzF c6
    clear c6
    obtain rfl:=Option.some.inj H
    go_wp2
    go_ret
    exact ⟨_,Y0,rq HO_7.out,bq⟩
def jJa.go (p : List S52) : List Int → Int → Int → Option (Option Int)
 | [],ex,_=>some (some ex)
 | k :: ks,ex,last=>if 0≤k then if k<(p.length:Int) then
   if (jb p k).f1=8 then if last≤8 then jJa.go p ks (ex+1) (jb p k).f1 else some none
   else if (jb p k).f1=9 then if last=8 then jJa.go p ks ex (jb p k).f1 else some none
   else if (jb p k).f1=10 then if last<10 then jJa.go p ks ex (jb p k).f1 else some none
   else some none
  else none else none
def jJa.f (l0 : List S52) (l1 : List Int) : Option Bool := if 1 ≤ l1.length then (jJa.go l0 (l1.drop 1) 0 7).bind fun r => match r with | none => some false | some ex => some (decide (1 < l1.length) && decide (ex ≤ 6)) else none
theorem jJa.step {p : List S52} {l : List Int} {k : Nat} {ex last : Int} {r : Option Int} (hk : k < l.length) (h : jJa.go p (l.drop k) ex last = some r) : jJa.go p (l[k] :: l.drop (k + 1)) ex last = some r := by
 rw [← List.drop_eq_getElem_cons hk];exact h
set_option maxHeartbeats 8000000 in
set_option maxRecDepth 100000 in
theorem jJa.calls (A0 : Option Addr) (c0 : Nat) (l0 : List S52) (A1 : Option Addr) (c1 : Nat) (l1 : List Int) (r : Bool) (w : World) (hr0 : Kd.C k52 w A0 l0.length l0) (hc0 : l0.length ≤ c0) (hr1 : Kd.C (Kd.int .i64) w A1 l1.length l1) (hc1 : l1.length ≤ c1) (h : jJa.f l0 l1 = some r) :
  Calls Try.prog 83 #[.slice A0 l0.length c0, .slice A1 l1.length c1] w fun e w'=>e=.returned (.bool r)∧jKa w w':=by
 have hu52:=Try.underlying52
 have hm:l1.length≤9223372036854775807:=Kd.C_max hr1
 simp only [jJa.f] at h
 by_cases h1:1≤l1.length
 ·rw [if_pos h1] at h
  obtain ⟨q,hq,h⟩:=bzS h
  have HR0:=am hr0
  have HR1:=am hr1
  have H0:=am hq
  have HZ:=am h
  have h1b:(1:Int)≤(l1.length:Int):=by omega
  obtain ⟨i03,hi03,_,hsz3,_⟩:=info_parts info3
  obtain ⟨A',hcut,hA',hC'⟩:=print_drop_of (P:=Try.prog) (Value.int .i64) (0:Int) 40 3 .i64 Try.underlying40 hi03 hsz3 A1 c1 l1 1 (by omega) h1b hc1
  replace hA':=hA' _ (Kd.reads_of_C hr1)
  rw [show ((1:Int)).toNat=1 from rfl] at hcut hA' hC'
  generalize hl2:l1.drop 1=l2 at hcut hA' hC' H0
  have hdl:l2.length<l1.length:=by rw [← hl2,List.length_drop];omega
  clear hl2
  have HS:=am hA'
  clear hr0 hr1 hq h hA' hi03 hsz3
  go_enter Try.func83,Try.ntmps83
  go_wp2
  go_loop [5,6,13] (fun i5 i6 i13=>∃ (k:Nat) (ex last:Int),i13=.int .i64 k∧i5=.int .i64 ex∧i6=.int .i64 last∧k≤l2.length∧0≤ex∧ex≤(k:Int)∧jk (jJa.go l0 (l2.drop k) ex last=some q)) (fun _ _ i13=>l2.length - (intOf i13).toNat)
  case atStart=>exact ⟨0,0,7,rfl,rfl,rfl,Nat.zero_le _,by omega,by omega,H0⟩
  case round =>
   clear H0
   obtain ⟨k,ex,last,rfl,rfl,rfl,hk,hx0,hx1,HA⟩:=hrel
   by_cases hlt:k<l2.length
   ·have HB:=am (jJa.step hlt HA.out)
    clear HA
    have HC:=HS.out
    obtain ⟨ad,rfl,hx⟩:=Kd.jcb (Kd.C_of_reads (h1:=fun _=>rfl) HC) (k:Int) (by omega) (by omega)
    have hrd:rd l2 (k:Int)=l2[k]:=by simp only [rd,Int.toNat_natCast,List.getD_eq_getElem?_getD,List.getElem?_eq_getElem hlt,Option.getD_some]
    rw [hrd,Int.toNat_natCast] at hx
    clear hrd HC
    have hgo:=HB.out
    generalize l2[k]=x at hgo hx
    simp only [jJa.go] at hgo
    clear HB
    by_cases h0:0≤x
    ·rw [if_pos h0] at hgo
     by_cases h2:x<(l0.length:Int)
     ·rw [if_pos h2] at hgo
      obtain ⟨ad0,rfl,hy0,hy1,hy2,hy3⟩:=jba HR0.out x h0 h2
      generalize hkd:(jb l0 x).f1=kd at hgo hy1
      clear hkd
      have q2:=ezT h2
      have q0:=ezT h0
      clear h0 h2
      by_cases e8:kd=8
      ·subst e8
       rw [if_pos rfl] at hgo
       by_cases hl:last≤8
       ·rw [if_pos hl] at hgo
        have hlb:=dzT hl
        clear hl
        have HG:=am hgo
        clear hgo HZ
        go_wp2
        go_round
        case rel=>exact ⟨k+1,ex+1,_,by go_num,rfl,rfl,hlt,by omega,by omega,HG⟩
        case measure=>simp [intOf];omega
       ·rw [if_neg hl] at hgo
        have hlb:=dzF hl
        clear hl
        obtain rfl:none=q:=by simpa using hgo
        have HR:=am (by simpa using HZ.out:r=false)
        clear hgo HZ
        go_wp2
        go_ret
        exact ⟨by rw [HR.out];rfl,jKa.refl _⟩
      ·rw [if_neg e8] at hgo
       have e8b:(kd == 8)=false:=beq_eq_false_iff_ne.2 e8
       clear e8
       by_cases e9:kd=9
       ·subst e9
        rw [if_pos rfl] at hgo
        by_cases hl:last=8
        ·rw [if_pos hl] at hgo
         have hlb:(last == 8)=true:=beq_iff_eq.2 hl
         clear hl
         have HG:=am hgo
         clear hgo HZ
         go_wp2
         go_round
         case rel=>exact ⟨k+1,ex,_,by go_num,rfl,rfl,hlt,by omega,by omega,HG⟩
         case measure=>simp [intOf];omega
        ·rw [if_neg hl] at hgo
         have hlb:(last == 8)=false:=beq_eq_false_iff_ne.2 hl
         clear hl
         obtain rfl:none=q:=by simpa using hgo
         have HR:=am (by simpa using HZ.out:r=false)
         clear hgo HZ
         go_wp2
         go_ret
         exact ⟨by rw [HR.out];rfl,jKa.refl _⟩
       ·rw [if_neg e9] at hgo
        have e9b:(kd == 9)=false:=beq_eq_false_iff_ne.2 e9
        clear e9
        by_cases e10:kd=10
        ·subst e10
         rw [if_pos rfl] at hgo
         by_cases hl:last<10
         ·rw [if_pos hl] at hgo
          have hlb:=dzT hl
          clear hl
          have HG:=am hgo
          clear hgo HZ
          go_wp2
          go_round
          case rel=>exact ⟨k+1,ex,_,by go_num,rfl,rfl,hlt,by omega,by omega,HG⟩
          case measure=>simp [intOf];omega
         ·rw [if_neg hl] at hgo
          have hlb:=dzF hl
          clear hl
          obtain rfl:none=q:=by simpa using hgo
          have HR:=am (by simpa using HZ.out:r=false)
          clear hgo HZ
          go_wp2
          go_ret
          exact ⟨by rw [HR.out];rfl,jKa.refl _⟩
        ·rw [if_neg e10] at hgo
         have e10b:(kd == 10)=false:=beq_eq_false_iff_ne.2 e10
         clear e10
         obtain rfl:none=q:=by simpa using hgo
         have HR:=am (by simpa using HZ.out:r=false)
         clear hgo HZ
         go_wp2
         go_ret
         exact ⟨by rw [HR.out];rfl,jKa.refl _⟩
     ·rw [if_neg h2] at hgo
      cases hgo
    ·rw [if_neg h0] at hgo
     cases hgo
   ·have hgo:=HA.out
    rw [List.drop_eq_nil_of_le (by omega)] at hgo
    obtain rfl:some ex=q:=by simpa [jJa.go] using hgo
    clear hgo HA
    have HY:=am (Option.some.inj HZ.out)
    clear HZ
    by_cases h1c:1<l1.length
    ·have hb1:=dzT h1c
     go_wp2
     go_ret
     exact ⟨by rw [← HY.out,hb1];rfl,jKa.refl _⟩
    ·have hb1:=dzF h1c
     go_wp2
     go_ret
     exact ⟨by rw [← HY.out,hb1];rfl,jKa.refl _⟩
 ·rw [if_neg h1] at h
  cases h
end Go.Proofs.Ytkhiiiddbmgiaaa.P
end
