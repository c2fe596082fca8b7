/- One part of the proofs on this program: functions of the program as plain functions, that the code comes to them, and facts on them. -/
import Derived.Test.YtkokajljeebgdaaYAll1
import Derived.Test.YtkokajljeebgdaaYAll6
import Derived.Test.YtkokajljeebgdaaYWAuto
section
namespace Go.Proofs.Ytkokajljeebgdaa.P
open Go.RowKit Go.Proofs.YtkokajljeebgdaaW.PrintWords Go.Proofs.YtkokajljeebgdaaW.PrintLast Go.Proofs.YtkokajljeebgdaaW.PrintMore
attribute [local go_sem] jqa joa jBa jAa jfa jea jpa jna jk
set_option linter.unusedVariables false
set_option linter.unusedSimpArgs false
mutual
def jKa.l0 : Nat → List (S52) → Int → Int → Option (List Int)
 | 0,_,_,_=>none
 | k+1,x0,x1,x5=>if x5≥0 then (if 0≤x5 then (if x5<(x0.length:Int) then (if ((jc x0 x5).f1)=7 then (if 0≤x1 then (if x1<(x0.length:Int) then (jKa.j1 k x0 x1 x5 (((jc x0 x5).f0) == ((jc x0 x1).f0))) else (none)) else (none)) else (jKa.j1 k x0 x1 x5 false)) else (none)) else (none)) else (some ([]:List Int))
def jKa.j1 : Nat → List (S52) → Int → Int → Bool → Option (List Int)
 | 0,_,_,_,_=>none
 | k+1,x0,x1,x5,x29=>if x29=true then ((jca.f k x0 x5).bind fun t496=>((jma.f t496).bind fun t499=>(some t499))) else (jKa.l0 k x0 x1 (wrap64 (x5 - 1)))
end
def jKa.f (k : Nat) (l0 : List (S52)) (a1 : Int) : Option (List Int) := jKa.l0 k l0 a1 a1
set_option maxHeartbeats 8000000 in
set_option maxRecDepth 100000 in
theorem jKa.calls (k : Nat) (A0 : Option Addr) (c0 : Nat) (l0 : List (S52)) (a1 : Int) (r : List Int) (w : World) (hr0 : Kd.C k52 w A0 l0.length l0) (hc0 : l0.length ≤ c0) (h : jKa.f k l0 a1 = some r) :
  Calls Try.prog 72 #[.slice A0 l0.length c0, .int .i64 a1] w fun e w'=>∃ v0_:Value,e=.returned (v0_)∧Kd.R (Kd.int .i64) 3 w' w.heap.size (fun _=>True) v0_ r∧Below w.heap.size w w':=by
 have HR0:=am hr0
 have HC0:=am hc0
 clear hr0 hc0
 have HB:=am (Below.refl w.heap.size w)
 have H:(jKa.l0 k l0 a1 a1)=some r:=h
 clear h
 have H':=am H
 clear H
 go_enter Try.func72,Try.ntmps72
 go_wp2
 repeat (go_quiet (fail);try go_wp2)
 go_loopg [5] k (fun kq v5 w'=>∃ (x5_1:Int),v5=.int .i64 x5_1∧jq (jKa.l0 kq l0 a1 x5_1=some r)∧jq (kq≤k)∧jq (Below w.heap.size w w'))
 case atStart=>exact ⟨(a1),(sq),H',⟨Nat.le_refl _⟩,⟨bq⟩⟩
 case round =>
  clear H'
  try clear p2
  obtain ⟨x5_1,rfl,HA,HK1,HB⟩:=hrel
  cases gk with
  | zero=>exact absurd HA.out (by simp [jKa.l0])
  | succ k1 =>
   have H:=HA.out
   clear HA
   simp only [jKa.l0] at H
   by_cases c3:x5_1≥0
   ·rw [if_pos c3] at H
    have c3b0:decide (0≤x5_1)=true:=dzT c3
    clear c3
    have HC4:=am H
    clear H
    go_upto_region 4 with (fail)
    repeat (go_quiet (fail);go_upto_region 4 with (fail))
    go_cut [29] (fun v29 wc=>∃ (kq:Nat) (x29_3:Bool),v29=.bool x29_3∧jq (jKa.j1 kq l0 a1 x5_1 x29_3=some r)∧jq (kq≤k1)∧jq (Below w.heap.size w wc))
    case first =>
     have H:=HC4.out
     clear HC4
     by_cases c5:0≤x5_1
     ·rw [if_pos c5] at H
      have c5b0:decide (0≤x5_1)=true:=dzT c5
      clear c5
      (first | rw [c5b0] |(simp only [jhb,jpb];rw [c5b0]) | skip)
      by_cases c6:x5_1<(l0.length:Int)
      ·rw [if_pos c6] at H
       have c6b0:decide (x5_1<(l0.length:Int))=true:=dzT c6
       clear c6
       by_cases c7:((jc l0 x5_1).f1)=7
       ·rw [if_pos c7] at H
        have c7b0:(((jc l0 x5_1).f1) == 7)=true:=beq_iff_eq.mpr c7
        have c7b1:(((jc l0 x5_1).f1) != 7)=false:=bne_eq_false_iff_eq.mpr c7
        clear c7
        by_cases c8:0≤a1
        ·rw [if_pos c8] at H
         have c8b0:decide (0≤a1)=true:=dzT c8
         clear c8
         by_cases c9:a1<(l0.length:Int)
         ·rw [if_pos c9] at H
          have c9b0:decide (a1<(l0.length:Int))=true:=dzT c9
          clear c9
          have H':=am H
          clear H
          have p493:0≤(x5_1:Int):=ozD (uq)
          have q493:x5_1<(l0.length:Int):=ozD (uq)
          obtain ⟨ad493,e493,hx493_0,hx493_1,hx493_2,hx493_3⟩:=jta HR0.out x5_1 p493 q493
          cases e493
          replace hx493_0:=cb HB.out hx493_0
          replace hx493_1:=cb HB.out hx493_1
          replace hx493_2:=cb HB.out hx493_2
          replace hx493_3:=cb HB.out hx493_3
          replace p493:=ezT p493
          replace q493:=ezT q493
          have p494:0≤(x5_1:Int):=ozD (uq)
          have q494:x5_1<(l0.length:Int):=ozD (uq)
          obtain ⟨ad494,e494,hx494_0,hx494_1,hx494_2,hx494_3⟩:=jta HR0.out x5_1 p494 q494
          obtain rfl:ad493=ad494:=(by injection e494)
          replace hx494_0:=cb HB.out hx494_0
          replace hx494_1:=cb HB.out hx494_1
          replace hx494_2:=cb HB.out hx494_2
          replace hx494_3:=cb HB.out hx494_3
          replace p494:=ezT p494
          replace q494:=ezT q494
          have p495:0≤(a1:Int):=ozD (uq)
          have q495:a1<(l0.length:Int):=ozD (uq)
          obtain ⟨ad495,e495,hx495_0,hx495_1,hx495_2,hx495_3⟩:=jta HR0.out a1 p495 q495
          obtain rfl:ad493=ad495:=(by injection e495)
          replace hx495_0:=cb HB.out hx495_0
          replace hx495_1:=cb HB.out hx495_1
          replace hx495_2:=cb HB.out hx495_2
          replace hx495_3:=cb HB.out hx495_3
          replace p495:=ezT p495
          replace q495:=ezT q495
          go_wp2
          repeat (go_quiet (fail);try go_wp2)
          go_meet
          case rel=>exact ⟨_,((((jc l0 x5_1).f0) == ((jc l0 a1).f0))),(sq),H',⟨by have:=HK1.out;first | omega | exact Nat.le_refl _⟩,⟨bq⟩⟩
         ·rw [if_neg c9] at H
          exact absurd H (by simp)
        ·rw [if_neg c8] at H
         exact absurd H (by simp)
       ·rw [if_neg c7] at H
        have c7b0:(((jc l0 x5_1).f1) == 7)=false:=beq_eq_false_iff_ne.mpr c7
        have c7b1:(((jc l0 x5_1).f1) != 7)=true:=bne_iff_ne.mpr c7
        have H':=am H
        clear H
        have p493:0≤(x5_1:Int):=ozD (uq)
        have q493:x5_1<(l0.length:Int):=ozD (uq)
        obtain ⟨ad493,e493,hx493_0,hx493_1,hx493_2,hx493_3⟩:=jta HR0.out x5_1 p493 q493
        cases e493
        replace hx493_0:=cb HB.out hx493_0
        replace hx493_1:=cb HB.out hx493_1
        replace hx493_2:=cb HB.out hx493_2
        replace hx493_3:=cb HB.out hx493_3
        replace p493:=ezT p493
        replace q493:=ezT q493
        go_wp2
        repeat (go_quiet (fail);try go_wp2)
        go_meet
        case rel=>exact ⟨_,(false),(sq),H',⟨by have:=HK1.out;first | omega | exact Nat.le_refl _⟩,⟨bq⟩⟩
      ·rw [if_neg c6] at H
       exact absurd H (by simp)
     ·rw [if_neg c5] at H
      exact absurd H (by simp)
    case rest =>
     clear HC4
     try clear p2
     try clear c3
     try clear c3b0
     try clear p4
     try clear q4
     try clear hx4
     try clear c5
     try clear c5b0
     try clear c6
     try clear c6b0
     try clear c7
     try clear c7b0
     try clear c7b1
     try clear c8
     try clear c8b0
     try clear c9
     try clear c9b0
     try clear hx493_0
     try clear hx493_1
     try clear hx493_2
     try clear hx493_3
     try clear hx494_0
     try clear hx494_1
     try clear hx494_2
     try clear hx494_3
     try clear hx495_0
     try clear hx495_1
     try clear hx495_2
     try clear hx495_3
     try clear p2
     try clear p493
     try clear p494
     try clear p495
     try clear q493
     try clear q494
     try clear q495
     obtain ⟨kq,x29_3,rfl,HA,HJ3,HB⟩:=hcut
     cases kq with
     | zero=>exact absurd HA.out (by simp [jKa.j1])
     | succ kj3 =>
      have H:=HA.out
      clear HA
      simp only [jKa.j1] at H
      by_cases c10:x29_3=true
      ·subst c10
       have H1:((jca.f kj3 l0 x5_1).bind fun t496=>((jma.f t496).bind fun t499=>(some t499)))=some r:=by rw [if_pos rfl] at H;exact H
       clear H
       have H:=H1
       clear H1
       replace H:=bzS H
       obtain ⟨t496,A110,H⟩:=H
       replace H:((jma.f t496).bind fun t499=>(some t499))=some r:=H
       have A11:=am A110
       clear A110
       replace H:=bzS H
       obtain ⟨t499,A120,H⟩:=H
       replace H:(some t499)=some r:=H
       have A12:=am A120
       clear A120
       obtain rfl:=Option.some.inj H
       go_wp2_with (first |(go_at_call 80;(with_reducible refine (jca.calls kj3 _ _ l0 x5_1 t496 _ ?side1 ?side2 A11.out).mono ?_);(case side1=>exact cq (Kd.jba HR0.out HB.out));(case side2=>exact HC0.out);rintro e w13 ⟨v497,rfl,ho0,hb⟩;have HO498:=am (Kd.jQ ho0 (jN (bq)));replace HB:=am (je (bq) hb);(try clear hb);(try clear hb2);(try clear hk);(try clear hi);(try clear ho0);obtain ⟨Ao14,co14,eo14⟩:=Kd.jU HO498.out;subst eo14) |(go_at_call 82;(with_reducible refine (jma.calls (fun k_=>some k_=(.slice Ao14 t496.length co14:Value).ownBlock) (.slice Ao14 t496.length co14) t496 t499 w _ ?side1 ?side2 A12.out).mono ?_);(case side1=>exact Y68);(case side2=>exact Kd.R_tight rfl HO498.out);rintro e w15 ⟨v500,rfl,ho0,hb,hkp⟩;have n0_:=am (Kd.jE (ok':=fun k_=>True) ho0 (fun k_ hk_=>trivial));have n1_:=am (hb);clear HB HO498;have HO501:=n0_;have HB:=n1_;clear n0_ n1_;(try clear hb);(try clear hkp);(try clear ho0)))
       repeat (go_quiet (first |(go_at_call 80;(with_reducible refine (jca.calls kj3 _ _ l0 x5_1 t496 _ ?side1 ?side2 A11.out).mono ?_);(case side1=>exact cq (Kd.jba HR0.out HB.out));(case side2=>exact HC0.out);rintro e w13 ⟨v497,rfl,ho0,hb⟩;have HO498:=am (Kd.jQ ho0 (jN (bq)));replace HB:=am (je (bq) hb);(try clear hb);(try clear hb2);(try clear hk);(try clear hi);(try clear ho0);obtain ⟨Ao14,co14,eo14⟩:=Kd.jU HO498.out;subst eo14) |(go_at_call 82;(with_reducible refine (jma.calls (fun k_=>some k_=(.slice Ao14 t496.length co14:Value).ownBlock) (.slice Ao14 t496.length co14) t496 t499 w _ ?side1 ?side2 A12.out).mono ?_);(case side1=>exact Y68);(case side2=>exact Kd.R_tight rfl HO498.out);rintro e w15 ⟨v500,rfl,ho0,hb,hkp⟩;have n0_:=am (Kd.jE (ok':=fun k_=>True) ho0 (fun k_ hk_=>trivial));have n1_:=am (hb);clear HB HO498;have HO501:=n0_;have HB:=n1_;clear n0_ n1_;(try clear hb);(try clear hkp);(try clear ho0)));try go_wp2_with (first |(go_at_call 80;(with_reducible refine (jca.calls kj3 _ _ l0 x5_1 t496 _ ?side1 ?side2 A11.out).mono ?_);(case side1=>exact cq (Kd.jba HR0.out HB.out));(case side2=>exact HC0.out);rintro e w13 ⟨v497,rfl,ho0,hb⟩;have HO498:=am (Kd.jQ ho0 (jN (bq)));replace HB:=am (je (bq) hb);(try clear hb);(try clear hb2);(try clear hk);(try clear hi);(try clear ho0);obtain ⟨Ao14,co14,eo14⟩:=Kd.jU HO498.out;subst eo14) |(go_at_call 82;(with_reducible refine (jma.calls (fun k_=>some k_=(.slice Ao14 t496.length co14:Value).ownBlock) (.slice Ao14 t496.length co14) t496 t499 w _ ?side1 ?side2 A12.out).mono ?_);(case side1=>exact Y68);(case side2=>exact Kd.R_tight rfl HO498.out);rintro e w15 ⟨v500,rfl,ho0,hb,hkp⟩;have n0_:=am (Kd.jE (ok':=fun k_=>True) ho0 (fun k_ hk_=>trivial));have n1_:=am (hb);clear HB HO498;have HO501:=n0_;have HB:=n1_;clear n0_ n1_;(try clear hb);(try clear hkp);(try clear ho0))))
       go_ret
       exact ⟨_,Y0,rq HO501.out,bq⟩
      ·replace c10:=Bool.eq_false_iff.mpr c10
       subst c10
       have H1:(jKa.l0 kj3 l0 a1 (wrap64 (x5_1 - 1)))=some r:=by rw [if_neg (show ¬ (false=true) by decide)] at H;exact H
       clear H
       have H:=H1
       clear H1
       have H':=am H
       clear H
       go_wp2
       repeat (go_quiet (fail);try go_wp2)
       go_roundg kj3
       case measure=>have:=HK1.out;have:=HJ3.out;omega
       case rel=>exact ⟨(wrap64 (x5_1 - 1)),(sq),H',⟨by have:=HK1.out;have:=HJ3.out;omega⟩,⟨bq⟩⟩
   ·rw [if_neg c3] at H
    have c3b0:decide (0≤x5_1)=false:=dzF c3
    clear c3
    obtain rfl:=Option.some.inj H
    go_wp2
    repeat (go_quiet (fail);try go_wp2)
    go_ret
    exact ⟨_,Y0,Y81,bq⟩
mutual
def jCa.l0 : Nat → List (S52) → Int → List Int → List Int → Int → Int → Option (List Int)
 | 0,_,_,_,_,_,_=>none
 | k+1,x0,x2,x7,x15,x16,x17=>if x17<x16 then (if 0≤x17 then (if x17<(x15.length:Int) then (if (rd x15 x17)=x2 then ((jma.f x7).bind fun t512=>(some t512)) else (if 0≤(rd x15 x17) then (if (rd x15 x17)<(x0.length:Int) then (if ((jc x0 (rd x15 x17)).f1)=11 then (if x7.length<17592186044416 then (jCa.l0 k x0 x2 (x7 ++ [rd x15 x17]) x15 x16 (wrap64 (x17+1))) else (none)) else (if ((jc x0 (rd x15 x17)).f1)=7 then (jCa.j1 k x0 x2 x7 (rd x15 x17) x15 x16 x17 (((jc x0 (rd x15 x17)).f1) == 7)) else (if ((jc x0 (rd x15 x17)).f1)=8 then (jCa.j1 k x0 x2 x7 (rd x15 x17) x15 x16 x17 (((jc x0 (rd x15 x17)).f1) == 8)) else (jCa.j1 k x0 x2 x7 (rd x15 x17) x15 x16 x17 (((jc x0 (rd x15 x17)).f1) == 9))))) else (none)) else (none))) else (none)) else (none)) else ((jma.f x7).bind fun t508=>(some t508))
def jCa.j1 : Nat → List (S52) → Int → List Int → Int → List Int → Int → Int → Bool → Option (List Int)
 | 0,_,_,_,_,_,_,_,_=>none
 | k+1,x0,x2,x7,x9,x15,x16,x17,x35=>if x35=true then ((jKa.f k x0 x9).bind fun t519=>(if 0≤(wrap64 ((t519.length:Int) - 1)) then (if (wrap64 ((t519.length:Int) - 1))<(t519.length:Int) then (if 0≤(rd t519 (wrap64 ((t519.length:Int) - 1))) then (if (rd t519 (wrap64 ((t519.length:Int) - 1)))<(x0.length:Int) then (if ((jc x0 (rd t519 (wrap64 ((t519.length:Int) - 1)))).f1)=10 then (if x7.length<17592186044416 then (jCa.l0 k x0 x2 (x7 ++ [rd t519 (wrap64 ((t519.length:Int) - 1))]) x15 x16 (wrap64 (x17+1))) else (none)) else (jCa.l0 k x0 x2 x7 x15 x16 (wrap64 (x17+1)))) else (none)) else (none)) else (none)) else (none))) else (jCa.l0 k x0 x2 x7 x15 x16 (wrap64 (x17+1)))
end
def jCa.f (k : Nat) (l0 : List (S52)) (a1 : Int) (a2 : Int) : Option (List Int) := (jga.f k l0 a1).bind fun t505 => (jCa.l0 k l0 a2 (([] : List Int)) t505 (t505.length : Int) 0)
set_option maxHeartbeats 8000000 in
set_option maxRecDepth 100000 in
theorem jCa.calls (k : Nat) (A0 : Option Addr) (c0 : Nat) (l0 : List (S52)) (a1 : Int) (a2 : Int) (r : List Int) (w : World) (hr0 : Kd.C k52 w A0 l0.length l0) (hc0 : l0.length ≤ c0) (h : jCa.f k l0 a1 a2 = some r) :
  Calls Try.prog 51 #[.slice A0 l0.length c0, .int .i64 a1, .int .i64 a2] w fun e w'=>∃ v0_:Value,e=.returned (v0_)∧Kd.R (Kd.int .i64) 3 w' w.heap.size (fun _=>True) v0_ r∧Below w.heap.size w w':=by
 have HR0:=am hr0
 have HC0:=am hc0
 clear hr0 hc0
 have HB:=am (Below.refl w.heap.size w)
 have H:((jga.f k l0 a1).bind fun t505=>(jCa.l0 k l0 a2 (([]:List Int)) t505 (t505.length:Int) 0))=some r:=h
 clear h
 obtain ⟨y502,hy502⟩:∃ y_:List Int,y_=(([]:List Int)):=⟨_,rfl⟩
 replace H:((jga.f k l0 a1).bind fun t505=>(jCa.l0 k l0 a2 y502 t505 (t505.length:Int) 0))=some r:=by first |(rw [hy502];with_reducible exact H) |(have H2_:=(Option.bind_some _ _).symm.trans H;rw [hy502];with_reducible exact H2_) |(have H2_:=(Option.bind_some _ _).symm.trans H;with_reducible exact H2_) | with_reducible exact H |(rw [hy502];exact H) | exact H
 have Ny502:=am hy502
 clear hy502
 replace H:=bzS H
 obtain ⟨t505,A40,H⟩:=H
 replace H:(jCa.l0 k l0 a2 y502 t505 (t505.length:Int) 0)=some r:=H
 have A4:=am A40
 clear A40
 have H':=am H
 clear H
 go_enter Try.func51,Try.ntmps51
 go_wp2_with (first |((with_reducible refine jM (N:=12) rfl ?_);refine Kd.jbc (Kd.int .i64) _ 3 ?hg (N:=12) ?hd (xs:=([]:List Int)) (inner:=[]) (ok:=fun _=>True) (okp:=fun _=>True) ?hr ?hp (fun _ hk=>hk) trivial (Below.refl _ _) (Nat.le_refl _) (by simp) ?_;(case hd=>rfl);(case hg=>rfl);(case hr=>exact Y7);(case hp=>exact (Reps.none _ _));intro v503 w5 ho6 hb hg_ hnew_;clear hg_ hnew_;(first | rw [← Ny502.out] at ho6 |(simp only [Int.reduceToNat] at ho6;rw [← Ny502.out] at ho6));have HO504:=am (Kd.jQ ho6 (jN (bq)));replace HB:=am (je (bq) hb);clear hb ho6) |((with_reducible refine jd (f:=62) rfl ?_);refine gL (some 15) Try.func62 #[.slice A0 l0.length c0, .int .i64 a1] ?_;(with_reducible refine (jga.calls k _ _ l0 a1 t505 _ ?side1 ?side2 A4.out).mono ?_);(case side1=>exact cq (Kd.jba HR0.out HB.out));(case side2=>exact HC0.out);rintro e w7 ⟨v506,rfl,ho0,hb⟩;refine ⟨_,rfl,?_⟩;have HO507:=am (Kd.jQ (Kd.jxb ho0 (Kd.R_lt (rq HO504.out))) (jN (bq)));replace HO504:=am (Kd.job (rq HO504.out) (Kd.jyb ho0) hb);replace HB:=am (je (bq) hb);(try clear hb);(try clear hb2);(try clear hk);(try clear hi);(try clear ho0);obtain ⟨Ao8,co8,eo8⟩:=Kd.jU HO507.out;subst eo8))
 go_loopg [7,17] k (fun kq v7 v17 w'=>∃ (x7_1:List Int) (x17_1:Int),v17=.int .i64 x17_1∧jq (jCa.l0 kq l0 a2 x7_1 t505 (t505.length:Int) x17_1=some r)∧jq (kq≤k)∧jq (Kd.R (Kd.int .i64) 3 w' w.heap.size (fun k_=>some k_≠((.slice Ao8 t505.length co8):Value).ownBlock) v7 x7_1)∧jq (Kd.R (Kd.int .i64) 3 w' w.heap.size (fun k_=>some k_≠(v7:Value).ownBlock) (.slice Ao8 t505.length co8) t505)∧jq (Below w.heap.size w w'))
 case atStart=>exact ⟨(y502),(0),(sq),H',⟨Nat.le_refl _⟩,⟨by (with_reducible repeat (first | apply Kd.jY | apply Kd.jX | apply Kd.jia));exact Kd.jE HO504.out (fun _ hk=>hk.2)⟩,⟨by (with_reducible repeat (first | apply Kd.jY | apply Kd.jX | apply Kd.jia));exact Kd.jE HO507.out (fun _ hk=>hk.2)⟩,⟨bq⟩⟩
 case round =>
  clear H'
  try clear p2
  try clear c5
  try clear c6
  obtain ⟨x7_1,x17_1,rfl,HA,HK1,HO_7,HO_15,HB⟩:=hrel
  cases gk with
  | zero=>exact absurd HA.out (by simp [jCa.l0])
  | succ k1 =>
   have H:=HA.out
   clear HA
   simp only [jCa.l0] at H
   by_cases c9:x17_1<(t505.length:Int)
   ·rw [if_pos c9] at H
    have c9b0:decide (x17_1<(t505.length:Int))=true:=dzT c9
    clear c9
    by_cases c10:0≤x17_1
    ·rw [if_pos c10] at H
     have c10b0:decide (0≤x17_1)=true:=dzT c10
     clear c10
     by_cases c11:x17_1<(t505.length:Int)
     ·rw [if_pos c11] at H
      have c11b0:decide (x17_1<(t505.length:Int))=true:=dzT c11
      clear c11
      by_cases c12:(rd t505 x17_1)=a2
      ·rw [if_pos c12] at H
       have c12b0:((rd t505 x17_1) == a2)=true:=beq_iff_eq.mpr c12
       have c12b1:((rd t505 x17_1) != a2)=false:=bne_eq_false_iff_eq.mpr c12
       clear c12
       replace H:=bzS H
       obtain ⟨t512,A130,H⟩:=H
       replace H:(some t512)=some r:=H
       have A13:=am A130
       clear A130
       obtain rfl:=Option.some.inj H
       have p511:0≤(x17_1:Int):=ozD (uq)
       have q511:x17_1<(t505.length:Int):=ozD (uq)
       obtain ⟨ad511,e511,hx511_0⟩:=Kd.jgb (Kd.jh HO_15.out).2.2 x17_1 p511 q511
       cases e511
       replace p511:=ezT p511
       replace q511:=ezT q511
       obtain ⟨Ao14,co14,eo14⟩:=Kd.jU HO_7.out
       subst eo14
       go_wp2_with (first |((with_reducible refine jd (f:=82) rfl ?_);refine gL (some 60) Try.func82 #[.slice Ao14 x7_1.length co14] ?_;(with_reducible refine (jma.calls (fun k_=>some k_=(.slice Ao14 x7_1.length co14:Value).ownBlock) (.slice Ao14 x7_1.length co14) x7_1 t512 w _ ?side1 ?side2 A13.out).mono ?_);(case side1=>exact Y68);(case side2=>exact Kd.R_tight rfl HO_7.out);rintro e w15 ⟨v513,rfl,ho0,hb,hkp⟩;refine ⟨_,rfl,?_⟩;have n0_:=am (Kd.jE (ok':=fun k_=>some k_≠(v513:Value).ownBlock) (Kd.R_keptB (HO_15.out) hkp (fun k_ hk_ hs_=>(hk_) hs_)) (fun k_ hk_=>fun e_=>Or.elim (ho0.1 k_ e_.symm) (fun hs_=>hk_.2.1 hs_) (fun hn_=>Nat.not_le.2 hk_.2.2 hn_)));have n1_:=am (Kd.jE (ok':=fun k_=>some k_≠(.slice (some ad511) t505.length co8:Value).ownBlock) ho0 (fun k_ hk_=>Or.elim hk_ (fun hs_=>fun e_=>(((HO_15.out).1 k_ e_.symm)) hs_) (fun hn_=>(Kd.fresh' (Kd.R_lt (rq HO_15.out)) k_ hn_))));have n2_:=am (hb);clear HO_15 HB HO_7;have HO_15:=n0_;have HO514:=n1_;have HB:=n2_;clear n0_ n1_ n2_;(try clear hb);(try clear hkp);(try clear ho0)))
       go_ret
       exact ⟨_,Y0,by (with_reducible repeat (first | apply Kd.jY | apply Kd.jX | apply Kd.jia));exact Kd.jE HO514.out (fun _ hk=>trivial),bq⟩
      ·rw [if_neg c12] at H
       have c12b0:((rd t505 x17_1) == a2)=false:=beq_eq_false_iff_ne.mpr c12
       have c12b1:((rd t505 x17_1) != a2)=true:=bne_iff_ne.mpr c12
       by_cases c16:0≤(rd t505 x17_1)
       ·rw [if_pos c16] at H
        have c16b0:decide (0≤(rd t505 x17_1))=true:=dzT c16
        clear c16
        by_cases c17:(rd t505 x17_1)<(l0.length:Int)
        ·rw [if_pos c17] at H
         have c17b0:decide ((rd t505 x17_1)<(l0.length:Int))=true:=dzT c17
         clear c17
         by_cases c18:((jc l0 (rd t505 x17_1)).f1)=11
         ·rw [if_pos c18] at H
          have c18b0:(((jc l0 (rd t505 x17_1)).f1) == 11)=true:=beq_iff_eq.mpr c18
          have c18b1:(((jc l0 (rd t505 x17_1)).f1) != 11)=false:=bne_eq_false_iff_eq.mpr c18
          clear c18
          by_cases c19:x7_1.length<17592186044416
          ·rw [if_pos c19] at H
           have LMc19:=am c19
           clear c19
           obtain ⟨y516,hy516⟩:∃ y_:List Int,y_=(x7_1 ++ [rd t505 x17_1]):=⟨_,rfl⟩
           replace H:(jCa.l0 k1 l0 a2 y516 t505 (t505.length:Int) (wrap64 (x17_1+1)))=some r:=by first |(rw [hy516];with_reducible exact H) |(have H2_:=(Option.bind_some _ _).symm.trans H;rw [hy516];with_reducible exact H2_) |(have H2_:=(Option.bind_some _ _).symm.trans H;with_reducible exact H2_) | with_reducible exact H |(rw [hy516];exact H) | exact H
           have Ny516:=am hy516
           clear hy516
           have H':=am H
           clear H
           have p511:0≤(x17_1:Int):=ozD (uq)
           have q511:x17_1<(t505.length:Int):=ozD (uq)
           obtain ⟨ad511,e511,hx511_0⟩:=Kd.jgb (Kd.jh HO_15.out).2.2 x17_1 p511 q511
           cases e511
           replace p511:=ezT p511
           replace q511:=ezT q511
           have p515:0≤((rd t505 x17_1):Int):=ozD (uq)
           have q515:(rd t505 x17_1)<(l0.length:Int):=ozD (uq)
           obtain ⟨ad515,e515,hx515_0,hx515_1,hx515_2,hx515_3⟩:=jta HR0.out (rd t505 x17_1) p515 q515
           cases e515
           replace hx515_0:=cb HB.out hx515_0
           replace hx515_1:=cb HB.out hx515_1
           replace hx515_2:=cb HB.out hx515_2
           replace hx515_3:=cb HB.out hx515_3
           replace p515:=ezT p515
           replace q515:=ezT q515
           go_wp2_with (first |((with_reducible refine jJa (b:=.append) (xs:=#[.tmp 31, .tmp 33]) rfl ?_);at_builtin;refine Kd.jSb (Kd.int .i64) (w0:=w) w.heap.size rfl (.tmp 31) (.tmp 33) 28 3 (.int .i64 0) 8 rfl Try.underlying28 info3 rfl (by decide) (by omega) u7 x7_1 (rd t505 x17_1) [.int .i64 (rd t505 x17_1)] (fun k_=>some k_≠(.slice (some ad511) t505.length co8:Value).ownBlock) (fun _=>False) rfl rfl ?aP (fun _ hk=>hk.elim) ?aF ?aO ?aB ?aS ?aL ?_;(case aP=>exact rfl);(case aB=>exact (bq));(case aF=>exact (fun k_ hk=>Kd.fresh' (Kd.R_lt (rq HO_15.out)) k_ hk));(case aO=>exact (rq HO_7.out));(case aS=>exact (jN (bq)));(case aL=>have:=LMc19.out;omega);intro v517 w20 ho hb hg hat;rw [← Ny516.out] at ho;have n0_:=am (Kd.jmc (ok:=(fun _=>True)) (by (with_reducible repeat (first | apply Kd.jY | apply Kd.jX | apply Kd.jia));exact Kd.jE HO_15.out (fun _ hk=>⟨trivial,hk⟩)) hg hat);have n1_:=am (hb);have n2_:=am (ho);clear HO_15 HB HO_7;have HO_15:=n0_;have HB:=n1_;have HO518:=n2_;clear n0_ n1_ n2_ ho hb hg hat))
           go_roundg k1
           case measure=>have:=HK1.out;omega
           case rel=>exact ⟨(y516),(wrap64 (x17_1+1)),(sq),H',⟨by have:=HK1.out;omega⟩,⟨rq HO518.out⟩,⟨by (with_reducible repeat (first | apply Kd.jY | apply Kd.jX | apply Kd.jia));exact Kd.jE HO_15.out (fun _ hk=>hk.2)⟩,⟨bq⟩⟩
          ·rw [if_neg c19] at H
           exact absurd H (by simp)
         ·rw [if_neg c18] at H
          have c18b0:(((jc l0 (rd t505 x17_1)).f1) == 11)=false:=beq_eq_false_iff_ne.mpr c18
          have c18b1:(((jc l0 (rd t505 x17_1)).f1) != 11)=true:=bne_iff_ne.mpr c18
          have HC21:=am H
          clear H
          have p511:0≤(x17_1:Int):=ozD (uq)
          have q511:x17_1<(t505.length:Int):=ozD (uq)
          obtain ⟨ad511,e511,hx511_0⟩:=Kd.jgb (Kd.jh HO_15.out).2.2 x17_1 p511 q511
          cases e511
          replace p511:=ezT p511
          replace q511:=ezT q511
          have p515:0≤((rd t505 x17_1):Int):=ozD (uq)
          have q515:(rd t505 x17_1)<(l0.length:Int):=ozD (uq)
          obtain ⟨ad515,e515,hx515_0,hx515_1,hx515_2,hx515_3⟩:=jta HR0.out (rd t505 x17_1) p515 q515
          cases e515
          replace hx515_0:=cb HB.out hx515_0
          replace hx515_1:=cb HB.out hx515_1
          replace hx515_2:=cb HB.out hx515_2
          replace hx515_3:=cb HB.out hx515_3
          replace p515:=ezT p515
          replace q515:=ezT q515
          go_upto_if 35 with (fail)
          go_cut [35] (fun v35 wc=>∃ (kq:Nat) (x35_20:Bool),v35=.bool x35_20∧jq (jCa.j1 kq l0 a2 x7_1 (rd t505 x17_1) t505 (t505.length:Int) x17_1 x35_20=some r)∧jq (kq≤k1)∧jq (Kd.R (Kd.int .i64) 3 wc w.heap.size (fun k_=>some k_≠((.slice (some ad511) t505.length co8):Value).ownBlock) u7 x7_1)∧jq (Kd.R (Kd.int .i64) 3 wc w.heap.size (fun k_=>some k_≠(u7:Value).ownBlock) (.slice (some ad511) t505.length co8) t505)∧jq (Below w.heap.size w wc))
          case first =>
           have H:=HC21.out
           clear HC21
           by_cases c22:((jc l0 (rd t505 x17_1)).f1)=7
           ·rw [if_pos c22] at H
            have c22b0:(((jc l0 (rd t505 x17_1)).f1) == 7)=true:=beq_iff_eq.mpr c22
            have c22b1:(((jc l0 (rd t505 x17_1)).f1) != 7)=false:=bne_eq_false_iff_eq.mpr c22
            clear c22
            (first | rw [c22b0] |(simp only [jhb,jpb];rw [c22b0]) | skip)
            have H':=am H
            clear H
            go_wp2
            go_meet
            case rel=>exact ⟨_,((((jc l0 (rd t505 x17_1)).f1) == 7)),(sq),H',⟨by have:=HK1.out;first | omega | exact Nat.le_refl _⟩,⟨rq HO_7.out⟩,⟨rq HO_15.out⟩,⟨bq⟩⟩
           ·rw [if_neg c22] at H
            have c22b0:(((jc l0 (rd t505 x17_1)).f1) == 7)=false:=beq_eq_false_iff_ne.mpr c22
            have c22b1:(((jc l0 (rd t505 x17_1)).f1) != 7)=true:=bne_iff_ne.mpr c22
            (first | rw [c22b0] |(simp only [jhb,jpb];rw [c22b0]) | skip)
            by_cases c23:((jc l0 (rd t505 x17_1)).f1)=8
            ·rw [if_pos c23] at H
             have c23b0:(((jc l0 (rd t505 x17_1)).f1) == 8)=true:=beq_iff_eq.mpr c23
             have c23b1:(((jc l0 (rd t505 x17_1)).f1) != 8)=false:=bne_eq_false_iff_eq.mpr c23
             clear c23
             have H':=am H
             clear H
             go_wp2
             go_meet
             case rel=>exact ⟨_,((((jc l0 (rd t505 x17_1)).f1) == 8)),(sq),H',⟨by have:=HK1.out;first | omega | exact Nat.le_refl _⟩,⟨rq HO_7.out⟩,⟨rq HO_15.out⟩,⟨bq⟩⟩
            ·rw [if_neg c23] at H
             have c23b0:(((jc l0 (rd t505 x17_1)).f1) == 8)=false:=beq_eq_false_iff_ne.mpr c23
             have c23b1:(((jc l0 (rd t505 x17_1)).f1) != 8)=true:=bne_iff_ne.mpr c23
             have H':=am H
             clear H
             go_wp2
             go_meet
             case rel=>exact ⟨_,((((jc l0 (rd t505 x17_1)).f1) == 9)),(sq),H',⟨by have:=HK1.out;first | omega | exact Nat.le_refl _⟩,⟨rq HO_7.out⟩,⟨rq HO_15.out⟩,⟨bq⟩⟩
          case rest =>
           clear HC21
           try clear c1
           try clear c2
           try clear p2
           try clear c5
           try clear p5
           try clear q5
           try clear hx5
           try clear c6
           try clear p6
           try clear c8
           try clear c9
           try clear c9b0
           try clear c10
           try clear c10b0
           try clear c11
           try clear c11b0
           try clear c12
           try clear c12b0
           try clear c12b1
           try clear c16
           try clear c16b0
           try clear c17
           try clear c17b0
           try clear c18
           try clear c18b0
           try clear c18b1
           try clear c19
           try clear c22
           try clear c22b0
           try clear c22b1
           try clear c23
           try clear c23b0
           try clear c23b1
           try clear hx511_0
           try clear hx515_0
           try clear hx515_1
           try clear hx515_2
           try clear hx515_3
           try clear p2
           try clear p511
           try clear p515
           try clear q511
           try clear q515
           obtain ⟨kq,x35_20,rfl,HA,HJ20,HO_7,HO_15,HB⟩:=hcut
           cases kq with
           | zero=>exact absurd HA.out (by simp [jCa.j1])
           | succ kj20 =>
            have H:=HA.out
            clear HA
            simp only [jCa.j1] at H
            by_cases c24:x35_20=true
            ·subst c24
             have H1:((jKa.f kj20 l0 (rd t505 x17_1)).bind fun t519=>(if 0≤(wrap64 ((t519.length:Int) - 1)) then (if (wrap64 ((t519.length:Int) - 1))<(t519.length:Int) then (if 0≤(rd t519 (wrap64 ((t519.length:Int) - 1))) then (if (rd t519 (wrap64 ((t519.length:Int) - 1)))<(l0.length:Int) then (if ((jc l0 (rd t519 (wrap64 ((t519.length:Int) - 1)))).f1)=10 then (if x7_1.length<17592186044416 then (jCa.l0 kj20 l0 a2 (x7_1 ++ [rd t519 (wrap64 ((t519.length:Int) - 1))]) t505 (t505.length:Int) (wrap64 (x17_1+1))) else (none)) else (jCa.l0 kj20 l0 a2 x7_1 t505 (t505.length:Int) (wrap64 (x17_1+1)))) else (none)) else (none)) else (none)) else (none)))=some r:=by rw [if_pos rfl] at H;exact H
             clear H
             have H:=H1
             clear H1
             replace H:=bzS H
             obtain ⟨t519,A250,H⟩:=H
             replace H:(if 0≤(wrap64 ((t519.length:Int) - 1)) then (if (wrap64 ((t519.length:Int) - 1))<(t519.length:Int) then (if 0≤(rd t519 (wrap64 ((t519.length:Int) - 1))) then (if (rd t519 (wrap64 ((t519.length:Int) - 1)))<(l0.length:Int) then (if ((jc l0 (rd t519 (wrap64 ((t519.length:Int) - 1)))).f1)=10 then (if x7_1.length<17592186044416 then (jCa.l0 kj20 l0 a2 (x7_1 ++ [rd t519 (wrap64 ((t519.length:Int) - 1))]) t505 (t505.length:Int) (wrap64 (x17_1+1))) else (none)) else (jCa.l0 kj20 l0 a2 x7_1 t505 (t505.length:Int) (wrap64 (x17_1+1)))) else (none)) else (none)) else (none)) else (none))=some r:=H
             have A25:=am A250
             clear A250
             obtain ⟨ji26,hji26⟩:∃ j_:Int,(wrap64 ((t519.length:Int) - 1))=j_:=⟨_,rfl⟩
             replace H:(if 0≤(ji26) then (if (ji26)<(t519.length:Int) then (if 0≤(rd t519 (ji26)) then (if (rd t519 (ji26))<(l0.length:Int) then (if ((jc l0 (rd t519 (ji26))).f1)=10 then (if x7_1.length<17592186044416 then (jCa.l0 kj20 l0 a2 (x7_1 ++ [rd t519 (ji26)]) t505 (t505.length:Int) (wrap64 (x17_1+1))) else (none)) else (jCa.l0 kj20 l0 a2 x7_1 t505 (t505.length:Int) (wrap64 (x17_1+1)))) else (none)) else (none)) else (none)) else (none))=some r:=by first |(rw [hji26] at H;exact H) |(simp only [hji26] at H ⊢;exact H)
             (try rw [hji26] at A25)
             have hji26w:(IntKind.i64.wrap ((t519.length:Int) - 1))=ji26:=(jhb _).trans hji26
             by_cases c27:0≤(ji26)
             ·rw [if_pos c27] at H
              have c27b0:decide (0≤(ji26))=true:=dzT c27
              clear c27
              by_cases c28:(ji26)<(t519.length:Int)
              ·rw [if_pos c28] at H
               have c28b0:decide ((ji26)<(t519.length:Int))=true:=dzT c28
               clear c28
               by_cases c29:0≤(rd t519 (ji26))
               ·rw [if_pos c29] at H
                have c29b0:decide (0≤(rd t519 (ji26)))=true:=dzT c29
                clear c29
                by_cases c30:(rd t519 (ji26))<(l0.length:Int)
                ·rw [if_pos c30] at H
                 have c30b0:decide ((rd t519 (ji26))<(l0.length:Int))=true:=dzT c30
                 clear c30
                 by_cases c31:((jc l0 (rd t519 (ji26))).f1)=10
                 ·rw [if_pos c31] at H
                  have c31b0:(((jc l0 (rd t519 (ji26))).f1) == 10)=true:=beq_iff_eq.mpr c31
                  have c31b1:(((jc l0 (rd t519 (ji26))).f1) != 10)=false:=bne_eq_false_iff_eq.mpr c31
                  clear c31
                  by_cases c32:x7_1.length<17592186044416
                  ·rw [if_pos c32] at H
                   have LMc32:=am c32
                   clear c32
                   obtain ⟨y524,hy524⟩:∃ y_:List Int,y_=(x7_1 ++ [rd t519 (ji26)]):=⟨_,rfl⟩
                   replace H:(jCa.l0 kj20 l0 a2 y524 t505 (t505.length:Int) (wrap64 (x17_1+1)))=some r:=by first |(rw [hy524];with_reducible exact H) |(have H2_:=(Option.bind_some _ _).symm.trans H;rw [hy524];with_reducible exact H2_) |(have H2_:=(Option.bind_some _ _).symm.trans H;with_reducible exact H2_) | with_reducible exact H |(rw [hy524];exact H) | exact H
                   have Ny524:=am hy524
                   clear hy524
                   have H':=am H
                   clear H
                   go_wp2_with (first |((with_reducible refine jd (f:=72) rfl ?_);refine gL (some 41) Try.func72 #[.slice (some ad515) l0.length c0, .int .i64 (rd t505 x17_1)] ?_;(with_reducible refine (jKa.calls kj20 _ _ l0 (rd t505 x17_1) t519 _ ?side1 ?side2 A25.out).mono ?_);(case side1=>exact cq (Kd.jba HR0.out HB.out));(case side2=>exact HC0.out);rintro e w33 ⟨v520,rfl,ho0,hb⟩;refine ⟨_,rfl,?_⟩;have HO521:=am (Kd.jQ (Kd.jxb (Kd.jxb ho0 (Kd.R_lt (rq HO_7.out))) (Kd.R_lt (rq HO_15.out))) (jN (bq)));replace HO_7:=am (Kd.job (rq HO_7.out) (Kd.jyb ho0) hb);replace HO_15:=am (Kd.job (rq HO_15.out) (Kd.jyb ho0) hb);replace HB:=am (je (bq) hb);(try clear hb);(try clear hb2);(try clear hk);(try clear hi);(try clear ho0);obtain ⟨Ao34,co34,eo34⟩:=Kd.jU HO521.out;subst eo34;have p522:0≤((ji26):Int):=ozD (uq);have q522:(ji26)<(t519.length:Int):=ozD (uq);obtain ⟨ad522,e522,hx522_0⟩:=Kd.jgb (Kd.jh HO521.out).2.2 (ji26) p522 q522;cases e522;replace p522:=ezT p522;replace q522:=ezT q522;have p523:0≤((rd t519 (ji26)):Int):=ozD (uq);have q523:(rd t519 (ji26))<(l0.length:Int):=ozD (uq);obtain ⟨ad523,e523,hx523_0,hx523_1,hx523_2,hx523_3⟩:=jta HR0.out (rd t519 (ji26)) p523 q523;obtain rfl:ad515=ad523:=(by injection e523);replace hx523_0:=cb HB.out hx523_0;replace hx523_1:=cb HB.out hx523_1;replace hx523_2:=cb HB.out hx523_2;replace hx523_3:=cb HB.out hx523_3;replace p523:=ezT p523;replace q523:=ezT q523) |((with_reducible refine jJa (b:=.append) (xs:=#[.tmp 54, .tmp 56]) rfl ?_);at_builtin;refine Kd.jSb (Kd.int .i64) (w0:=w) w.heap.size rfl (.tmp 54) (.tmp 56) 28 3 (.int .i64 0) 8 rfl Try.underlying28 info3 rfl (by decide) (by omega) u7 x7_1 (rd t519 (ji26)) [.int .i64 (rd t519 (ji26))] (fun k_=>some k_≠(.slice (some ad511) t505.length co8:Value).ownBlock∧some k_≠(.slice (some ad522) t519.length co34:Value).ownBlock) (fun _=>False) rfl rfl ?aP (fun _ hk=>hk.elim) ?aF ?aO ?aB ?aS ?aL ?_;(case aP=>exact rfl);(case aB=>exact (bq));(case aF=>exact (fun k_ hk=>⟨Kd.fresh' (Kd.R_lt (rq HO_15.out)) k_ hk,Kd.fresh' (Kd.R_lt (rq HO521.out)) k_ hk⟩));(case aO=>exact (rq HO_7.out));(case aS=>exact (jN (bq)));(case aL=>have:=LMc32.out;omega);intro v525 w35 ho hb hg hat;rw [← Ny524.out] at ho;have n0_:=am (Kd.jmc (ok:=(fun k_=>some k_≠(.slice (some ad522) t519.length co34:Value).ownBlock)) (by (with_reducible repeat (first | apply Kd.jY | apply Kd.jX | apply Kd.jia));exact Kd.jE HO_15.out (fun _ hk=>⟨hk.2,hk.1⟩)) hg hat);have n1_:=am (Kd.jmc (ok:=(fun k_=>some k_≠(.slice (some ad511) t505.length co8:Value).ownBlock)) (by (with_reducible repeat (first | apply Kd.jY | apply Kd.jX | apply Kd.jia));exact Kd.jE HO521.out (fun _ hk=>⟨hk.2,hk.1.2⟩)) hg hat);have n2_:=am (hb);have n3_:=am (ho);clear HO_15 HO521 HB HO_7;have HO_15:=n0_;have HO521:=n1_;have HB:=n2_;have HO526:=n3_;clear n0_ n1_ n2_ n3_ ho hb hg hat))
                   go_roundg kj20
                   case measure=>have:=HK1.out;have:=HJ20.out;omega
                   case rel=>exact ⟨(y524),(wrap64 (x17_1+1)),(sq),H',⟨by have:=HK1.out;have:=HJ20.out;omega⟩,⟨by (with_reducible repeat (first | apply Kd.jY | apply Kd.jX | apply Kd.jia));exact Kd.jE HO526.out (fun _ hk=>hk.1)⟩,⟨by (with_reducible repeat (first | apply Kd.jY | apply Kd.jX | apply Kd.jia));exact Kd.jE HO_15.out (fun _ hk=>hk.2)⟩,⟨bq⟩⟩
                  ·rw [if_neg c32] at H
                   exact absurd H (by simp)
                 ·rw [if_neg c31] at H
                  have c31b0:(((jc l0 (rd t519 (ji26))).f1) == 10)=false:=beq_eq_false_iff_ne.mpr c31
                  have c31b1:(((jc l0 (rd t519 (ji26))).f1) != 10)=true:=bne_iff_ne.mpr c31
                  have H':=am H
                  clear H
                  go_wp2_with (first |((with_reducible refine jd (f:=72) rfl ?_);refine gL (some 41) Try.func72 #[.slice (some ad515) l0.length c0, .int .i64 (rd t505 x17_1)] ?_;(with_reducible refine (jKa.calls kj20 _ _ l0 (rd t505 x17_1) t519 _ ?side1 ?side2 A25.out).mono ?_);(case side1=>exact cq (Kd.jba HR0.out HB.out));(case side2=>exact HC0.out);rintro e w36 ⟨v520,rfl,ho0,hb⟩;refine ⟨_,rfl,?_⟩;have HO521:=am (Kd.jQ (Kd.jxb (Kd.jxb ho0 (Kd.R_lt (rq HO_7.out))) (Kd.R_lt (rq HO_15.out))) (jN (bq)));replace HO_7:=am (Kd.job (rq HO_7.out) (Kd.jyb ho0) hb);replace HO_15:=am (Kd.job (rq HO_15.out) (Kd.jyb ho0) hb);replace HB:=am (je (bq) hb);(try clear hb);(try clear hb2);(try clear hk);(try clear hi);(try clear ho0);obtain ⟨Ao37,co37,eo37⟩:=Kd.jU HO521.out;subst eo37;have p522:0≤((ji26):Int):=ozD (uq);have q522:(ji26)<(t519.length:Int):=ozD (uq);obtain ⟨ad522,e522,hx522_0⟩:=Kd.jgb (Kd.jh HO521.out).2.2 (ji26) p522 q522;cases e522;replace p522:=ezT p522;replace q522:=ezT q522;have p523:0≤((rd t519 (ji26)):Int):=ozD (uq);have q523:(rd t519 (ji26))<(l0.length:Int):=ozD (uq);obtain ⟨ad523,e523,hx523_0,hx523_1,hx523_2,hx523_3⟩:=jta HR0.out (rd t519 (ji26)) p523 q523;obtain rfl:ad515=ad523:=(by injection e523);replace hx523_0:=cb HB.out hx523_0;replace hx523_1:=cb HB.out hx523_1;replace hx523_2:=cb HB.out hx523_2;replace hx523_3:=cb HB.out hx523_3;replace p523:=ezT p523;replace q523:=ezT q523))
                  go_roundg kj20
                  case measure=>have:=HK1.out;have:=HJ20.out;omega
                  case rel=>exact ⟨(x7_1),(wrap64 (x17_1+1)),(sq),H',⟨by have:=HK1.out;have:=HJ20.out;omega⟩,⟨by (with_reducible repeat (first | apply Kd.jY | apply Kd.jX | apply Kd.jia));exact Kd.jE HO_7.out (fun _ hk=>hk.1)⟩,⟨by (with_reducible repeat (first | apply Kd.jY | apply Kd.jX | apply Kd.jia));exact Kd.jE HO_15.out (fun _ hk=>hk.1)⟩,⟨bq⟩⟩
                ·rw [if_neg c30] at H
                 exact absurd H (by simp)
               ·rw [if_neg c29] at H
                exact absurd H (by simp)
              ·rw [if_neg c28] at H
               exact absurd H (by simp)
             ·rw [if_neg c27] at H
              exact absurd H (by simp)
            ·replace c24:=Bool.eq_false_iff.mpr c24
             subst c24
             have H1:(jCa.l0 kj20 l0 a2 x7_1 t505 (t505.length:Int) (wrap64 (x17_1+1)))=some r:=by rw [if_neg (show ¬ (false=true) by decide)] at H;exact H
             clear H
             have H:=H1
             clear H1
             have H':=am H
             clear H
             go_wp2
             go_roundg kj20
             case measure=>have:=HK1.out;have:=HJ20.out;omega
             case rel=>exact ⟨(x7_1),(wrap64 (x17_1+1)),(sq),H',⟨by have:=HK1.out;have:=HJ20.out;omega⟩,⟨rq HO_7.out⟩,⟨rq HO_15.out⟩,⟨bq⟩⟩
        ·rw [if_neg c17] at H
         exact absurd H (by simp)
       ·rw [if_neg c16] at H
        exact absurd H (by simp)
     ·rw [if_neg c11] at H
      exact absurd H (by simp)
    ·rw [if_neg c10] at H
     exact absurd H (by simp)
   ·rw [if_neg c9] at H
    have c9b0:decide (x17_1<(t505.length:Int))=false:=dzF c9
    clear c9
    replace H:=bzS H
    obtain ⟨t508,A380,H⟩:=H
    replace H:(some t508)=some r:=H
    have A38:=am A380
    clear A380
    obtain rfl:=Option.some.inj H
    obtain ⟨Ao39,co39,eo39⟩:=Kd.jU HO_7.out
    subst eo39
    go_wp2_with (first |((with_reducible refine jd (f:=82) rfl ?_);refine gL (some 60) Try.func82 #[.slice Ao39 x7_1.length co39] ?_;(with_reducible refine (jma.calls (fun k_=>some k_=(.slice Ao39 x7_1.length co39:Value).ownBlock) (.slice Ao39 x7_1.length co39) x7_1 t508 w _ ?side1 ?side2 A38.out).mono ?_);(case side1=>exact Y68);(case side2=>exact Kd.R_tight rfl HO_7.out);rintro e w40 ⟨v509,rfl,ho0,hb,hkp⟩;refine ⟨_,rfl,?_⟩;have n0_:=am (Kd.jE (ok':=fun k_=>some k_≠(v509:Value).ownBlock) (Kd.R_keptB (HO_15.out) hkp (fun k_ hk_ hs_=>(hk_) hs_)) (fun k_ hk_=>fun e_=>Or.elim (ho0.1 k_ e_.symm) (fun hs_=>hk_.2.1 hs_) (fun hn_=>Nat.not_le.2 hk_.2.2 hn_)));have n1_:=am (Kd.jE (ok':=fun k_=>some k_≠(.slice Ao8 t505.length co8:Value).ownBlock) ho0 (fun k_ hk_=>Or.elim hk_ (fun hs_=>fun e_=>(((HO_15.out).1 k_ e_.symm)) hs_) (fun hn_=>(Kd.fresh' (Kd.R_lt (rq HO_15.out)) k_ hn_))));have n2_:=am (hb);clear HO_15 HB HO_7;have HO_15:=n0_;have HO510:=n1_;have HB:=n2_;clear n0_ n1_ n2_;(try clear hb);(try clear hkp);(try clear ho0)))
    go_ret
    exact ⟨_,Y0,by (with_reducible repeat (first | apply Kd.jY | apply Kd.jX | apply Kd.jia));exact Kd.jE HO510.out (fun _ hk=>trivial),bq⟩
def jHb.f (k : Nat) (l0_0 : List (S87)) (l1 : List (S52)) (a2 : Int) : Option (List Int) := (jUb.f k l0_0 l1 a2).bind fun t528 => (if t528 = true then ((jCa.f k l1 a2 (-1)).bind fun t529 => (some t529)) else (some ([] : List Int)))
set_option maxHeartbeats 8000000 in
set_option maxRecDepth 100000 in
theorem jHb.calls (k : Nat) (A0_0 : Option Addr) (c0_0 : Nat) (l0_0 : List (S87)) (A1 : Option Addr) (c1 : Nat) (l1 : List (S52)) (a2 : Int) (r : List Int) (w : World) (hr0_0 : Kd.C k87 w A0_0 l0_0.length l0_0) (hc0_0 : l0_0.length ≤ c0_0) (hr1 : Kd.C k52 w A1 l1.length l1) (hc1 : l1.length ≤ c1) (h : jHb.f k l0_0 l1 a2 = some r) :
  Calls Try.prog 39 #[.agg #[.slice A0_0 l0_0.length c0_0], .slice A1 l1.length c1, .int .i64 a2] w fun e w'=>∃ v0_:Value,e=.returned (v0_)∧Kd.R (Kd.int .i64) 3 w' w.heap.size (fun _=>True) v0_ r∧Below w.heap.size w w':=by
 have hu32:=Try.underlying32
 have HR0_0:=am hr0_0
 have HC0_0:=am hc0_0
 clear hr0_0 hc0_0
 have HR1:=am hr1
 have HC1:=am hc1
 clear hr1 hc1
 have HB:=am (Below.refl w.heap.size w)
 have H:((jUb.f k l0_0 l1 a2).bind fun t528=>(if t528=true then ((jCa.f k l1 a2 (-1)).bind fun t529=>(some t529)) else (some ([]:List Int))))=some r:=h
 clear h
 replace H:=bzS H
 obtain ⟨t528,A40,H⟩:=H
 replace H:(if t528=true then ((jCa.f k l1 a2 (-1)).bind fun t529=>(some t529)) else (some ([]:List Int)))=some r:=H
 have A4:=am A40
 clear A40
 by_cases c5:t528=true
 ·subst c5
  have H1:((jCa.f k l1 a2 (-1)).bind fun t529=>(some t529))=some r:=by rw [if_pos rfl] at H;exact H
  clear H
  have H:=H1
  clear H1
  replace H:=bzS H
  obtain ⟨t529,A60,H⟩:=H
  replace H:(some t529)=some r:=H
  have A6:=am A60
  clear A60
  obtain rfl:=Option.some.inj H
  go_enter Try.func39,Try.ntmps39
  go_wp2_with (first |((with_reducible refine jM (N:=3) rfl ?_);refine bE (N:=3) (cs:=#[.slice A0_0 l0_0.length c0_0]) (t:=32) ?_;intro gb527 hg w7 hbox hb;have BK527:=am (hbox);have GW527:=am ((Y10:w.heap.size≤gb527));have GE527:=am ((Y10:w.heap.size≤gb527));replace HB:=am (je (bq) hb);clear hb hbox hg;have hcz8_0:=bc0 BK527.out;have hfz8_0:=ja BK527.out 0) |((with_reducible refine jd (f:=48) rfl ?_);refine gL (some 10) Try.func48 #[.agg #[.slice A0_0 l0_0.length c0_0], .slice A1 l1.length c1, .int .i64 a2] ?_;(with_reducible refine (jUb.calls k _ _ l0_0 _ _ l1 a2 true _ ?side1 ?side2 ?side3 ?side4 A4.out).mono ?_);(case side1=>exact cq (Kd.jba HR0_0.out HB.out));(case side2=>exact HC0_0.out);(case side3=>exact cq (Kd.jba HR1.out HB.out));(case side4=>exact HC1.out);rintro e w9 ⟨rfl,hb⟩;refine ⟨_,rfl,?_⟩;replace BK527:=am (jm (g:=gb527) (o:=.cells #[.slice A0_0 l0_0.length c0_0] 32 (0,0)) (kq BK527.out) hb);replace HB:=am (je (Y69) hb);(try clear hb);(try clear hb2);(try clear hk);(try clear hi)) |((with_reducible refine jd (f:=51) rfl ?_);refine gL (some 14) Try.func51 #[.slice A1 l1.length c1, .int .i64 a2, .int .i64 (-1)] ?_;(with_reducible refine (jCa.calls k _ _ l1 a2 (-1) t529 _ ?side1 ?side2 A6.out).mono ?_);(case side1=>exact cq (Kd.jba HR1.out HB.out));(case side2=>exact HC1.out);rintro e w10 ⟨v530,rfl,ho0,hb⟩;refine ⟨_,rfl,?_⟩;have HO531:=am (Kd.jQ ho0 (jN (Y69)));replace BK527:=am (jm (g:=gb527) (o:=.cells #[.slice A0_0 l0_0.length c0_0] 32 (0,0)) (kq BK527.out) hb);replace HB:=am (je (Y69) hb);(try clear hb);(try clear hb2);(try clear hk);(try clear hi);(try clear ho0)))
  go_ret
  exact ⟨_,Y0,rq HO531.out,Y69⟩
 ·replace c5:=Bool.eq_false_iff.mpr c5
  subst c5
  have H1:(some ([]:List Int))=some r:=by rw [if_neg (show ¬ (false=true) by decide)] at H;exact H
  clear H
  have H:=H1
  clear H1
  obtain rfl:=Option.some.inj H
  go_enter Try.func39,Try.ntmps39
  go_wp2_with (first |((with_reducible refine jM (N:=3) rfl ?_);refine bE (N:=3) (cs:=#[.slice A0_0 l0_0.length c0_0]) (t:=32) ?_;intro gb527 hg w11 hbox hb;have BK527:=am (hbox);have GW527:=am ((Y10:w.heap.size≤gb527));have GE527:=am ((Y10:w.heap.size≤gb527));replace HB:=am (je (bq) hb);clear hb hbox hg;have hcz12_0:=bc0 BK527.out;have hfz12_0:=ja BK527.out 0) |((with_reducible refine jd (f:=48) rfl ?_);refine gL (some 10) Try.func48 #[.agg #[.slice A0_0 l0_0.length c0_0], .slice A1 l1.length c1, .int .i64 a2] ?_;(with_reducible refine (jUb.calls k _ _ l0_0 _ _ l1 a2 false _ ?side1 ?side2 ?side3 ?side4 A4.out).mono ?_);(case side1=>exact cq (Kd.jba HR0_0.out HB.out));(case side2=>exact HC0_0.out);(case side3=>exact cq (Kd.jba HR1.out HB.out));(case side4=>exact HC1.out);rintro e w13 ⟨rfl,hb⟩;refine ⟨_,rfl,?_⟩;replace BK527:=am (jm (g:=gb527) (o:=.cells #[.slice A0_0 l0_0.length c0_0] 32 (0,0)) (kq BK527.out) hb);replace HB:=am (je (Y69) hb);(try clear hb);(try clear hb2);(try clear hk);(try clear hi)))
  go_ret
  exact ⟨_,Y0,Y81,Y69⟩
def jua.l0 : Nat → List (S52) → List Int → Int → Int → Option (List Int)
 | 0,_,_,_,_=>none
 | k+1,x0,x5,x6,x7=>if x7≥0 then (if 0≤x7 then (if x7<(x0.length:Int) then (if ((jc x0 x7).f0)<x6 then (if x5.length<17592186044416 then (jua.l0 k x0 (x5 ++ [x7]) ((jc x0 x7).f0) (wrap64 (x7 - 1))) else (none)) else (jua.l0 k x0 x5 x6 (wrap64 (x7 - 1)))) else (none)) else (none)) else (some x5)
def jua.f (k : Nat) (l0 : List (S52)) (a1 : Int) : Option (List Int) := if 0 ≤ a1 then (if a1 < (l0.length : Int) then (jua.l0 k l0 (([] : List Int)) ((jc l0 a1).f0) (wrap64 (a1 - 1))) else (none)) else (none)
set_option maxHeartbeats 8000000 in
set_option maxRecDepth 100000 in
theorem jua.calls (k : Nat) (A0 : Option Addr) (c0 : Nat) (l0 : List (S52)) (a1 : Int) (r : List Int) (w : World) (hr0 : Kd.C k52 w A0 l0.length l0) (hc0 : l0.length ≤ c0) (h : jua.f k l0 a1 = some r) :
  Calls Try.prog 43 #[.slice A0 l0.length c0, .int .i64 a1] w fun e w'=>∃ v0_:Value,e=.returned (v0_)∧Kd.R (Kd.int .i64) 3 w' w.heap.size (fun _=>True) v0_ r∧Below w.heap.size w w':=by
 have HR0:=am hr0
 have HC0:=am hc0
 clear hr0 hc0
 have HB:=am (Below.refl w.heap.size w)
 have H:(if 0≤a1 then (if a1<(l0.length:Int) then (jua.l0 k l0 (([]:List Int)) ((jc l0 a1).f0) (wrap64 (a1 - 1))) else (none)) else (none))=some r:=h
 clear h
 obtain ⟨y532,hy532⟩:∃ y_:List Int,y_=(([]:List Int)):=⟨_,rfl⟩
 replace H:(if 0≤a1 then (if a1<(l0.length:Int) then (jua.l0 k l0 y532 ((jc l0 a1).f0) (wrap64 (a1 - 1))) else (none)) else (none))=some r:=by first |(rw [hy532];with_reducible exact H) |(have H2_:=(Option.bind_some _ _).symm.trans H;rw [hy532];with_reducible exact H2_) |(have H2_:=(Option.bind_some _ _).symm.trans H;with_reducible exact H2_) | with_reducible exact H |(rw [hy532];exact H) | exact H
 have Ny532:=am hy532
 clear hy532
 by_cases c3:0≤a1
 ·rw [if_pos c3] at H
  have c3b0:decide (0≤a1)=true:=dzT c3
  clear c3
  by_cases c4:a1<(l0.length:Int)
  ·rw [if_pos c4] at H
   have c4b0:decide (a1<(l0.length:Int))=true:=dzT c4
   clear c4
   have H':=am H
   clear H
   go_enter Try.func43,Try.ntmps43
   go_wp2_with (first |((with_reducible refine jM (N:=8) rfl ?_);refine Kd.jbc (Kd.int .i64) _ 3 ?hg (N:=8) ?hd (xs:=([]:List Int)) (inner:=[]) (ok:=fun _=>True) (okp:=fun _=>True) ?hr ?hp (fun _ hk=>hk) trivial (Below.refl _ _) (Nat.le_refl _) (by simp) ?_;(case hd=>rfl);(case hg=>rfl);(case hr=>exact Y7);(case hp=>exact (Reps.none _ _));intro v533 w5 ho6 hb hg_ hnew_;clear hg_ hnew_;(first | rw [← Ny532.out] at ho6 |(simp only [Int.reduceToNat] at ho6;rw [← Ny532.out] at ho6));have HO534:=am (Kd.jQ ho6 (jN (bq)));replace HB:=am (je (bq) hb);clear hb ho6;have p535:0≤(a1:Int):=ozD (uq);have q535:a1<(l0.length:Int):=ozD (uq);obtain ⟨ad535,e535,hx535_0,hx535_1,hx535_2,hx535_3⟩:=jta HR0.out a1 p535 q535;cases e535;replace hx535_0:=cb HB.out hx535_0;replace hx535_1:=cb HB.out hx535_1;replace hx535_2:=cb HB.out hx535_2;replace hx535_3:=cb HB.out hx535_3;replace p535:=ezT p535;replace q535:=ezT q535))
   go_loopg [5,6,7] k (fun kq v5 v6 v7 w'=>∃ (x5_1:List Int) (x6_1:Int) (x7_1:Int),v6=.int .i64 x6_1∧v7=.int .i64 x7_1∧jq (jua.l0 kq l0 x5_1 x6_1 x7_1=some r)∧jq (kq≤k)∧jq (Kd.R (Kd.int .i64) 3 w' w.heap.size (fun _=>True) v5 x5_1)∧jq (Below w.heap.size w w'))
   case atStart=>exact ⟨(y532),((jc l0 a1).f0),(wrap64 (a1 - 1)),(sq),(sq),H',⟨Nat.le_refl _⟩,⟨rq HO534.out⟩,⟨bq⟩⟩
   case round =>
    clear H'
    try clear p2
    try clear c3
    try clear c3b0
    try clear c4
    try clear c4b0
    try clear p5
    try clear q5
    try clear hx5
    try clear p6
    try clear hx535_0
    try clear hx535_1
    try clear hx535_2
    try clear hx535_3
    try clear p535
    try clear q535
    obtain ⟨x5_1,x6_1,x7_1,rfl,rfl,HA,HK1,HO_5,HB⟩:=hrel
    cases gk with
    | zero=>exact absurd HA.out (by simp [jua.l0])
    | succ k1 =>
     have H:=HA.out
     clear HA
     simp only [jua.l0] at H
     by_cases c7:x7_1≥0
     ·rw [if_pos c7] at H
      have c7b0:decide (0≤x7_1)=true:=dzT c7
      clear c7
      by_cases c8:0≤x7_1
      ·rw [if_pos c8] at H
       have c8b0:decide (0≤x7_1)=true:=dzT c8
       clear c8
       by_cases c9:x7_1<(l0.length:Int)
       ·rw [if_pos c9] at H
        have c9b0:decide (x7_1<(l0.length:Int))=true:=dzT c9
        clear c9
        by_cases c10:((jc l0 x7_1).f0)<x6_1
        ·rw [if_pos c10] at H
         have c10b0:decide (((jc l0 x7_1).f0)<x6_1)=true:=dzT c10
         clear c10
         by_cases c11:x5_1.length<17592186044416
         ·rw [if_pos c11] at H
          have LMc11:=am c11
          clear c11
          obtain ⟨y538,hy538⟩:∃ y_:List Int,y_=(x5_1 ++ [x7_1]):=⟨_,rfl⟩
          replace H:(jua.l0 k1 l0 y538 ((jc l0 x7_1).f0) (wrap64 (x7_1 - 1)))=some r:=by first |(rw [hy538];with_reducible exact H) |(have H2_:=(Option.bind_some _ _).symm.trans H;rw [hy538];with_reducible exact H2_) |(have H2_:=(Option.bind_some _ _).symm.trans H;with_reducible exact H2_) | with_reducible exact H |(rw [hy538];exact H) | exact H
          have Ny538:=am hy538
          clear hy538
          have H':=am H
          clear H
          have p536:0≤(x7_1:Int):=ozD (uq)
          have q536:x7_1<(l0.length:Int):=ozD (uq)
          obtain ⟨ad536,e536,hx536_0,hx536_1,hx536_2,hx536_3⟩:=jta HR0.out x7_1 p536 q536
          obtain rfl:ad535=ad536:=(by injection e536)
          replace hx536_0:=cb HB.out hx536_0
          replace hx536_1:=cb HB.out hx536_1
          replace hx536_2:=cb HB.out hx536_2
          replace hx536_3:=cb HB.out hx536_3
          replace p536:=ezT p536
          replace q536:=ezT q536
          have p537:0≤(x7_1:Int):=ozD (uq)
          have q537:x7_1<(l0.length:Int):=ozD (uq)
          obtain ⟨ad537,e537,hx537_0,hx537_1,hx537_2,hx537_3⟩:=jta HR0.out x7_1 p537 q537
          obtain rfl:ad535=ad537:=(by injection e537)
          replace hx537_0:=cb HB.out hx537_0
          replace hx537_1:=cb HB.out hx537_1
          replace hx537_2:=cb HB.out hx537_2
          replace hx537_3:=cb HB.out hx537_3
          replace p537:=ezT p537
          replace q537:=ezT q537
          go_wp2_with (first |((with_reducible refine jJa (b:=.append) (xs:=#[.tmp 32, .tmp 34]) rfl ?_);at_builtin;refine Kd.jSb (Kd.int .i64) (w0:=w) w.heap.size rfl (.tmp 32) (.tmp 34) 28 3 (.int .i64 0) 8 rfl Try.underlying28 info3 rfl (by decide) (by omega) u5 x5_1 x7_1 [.int .i64 x7_1] (fun _=>True) (fun _=>False) rfl rfl ?aP (fun _ hk=>hk.elim) ?aF ?aO ?aB ?aS ?aL ?_;(case aP=>exact rfl);(case aB=>exact (bq));(case aF=>exact (fun _ _=>trivial));(case aO=>exact (rq HO_5.out));(case aS=>exact (jN (bq)));(case aL=>have:=LMc11.out;omega);intro v539 w12 ho hb hg hat;rw [← Ny538.out] at ho;have n0_:=am (hb);have n1_:=am (ho);clear HB HO_5;have HB:=n0_;have HO540:=n1_;clear n0_ n1_ ho hb hg hat))
          go_roundg k1
          case measure=>have:=HK1.out;omega
          case rel=>exact ⟨(y538),((jc l0 x7_1).f0),(wrap64 (x7_1 - 1)),(sq),(sq),H',⟨by have:=HK1.out;omega⟩,⟨rq HO540.out⟩,⟨bq⟩⟩
         ·rw [if_neg c11] at H
          exact absurd H (by simp)
        ·rw [if_neg c10] at H
         have c10b0:decide (((jc l0 x7_1).f0)<x6_1)=false:=dzF c10
         clear c10
         have H':=am H
         clear H
         have p536:0≤(x7_1:Int):=ozD (uq)
         have q536:x7_1<(l0.length:Int):=ozD (uq)
         obtain ⟨ad536,e536,hx536_0,hx536_1,hx536_2,hx536_3⟩:=jta HR0.out x7_1 p536 q536
         obtain rfl:ad535=ad536:=(by injection e536)
         replace hx536_0:=cb HB.out hx536_0
         replace hx536_1:=cb HB.out hx536_1
         replace hx536_2:=cb HB.out hx536_2
         replace hx536_3:=cb HB.out hx536_3
         replace p536:=ezT p536
         replace q536:=ezT q536
         go_wp2
         go_roundg k1
         case measure=>have:=HK1.out;omega
         case rel=>exact ⟨(x5_1),(x6_1),(wrap64 (x7_1 - 1)),(sq),(sq),H',⟨by have:=HK1.out;omega⟩,⟨rq HO_5.out⟩,⟨bq⟩⟩
       ·rw [if_neg c9] at H
        exact absurd H (by simp)
      ·rw [if_neg c8] at H
       exact absurd H (by simp)
     ·rw [if_neg c7] at H
      have c7b0:decide (0≤x7_1)=false:=dzF c7
      clear c7
      obtain rfl:=Option.some.inj H
      go_wp2
      go_ret
      exact ⟨_,Y0,rq HO_5.out,bq⟩
  ·rw [if_neg c4] at H
   exact absurd H (by simp)
 ·rw [if_neg c3] at H
  exact absurd H (by simp)
def jH.f (a0 : Int) (a1 : Int) (a2 : Int) : Option (Bool) := if a1 ≤ a0 then (some (decide (a0 ≤ a2))) else (some false)
set_option maxHeartbeats 8000000 in
set_option maxRecDepth 100000 in
theorem jH.calls (a0 : Int) (a1 : Int) (a2 : Int) (r : Bool) (w : World) (h : jH.f a0 a1 a2 = some r) :
  Calls Try.prog 92 #[.int .i64 a0, .int .i64 a1, .int .i64 a2] w fun e w'=>e=.returned (.bool r)∧jjb w w':=by
 have H:(if a1≤a0 then (some (decide (a0≤a2))) else (some false))=some r:=h
 clear h
 by_cases c4:a1≤a0
 ·rw [if_pos c4] at H
  have c4b0:decide (a1≤a0)=true:=dzT c4
  clear c4
  obtain rfl:=Option.some.inj H
  go_enter Try.func92,Try.ntmps92
  go_wp2
  go_ret
  exact ⟨sq,Y5⟩
 ·rw [if_neg c4] at H
  have c4b0:decide (a1≤a0)=false:=dzF c4
  clear c4
  obtain rfl:=Option.some.inj H
  go_enter Try.func92,Try.ntmps92
  go_wp2
  go_ret
  exact ⟨sq,Y5⟩
def jCb.f (a0 : Int) : Option (Bool) := (jH.f a0 8 10).bind fun t541 => (some t541)
set_option maxHeartbeats 8000000 in
set_option maxRecDepth 100000 in
theorem jCb.calls (a0 : Int) (r : Bool) (w : World) (h : jCb.f a0 = some r) :
  Calls Try.prog 70 #[.int .i64 a0] w fun e w'=>e=.returned (.bool r)∧jjb w w':=by
 have H:((jH.f a0 8 10).bind fun t541=>(some t541))=some r:=h
 clear h
 replace H:=bzS H
 obtain ⟨t541,A20,H⟩:=H
 replace H:(some t541)=some r:=H
 have A2:=am A20
 clear A20
 obtain rfl:=Option.some.inj H
 go_enter Try.func70,Try.ntmps70
 go_wp2_with (first |((with_reducible refine jd (f:=92) rfl ?_);refine gL (some 4) Try.func92 #[.int .i64 a0, .int .i64 8, .int .i64 10] ?_;(with_reducible refine (jH.calls a0 8 10 t541 _ A2.out).mono ?_);rintro e w' ⟨rfl,⟨nd,rfl⟩⟩;refine ⟨_,rfl,?_⟩))
 go_ret
 exact ⟨sq,Y5⟩
def jsa.l0 : Nat → List (S52) → Int → Int → Option (Int)
 | 0,_,_,_=>none
 | k+1,x0,x1,x5=>if x5<(x0.length:Int) then (if 0≤x5 then (if 0≤x1 then (if x1<(x0.length:Int) then (if ((jc x0 x5).f0) > ((jc x0 x1).f0) then (jsa.l0 k x0 x1 (wrap64 (x5+1))) else (some x5)) else (none)) else (none)) else (none)) else (some x5)
def jsa.f (k : Nat) (l0 : List (S52)) (a1 : Int) : Option (Int) := jsa.l0 k l0 a1 (wrap64 (a1 + 1))
set_option maxHeartbeats 8000000 in
set_option maxRecDepth 100000 in
theorem jsa.calls (k : Nat) (A0 : Option Addr) (c0 : Nat) (l0 : List (S52)) (a1 : Int) (r : Int) (w : World) (hr0 : Kd.C k52 w A0 l0.length l0) (hc0 : l0.length ≤ c0) (h : jsa.f k l0 a1 = some r) :
  Calls Try.prog 87 #[.slice A0 l0.length c0, .int .i64 a1] w fun e w'=>e=.returned (.int .i64 r)∧jjb w w':=by
 have HR0:=am hr0
 have HC0:=am hc0
 clear hr0 hc0
 have H:(jsa.l0 k l0 a1 (wrap64 (a1+1)))=some r:=h
 clear h
 have H':=am H
 clear H
 go_enter Try.func87,Try.ntmps87
 go_wp2
 repeat (go_quiet (fail);try go_wp2)
 go_loopg [5] k (fun kq v5 w'=>∃ (x5_1:Int),v5=.int .i64 x5_1∧jq (jsa.l0 kq l0 a1 x5_1=some r)∧jq (kq≤k)∧jjb w w')
 case atStart=>exact ⟨(wrap64 (a1+1)),(sq),H',⟨Nat.le_refl _⟩,Y5⟩
 case round =>
  clear H'
  try clear p2
  obtain ⟨x5_1,rfl,HA,HK1,⟨m1,rfl⟩⟩:=hrel
  cases gk with
  | zero=>exact absurd HA.out (by simp [jsa.l0])
  | succ k1 =>
   have H:=HA.out
   clear HA
   simp only [jsa.l0] at H
   by_cases c3:x5_1<(l0.length:Int)
   ·rw [if_pos c3] at H
    have c3b0:decide (x5_1<(l0.length:Int))=true:=dzT c3
    clear c3
    by_cases c4:0≤x5_1
    ·rw [if_pos c4] at H
     have c4b0:decide (0≤x5_1)=true:=dzT c4
     clear c4
     by_cases c5:0≤a1
     ·rw [if_pos c5] at H
      have c5b0:decide (0≤a1)=true:=dzT c5
      clear c5
      by_cases c6:a1<(l0.length:Int)
      ·rw [if_pos c6] at H
       have c6b0:decide (a1<(l0.length:Int))=true:=dzT c6
       clear c6
       by_cases c7:((jc l0 x5_1).f0) > ((jc l0 a1).f0)
       ·rw [if_pos c7] at H
        have c7b0:decide (((jc l0 a1).f0)<((jc l0 x5_1).f0))=true:=dzT c7
        clear c7
        have H':=am H
        clear H
        have p542:0≤(x5_1:Int):=ozD (uq)
        have q542:x5_1<(l0.length:Int):=ozD (uq)
        obtain ⟨ad542,e542,hx542_0,hx542_1,hx542_2,hx542_3⟩:=jta HR0.out x5_1 p542 q542
        cases e542
        replace p542:=ezT p542
        replace q542:=ezT q542
        have p543:0≤(a1:Int):=ozD (uq)
        have q543:a1<(l0.length:Int):=ozD (uq)
        obtain ⟨ad543,e543,hx543_0,hx543_1,hx543_2,hx543_3⟩:=jta HR0.out a1 p543 q543
        obtain rfl:ad542=ad543:=(by injection e543)
        replace p543:=ezT p543
        replace q543:=ezT q543
        go_wp2
        repeat (go_quiet (fail);try go_wp2)
        go_roundg k1
        case measure=>have:=HK1.out;omega
        case rel=>exact ⟨(wrap64 (x5_1+1)),(sq),H',⟨by have:=HK1.out;omega⟩,Y5⟩
       ·rw [if_neg c7] at H
        have c7b0:decide (((jc l0 a1).f0)<((jc l0 x5_1).f0))=false:=dzF c7
        clear c7
        obtain rfl:=Option.some.inj H
        have p542:0≤(x5_1:Int):=ozD (uq)
        have q542:x5_1<(l0.length:Int):=ozD (uq)
        obtain ⟨ad542,e542,hx542_0,hx542_1,hx542_2,hx542_3⟩:=jta HR0.out x5_1 p542 q542
        cases e542
        replace p542:=ezT p542
        replace q542:=ezT q542
        have p543:0≤(a1:Int):=ozD (uq)
        have q543:a1<(l0.length:Int):=ozD (uq)
        obtain ⟨ad543,e543,hx543_0,hx543_1,hx543_2,hx543_3⟩:=jta HR0.out a1 p543 q543
        obtain rfl:ad542=ad543:=(by injection e543)
        replace p543:=ezT p543
        replace q543:=ezT q543
        go_wp2
        repeat (go_quiet (fail);try go_wp2)
        go_ret
        exact ⟨sq,Y5⟩
      ·rw [if_neg c6] at H
       exact absurd H (by simp)
     ·rw [if_neg c5] at H
      exact absurd H (by simp)
    ·rw [if_neg c4] at H
     exact absurd H (by simp)
   ·rw [if_neg c3] at H
    have c3b0:decide (x5_1<(l0.length:Int))=false:=dzF c3
    clear c3
    obtain rfl:=Option.some.inj H
    go_wp2
    repeat (go_quiet (fail);try go_wp2)
    go_ret
    exact ⟨sq,Y5⟩
def jeb.f (k : Nat) (l0 : List (S52)) (a1 : Int) : Option (Int) := (jsa.f k l0 a1).bind fun t544 => (if t544 < (l0.length : Int) then (if 0 ≤ t544 then (if 0 ≤ a1 then (if a1 < (l0.length : Int) then (if ((jc l0 t544).f0) = ((jc l0 a1).f0) then (some t544) else (some (l0.length : Int))) else (none)) else (none)) else (none)) else (some (l0.length : Int)))
set_option maxHeartbeats 8000000 in
set_option maxRecDepth 100000 in
theorem jeb.calls (k : Nat) (A0 : Option Addr) (c0 : Nat) (l0 : List (S52)) (a1 : Int) (r : Int) (w : World) (hr0 : Kd.C k52 w A0 l0.length l0) (hc0 : l0.length ≤ c0) (h : jeb.f k l0 a1 = some r) :
  Calls Try.prog 98 #[.slice A0 l0.length c0, .int .i64 a1] w fun e w'=>e=.returned (.int .i64 r)∧jjb w w':=by
 have HR0:=am hr0
 have HC0:=am hc0
 clear hr0 hc0
 have H:((jsa.f k l0 a1).bind fun t544=>(if t544<(l0.length:Int) then (if 0≤t544 then (if 0≤a1 then (if a1<(l0.length:Int) then (if ((jc l0 t544).f0)=((jc l0 a1).f0) then (some t544) else (some (l0.length:Int))) else (none)) else (none)) else (none)) else (some (l0.length:Int))))=some r:=h
 clear h
 replace H:=bzS H
 obtain ⟨t544,A30,H⟩:=H
 replace H:(if t544<(l0.length:Int) then (if 0≤t544 then (if 0≤a1 then (if a1<(l0.length:Int) then (if ((jc l0 t544).f0)=((jc l0 a1).f0) then (some t544) else (some (l0.length:Int))) else (none)) else (none)) else (none)) else (some (l0.length:Int)))=some r:=H
 have A3:=am A30
 clear A30
 by_cases c4:t544<(l0.length:Int)
 ·rw [if_pos c4] at H
  have c4b0:decide (t544<(l0.length:Int))=true:=dzT c4
  clear c4
  by_cases c5:0≤t544
  ·rw [if_pos c5] at H
   have c5b0:decide (0≤t544)=true:=dzT c5
   clear c5
   by_cases c6:0≤a1
   ·rw [if_pos c6] at H
    have c6b0:decide (0≤a1)=true:=dzT c6
    clear c6
    by_cases c7:a1<(l0.length:Int)
    ·rw [if_pos c7] at H
     have c7b0:decide (a1<(l0.length:Int))=true:=dzT c7
     clear c7
     by_cases c8:((jc l0 t544).f0)=((jc l0 a1).f0)
     ·rw [if_pos c8] at H
      have c8b0:(((jc l0 t544).f0) == ((jc l0 a1).f0))=true:=beq_iff_eq.mpr c8
      have c8b1:(((jc l0 t544).f0) != ((jc l0 a1).f0))=false:=bne_eq_false_iff_eq.mpr c8
      clear c8
      obtain rfl:=Option.some.inj H
      go_enter Try.func98,Try.ntmps98
      have p545:0≤(t544:Int):=ozD (uq)
      have q545:t544<(l0.length:Int):=ozD (uq)
      obtain ⟨ad545,e545,hx545_0,hx545_1,hx545_2,hx545_3⟩:=jta HR0.out t544 p545 q545
      cases e545
      replace p545:=ezT p545
      replace q545:=ezT q545
      have p546:0≤(a1:Int):=ozD (uq)
      have q546:a1<(l0.length:Int):=ozD (uq)
      obtain ⟨ad546,e546,hx546_0,hx546_1,hx546_2,hx546_3⟩:=jta HR0.out a1 p546 q546
      obtain rfl:ad545=ad546:=(by injection e546)
      replace p546:=ezT p546
      replace q546:=ezT q546
      go_wp2_with (first |(go_at_call 87;(with_reducible refine (jsa.calls k _ _ l0 a1 t544 _ ?side1 ?side2 A3.out).mono ?_);(case side1=>exact Y32);(case side2=>exact HC0.out);rintro e w' ⟨rfl,⟨nd,rfl⟩⟩;(try first | exact ⟨rfl,_,World.drewN_drewN _ _ _⟩ | exact ⟨rfl,_,Eq.trans (World.drewN_drewN _ _ _) (congrArg (World.drewN _) (Nat.add_assoc _ _ _))⟩)))
      repeat (go_quiet (first |(go_at_call 87;(with_reducible refine (jsa.calls k _ _ l0 a1 t544 _ ?side1 ?side2 A3.out).mono ?_);(case side1=>exact Y32);(case side2=>exact HC0.out);rintro e w' ⟨rfl,⟨nd,rfl⟩⟩;(try first | exact ⟨rfl,_,World.drewN_drewN _ _ _⟩ | exact ⟨rfl,_,Eq.trans (World.drewN_drewN _ _ _) (congrArg (World.drewN _) (Nat.add_assoc _ _ _))⟩)));try go_wp2_with (first |(go_at_call 87;(with_reducible refine (jsa.calls k _ _ l0 a1 t544 _ ?side1 ?side2 A3.out).mono ?_);(case side1=>exact Y32);(case side2=>exact HC0.out);rintro e w' ⟨rfl,⟨nd,rfl⟩⟩;(try first | exact ⟨rfl,_,World.drewN_drewN _ _ _⟩ | exact ⟨rfl,_,Eq.trans (World.drewN_drewN _ _ _) (congrArg (World.drewN _) (Nat.add_assoc _ _ _))⟩))))
      go_ret
      exact ⟨sq,Y5⟩
     ·rw [if_neg c8] at H
      have c8b0:(((jc l0 t544).f0) == ((jc l0 a1).f0))=false:=beq_eq_false_iff_ne.mpr c8
      have c8b1:(((jc l0 t544).f0) != ((jc l0 a1).f0))=true:=bne_iff_ne.mpr c8
      obtain rfl:=Option.some.inj H
      go_enter Try.func98,Try.ntmps98
      have p545:0≤(t544:Int):=ozD (uq)
      have q545:t544<(l0.length:Int):=ozD (uq)
      obtain ⟨ad545,e545,hx545_0,hx545_1,hx545_2,hx545_3⟩:=jta HR0.out t544 p545 q545
      cases e545
      replace p545:=ezT p545
      replace q545:=ezT q545
      have p546:0≤(a1:Int):=ozD (uq)
      have q546:a1<(l0.length:Int):=ozD (uq)
      obtain ⟨ad546,e546,hx546_0,hx546_1,hx546_2,hx546_3⟩:=jta HR0.out a1 p546 q546
      obtain rfl:ad545=ad546:=(by injection e546)
      replace p546:=ezT p546
      replace q546:=ezT q546
      go_wp2_with (first |(go_at_call 87;(with_reducible refine (jsa.calls k _ _ l0 a1 t544 _ ?side1 ?side2 A3.out).mono ?_);(case side1=>exact Y32);(case side2=>exact HC0.out);rintro e w' ⟨rfl,⟨nd,rfl⟩⟩;(try first | exact ⟨rfl,_,World.drewN_drewN _ _ _⟩ | exact ⟨rfl,_,Eq.trans (World.drewN_drewN _ _ _) (congrArg (World.drewN _) (Nat.add_assoc _ _ _))⟩)))
      repeat (go_quiet (first |(go_at_call 87;(with_reducible refine (jsa.calls k _ _ l0 a1 t544 _ ?side1 ?side2 A3.out).mono ?_);(case side1=>exact Y32);(case side2=>exact HC0.out);rintro e w' ⟨rfl,⟨nd,rfl⟩⟩;(try first | exact ⟨rfl,_,World.drewN_drewN _ _ _⟩ | exact ⟨rfl,_,Eq.trans (World.drewN_drewN _ _ _) (congrArg (World.drewN _) (Nat.add_assoc _ _ _))⟩)));try go_wp2_with (first |(go_at_call 87;(with_reducible refine (jsa.calls k _ _ l0 a1 t544 _ ?side1 ?side2 A3.out).mono ?_);(case side1=>exact Y32);(case side2=>exact HC0.out);rintro e w' ⟨rfl,⟨nd,rfl⟩⟩;(try first | exact ⟨rfl,_,World.drewN_drewN _ _ _⟩ | exact ⟨rfl,_,Eq.trans (World.drewN_drewN _ _ _) (congrArg (World.drewN _) (Nat.add_assoc _ _ _))⟩))))
      go_ret
      exact ⟨sq,Y5⟩
    ·rw [if_neg c7] at H
     exact absurd H (by simp)
   ·rw [if_neg c6] at H
    exact absurd H (by simp)
  ·rw [if_neg c5] at H
   exact absurd H (by simp)
 ·rw [if_neg c4] at H
  have c4b0:decide (t544<(l0.length:Int))=false:=dzF c4
  clear c4
  obtain rfl:=Option.some.inj H
  go_enter Try.func98,Try.ntmps98
  go_wp2_with (first |(go_at_call 87;(with_reducible refine (jsa.calls k _ _ l0 a1 t544 _ ?side1 ?side2 A3.out).mono ?_);(case side1=>exact Y32);(case side2=>exact HC0.out);rintro e w' ⟨rfl,⟨nd,rfl⟩⟩;(try first | exact ⟨rfl,_,World.drewN_drewN _ _ _⟩ | exact ⟨rfl,_,Eq.trans (World.drewN_drewN _ _ _) (congrArg (World.drewN _) (Nat.add_assoc _ _ _))⟩)))
  repeat (go_quiet (first |(go_at_call 87;(with_reducible refine (jsa.calls k _ _ l0 a1 t544 _ ?side1 ?side2 A3.out).mono ?_);(case side1=>exact Y32);(case side2=>exact HC0.out);rintro e w' ⟨rfl,⟨nd,rfl⟩⟩;(try first | exact ⟨rfl,_,World.drewN_drewN _ _ _⟩ | exact ⟨rfl,_,Eq.trans (World.drewN_drewN _ _ _) (congrArg (World.drewN _) (Nat.add_assoc _ _ _))⟩)));try go_wp2_with (first |(go_at_call 87;(with_reducible refine (jsa.calls k _ _ l0 a1 t544 _ ?side1 ?side2 A3.out).mono ?_);(case side1=>exact Y32);(case side2=>exact HC0.out);rintro e w' ⟨rfl,⟨nd,rfl⟩⟩;(try first | exact ⟨rfl,_,World.drewN_drewN _ _ _⟩ | exact ⟨rfl,_,Eq.trans (World.drewN_drewN _ _ _) (congrArg (World.drewN _) (Nat.add_assoc _ _ _))⟩))))
  go_ret
  exact ⟨sq,Y5⟩
def jra.l0 : Nat → List (S52) → List Int → Int → Option (List Int)
 | 0,_,_,_=>none
 | k+1,x0,x5,x6=>if x6<(x0.length:Int) then (if 0≤x6 then ((jCb.f ((jc x0 x6).f1)).bind fun t552=>(if t552=true then (if x5.length<17592186044416 then ((jeb.f k x0 x6).bind fun t556=>(jra.l0 k x0 (x5 ++ [x6]) t556)) else (none)) else (some x5))) else (none)) else (some x5)
def jra.f (k : Nat) (l0 : List (S52)) (a1 : Int) : Option (List Int) := (jeb.f k l0 a1).bind fun t550 => (jra.l0 k l0 (([a1] : List Int)) t550)
set_option maxHeartbeats 8000000 in
set_option maxRecDepth 100000 in
theorem jra.calls (k : Nat) (A0 : Option Addr) (c0 : Nat) (l0 : List (S52)) (a1 : Int) (r : List Int) (w : World) (hr0 : Kd.C k52 w A0 l0.length l0) (hc0 : l0.length ≤ c0) (h : jra.f k l0 a1 = some r) :
  Calls Try.prog 73 #[.slice A0 l0.length c0, .int .i64 a1] w fun e w'=>∃ v0_:Value,e=.returned (v0_)∧Kd.R (Kd.int .i64) 3 w' w.heap.size (fun _=>True) v0_ r∧Below w.heap.size w w':=by
 have HR0:=am hr0
 have HC0:=am hc0
 clear hr0 hc0
 have HB:=am (Below.refl w.heap.size w)
 have H:((jeb.f k l0 a1).bind fun t550=>(jra.l0 k l0 (([a1]:List Int)) t550))=some r:=h
 clear h
 obtain ⟨y547,hy547⟩:∃ y_:List Int,y_=(([a1]:List Int)):=⟨_,rfl⟩
 replace H:((jeb.f k l0 a1).bind fun t550=>(jra.l0 k l0 y547 t550))=some r:=by first |(rw [hy547];with_reducible exact H) |(have H2_:=(Option.bind_some _ _).symm.trans H;rw [hy547];with_reducible exact H2_) |(have H2_:=(Option.bind_some _ _).symm.trans H;with_reducible exact H2_) | with_reducible exact H |(rw [hy547];exact H) | exact H
 have Ny547:=am hy547
 clear hy547
 replace H:=bzS H
 obtain ⟨t550,A30,H⟩:=H
 replace H:(jra.l0 k l0 y547 t550)=some r:=H
 have A3:=am A30
 clear A30
 have H':=am H
 clear H
 go_enter Try.func73,Try.ntmps73
 go_wp2_with (first |((with_reducible refine jM (N:=8) rfl ?_);refine Kd.jbc (Kd.int .i64) _ 3 ?hg (N:=8) ?hd (xs:=([a1]:List Int)) (inner:=[.int .i64 a1]) (ok:=fun _=>True) (okp:=fun _=>True) ?hr ?hp (fun _ hk=>hk) trivial (Below.refl _ _) (Nat.le_refl _) (by simp) ?_;(case hd=>rfl);(case hg=>rfl);(case hr=>exact Y7);(case hp=>exact (Reps.one (show Kd.M (Kd.int .i64) _ _ _ a1 [.int .i64 a1] from rfl) (Reps.none _ _)));intro v548 w4 ho5 hb hg_ hnew_;clear hg_ hnew_;(first | rw [← Ny547.out] at ho5 |(simp only [Int.reduceToNat] at ho5;rw [← Ny547.out] at ho5));have HO549:=am (Kd.jQ ho5 (jN (bq)));replace HB:=am (je (bq) hb);clear hb ho5) |((with_reducible refine jd (f:=98) rfl ?_);refine gL (some 11) Try.func98 #[.slice A0 l0.length c0, .int .i64 a1] ?_;(with_reducible refine (jeb.calls k _ _ l0 a1 t550 _ ?side1 ?side2 A3.out).mono ?_);(case side1=>exact cq (Kd.jba HR0.out HB.out));(case side2=>exact HC0.out);rintro e w' ⟨rfl,⟨nd,rfl⟩⟩;refine ⟨_,rfl,?_⟩))
 go_loopg [5,6] k (fun kq v5 v6 w'=>∃ (x5_1:List Int) (x6_1:Int),v6=.int .i64 x6_1∧jq (jra.l0 kq l0 x5_1 x6_1=some r)∧jq (kq≤k)∧jq (Kd.R (Kd.int .i64) 3 w' w.heap.size (fun _=>True) v5 x5_1)∧jq (Below w.heap.size w w'))
 case atStart=>exact ⟨(y547),(t550),(sq),H',⟨Nat.le_refl _⟩,⟨rq HO549.out⟩,⟨bq⟩⟩
 case round =>
  clear H'
  try clear p2
  obtain ⟨x5_1,x6_1,rfl,HA,HK1,HO_5,HB⟩:=hrel
  cases gk with
  | zero=>exact absurd HA.out (by simp [jra.l0])
  | succ k1 =>
   have H:=HA.out
   clear HA
   simp only [jra.l0] at H
   by_cases c6:x6_1<(l0.length:Int)
   ·rw [if_pos c6] at H
    have c6b0:decide (x6_1<(l0.length:Int))=true:=dzT c6
    clear c6
    by_cases c7:0≤x6_1
    ·rw [if_pos c7] at H
     have c7b0:decide (0≤x6_1)=true:=dzT c7
     clear c7
     replace H:=bzS H
     obtain ⟨t552,A80,H⟩:=H
     replace H:(if t552=true then (if x5_1.length<17592186044416 then ((jeb.f k1 l0 x6_1).bind fun t556=>(jra.l0 k1 l0 (x5_1 ++ [x6_1]) t556)) else (none)) else (some x5_1))=some r:=H
     have A8:=am A80
     clear A80
     by_cases c9:t552=true
     ·subst c9
      have H1:(if x5_1.length<17592186044416 then ((jeb.f k1 l0 x6_1).bind fun t556=>(jra.l0 k1 l0 (x5_1 ++ [x6_1]) t556)) else (none))=some r:=by rw [if_pos rfl] at H;exact H
      clear H
      have H:=H1
      clear H1
      by_cases c10:x5_1.length<17592186044416
      ·rw [if_pos c10] at H
       have LMc10:=am c10
       clear c10
       obtain ⟨y553,hy553⟩:∃ y_:List Int,y_=(x5_1 ++ [x6_1]):=⟨_,rfl⟩
       replace H:((jeb.f k1 l0 x6_1).bind fun t556=>(jra.l0 k1 l0 y553 t556))=some r:=by first |(rw [hy553];with_reducible exact H) |(have H2_:=(Option.bind_some _ _).symm.trans H;rw [hy553];with_reducible exact H2_) |(have H2_:=(Option.bind_some _ _).symm.trans H;with_reducible exact H2_) | with_reducible exact H |(rw [hy553];exact H) | exact H
       have Ny553:=am hy553
       clear hy553
       replace H:=bzS H
       obtain ⟨t556,A110,H⟩:=H
       replace H:(jra.l0 k1 l0 y553 t556)=some r:=H
       have A11:=am A110
       clear A110
       have H':=am H
       clear H
       have p551:0≤(x6_1:Int):=ozD (uq)
       have q551:x6_1<(l0.length:Int):=ozD (uq)
       obtain ⟨ad551,e551,hx551_0,hx551_1,hx551_2,hx551_3⟩:=jta HR0.out x6_1 p551 q551
       cases e551
       replace hx551_0:=cb HB.out hx551_0
       replace hx551_1:=cb HB.out hx551_1
       replace hx551_2:=cb HB.out hx551_2
       replace hx551_3:=cb HB.out hx551_3
       replace p551:=ezT p551
       replace q551:=ezT q551
       go_wp2_with (first |(go_at_call 70;(with_reducible refine (jCb.calls ((jc l0 x6_1).f1) true _ A8.out).mono ?_);rintro e w' ⟨rfl,⟨nd,rfl⟩⟩) |((with_reducible refine jJa (b:=.append) (xs:=#[.tmp 27, .tmp 29]) rfl ?_);at_builtin;refine Kd.jSb (Kd.int .i64) (w0:=w) w.heap.size rfl (.tmp 27) (.tmp 29) 28 3 (.int .i64 0) 8 rfl Try.underlying28 info3 rfl (by decide) (by omega) u5 x5_1 x6_1 [.int .i64 x6_1] (fun _=>True) (fun _=>False) rfl rfl ?aP (fun _ hk=>hk.elim) ?aF ?aO ?aB ?aS ?aL ?_;(case aP=>exact rfl);(case aB=>exact (bq));(case aF=>exact (fun _ _=>trivial));(case aO=>exact (rq HO_5.out));(case aS=>exact (jN (bq)));(case aL=>have:=LMc10.out;omega);intro v554 w12 ho hb hg hat;rw [← Ny553.out] at ho;have n0_:=am (hb);have n1_:=am (ho);clear HB HO_5;have HB:=n0_;have HO555:=n1_;clear n0_ n1_ ho hb hg hat) |((with_reducible refine jd (f:=98) rfl ?_);refine gL (some 26) Try.func98 #[.slice (some ad551) l0.length c0, .int .i64 x6_1] ?_;(with_reducible refine (jeb.calls k1 _ _ l0 x6_1 t556 _ ?side1 ?side2 A11.out).mono ?_);(case side1=>exact cq (Kd.jba HR0.out HB.out));(case side2=>exact HC0.out);rintro e w' ⟨rfl,⟨nd,rfl⟩⟩;refine ⟨_,rfl,?_⟩))
       go_roundg k1
       case measure=>have:=HK1.out;omega
       case rel=>exact ⟨(y553),(t556),(sq),H',⟨by have:=HK1.out;omega⟩,⟨rq HO555.out⟩,⟨bq⟩⟩
      ·rw [if_neg c10] at H
       exact absurd H (by simp)
     ·replace c9:=Bool.eq_false_iff.mpr c9
      subst c9
      have H1:(some x5_1)=some r:=by rw [if_neg (show ¬ (false=true) by decide)] at H;exact H
      clear H
      have H:=H1
      clear H1
      obtain rfl:=Option.some.inj H
      have p551:0≤(x6_1:Int):=ozD (uq)
      have q551:x6_1<(l0.length:Int):=ozD (uq)
      obtain ⟨ad551,e551,hx551_0,hx551_1,hx551_2,hx551_3⟩:=jta HR0.out x6_1 p551 q551
      cases e551
      replace hx551_0:=cb HB.out hx551_0
      replace hx551_1:=cb HB.out hx551_1
      replace hx551_2:=cb HB.out hx551_2
      replace hx551_3:=cb HB.out hx551_3
      replace p551:=ezT p551
      replace q551:=ezT q551
      go_wp2_with (first |(go_at_call 70;(with_reducible refine (jCb.calls ((jc l0 x6_1).f1) false _ A8.out).mono ?_);rintro e w' ⟨rfl,⟨nd,rfl⟩⟩))
      go_ret
      exact ⟨_,Y0,rq HO_5.out,bq⟩
    ·rw [if_neg c7] at H
     exact absurd H (by simp)
   ·rw [if_neg c6] at H
    have c6b0:decide (x6_1<(l0.length:Int))=false:=dzF c6
    clear c6
    obtain rfl:=Option.some.inj H
    go_wp2
    go_ret
    exact ⟨_,Y0,rq HO_5.out,bq⟩
def jVa.l0 : Nat → List (S52) → Int → Int → Option (Int)
 | 0,_,_,_=>none
 | k+1,x0,x1,x5=>if x5≥0 then (if 0≤x5 then (if x5<(x0.length:Int) then (if 0≤x1 then (if x1<(x0.length:Int) then (if ((jc x0 x5).f0)<((jc x0 x1).f0) then (some (-1)) else (if ((jc x0 x5).f0)=((jc x0 x1).f0) then (some x5) else (jVa.l0 k x0 x1 (wrap64 (x5 - 1))))) else (none)) else (none)) else (none)) else (none)) else (some (-1))
def jVa.f (k : Nat) (l0 : List (S52)) (a1 : Int) : Option (Int) := jVa.l0 k l0 a1 (wrap64 (a1 - 1))
set_option maxHeartbeats 8000000 in
set_option maxRecDepth 100000 in
theorem jVa.calls (k : Nat) (A0 : Option Addr) (c0 : Nat) (l0 : List (S52)) (a1 : Int) (r : Int) (w : World) (hr0 : Kd.C k52 w A0 l0.length l0) (hc0 : l0.length ≤ c0) (h : jVa.f k l0 a1 = some r) :
  Calls Try.prog 99 #[.slice A0 l0.length c0, .int .i64 a1] w fun e w'=>e=.returned (.int .i64 r)∧jjb w w':=by
 have HR0:=am hr0
 have HC0:=am hc0
 clear hr0 hc0
 have H:(jVa.l0 k l0 a1 (wrap64 (a1 - 1)))=some r:=h
 clear h
 have H':=am H
 clear H
 go_enter Try.func99,Try.ntmps99
 go_wp2
 repeat (go_quiet (fail);try go_wp2)
 go_loopg [5] k (fun kq v5 w'=>∃ (x5_1:Int),v5=.int .i64 x5_1∧jq (jVa.l0 kq l0 a1 x5_1=some r)∧jq (kq≤k)∧jjb w w')
 case atStart=>exact ⟨(wrap64 (a1 - 1)),(sq),H',⟨Nat.le_refl _⟩,Y5⟩
 case round =>
  clear H'
  try clear p2
  obtain ⟨x5_1,rfl,HA,HK1,⟨m1,rfl⟩⟩:=hrel
  cases gk with
  | zero=>exact absurd HA.out (by simp [jVa.l0])
  | succ k1 =>
   have H:=HA.out
   clear HA
   simp only [jVa.l0] at H
   by_cases c3:x5_1≥0
   ·rw [if_pos c3] at H
    have c3b0:decide (0≤x5_1)=true:=dzT c3
    clear c3
    by_cases c4:0≤x5_1
    ·rw [if_pos c4] at H
     have c4b0:decide (0≤x5_1)=true:=dzT c4
     clear c4
     by_cases c5:x5_1<(l0.length:Int)
     ·rw [if_pos c5] at H
      have c5b0:decide (x5_1<(l0.length:Int))=true:=dzT c5
      clear c5
      by_cases c6:0≤a1
      ·rw [if_pos c6] at H
       have c6b0:decide (0≤a1)=true:=dzT c6
       clear c6
       by_cases c7:a1<(l0.length:Int)
       ·rw [if_pos c7] at H
        have c7b0:decide (a1<(l0.length:Int))=true:=dzT c7
        clear c7
        by_cases c8:((jc l0 x5_1).f0)<((jc l0 a1).f0)
        ·rw [if_pos c8] at H
         have c8b0:decide (((jc l0 x5_1).f0)<((jc l0 a1).f0))=true:=dzT c8
         clear c8
         obtain rfl:=Option.some.inj H
         have p557:0≤(x5_1:Int):=ozD (uq)
         have q557:x5_1<(l0.length:Int):=ozD (uq)
         obtain ⟨ad557,e557,hx557_0,hx557_1,hx557_2,hx557_3⟩:=jta HR0.out x5_1 p557 q557
         cases e557
         replace p557:=ezT p557
         replace q557:=ezT q557
         have p558:0≤(a1:Int):=ozD (uq)
         have q558:a1<(l0.length:Int):=ozD (uq)
         obtain ⟨ad558,e558,hx558_0,hx558_1,hx558_2,hx558_3⟩:=jta HR0.out a1 p558 q558
         obtain rfl:ad557=ad558:=(by injection e558)
         replace p558:=ezT p558
         replace q558:=ezT q558
         go_wp2
         repeat (go_quiet (fail);try go_wp2)
         go_ret
         exact ⟨sq,Y5⟩
        ·rw [if_neg c8] at H
         have c8b0:decide (((jc l0 x5_1).f0)<((jc l0 a1).f0))=false:=dzF c8
         clear c8
         by_cases c9:((jc l0 x5_1).f0)=((jc l0 a1).f0)
         ·rw [if_pos c9] at H
          have c9b0:(((jc l0 x5_1).f0) == ((jc l0 a1).f0))=true:=beq_iff_eq.mpr c9
          have c9b1:(((jc l0 x5_1).f0) != ((jc l0 a1).f0))=false:=bne_eq_false_iff_eq.mpr c9
          clear c9
          obtain rfl:=Option.some.inj H
          have p557:0≤(x5_1:Int):=ozD (uq)
          have q557:x5_1<(l0.length:Int):=ozD (uq)
          obtain ⟨ad557,e557,hx557_0,hx557_1,hx557_2,hx557_3⟩:=jta HR0.out x5_1 p557 q557
          cases e557
          replace p557:=ezT p557
          replace q557:=ezT q557
          have p558:0≤(a1:Int):=ozD (uq)
          have q558:a1<(l0.length:Int):=ozD (uq)
          obtain ⟨ad558,e558,hx558_0,hx558_1,hx558_2,hx558_3⟩:=jta HR0.out a1 p558 q558
          obtain rfl:ad557=ad558:=(by injection e558)
          replace p558:=ezT p558
          replace q558:=ezT q558
          have p559:0≤(x5_1:Int):=ozD (uq)
          have q559:x5_1<(l0.length:Int):=ozD (uq)
          obtain ⟨ad559,e559,hx559_0,hx559_1,hx559_2,hx559_3⟩:=jta HR0.out x5_1 p559 q559
          obtain rfl:ad557=ad559:=(by injection e559)
          replace p559:=ezT p559
          replace q559:=ezT q559
          have p560:0≤(a1:Int):=ozD (uq)
          have q560:a1<(l0.length:Int):=ozD (uq)
          obtain ⟨ad560,e560,hx560_0,hx560_1,hx560_2,hx560_3⟩:=jta HR0.out a1 p560 q560
          obtain rfl:ad557=ad560:=(by injection e560)
          replace p560:=ezT p560
          replace q560:=ezT q560
          go_wp2
          repeat (go_quiet (fail);try go_wp2)
          go_ret
          exact ⟨sq,Y5⟩
         ·rw [if_neg c9] at H
          have c9b0:(((jc l0 x5_1).f0) == ((jc l0 a1).f0))=false:=beq_eq_false_iff_ne.mpr c9
          have c9b1:(((jc l0 x5_1).f0) != ((jc l0 a1).f0))=true:=bne_iff_ne.mpr c9
          have H':=am H
          clear H
          have p557:0≤(x5_1:Int):=ozD (uq)
          have q557:x5_1<(l0.length:Int):=ozD (uq)
          obtain ⟨ad557,e557,hx557_0,hx557_1,hx557_2,hx557_3⟩:=jta HR0.out x5_1 p557 q557
          cases e557
          replace p557:=ezT p557
          replace q557:=ezT q557
          have p558:0≤(a1:Int):=ozD (uq)
          have q558:a1<(l0.length:Int):=ozD (uq)
          obtain ⟨ad558,e558,hx558_0,hx558_1,hx558_2,hx558_3⟩:=jta HR0.out a1 p558 q558
          obtain rfl:ad557=ad558:=(by injection e558)
          replace p558:=ezT p558
          replace q558:=ezT q558
          have p559:0≤(x5_1:Int):=ozD (uq)
          have q559:x5_1<(l0.length:Int):=ozD (uq)
          obtain ⟨ad559,e559,hx559_0,hx559_1,hx559_2,hx559_3⟩:=jta HR0.out x5_1 p559 q559
          obtain rfl:ad557=ad559:=(by injection e559)
          replace p559:=ezT p559
          replace q559:=ezT q559
          have p560:0≤(a1:Int):=ozD (uq)
          have q560:a1<(l0.length:Int):=ozD (uq)
          obtain ⟨ad560,e560,hx560_0,hx560_1,hx560_2,hx560_3⟩:=jta HR0.out a1 p560 q560
          obtain rfl:ad557=ad560:=(by injection e560)
          replace p560:=ezT p560
          replace q560:=ezT q560
          go_wp2
          repeat (go_quiet (fail);try go_wp2)
          go_roundg k1
          case measure=>have:=HK1.out;omega
          case rel=>exact ⟨(wrap64 (x5_1 - 1)),(sq),H',⟨by have:=HK1.out;omega⟩,Y5⟩
       ·rw [if_neg c7] at H
        exact absurd H (by simp)
      ·rw [if_neg c6] at H
       exact absurd H (by simp)
     ·rw [if_neg c5] at H
      exact absurd H (by simp)
    ·rw [if_neg c4] at H
     exact absurd H (by simp)
   ·rw [if_neg c3] at H
    have c3b0:decide (0≤x5_1)=false:=dzF c3
    clear c3
    obtain rfl:=Option.some.inj H
    go_wp2
    repeat (go_quiet (fail);try go_wp2)
    go_ret
    exact ⟨sq,Y5⟩
def jqb.l0 : Nat → List (S52) → Int → Option (Int)
 | 0,_,_=>none
 | k+1,x0,x1=>if 0≤x1 then (if x1<(x0.length:Int) then (if ((jc x0 x1).f1)=7 then (some x1) else ((jVa.f k x0 x1).bind fun t562=>(jqb.l0 k x0 t562))) else (none)) else (none)
def jqb.f (k : Nat) (l0 : List (S52)) (a1 : Int) : Option (Int) := jqb.l0 k l0 a1
set_option maxHeartbeats 8000000 in
set_option maxRecDepth 100000 in
theorem jqb.calls (k : Nat) (A0 : Option Addr) (c0 : Nat) (l0 : List (S52)) (a1 : Int) (r : Int) (w : World) (hr0 : Kd.C k52 w A0 l0.length l0) (hc0 : l0.length ≤ c0) (h : jqb.f k l0 a1 = some r) :
  Calls Try.prog 74 #[.slice A0 l0.length c0, .int .i64 a1] w fun e w'=>e=.returned (.int .i64 r)∧jjb w w':=by
 have HR0:=am hr0
 have HC0:=am hc0
 clear hr0 hc0
 have H:(jqb.l0 k l0 a1)=some r:=h
 clear h
 have H':=am H
 clear H
 go_enter Try.func74,Try.ntmps74
 go_wp2
 go_loopg [1] k (fun kq v1 w'=>∃ (x1_1:Int),v1=.int .i64 x1_1∧jq (jqb.l0 kq l0 x1_1=some r)∧jq (kq≤k)∧jjb w w')
 case atStart=>exact ⟨(a1),(sq),H',⟨Nat.le_refl _⟩,Y5⟩
 case round =>
  clear H'
  try clear p2
  obtain ⟨x1_1,rfl,HA,HK1,⟨m1,rfl⟩⟩:=hrel
  cases gk with
  | zero=>exact absurd HA.out (by simp [jqb.l0])
  | succ k1 =>
   have H:=HA.out
   clear HA
   simp only [jqb.l0] at H
   by_cases c3:0≤x1_1
   ·rw [if_pos c3] at H
    have c3b0:decide (0≤x1_1)=true:=dzT c3
    clear c3
    by_cases c4:x1_1<(l0.length:Int)
    ·rw [if_pos c4] at H
     have c4b0:decide (x1_1<(l0.length:Int))=true:=dzT c4
     clear c4
     by_cases c5:((jc l0 x1_1).f1)=7
     ·rw [if_pos c5] at H
      have c5b0:(((jc l0 x1_1).f1) == 7)=true:=beq_iff_eq.mpr c5
      have c5b1:(((jc l0 x1_1).f1) != 7)=false:=bne_eq_false_iff_eq.mpr c5
      clear c5
      obtain rfl:=Option.some.inj H
      have p561:0≤(x1_1:Int):=ozD (uq)
      have q561:x1_1<(l0.length:Int):=ozD (uq)
      obtain ⟨ad561,e561,hx561_0,hx561_1,hx561_2,hx561_3⟩:=jta HR0.out x1_1 p561 q561
      cases e561
      replace p561:=ezT p561
      replace q561:=ezT q561
      go_wp2
      go_ret
      exact ⟨sq,Y5⟩
     ·rw [if_neg c5] at H
      have c5b0:(((jc l0 x1_1).f1) == 7)=false:=beq_eq_false_iff_ne.mpr c5
      have c5b1:(((jc l0 x1_1).f1) != 7)=true:=bne_iff_ne.mpr c5
      replace H:=bzS H
      obtain ⟨t562,A60,H⟩:=H
      replace H:(jqb.l0 k1 l0 t562)=some r:=H
      have A6:=am A60
      clear A60
      have H':=am H
      clear H
      have p561:0≤(x1_1:Int):=ozD (uq)
      have q561:x1_1<(l0.length:Int):=ozD (uq)
      obtain ⟨ad561,e561,hx561_0,hx561_1,hx561_2,hx561_3⟩:=jta HR0.out x1_1 p561 q561
      cases e561
      replace p561:=ezT p561
      replace q561:=ezT q561
      go_wp2_with (first |((with_reducible refine jd (f:=99) rfl ?_);refine gL (some 13) Try.func99 #[.slice (some ad561) l0.length c0, .int .i64 x1_1] ?_;(with_reducible refine (jVa.calls k1 _ _ l0 x1_1 t562 _ ?side1 ?side2 A6.out).mono ?_);(case side1=>exact Y32);(case side2=>exact HC0.out);rintro e w' ⟨rfl,⟨nd,rfl⟩⟩;refine ⟨_,rfl,?_⟩))
      go_roundg k1
      case measure=>have:=HK1.out;omega
      case rel=>exact ⟨(t562),(sq),H',⟨by have:=HK1.out;omega⟩,Y5⟩
    ·rw [if_neg c4] at H
     exact absurd H (by simp)
   ·rw [if_neg c3] at H
    exact absurd H (by simp)
def jdb.j0 : Nat → List (S52) → Int → Bool → Option (Int)
 | 0,_,_,_=>none
 | k+1,x0,x1,x27=>if x27=true then (some (-1)) else ((jqb.f k x0 x1).bind fun t566=>((jra.f k x0 t566).bind fun t567=>(if 0≤(wrap64 ((t567.length:Int) - 1)) then (if (wrap64 ((t567.length:Int) - 1))<(t567.length:Int) then (if 0≤(rd t567 (wrap64 ((t567.length:Int) - 1))) then (if (rd t567 (wrap64 ((t567.length:Int) - 1)))<(x0.length:Int) then (if ((jc x0 (rd t567 (wrap64 ((t567.length:Int) - 1)))).f1)=10 then (some (rd t567 (wrap64 ((t567.length:Int) - 1)))) else (some (-1))) else (none)) else (none)) else (none)) else (none))))
def jdb.f (k : Nat) (l0 : List (S52)) (a1 : Int) : Option (Int) := if 0 ≤ a1 then (if a1 < (l0.length : Int) then (if ((jc l0 a1).f1) = 11 then (some a1) else (if ((jc l0 a1).f1) = 12 then (jdb.j0 k l0 a1 true) else (jdb.j0 k l0 a1 (((jc l0 a1).f1) == 10)))) else (none)) else (none)
set_option maxHeartbeats 8000000 in
set_option maxRecDepth 100000 in
theorem jdb.calls (k : Nat) (A0 : Option Addr) (c0 : Nat) (l0 : List (S52)) (a1 : Int) (r : Int) (w : World) (hr0 : Kd.C k52 w A0 l0.length l0) (hc0 : l0.length ≤ c0) (h : jdb.f k l0 a1 = some r) :
  Calls Try.prog 78 #[.slice A0 l0.length c0, .int .i64 a1] w fun e w'=>e=.returned (.int .i64 r)∧Below w.heap.size w w':=by
 have HR0:=am hr0
 have HC0:=am hc0
 clear hr0 hc0
 have HB:=am (Below.refl w.heap.size w)
 have H:(if 0≤a1 then (if a1<(l0.length:Int) then (if ((jc l0 a1).f1)=11 then (some a1) else (if ((jc l0 a1).f1)=12 then (jdb.j0 k l0 a1 true) else (jdb.j0 k l0 a1 (((jc l0 a1).f1) == 10)))) else (none)) else (none))=some r:=h
 clear h
 by_cases c3:0≤a1
 ·rw [if_pos c3] at H
  have c3b0:decide (0≤a1)=true:=dzT c3
  clear c3
  by_cases c4:a1<(l0.length:Int)
  ·rw [if_pos c4] at H
   have c4b0:decide (a1<(l0.length:Int))=true:=dzT c4
   clear c4
   by_cases c5:((jc l0 a1).f1)=11
   ·rw [if_pos c5] at H
    have c5b0:(((jc l0 a1).f1) == 11)=true:=beq_iff_eq.mpr c5
    have c5b1:(((jc l0 a1).f1) != 11)=false:=bne_eq_false_iff_eq.mpr c5
    clear c5
    obtain rfl:=Option.some.inj H
    have p563:0≤(a1:Int):=ozD (uq)
    have q563:a1<(l0.length:Int):=ozD (uq)
    obtain ⟨ad563,e563,hx563_0,hx563_1,hx563_2,hx563_3⟩:=jta HR0.out a1 p563 q563
    cases e563
    replace p563:=ezT p563
    replace q563:=ezT q563
    go_enter Try.func78,Try.ntmps78
    go_wp2
    go_ret
    exact ⟨Y0,bq⟩
   ·rw [if_neg c5] at H
    have c5b0:(((jc l0 a1).f1) == 11)=false:=beq_eq_false_iff_ne.mpr c5
    have c5b1:(((jc l0 a1).f1) != 11)=true:=bne_iff_ne.mpr c5
    have HC6:=am H
    clear H
    have p563:0≤(a1:Int):=ozD (uq)
    have q563:a1<(l0.length:Int):=ozD (uq)
    obtain ⟨ad563,e563,hx563_0,hx563_1,hx563_2,hx563_3⟩:=jta HR0.out a1 p563 q563
    cases e563
    replace p563:=ezT p563
    replace q563:=ezT q563
    go_enter Try.func78,Try.ntmps78
    go_upto_region 3 with (fail)
    go_cut [27] (fun v27 wc=>∃ (kq:Nat) (x27_5:Bool),v27=.bool x27_5∧jq (jdb.j0 kq l0 a1 x27_5=some r)∧jq (kq≤k)∧jq (Below w.heap.size w wc))
    case first =>
     have H:=HC6.out
     clear HC6
     by_cases c7:((jc l0 a1).f1)=12
     ·rw [if_pos c7] at H
      have c7b0:(((jc l0 a1).f1) == 12)=true:=beq_iff_eq.mpr c7
      have c7b1:(((jc l0 a1).f1) != 12)=false:=bne_eq_false_iff_eq.mpr c7
      clear c7
      (first | rw [c7b0] |(simp only [jhb,jpb];rw [c7b0]) | skip)
      have H':=am H
      clear H
      have p564:0≤(a1:Int):=ozD (uq)
      have q564:a1<(l0.length:Int):=ozD (uq)
      obtain ⟨ad564,e564,hx564_0,hx564_1,hx564_2,hx564_3⟩:=jta HR0.out a1 p564 q564
      obtain rfl:ad563=ad564:=(by injection e564)
      replace hx564_0:=cb HB.out hx564_0
      replace hx564_1:=cb HB.out hx564_1
      replace hx564_2:=cb HB.out hx564_2
      replace hx564_3:=cb HB.out hx564_3
      replace p564:=ezT p564
      replace q564:=ezT q564
      go_wp2
      go_meet
      case rel=>exact ⟨_,(true),(sq),H',⟨Y35⟩,⟨bq⟩⟩
     ·rw [if_neg c7] at H
      have c7b0:(((jc l0 a1).f1) == 12)=false:=beq_eq_false_iff_ne.mpr c7
      have c7b1:(((jc l0 a1).f1) != 12)=true:=bne_iff_ne.mpr c7
      (first | rw [c7b0] |(simp only [jhb,jpb];rw [c7b0]) | skip)
      have H':=am H
      clear H
      have p564:0≤(a1:Int):=ozD (uq)
      have q564:a1<(l0.length:Int):=ozD (uq)
      obtain ⟨ad564,e564,hx564_0,hx564_1,hx564_2,hx564_3⟩:=jta HR0.out a1 p564 q564
      obtain rfl:ad563=ad564:=(by injection e564)
      replace hx564_0:=cb HB.out hx564_0
      replace hx564_1:=cb HB.out hx564_1
      replace hx564_2:=cb HB.out hx564_2
      replace hx564_3:=cb HB.out hx564_3
      replace p564:=ezT p564
      replace q564:=ezT q564
      have p565:0≤(a1:Int):=ozD (uq)
      have q565:a1<(l0.length:Int):=ozD (uq)
      obtain ⟨ad565,e565,hx565_0,hx565_1,hx565_2,hx565_3⟩:=jta HR0.out a1 p565 q565
      obtain rfl:ad563=ad565:=(by injection e565)
      replace hx565_0:=cb HB.out hx565_0
      replace hx565_1:=cb HB.out hx565_1
      replace hx565_2:=cb HB.out hx565_2
      replace hx565_3:=cb HB.out hx565_3
      replace p565:=ezT p565
      replace q565:=ezT q565
      go_wp2
      go_meet
      case rel=>exact ⟨_,((((jc l0 a1).f1) == 10)),(sq),H',⟨Y35⟩,⟨bq⟩⟩
    case rest =>
     clear HC6
     try clear p2
     try clear c3
     try clear c3b0
     try clear c4
     try clear c4b0
     try clear c5
     try clear c5b0
     try clear c5b1
     try clear p5
     try clear q5
     try clear hx5
     try clear c7
     try clear c7b0
     try clear c7b1
     try clear hx563_0
     try clear hx563_1
     try clear hx563_2
     try clear hx563_3
     try clear hx564_0
     try clear hx564_1
     try clear hx564_2
     try clear hx564_3
     try clear hx565_0
     try clear hx565_1
     try clear hx565_2
     try clear hx565_3
     try clear p563
     try clear p564
     try clear p565
     try clear q563
     try clear q564
     try clear q565
     obtain ⟨kq,x27_5,rfl,HA,HJ5,HB⟩:=hcut
     cases kq with
     | zero=>exact absurd HA.out (by simp [jdb.j0])
     | succ kj5 =>
      have H:=HA.out
      clear HA
      simp only [jdb.j0] at H
      by_cases c8:x27_5=true
      ·subst c8
       have H1:(some (-1))=some r:=by rw [if_pos rfl] at H;exact H
       clear H
       have H:=H1
       clear H1
       obtain rfl:=Option.some.inj H
       go_wp2
       go_ret
       exact ⟨Y0,bq⟩
      ·replace c8:=Bool.eq_false_iff.mpr c8
       subst c8
       have H1:((jqb.f kj5 l0 a1).bind fun t566=>((jra.f kj5 l0 t566).bind fun t567=>(if 0≤(wrap64 ((t567.length:Int) - 1)) then (if (wrap64 ((t567.length:Int) - 1))<(t567.length:Int) then (if 0≤(rd t567 (wrap64 ((t567.length:Int) - 1))) then (if (rd t567 (wrap64 ((t567.length:Int) - 1)))<(l0.length:Int) then (if ((jc l0 (rd t567 (wrap64 ((t567.length:Int) - 1)))).f1)=10 then (some (rd t567 (wrap64 ((t567.length:Int) - 1)))) else (some (-1))) else (none)) else (none)) else (none)) else (none))))=some r:=by rw [if_neg (show ¬ (false=true) by decide)] at H;exact H
       clear H
       have H:=H1
       clear H1
       replace H:=bzS H
       obtain ⟨t566,A90,H⟩:=H
       replace H:((jra.f kj5 l0 t566).bind fun t567=>(if 0≤(wrap64 ((t567.length:Int) - 1)) then (if (wrap64 ((t567.length:Int) - 1))<(t567.length:Int) then (if 0≤(rd t567 (wrap64 ((t567.length:Int) - 1))) then (if (rd t567 (wrap64 ((t567.length:Int) - 1)))<(l0.length:Int) then (if ((jc l0 (rd t567 (wrap64 ((t567.length:Int) - 1)))).f1)=10 then (some (rd t567 (wrap64 ((t567.length:Int) - 1)))) else (some (-1))) else (none)) else (none)) else (none)) else (none)))=some r:=H
       have A9:=am A90
       clear A90
       replace H:=bzS H
       obtain ⟨t567,A100,H⟩:=H
       replace H:(if 0≤(wrap64 ((t567.length:Int) - 1)) then (if (wrap64 ((t567.length:Int) - 1))<(t567.length:Int) then (if 0≤(rd t567 (wrap64 ((t567.length:Int) - 1))) then (if (rd t567 (wrap64 ((t567.length:Int) - 1)))<(l0.length:Int) then (if ((jc l0 (rd t567 (wrap64 ((t567.length:Int) - 1)))).f1)=10 then (some (rd t567 (wrap64 ((t567.length:Int) - 1)))) else (some (-1))) else (none)) else (none)) else (none)) else (none))=some r:=H
       have A10:=am A100
       clear A100
       obtain ⟨ji11,hji11⟩:∃ j_:Int,(wrap64 ((t567.length:Int) - 1))=j_:=⟨_,rfl⟩
       replace H:(if 0≤(ji11) then (if (ji11)<(t567.length:Int) then (if 0≤(rd t567 (ji11)) then (if (rd t567 (ji11))<(l0.length:Int) then (if ((jc l0 (rd t567 (ji11))).f1)=10 then (some (rd t567 (ji11))) else (some (-1))) else (none)) else (none)) else (none)) else (none))=some r:=by first |(rw [hji11] at H;exact H) |(simp only [hji11] at H ⊢;exact H)
       (try rw [hji11] at A9)
       (try rw [hji11] at A10)
       have hji11w:(IntKind.i64.wrap ((t567.length:Int) - 1))=ji11:=(jhb _).trans hji11
       by_cases c12:0≤(ji11)
       ·rw [if_pos c12] at H
        have c12b0:decide (0≤(ji11))=true:=dzT c12
        clear c12
        by_cases c13:(ji11)<(t567.length:Int)
        ·rw [if_pos c13] at H
         have c13b0:decide ((ji11)<(t567.length:Int))=true:=dzT c13
         clear c13
         by_cases c14:0≤(rd t567 (ji11))
         ·rw [if_pos c14] at H
          have c14b0:decide (0≤(rd t567 (ji11)))=true:=dzT c14
          clear c14
          by_cases c15:(rd t567 (ji11))<(l0.length:Int)
          ·rw [if_pos c15] at H
           have c15b0:decide ((rd t567 (ji11))<(l0.length:Int))=true:=dzT c15
           clear c15
           by_cases c16:((jc l0 (rd t567 (ji11))).f1)=10
           ·rw [if_pos c16] at H
            have c16b0:(((jc l0 (rd t567 (ji11))).f1) == 10)=true:=beq_iff_eq.mpr c16
            have c16b1:(((jc l0 (rd t567 (ji11))).f1) != 10)=false:=bne_eq_false_iff_eq.mpr c16
            clear c16
            obtain rfl:=Option.some.inj H
            go_wp2_with (first |((with_reducible refine jd (f:=74) rfl ?_);refine gL (some 31) Try.func74 #[.slice (some ad563) l0.length c0, .int .i64 a1] ?_;(with_reducible refine (jqb.calls kj5 _ _ l0 a1 t566 _ ?side1 ?side2 A9.out).mono ?_);(case side1=>exact cq (Kd.jba HR0.out HB.out));(case side2=>exact HC0.out);rintro e w' ⟨rfl,⟨nd,rfl⟩⟩;refine ⟨_,rfl,?_⟩) |((with_reducible refine jd (f:=73) rfl ?_);refine gL (some 32) Try.func73 #[.slice (some ad563) l0.length c0, .int .i64 t566] ?_;(with_reducible refine (jra.calls kj5 _ _ l0 t566 t567 _ ?side1 ?side2 A10.out).mono ?_);(case side1=>exact cq (Kd.jba HR0.out (bq)));(case side2=>exact HC0.out);rintro e w17 ⟨v568,rfl,ho0,hb⟩;refine ⟨_,rfl,?_⟩;have HO569:=am (Kd.jQ ho0 (jN (bq)));replace HB:=am (je (bq) hb);(try clear hb);(try clear hb2);(try clear hk);(try clear hi);(try clear ho0);obtain ⟨Ao18,co18,eo18⟩:=Kd.jU HO569.out;subst eo18;have p570:0≤((ji11):Int):=ozD (uq);have q570:(ji11)<(t567.length:Int):=ozD (uq);obtain ⟨ad570,e570,hx570_0⟩:=Kd.jgb (Kd.jh HO569.out).2.2 (ji11) p570 q570;cases e570;replace p570:=ezT p570;replace q570:=ezT q570;have p571:0≤((rd t567 (ji11)):Int):=ozD (uq);have q571:(rd t567 (ji11))<(l0.length:Int):=ozD (uq);obtain ⟨ad571,e571,hx571_0,hx571_1,hx571_2,hx571_3⟩:=jta HR0.out (rd t567 (ji11)) p571 q571;obtain rfl:ad563=ad571:=(by injection e571);replace hx571_0:=cb HB.out hx571_0;replace hx571_1:=cb HB.out hx571_1;replace hx571_2:=cb HB.out hx571_2;replace hx571_3:=cb HB.out hx571_3;replace p571:=ezT p571;replace q571:=ezT q571))
            go_ret
            exact ⟨Y119,bq⟩
           ·rw [if_neg c16] at H
            have c16b0:(((jc l0 (rd t567 (ji11))).f1) == 10)=false:=beq_eq_false_iff_ne.mpr c16
            have c16b1:(((jc l0 (rd t567 (ji11))).f1) != 10)=true:=bne_iff_ne.mpr c16
            obtain rfl:=Option.some.inj H
            go_wp2_with (first |((with_reducible refine jd (f:=74) rfl ?_);refine gL (some 31) Try.func74 #[.slice (some ad563) l0.length c0, .int .i64 a1] ?_;(with_reducible refine (jqb.calls kj5 _ _ l0 a1 t566 _ ?side1 ?side2 A9.out).mono ?_);(case side1=>exact cq (Kd.jba HR0.out HB.out));(case side2=>exact HC0.out);rintro e w' ⟨rfl,⟨nd,rfl⟩⟩;refine ⟨_,rfl,?_⟩) |((with_reducible refine jd (f:=73) rfl ?_);refine gL (some 32) Try.func73 #[.slice (some ad563) l0.length c0, .int .i64 t566] ?_;(with_reducible refine (jra.calls kj5 _ _ l0 t566 t567 _ ?side1 ?side2 A10.out).mono ?_);(case side1=>exact cq (Kd.jba HR0.out (bq)));(case side2=>exact HC0.out);rintro e w19 ⟨v568,rfl,ho0,hb⟩;refine ⟨_,rfl,?_⟩;have HO569:=am (Kd.jQ ho0 (jN (bq)));replace HB:=am (je (bq) hb);(try clear hb);(try clear hb2);(try clear hk);(try clear hi);(try clear ho0);obtain ⟨Ao20,co20,eo20⟩:=Kd.jU HO569.out;subst eo20;have p570:0≤((ji11):Int):=ozD (uq);have q570:(ji11)<(t567.length:Int):=ozD (uq);obtain ⟨ad570,e570,hx570_0⟩:=Kd.jgb (Kd.jh HO569.out).2.2 (ji11) p570 q570;cases e570;replace p570:=ezT p570;replace q570:=ezT q570;have p571:0≤((rd t567 (ji11)):Int):=ozD (uq);have q571:(rd t567 (ji11))<(l0.length:Int):=ozD (uq);obtain ⟨ad571,e571,hx571_0,hx571_1,hx571_2,hx571_3⟩:=jta HR0.out (rd t567 (ji11)) p571 q571;obtain rfl:ad563=ad571:=(by injection e571);replace hx571_0:=cb HB.out hx571_0;replace hx571_1:=cb HB.out hx571_1;replace hx571_2:=cb HB.out hx571_2;replace hx571_3:=cb HB.out hx571_3;replace p571:=ezT p571;replace q571:=ezT q571))
            go_ret
            exact ⟨Y119,bq⟩
          ·rw [if_neg c15] at H
           exact absurd H (by simp)
         ·rw [if_neg c14] at H
          exact absurd H (by simp)
        ·rw [if_neg c13] at H
         exact absurd H (by simp)
       ·rw [if_neg c12] at H
        exact absurd H (by simp)
  ·rw [if_neg c4] at H
   exact absurd H (by simp)
 ·rw [if_neg c3] at H
  exact absurd H (by simp)
def jIa.l0 : Nat → List (S52) → List Int → List Int → Int → Option (List Int)
 | 0,_,_,_,_=>none
 | k+1,x0,x1,x5,x6=>if x6<(x1.length:Int) then (if 0≤x6 then ((jdb.f k x0 (rd x1 x6)).bind fun t576=>(if t576≥0 then (if x5.length<17592186044416 then (jIa.l0 k x0 x1 (x5 ++ [t576]) (wrap64 (x6+1))) else (none)) else (jIa.l0 k x0 x1 x5 (wrap64 (x6+1))))) else (none)) else (some x5)
def jIa.f (k : Nat) (l0 : List (S52)) (l1 : List Int) : Option (List Int) := jIa.l0 k l0 l1 (([] : List Int)) 0
set_option maxHeartbeats 8000000 in
set_option maxRecDepth 100000 in
theorem jIa.calls (k : Nat) (A0 : Option Addr) (c0 : Nat) (l0 : List (S52)) (A1 : Option Addr) (c1 : Nat) (l1 : List Int) (r : List Int) (w : World) (hr0 : Kd.C k52 w A0 l0.length l0) (hc0 : l0.length ≤ c0) (hr1 : Kd.C (Kd.int .i64) w A1 l1.length l1) (hc1 : l1.length ≤ c1) (h : jIa.f k l0 l1 = some r) :
  Calls Try.prog 45 #[.slice A0 l0.length c0, .slice A1 l1.length c1] w fun e w'=>∃ v0_:Value,e=.returned (v0_)∧Kd.R (Kd.int .i64) 3 w' w.heap.size (fun _=>True) v0_ r∧Below w.heap.size w w':=by
 have HR0:=am hr0
 have HC0:=am hc0
 clear hr0 hc0
 have HR1:=am hr1
 have HC1:=am hc1
 clear hr1 hc1
 have HB:=am (Below.refl w.heap.size w)
 have H:(jIa.l0 k l0 l1 (([]:List Int)) 0)=some r:=h
 clear h
 obtain ⟨y572,hy572⟩:∃ y_:List Int,y_=(([]:List Int)):=⟨_,rfl⟩
 replace H:(jIa.l0 k l0 l1 y572 0)=some r:=by first |(rw [hy572];with_reducible exact H) |(have H2_:=(Option.bind_some _ _).symm.trans H;rw [hy572];with_reducible exact H2_) |(have H2_:=(Option.bind_some _ _).symm.trans H;with_reducible exact H2_) | with_reducible exact H |(rw [hy572];exact H) | exact H
 have Ny572:=am hy572
 clear hy572
 have H':=am H
 clear H
 go_enter Try.func45,Try.ntmps45
 go_wp2_with (first |((with_reducible refine jM (N:=8) rfl ?_);refine Kd.jbc (Kd.int .i64) _ 3 ?hg (N:=8) ?hd (xs:=([]:List Int)) (inner:=[]) (ok:=fun _=>True) (okp:=fun _=>True) ?hr ?hp (fun _ hk=>hk) trivial (Below.refl _ _) (Nat.le_refl _) (by simp) ?_;(case hd=>rfl);(case hg=>rfl);(case hr=>exact Y7);(case hp=>exact (Reps.none _ _));intro v573 w3 ho4 hb hg_ hnew_;clear hg_ hnew_;(first | rw [← Ny572.out] at ho4 |(simp only [Int.reduceToNat] at ho4;rw [← Ny572.out] at ho4));have HO574:=am (Kd.jQ ho4 (jN (bq)));replace HB:=am (je (bq) hb);clear hb ho4))
 go_loopg [5,6] k (fun kq v5 v6 w'=>∃ (x5_1:List Int) (x6_1:Int),v6=.int .i64 x6_1∧jq (jIa.l0 kq l0 l1 x5_1 x6_1=some r)∧jq (kq≤k)∧jq (Kd.R (Kd.int .i64) 3 w' w.heap.size (fun _=>True) v5 x5_1)∧jq (Below w.heap.size w w'))
 case atStart=>exact ⟨(y572),(0),(sq),H',⟨Nat.le_refl _⟩,⟨rq HO574.out⟩,⟨bq⟩⟩
 case round =>
  clear H'
  try clear c1
  try clear p2
  try clear c4
  obtain ⟨x5_1,x6_1,rfl,HA,HK1,HO_5,HB⟩:=hrel
  cases gk with
  | zero=>exact absurd HA.out (by simp [jIa.l0])
  | succ k1 =>
   have H:=HA.out
   clear HA
   simp only [jIa.l0] at H
   by_cases c5:x6_1<(l1.length:Int)
   ·rw [if_pos c5] at H
    have c5b0:decide (x6_1<(l1.length:Int))=true:=dzT c5
    clear c5
    by_cases c6:0≤x6_1
    ·rw [if_pos c6] at H
     have c6b0:decide (0≤x6_1)=true:=dzT c6
     clear c6
     replace H:=bzS H
     obtain ⟨t576,A70,H⟩:=H
     replace H:(if t576≥0 then (if x5_1.length<17592186044416 then (jIa.l0 k1 l0 l1 (x5_1 ++ [t576]) (wrap64 (x6_1+1))) else (none)) else (jIa.l0 k1 l0 l1 x5_1 (wrap64 (x6_1+1))))=some r:=H
     have A7:=am A70
     clear A70
     by_cases c8:t576≥0
     ·rw [if_pos c8] at H
      have c8b0:decide (0≤t576)=true:=dzT c8
      clear c8
      by_cases c9:x5_1.length<17592186044416
      ·rw [if_pos c9] at H
       have LMc9:=am c9
       clear c9
       obtain ⟨y577,hy577⟩:∃ y_:List Int,y_=(x5_1 ++ [t576]):=⟨_,rfl⟩
       replace H:(jIa.l0 k1 l0 l1 y577 (wrap64 (x6_1+1)))=some r:=by first |(rw [hy577];with_reducible exact H) |(have H2_:=(Option.bind_some _ _).symm.trans H;rw [hy577];with_reducible exact H2_) |(have H2_:=(Option.bind_some _ _).symm.trans H;with_reducible exact H2_) | with_reducible exact H |(rw [hy577];exact H) | exact H
       have Ny577:=am hy577
       clear hy577
       have H':=am H
       clear H
       have p575:0≤(x6_1:Int):=ozD (uq)
       have q575:x6_1<(l1.length:Int):=ozD (uq)
       obtain ⟨ad575,e575,hx575_0⟩:=Kd.jgb HR1.out x6_1 p575 q575
       cases e575
       replace hx575_0:=cb HB.out hx575_0
       replace p575:=ezT p575
       replace q575:=ezT q575
       go_wp2_with (first |((with_reducible refine jd (f:=78) rfl ?_);refine gL (some 20) Try.func78 #[.slice A0 l0.length c0, .int .i64 (rd l1 x6_1)] ?_;(with_reducible refine (jdb.calls k1 _ _ l0 (rd l1 x6_1) t576 _ ?side1 ?side2 A7.out).mono ?_);(case side1=>exact cq (Kd.jba HR0.out HB.out));(case side2=>exact HC0.out);rintro e w10 ⟨rfl,hb⟩;refine ⟨_,rfl,?_⟩;replace HO_5:=am (Kd.jT (rq HO_5.out) hb);replace HB:=am (je (bq) hb);(try clear hb);(try clear hb2);(try clear hk);(try clear hi)) |((with_reducible refine jJa (b:=.append) (xs:=#[.tmp 23, .tmp 25]) rfl ?_);at_builtin;refine Kd.jSb (Kd.int .i64) (w0:=w) w.heap.size rfl (.tmp 23) (.tmp 25) 28 3 (.int .i64 0) 8 rfl Try.underlying28 info3 rfl (by decide) (by omega) u5 x5_1 t576 [.int .i64 t576] (fun _=>True) (fun _=>False) rfl rfl ?aP (fun _ hk=>hk.elim) ?aF ?aO ?aB ?aS ?aL ?_;(case aP=>exact rfl);(case aB=>exact (bq));(case aF=>exact (fun _ _=>trivial));(case aO=>exact (rq HO_5.out));(case aS=>exact (jN (bq)));(case aL=>have:=LMc9.out;omega);intro v578 w11 ho hb hg hat;rw [← Ny577.out] at ho;have n0_:=am (hb);have n1_:=am (ho);clear HB HO_5;have HB:=n0_;have HO579:=n1_;clear n0_ n1_ ho hb hg hat))
       go_roundg k1
       case measure=>have:=HK1.out;omega
       case rel=>exact ⟨(y577),(wrap64 (x6_1+1)),(sq),H',⟨by have:=HK1.out;omega⟩,⟨rq HO579.out⟩,⟨bq⟩⟩
      ·rw [if_neg c9] at H
       exact absurd H (by simp)
     ·rw [if_neg c8] at H
      have c8b0:decide (0≤t576)=false:=dzF c8
      clear c8
      have H':=am H
      clear H
      have p575:0≤(x6_1:Int):=ozD (uq)
      have q575:x6_1<(l1.length:Int):=ozD (uq)
      obtain ⟨ad575,e575,hx575_0⟩:=Kd.jgb HR1.out x6_1 p575 q575
      cases e575
      replace hx575_0:=cb HB.out hx575_0
      replace p575:=ezT p575
      replace q575:=ezT q575
      go_wp2_with (first |((with_reducible refine jd (f:=78) rfl ?_);refine gL (some 20) Try.func78 #[.slice A0 l0.length c0, .int .i64 (rd l1 x6_1)] ?_;(with_reducible refine (jdb.calls k1 _ _ l0 (rd l1 x6_1) t576 _ ?side1 ?side2 A7.out).mono ?_);(case side1=>exact cq (Kd.jba HR0.out HB.out));(case side2=>exact HC0.out);rintro e w12 ⟨rfl,hb⟩;refine ⟨_,rfl,?_⟩;replace HO_5:=am (Kd.jT (rq HO_5.out) hb);replace HB:=am (je (bq) hb);(try clear hb);(try clear hb2);(try clear hk);(try clear hi)))
      go_roundg k1
      case measure=>have:=HK1.out;omega
      case rel=>exact ⟨(x5_1),(wrap64 (x6_1+1)),(sq),H',⟨by have:=HK1.out;omega⟩,⟨rq HO_5.out⟩,⟨bq⟩⟩
    ·rw [if_neg c6] at H
     exact absurd H (by simp)
   ·rw [if_neg c5] at H
    have c5b0:decide (x6_1<(l1.length:Int))=false:=dzF c5
    clear c5
    obtain rfl:=Option.some.inj H
    go_wp2
    go_ret
    exact ⟨_,Y0,rq HO_5.out,bq⟩
def jmb.f (l0_0 : List (S87)) (a1 : Int) : Option (Bool) := (jH.f a1 0 (wrap64 ((l0_0.length : Int) - 1))).bind fun t581 => (some t581)
set_option maxHeartbeats 8000000 in
set_option maxRecDepth 100000 in
theorem jmb.calls (A0_0 : Option Addr) (c0_0 : Nat) (l0_0 : List (S87)) (a1 : Int) (r : Bool) (w : World) (hr0_0 : Kd.C k87 w A0_0 l0_0.length l0_0) (hc0_0 : l0_0.length ≤ c0_0) (h : jmb.f l0_0 a1 = some r) :
  Calls Try.prog 76 #[.agg #[.slice A0_0 l0_0.length c0_0], .int .i64 a1] w fun e w'=>e=.returned (.bool r)∧Below w.heap.size w w':=by
 have hu32:=Try.underlying32
 have HR0_0:=am hr0_0
 have HC0_0:=am hc0_0
 clear hr0_0 hc0_0
 have HB:=am (Below.refl w.heap.size w)
 have H:((jH.f a1 0 (wrap64 ((l0_0.length:Int) - 1))).bind fun t581=>(some t581))=some r:=h
 clear h
 replace H:=bzS H
 obtain ⟨t581,A30,H⟩:=H
 replace H:(some t581)=some r:=H
 have A3:=am A30
 clear A30
 obtain rfl:=Option.some.inj H
 go_enter Try.func76,Try.ntmps76
 go_wp2_with (first |((with_reducible refine jM (N:=2) rfl ?_);refine bE (N:=2) (cs:=#[.slice A0_0 l0_0.length c0_0]) (t:=32) ?_;intro gb580 hg w4 hbox hb;have BK580:=am (hbox);have GW580:=am ((Y10:w.heap.size≤gb580));have GE580:=am ((Y10:w.heap.size≤gb580));replace HB:=am (je (bq) hb);clear hb hbox hg;have hcz5_0:=bc0 BK580.out;have hfz5_0:=ja BK580.out 0) |((with_reducible refine jd (f:=92) rfl ?_);refine gL (some 10) Try.func92 #[.int .i64 a1, .int .i64 0, .int .i64 (wrap64 ((l0_0.length:Int) - 1))] ?_;(with_reducible refine (jH.calls a1 0 (wrap64 ((l0_0.length:Int) - 1)) t581 _ A3.out).mono ?_);rintro e w' ⟨rfl,⟨nd,rfl⟩⟩;refine ⟨_,rfl,?_⟩))
 go_ret
 exact ⟨Y0,by repeat (first |(with_reducible first | exact HB.out | apply jR | apply jw | apply jS | refine jP ?_ GE580.out) | exact HB.out)⟩
end Go.Proofs.Ytkokajljeebgdaa.P
end
