/- One part of the proofs on this program: functions of the program as plain functions, that the code comes to them, and facts on them. -/
import Derived.Test.YtkokajljeebgdaaYAll1
import Derived.Test.YtkokajljeebgdaaYWAuto
section
namespace Go.Proofs.Ytkokajljeebgdaa.P
open Go.RowKit Go.Proofs.YtkokajljeebgdaaW.PrintWords Go.Proofs.YtkokajljeebgdaaW.PrintLast Go.Proofs.YtkokajljeebgdaaW.PrintMore
attribute [local go_sem] jqa joa jBa jAa jfa jea jpa jna jk
set_option linter.unusedVariables false
set_option linter.unusedSimpArgs false
mutual
def jo.l0 : Nat → List (S52) → Bool → List Int → Int → Option (Bool)
 | 0,_,_,_,_=>none
 | k+1,x0,x3,x9,x10=>if x10<(x9.length:Int) then (if 0≤x10 then (if 0≤(rd x9 x10) then (if (rd x9 x10)<(x0.length:Int) then (if ((jc x0 (rd x9 x10)).f1)=5 then (jo.j1 k x0 x3 x9 x10 (rd x9 x10) ((jc x0 (rd x9 x10)).f1) ((jc x0 (rd x9 x10)).f1) (((jc x0 (rd x9 x10)).f1) == 5)) else (jo.j1 k x0 x3 x9 x10 (rd x9 x10) ((jc x0 (rd x9 x10)).f1) ((jc x0 (rd x9 x10)).f1) (((jc x0 (rd x9 x10)).f1) == 6))) else (none)) else (none)) else (none)) else (some true)
def jo.j1 : Nat → List (S52) → Bool → List Int → Int → Int → Int → Int → Bool → Option (Bool)
 | 0,_,_,_,_,_,_,_,_=>none
 | k+1,x0,x3,x9,x10,x11,x12,x35,x36=>if x36=true then (if x3=true then (jo.l0 k x0 x3 x9 (wrap64 (x10+1))) else (some false)) else (if x35=8 then (jo.j2 k x0 x3 x9 x10 x11 x12 x35 (x35 == 8)) else (if x35=9 then (jo.j2 k x0 x3 x9 x10 x11 x12 x35 (x35 == 9)) else (jo.j2 k x0 x3 x9 x10 x11 x12 x35 (x35 == 10))))
def jo.j2 : Nat → List (S52) → Bool → List Int → Int → Int → Int → Int → Bool → Option (Bool)
 | 0,_,_,_,_,_,_,_,_=>none
 | k+1,x0,x3,x9,x10,x11,x12,x35,x41=>if x41=true then (some false) else (if x35=7 then ((jca.f k x0 x11).bind fun t153=>((jQa.f x0 t153).bind fun t156=>(if t156=true then (jo.l1 k x0 x3 x9 x10 t153 t153 (t153.length:Int) 0) else (some false)))) else (if x35=11 then (jo.j4 k x0 x3 x9 x10 x11 x12 (x35 == 11)) else (jo.j4 k x0 x3 x9 x10 x11 x12 (x35 == 12))))
def jo.l1 : Nat → List (S52) → Bool → List Int → Int → List Int → List Int → Int → Int → Option (Bool)
 | 0,_,_,_,_,_,_,_,_=>none
 | k+1,x0,x3,x9,x10,x13,x54,x55,x56=>if x56<x55 then (if 0≤x56 then (if x56<(x54.length:Int) then ((jla.f k x0 (rd x54 x56)).bind fun t158=>((jo.f k x0 (wrap64 ((rd x54 x56)+1)) t158 x3).bind fun t159=>(if t159=true then (jo.l1 k x0 x3 x9 x10 x13 x54 x55 (wrap64 (x56+1))) else (some false)))) else (none)) else (none)) else (jo.l0 k x0 x3 x9 (wrap64 ((wrap64 (x10+(wrap64 ((x13.length:Int) - 1))))+1)))
def jo.j4 : Nat → List (S52) → Bool → List Int → Int → Int → Int → Bool → Option (Bool)
 | 0,_,_,_,_,_,_,_=>none
 | k+1,x0,x3,x9,x10,x11,x12,x75=>if x75=true then ((jla.f k x0 x11).bind fun t160=>(if x3=true then ((jo.f k x0 (wrap64 (x11+1)) t160 true).bind fun t161=>(if t161=true then (jo.l0 k x0 x3 x9 (wrap64 (x10+1))) else (some false))) else ((jo.f k x0 (wrap64 (x11+1)) t160 (x12 == 12)).bind fun t162=>(if t162=true then (jo.l0 k x0 x3 x9 (wrap64 (x10+1))) else (some false))))) else (jo.l0 k x0 x3 x9 (wrap64 (x10+1)))
def jo.f : Nat → List (S52) → Int → Int → Bool → Option (Bool)
 | 0,_,_,_,_=>none
 | k+1,l0,a1,a2,a3=>(jFa.f k l0 a1 a2).bind fun t148=>(jo.l0 k l0 a3 t148 0)
end
set_option maxHeartbeats 8000000 in
set_option maxRecDepth 100000 in
theorem jo.calls (k : Nat) : ∀ (A0 : Option Addr) (c0 : Nat) (l0 : List (S52)) (a1 : Int) (a2 : Int) (a3 : Bool) (r : Bool) (w : World) (hr0 : Kd.C k52 w A0 l0.length l0) (hc0 : l0.length ≤ c0) (h : jo.f k l0 a1 a2 a3 = some r),
  Calls Try.prog 68 #[.slice A0 l0.length c0, .int .i64 a1, .int .i64 a2, .bool a3] w fun e w'=>e=.returned (.bool r)∧Below w.heap.size w w':=by
 induction k using Nat.strongRecOn with
 | _ k ih =>
 intro A0 c0 l0 a1 a2 a3 r w hr0 hc0 h
 cases k with
 | zero=>exact absurd h (by simp [jo.f])
 | succ k =>
 simp only [jo.f] at h
 have HR0:=am hr0
 have HC0:=am hc0
 clear hr0 hc0
 have HB:=am (Below.refl w.heap.size w)
 have H:((jFa.f k l0 a1 a2).bind fun t148=>(jo.l0 k l0 a3 t148 0))=some r:=h
 clear h
 replace H:=bzS H
 obtain ⟨t148,A50,H⟩:=H
 replace H:(jo.l0 k l0 a3 t148 0)=some r:=H
 have A5:=am A50
 clear A50
 have H':=am H
 clear H
 go_enter Try.func68,Try.ntmps68
 go_wp2_with (first |((with_reducible refine jd (f:=96) rfl ?_);refine gL (some 19) Try.func96 #[.slice A0 l0.length c0, .int .i64 a1, .int .i64 a2] ?_;(with_reducible refine (jFa.calls k _ _ l0 a1 a2 t148 _ ?side1 ?side2 A5.out).mono ?_);(case side1=>exact Y32);(case side2=>exact HC0.out);rintro e w6 ⟨v149,rfl,ho0,hb⟩;refine ⟨_,rfl,?_⟩;have HO150:=am (Kd.jQ ho0 (jN (bq)));replace HB:=am (je (bq) hb);(try clear hb);(try clear hb2);(try clear hk);(try clear hi);(try clear ho0)))
 go_loopg [10] k (fun kq v10 w'=>∃ (x10_1:Int),v10=.int .i64 x10_1∧jq (jo.l0 kq l0 a3 t148 x10_1=some r)∧jq (kq≤k)∧jq (Kd.R (Kd.int .i64) 3 w' w.heap.size (fun _=>True) v149 t148)∧jq (Below w.heap.size w w'))
 case atStart=>exact ⟨(0),(sq),H',⟨Nat.le_refl _⟩,⟨rq HO150.out⟩,⟨bq⟩⟩
 case round =>
  clear H'
  try clear p2
  try clear c6
  obtain ⟨x10_1,rfl,HA,HK1,HO_9,HB⟩:=hrel
  cases gk with
  | zero=>exact absurd HA.out (by simp [jo.l0])
  | succ k1 =>
   have H:=HA.out
   clear HA
   simp only [jo.l0] at H
   by_cases c7:x10_1<(t148.length:Int)
   ·rw [if_pos c7] at H
    have c7b0:decide (x10_1<(t148.length:Int))=true:=dzT c7
    clear c7
    by_cases c8:0≤x10_1
    ·rw [if_pos c8] at H
     have c8b0:decide (0≤x10_1)=true:=dzT c8
     clear c8
     by_cases c9:0≤(rd t148 x10_1)
     ·rw [if_pos c9] at H
      have c9b0:decide (0≤(rd t148 x10_1))=true:=dzT c9
      clear c9
      by_cases c10:(rd t148 x10_1)<(l0.length:Int)
      ·rw [if_pos c10] at H
       have c10b0:decide ((rd t148 x10_1)<(l0.length:Int))=true:=dzT c10
       clear c10
       have HC11:=am H
       clear H
       obtain ⟨Ao12,co12,eo12⟩:=Kd.jU HO_9.out
       subst eo12
       have p151:0≤(x10_1:Int):=ozD (uq)
       have q151:x10_1<(t148.length:Int):=ozD (uq)
       obtain ⟨ad151,e151,hx151_0⟩:=Kd.jgb (Kd.jh HO_9.out).2.2 x10_1 p151 q151
       cases e151
       replace p151:=ezT p151
       replace q151:=ezT q151
       have p152:0≤((rd t148 x10_1):Int):=ozD (uq)
       have q152:(rd t148 x10_1)<(l0.length:Int):=ozD (uq)
       obtain ⟨ad152,e152,hx152_0,hx152_1,hx152_2,hx152_3⟩:=jta HR0.out (rd t148 x10_1) p152 q152
       cases e152
       replace hx152_0:=cb HB.out hx152_0
       replace hx152_1:=cb HB.out hx152_1
       replace hx152_2:=cb HB.out hx152_2
       replace hx152_3:=cb HB.out hx152_3
       replace p152:=ezT p152
       replace q152:=ezT q152
       go_upto_if 36 with (fail)
       go_cut [36] (fun v36 wc=>∃ (kq:Nat) (x36_10:Bool),v36=.bool x36_10∧jq (jo.j1 kq l0 a3 t148 x10_1 (rd t148 x10_1) ((jc l0 (rd t148 x10_1)).f1) ((jc l0 (rd t148 x10_1)).f1) x36_10=some r)∧jq (kq≤k1)∧jq (Kd.R (Kd.int .i64) 3 wc w.heap.size (fun _=>True) (.slice (some ad151) t148.length co12) t148)∧jq (Below w.heap.size w wc))
       case first =>
        have H:=HC11.out
        clear HC11
        by_cases c13:((jc l0 (rd t148 x10_1)).f1)=5
        ·rw [if_pos c13] at H
         have c13b0:(((jc l0 (rd t148 x10_1)).f1) == 5)=true:=beq_iff_eq.mpr c13
         have c13b1:(((jc l0 (rd t148 x10_1)).f1) != 5)=false:=bne_eq_false_iff_eq.mpr c13
         clear c13
         (first | rw [c13b0] |(simp only [jhb,jpb];rw [c13b0]) | skip)
         have H':=am H
         clear H
         go_wp2
         go_meet
         case rel=>exact ⟨_,((((jc l0 (rd t148 x10_1)).f1) == 5)),(sq),H',⟨by have:=HK1.out;first | omega | exact Nat.le_refl _⟩,⟨rq HO_9.out⟩,⟨bq⟩⟩
        ·rw [if_neg c13] at H
         have c13b0:(((jc l0 (rd t148 x10_1)).f1) == 5)=false:=beq_eq_false_iff_ne.mpr c13
         have c13b1:(((jc l0 (rd t148 x10_1)).f1) != 5)=true:=bne_iff_ne.mpr c13
         (first | rw [c13b0] |(simp only [jhb,jpb];rw [c13b0]) | skip)
         have H':=am H
         clear H
         go_wp2
         go_meet
         case rel=>exact ⟨_,((((jc l0 (rd t148 x10_1)).f1) == 6)),(sq),H',⟨by have:=HK1.out;first | omega | exact Nat.le_refl _⟩,⟨rq HO_9.out⟩,⟨bq⟩⟩
       case rest =>
        clear HC11
        try clear c1
        try clear p1
        try clear q1
        try clear hx1
        try clear p2
        try clear c6
        try clear c7
        try clear c7b0
        try clear c8
        try clear c8b0
        try clear c9
        try clear c9b0
        try clear c10
        try clear c10b0
        try clear c13
        try clear c13b0
        try clear c13b1
        try clear hx151_0
        try clear hx152_0
        try clear hx152_1
        try clear hx152_2
        try clear hx152_3
        try clear p151
        try clear p152
        try clear p2
        try clear q151
        try clear q152
        obtain ⟨kq,x36_10,rfl,HA,HJ10,HO_9,HB⟩:=hcut
        cases kq with
        | zero=>exact absurd HA.out (by simp [jo.j1])
        | succ kj10 =>
         have H:=HA.out
         clear HA
         simp only [jo.j1] at H
         by_cases c14:x36_10=true
         ·subst c14
          have H1:(if a3=true then (jo.l0 kj10 l0 a3 t148 (wrap64 (x10_1+1))) else (some false))=some r:=by rw [if_pos rfl] at H;exact H
          clear H
          have H:=H1
          clear H1
          by_cases c15:a3=true
          ·subst c15
           have H1:(jo.l0 kj10 l0 true t148 (wrap64 (x10_1+1)))=some r:=by rw [if_pos rfl] at H;exact H
           clear H
           have H:=H1
           clear H1
           have H':=am H
           clear H
           go_wp2
           go_roundg kj10
           case measure=>have:=HK1.out;have:=HJ10.out;omega
           case rel=>exact ⟨(wrap64 (x10_1+1)),(sq),H',⟨by have:=HK1.out;have:=HJ10.out;omega⟩,⟨rq HO_9.out⟩,⟨bq⟩⟩
          ·replace c15:=Bool.eq_false_iff.mpr c15
           subst c15
           have H1:(some false)=some r:=by rw [if_neg (show ¬ (false=true) by decide)] at H;exact H
           clear H
           have H:=H1
           clear H1
           obtain rfl:=Option.some.inj H
           go_wp2
           go_ret
           exact ⟨Y0,bq⟩
         ·replace c14:=Bool.eq_false_iff.mpr c14
          subst c14
          have H1:(if ((jc l0 (rd t148 x10_1)).f1)=8 then (jo.j2 kj10 l0 a3 t148 x10_1 (rd t148 x10_1) ((jc l0 (rd t148 x10_1)).f1) ((jc l0 (rd t148 x10_1)).f1) (((jc l0 (rd t148 x10_1)).f1) == 8)) else (if ((jc l0 (rd t148 x10_1)).f1)=9 then (jo.j2 kj10 l0 a3 t148 x10_1 (rd t148 x10_1) ((jc l0 (rd t148 x10_1)).f1) ((jc l0 (rd t148 x10_1)).f1) (((jc l0 (rd t148 x10_1)).f1) == 9)) else (jo.j2 kj10 l0 a3 t148 x10_1 (rd t148 x10_1) ((jc l0 (rd t148 x10_1)).f1) ((jc l0 (rd t148 x10_1)).f1) (((jc l0 (rd t148 x10_1)).f1) == 10))))=some r:=by rw [if_neg (show ¬ (false=true) by decide)] at H;exact H
          clear H
          have H:=H1
          clear H1
          have HC16:=am H
          clear H
          go_upto_if 41 with (fail)
          go_cut [41] (fun v41 wc=>∃ (kq:Nat) (x41_15:Bool),v41=.bool x41_15∧jq (jo.j2 kq l0 a3 t148 x10_1 (rd t148 x10_1) ((jc l0 (rd t148 x10_1)).f1) ((jc l0 (rd t148 x10_1)).f1) x41_15=some r)∧jq (kq≤kj10)∧jq (Kd.R (Kd.int .i64) 3 wc w.heap.size (fun _=>True) (.slice (some ad151) t148.length co12) t148)∧jq (Below w.heap.size w wc))
          case first =>
           have H:=HC16.out
           clear HC16
           by_cases c17:((jc l0 (rd t148 x10_1)).f1)=8
           ·rw [if_pos c17] at H
            have c17b0:(((jc l0 (rd t148 x10_1)).f1) == 8)=true:=beq_iff_eq.mpr c17
            have c17b1:(((jc l0 (rd t148 x10_1)).f1) != 8)=false:=bne_eq_false_iff_eq.mpr c17
            clear c17
            (first | rw [c17b0] |(simp only [jhb,jpb];rw [c17b0]) | skip)
            have H':=am H
            clear H
            go_wp2
            go_meet
            case rel=>exact ⟨_,((((jc l0 (rd t148 x10_1)).f1) == 8)),(sq),H',⟨by have:=HK1.out;have:=HJ10.out;first | omega | exact Nat.le_refl _⟩,⟨rq HO_9.out⟩,⟨bq⟩⟩
           ·rw [if_neg c17] at H
            have c17b0:(((jc l0 (rd t148 x10_1)).f1) == 8)=false:=beq_eq_false_iff_ne.mpr c17
            have c17b1:(((jc l0 (rd t148 x10_1)).f1) != 8)=true:=bne_iff_ne.mpr c17
            (first | rw [c17b0] |(simp only [jhb,jpb];rw [c17b0]) | skip)
            by_cases c18:((jc l0 (rd t148 x10_1)).f1)=9
            ·rw [if_pos c18] at H
             have c18b0:(((jc l0 (rd t148 x10_1)).f1) == 9)=true:=beq_iff_eq.mpr c18
             have c18b1:(((jc l0 (rd t148 x10_1)).f1) != 9)=false:=bne_eq_false_iff_eq.mpr c18
             clear c18
             have H':=am H
             clear H
             go_wp2
             go_meet
             case rel=>exact ⟨_,((((jc l0 (rd t148 x10_1)).f1) == 9)),(sq),H',⟨by have:=HK1.out;have:=HJ10.out;first | omega | exact Nat.le_refl _⟩,⟨rq HO_9.out⟩,⟨bq⟩⟩
            ·rw [if_neg c18] at H
             have c18b0:(((jc l0 (rd t148 x10_1)).f1) == 9)=false:=beq_eq_false_iff_ne.mpr c18
             have c18b1:(((jc l0 (rd t148 x10_1)).f1) != 9)=true:=bne_iff_ne.mpr c18
             have H':=am H
             clear H
             go_wp2
             go_meet
             case rel=>exact ⟨_,((((jc l0 (rd t148 x10_1)).f1) == 10)),(sq),H',⟨by have:=HK1.out;have:=HJ10.out;first | omega | exact Nat.le_refl _⟩,⟨rq HO_9.out⟩,⟨bq⟩⟩
          case rest =>
           clear HC16
           try clear c1
           try clear p1
           try clear q1
           try clear hx1
           try clear p2
           try clear c6
           try clear p6
           try clear c7
           try clear c7b0
           try clear c8
           try clear c8b0
           try clear c9
           try clear c9b0
           try clear c10
           try clear c10b0
           try clear c13
           try clear c13b0
           try clear c13b1
           try clear c14
           try clear c15
           try clear p15
           try clear q15
           try clear hx15
           try clear c17
           try clear c17b0
           try clear c17b1
           try clear c18
           try clear c18b0
           try clear c18b1
           try clear hx151_0
           try clear hx152_0
           try clear hx152_1
           try clear hx152_2
           try clear hx152_3
           try clear p1
           try clear p151
           try clear p152
           try clear p2
           try clear q1
           try clear q151
           try clear q152
           obtain ⟨kq,x41_15,rfl,HA,HJ15,HO_9,HB⟩:=hcut
           cases kq with
           | zero=>exact absurd HA.out (by simp [jo.j2])
           | succ kj15 =>
            have H:=HA.out
            clear HA
            simp only [jo.j2] at H
            by_cases c19:x41_15=true
            ·subst c19
             have H1:(some false)=some r:=by rw [if_pos rfl] at H;exact H
             clear H
             have H:=H1
             clear H1
             obtain rfl:=Option.some.inj H
             go_wp2
             go_ret
             exact ⟨Y0,bq⟩
            ·replace c19:=Bool.eq_false_iff.mpr c19
             subst c19
             have H1:(if ((jc l0 (rd t148 x10_1)).f1)=7 then ((jca.f kj15 l0 (rd t148 x10_1)).bind fun t153=>((jQa.f l0 t153).bind fun t156=>(if t156=true then (jo.l1 kj15 l0 a3 t148 x10_1 t153 t153 (t153.length:Int) 0) else (some false)))) else (if ((jc l0 (rd t148 x10_1)).f1)=11 then (jo.j4 kj15 l0 a3 t148 x10_1 (rd t148 x10_1) ((jc l0 (rd t148 x10_1)).f1) (((jc l0 (rd t148 x10_1)).f1) == 11)) else (jo.j4 kj15 l0 a3 t148 x10_1 (rd t148 x10_1) ((jc l0 (rd t148 x10_1)).f1) (((jc l0 (rd t148 x10_1)).f1) == 12))))=some r:=by rw [if_neg (show ¬ (false=true) by decide)] at H;exact H
             clear H
             have H:=H1
             clear H1
             by_cases c20:((jc l0 (rd t148 x10_1)).f1)=7
             ·rw [if_pos c20] at H
              have c20b0:(((jc l0 (rd t148 x10_1)).f1) == 7)=true:=beq_iff_eq.mpr c20
              have c20b1:(((jc l0 (rd t148 x10_1)).f1) != 7)=false:=bne_eq_false_iff_eq.mpr c20
              clear c20
              replace H:=bzS H
              obtain ⟨t153,A210,H⟩:=H
              replace H:((jQa.f l0 t153).bind fun t156=>(if t156=true then (jo.l1 kj15 l0 a3 t148 x10_1 t153 t153 (t153.length:Int) 0) else (some false)))=some r:=H
              have A21:=am A210
              clear A210
              replace H:=bzS H
              obtain ⟨t156,A220,H⟩:=H
              replace H:(if t156=true then (jo.l1 kj15 l0 a3 t148 x10_1 t153 t153 (t153.length:Int) 0) else (some false))=some r:=H
              have A22:=am A220
              clear A220
              by_cases c23:t156=true
              ·subst c23
               have H1:(jo.l1 kj15 l0 a3 t148 x10_1 t153 t153 (t153.length:Int) 0)=some r:=by rw [if_pos rfl] at H;exact H
               clear H
               have H:=H1
               clear H1
               have H':=am H
               clear H
               go_wp2_with (first |((with_reducible refine jd (f:=80) rfl ?_);refine gL (some 49) Try.func80 #[.slice (some ad152) l0.length c0, .int .i64 (rd t148 x10_1)] ?_;(with_reducible refine (jca.calls kj15 _ _ l0 (rd t148 x10_1) t153 _ ?side1 ?side2 A21.out).mono ?_);(case side1=>exact cq (Kd.jba HR0.out HB.out));(case side2=>exact HC0.out);rintro e w24 ⟨v154,rfl,ho0,hb⟩;refine ⟨_,rfl,?_⟩;have HO155:=am (Kd.jQ (Kd.jxb ho0 (Kd.R_lt (rq HO_9.out))) (jN (bq)));replace HO_9:=am (Kd.job (rq HO_9.out) (Kd.jyb ho0) hb);replace HB:=am (je (bq) hb);(try clear hb);(try clear hb2);(try clear hk);(try clear hi);(try clear ho0);obtain ⟨Ao25,co25,eo25⟩:=Kd.jU HO155.out;subst eo25) |((with_reducible refine jd (f:=97) rfl ?_);refine gL (some 52) Try.func97 #[.slice (some ad152) l0.length c0, .slice Ao25 t153.length co25] ?_;(with_reducible refine (jQa.calls _ _ l0 _ _ t153 true _ ?side1 ?side2 ?side3 ?side4 A22.out).mono ?_);(case side1=>exact cq (Kd.jba HR0.out HB.out));(case side2=>exact HC0.out);(case side3=>exact cq (Kd.jh HO155.out).2.2);(case side4=>exact (Kd.jh HO155.out).2.1);rintro e w' ⟨rfl,⟨nd,rfl⟩⟩;refine ⟨_,rfl,?_⟩))
               go_loopg [56] kj15 (fun kq v56 w'=>∃ (x56_4:Int),v56=.int .i64 x56_4∧jq (jo.l1 kq l0 a3 t148 x10_1 t153 t153 (t153.length:Int) x56_4=some r)∧jq (kq≤kj15)∧jq (Kd.R (Kd.int .i64) 3 w' w.heap.size (fun k_=>some k_≠((.slice Ao25 t153.length co25):Value).ownBlock∧some k_≠((.slice Ao25 t153.length co25):Value).ownBlock) (.slice (some ad151) t148.length co12) t148)∧jq (Kd.R (Kd.int .i64) 3 w' w.heap.size (fun k_=>some k_≠((.slice (some ad151) t148.length co12):Value).ownBlock) (.slice Ao25 t153.length co25) t153)∧jq (Kd.R (Kd.int .i64) 3 w' w.heap.size (fun k_=>some k_≠((.slice (some ad151) t148.length co12):Value).ownBlock) (.slice Ao25 t153.length co25) t153)∧jq (Below w.heap.size w w'))
               case atStart=>exact ⟨(0),(sq),H',⟨Nat.le_refl _⟩,⟨by (with_reducible repeat (first | apply Kd.jY | apply Kd.jX | apply Kd.jia));exact Kd.jE HO_9.out (fun _ hk=>⟨hk.2,hk.2⟩)⟩,⟨by (with_reducible repeat (first | apply Kd.jY | apply Kd.jX | apply Kd.jia));exact Kd.jE HO155.out (fun _ hk=>hk.2)⟩,⟨by (with_reducible repeat (first | apply Kd.jY | apply Kd.jX | apply Kd.jia));exact Kd.jE HO155.out (fun _ hk=>hk.2)⟩,⟨bq⟩⟩
               case round =>
                clear H'
                try clear c1
                try clear p1
                try clear q1
                try clear hx1
                try clear c2
                try clear p2
                try clear c6
                try clear p6
                try clear c7
                try clear c7b0
                try clear c8
                try clear c8b0
                try clear c9
                try clear c9b0
                try clear c10
                try clear c10b0
                try clear c13
                try clear c13b0
                try clear c13b1
                try clear c14
                try clear c15
                try clear p15
                try clear q15
                try clear hx15
                try clear c17
                try clear c17b0
                try clear c17b1
                try clear c18
                try clear c18b0
                try clear c18b1
                try clear c19
                try clear c20
                try clear c20b0
                try clear c20b1
                try clear c23
                try clear hx151_0
                try clear hx152_0
                try clear hx152_1
                try clear hx152_2
                try clear hx152_3
                try clear p1
                try clear p15
                try clear p151
                try clear p152
                try clear p2
                try clear p6
                try clear q1
                try clear q15
                try clear q151
                try clear q152
                obtain ⟨x56_4,rfl,HA,HK4,HO_9,HO_13,HO_54,HB⟩:=hrel
                cases gk with
                | zero=>exact absurd HA.out (by simp [jo.l1])
                | succ k4 =>
                 have H:=HA.out
                 clear HA
                 simp only [jo.l1] at H
                 by_cases c26:x56_4<(t153.length:Int)
                 ·rw [if_pos c26] at H
                  have c26b0:decide (x56_4<(t153.length:Int))=true:=dzT c26
                  clear c26
                  by_cases c27:0≤x56_4
                  ·rw [if_pos c27] at H
                   have c27b0:decide (0≤x56_4)=true:=dzT c27
                   clear c27
                   by_cases c28:x56_4<(t153.length:Int)
                   ·rw [if_pos c28] at H
                    have c28b0:decide (x56_4<(t153.length:Int))=true:=dzT c28
                    clear c28
                    replace H:=bzS H
                    obtain ⟨t158,A290,H⟩:=H
                    replace H:((jo.f k4 l0 (wrap64 ((rd t153 x56_4)+1)) t158 a3).bind fun t159=>(if t159=true then (jo.l1 k4 l0 a3 t148 x10_1 t153 t153 (t153.length:Int) (wrap64 (x56_4+1))) else (some false)))=some r:=H
                    have A29:=am A290
                    clear A290
                    replace H:=bzS H
                    obtain ⟨t159,A300,H⟩:=H
                    replace H:(if t159=true then (jo.l1 k4 l0 a3 t148 x10_1 t153 t153 (t153.length:Int) (wrap64 (x56_4+1))) else (some false))=some r:=H
                    have A30:=am A300
                    clear A300
                    by_cases c31:t159=true
                    ·subst c31
                     have H1:(jo.l1 k4 l0 a3 t148 x10_1 t153 t153 (t153.length:Int) (wrap64 (x56_4+1)))=some r:=by rw [if_pos rfl] at H;exact H
                     clear H
                     have H:=H1
                     clear H1
                     have H':=am H
                     clear H
                     have p157:0≤(x56_4:Int):=ozD (uq)
                     have q157:x56_4<(t153.length:Int):=ozD (uq)
                     obtain ⟨ad157,e157,hx157_0⟩:=Kd.jgb (Kd.jh HO_54.out).2.2 x56_4 p157 q157
                     cases e157
                     replace p157:=ezT p157
                     replace q157:=ezT q157
                     go_wp2_with (first |((with_reducible refine jd (f:=89) rfl ?_);refine gL (some 65) Try.func89 #[.slice (some ad152) l0.length c0, .int .i64 (rd t153 x56_4)] ?_;(with_reducible refine (jla.calls k4 _ _ l0 (rd t153 x56_4) t158 _ ?side1 ?side2 A29.out).mono ?_);(case side1=>exact cq (Kd.jba HR0.out HB.out));(case side2=>exact HC0.out);rintro e w' ⟨rfl,⟨nd,rfl⟩⟩;refine ⟨_,rfl,?_⟩) |((with_reducible refine jd (f:=68) rfl ?_);refine gL (some 67) Try.func68 #[.slice (some ad152) l0.length c0, .int .i64 (wrap64 ((rd t153 x56_4)+1)), .int .i64 t158, .bool a3] ?_;(with_reducible refine (ih k4 (by have:=HK1.out;have:=HJ10.out;have:=HJ15.out;have:=HK4.out;omega) _ _ l0 (wrap64 ((rd t153 x56_4)+1)) t158 a3 true _ ?side1 ?side2 A30.out).mono ?_);(case side1=>exact cq (Kd.jba HR0.out (bq)));(case side2=>exact HC0.out);rintro e w32 ⟨rfl,hb⟩;refine ⟨_,rfl,?_⟩;replace HO_9:=am (Kd.jT (rq HO_9.out) hb);replace HO_13:=am (Kd.jT (rq HO_13.out) hb);replace HO_54:=am (Kd.jT (rq HO_54.out) hb);replace HB:=am (je (bq) hb);(try clear hb);(try clear hb2);(try clear hk);(try clear hi)))
                     go_roundg k4
                     case measure=>have:=HK1.out;have:=HJ10.out;have:=HJ15.out;have:=HK4.out;omega
                     case rel=>exact ⟨(wrap64 (x56_4+1)),(sq),H',⟨by have:=HK1.out;have:=HJ10.out;have:=HJ15.out;have:=HK4.out;omega⟩,⟨rq HO_9.out⟩,⟨rq HO_13.out⟩,⟨rq HO_54.out⟩,⟨bq⟩⟩
                    ·replace c31:=Bool.eq_false_iff.mpr c31
                     subst c31
                     have H1:(some false)=some r:=by rw [if_neg (show ¬ (false=true) by decide)] at H;exact H
                     clear H
                     have H:=H1
                     clear H1
                     obtain rfl:=Option.some.inj H
                     have p157:0≤(x56_4:Int):=ozD (uq)
                     have q157:x56_4<(t153.length:Int):=ozD (uq)
                     obtain ⟨ad157,e157,hx157_0⟩:=Kd.jgb (Kd.jh HO_54.out).2.2 x56_4 p157 q157
                     cases e157
                     replace p157:=ezT p157
                     replace q157:=ezT q157
                     go_wp2_with (first |((with_reducible refine jd (f:=89) rfl ?_);refine gL (some 65) Try.func89 #[.slice (some ad152) l0.length c0, .int .i64 (rd t153 x56_4)] ?_;(with_reducible refine (jla.calls k4 _ _ l0 (rd t153 x56_4) t158 _ ?side1 ?side2 A29.out).mono ?_);(case side1=>exact cq (Kd.jba HR0.out HB.out));(case side2=>exact HC0.out);rintro e w' ⟨rfl,⟨nd,rfl⟩⟩;refine ⟨_,rfl,?_⟩) |((with_reducible refine jd (f:=68) rfl ?_);refine gL (some 67) Try.func68 #[.slice (some ad152) l0.length c0, .int .i64 (wrap64 ((rd t153 x56_4)+1)), .int .i64 t158, .bool a3] ?_;(with_reducible refine (ih k4 (by have:=HK1.out;have:=HJ10.out;have:=HJ15.out;have:=HK4.out;omega) _ _ l0 (wrap64 ((rd t153 x56_4)+1)) t158 a3 false _ ?side1 ?side2 A30.out).mono ?_);(case side1=>exact cq (Kd.jba HR0.out (bq)));(case side2=>exact HC0.out);rintro e w33 ⟨rfl,hb⟩;refine ⟨_,rfl,?_⟩;replace HO_9:=am (Kd.jT (rq HO_9.out) hb);replace HO_13:=am (Kd.jT (rq HO_13.out) hb);replace HO_54:=am (Kd.jT (rq HO_54.out) hb);replace HB:=am (je (bq) hb);(try clear hb);(try clear hb2);(try clear hk);(try clear hi)))
                     go_ret
                     exact ⟨Y0,bq⟩
                   ·rw [if_neg c28] at H
                    exact absurd H (by simp)
                  ·rw [if_neg c27] at H
                   exact absurd H (by simp)
                 ·rw [if_neg c26] at H
                  have c26b0:decide (x56_4<(t153.length:Int))=false:=dzF c26
                  clear c26
                  have H':=am H
                  clear H
                  go_wp2
                  go_roundg k4
                  case measure=>have:=HK1.out;have:=HJ10.out;have:=HJ15.out;have:=HK4.out;omega
                  case rel=>exact ⟨(wrap64 ((wrap64 (x10_1+(wrap64 ((t153.length:Int) - 1))))+1)),(sq),H',⟨by have:=HK1.out;have:=HJ10.out;have:=HJ15.out;have:=HK4.out;omega⟩,⟨by (with_reducible repeat (first | apply Kd.jY | apply Kd.jX | apply Kd.jia));exact Kd.jE HO_9.out (fun _ hk=>trivial)⟩,⟨bq⟩⟩
              ·replace c23:=Bool.eq_false_iff.mpr c23
               subst c23
               have H1:(some false)=some r:=by rw [if_neg (show ¬ (false=true) by decide)] at H;exact H
               clear H
               have H:=H1
               clear H1
               obtain rfl:=Option.some.inj H
               go_wp2_with (first |((with_reducible refine jd (f:=80) rfl ?_);refine gL (some 49) Try.func80 #[.slice (some ad152) l0.length c0, .int .i64 (rd t148 x10_1)] ?_;(with_reducible refine (jca.calls kj15 _ _ l0 (rd t148 x10_1) t153 _ ?side1 ?side2 A21.out).mono ?_);(case side1=>exact cq (Kd.jba HR0.out HB.out));(case side2=>exact HC0.out);rintro e w34 ⟨v154,rfl,ho0,hb⟩;refine ⟨_,rfl,?_⟩;have HO155:=am (Kd.jQ (Kd.jxb ho0 (Kd.R_lt (rq HO_9.out))) (jN (bq)));replace HO_9:=am (Kd.job (rq HO_9.out) (Kd.jyb ho0) hb);replace HB:=am (je (bq) hb);(try clear hb);(try clear hb2);(try clear hk);(try clear hi);(try clear ho0);obtain ⟨Ao35,co35,eo35⟩:=Kd.jU HO155.out;subst eo35) |((with_reducible refine jd (f:=97) rfl ?_);refine gL (some 52) Try.func97 #[.slice (some ad152) l0.length c0, .slice Ao35 t153.length co35] ?_;(with_reducible refine (jQa.calls _ _ l0 _ _ t153 false _ ?side1 ?side2 ?side3 ?side4 A22.out).mono ?_);(case side1=>exact cq (Kd.jba HR0.out HB.out));(case side2=>exact HC0.out);(case side3=>exact cq (Kd.jh HO155.out).2.2);(case side4=>exact (Kd.jh HO155.out).2.1);rintro e w' ⟨rfl,⟨nd,rfl⟩⟩;refine ⟨_,rfl,?_⟩))
               go_ret
               exact ⟨Y0,bq⟩
             ·rw [if_neg c20] at H
              have c20b0:(((jc l0 (rd t148 x10_1)).f1) == 7)=false:=beq_eq_false_iff_ne.mpr c20
              have c20b1:(((jc l0 (rd t148 x10_1)).f1) != 7)=true:=bne_iff_ne.mpr c20
              have HC36:=am H
              clear H
              go_upto_if 75 with (fail)
              go_cut [75] (fun v75 wc=>∃ (kq:Nat) (x75_35:Bool),v75=.bool x75_35∧jq (jo.j4 kq l0 a3 t148 x10_1 (rd t148 x10_1) ((jc l0 (rd t148 x10_1)).f1) x75_35=some r)∧jq (kq≤kj15)∧jq (Kd.R (Kd.int .i64) 3 wc w.heap.size (fun _=>True) (.slice (some ad151) t148.length co12) t148)∧jq (Below w.heap.size w wc))
              case first =>
               have H:=HC36.out
               clear HC36
               by_cases c37:((jc l0 (rd t148 x10_1)).f1)=11
               ·rw [if_pos c37] at H
                have c37b0:(((jc l0 (rd t148 x10_1)).f1) == 11)=true:=beq_iff_eq.mpr c37
                have c37b1:(((jc l0 (rd t148 x10_1)).f1) != 11)=false:=bne_eq_false_iff_eq.mpr c37
                clear c37
                (first | rw [c37b0] |(simp only [jhb,jpb];rw [c37b0]) | skip)
                have H':=am H
                clear H
                go_wp2
                go_meet
                case rel=>exact ⟨_,((((jc l0 (rd t148 x10_1)).f1) == 11)),(sq),H',⟨by have:=HK1.out;have:=HJ10.out;have:=HJ15.out;first | omega | exact Nat.le_refl _⟩,⟨rq HO_9.out⟩,⟨bq⟩⟩
               ·rw [if_neg c37] at H
                have c37b0:(((jc l0 (rd t148 x10_1)).f1) == 11)=false:=beq_eq_false_iff_ne.mpr c37
                have c37b1:(((jc l0 (rd t148 x10_1)).f1) != 11)=true:=bne_iff_ne.mpr c37
                (first | rw [c37b0] |(simp only [jhb,jpb];rw [c37b0]) | skip)
                have H':=am H
                clear H
                go_wp2
                go_meet
                case rel=>exact ⟨_,((((jc l0 (rd t148 x10_1)).f1) == 12)),(sq),H',⟨by have:=HK1.out;have:=HJ10.out;have:=HJ15.out;first | omega | exact Nat.le_refl _⟩,⟨rq HO_9.out⟩,⟨bq⟩⟩
              case rest =>
               clear HC36
               try clear c1
               try clear p1
               try clear q1
               try clear hx1
               try clear c2
               try clear p2
               try clear c3
               try clear c6
               try clear p6
               try clear c7
               try clear c7b0
               try clear c8
               try clear c8b0
               try clear c9
               try clear c9b0
               try clear c10
               try clear c10b0
               try clear c13
               try clear c13b0
               try clear c13b1
               try clear c14
               try clear c15
               try clear p15
               try clear q15
               try clear hx15
               try clear c17
               try clear c17b0
               try clear c17b1
               try clear c18
               try clear c18b0
               try clear c18b1
               try clear c19
               try clear c20
               try clear c20b0
               try clear c20b1
               try clear c23
               try clear c26
               try clear c26b0
               try clear c27
               try clear c27b0
               try clear c28
               try clear c28b0
               try clear c31
               try clear c37
               try clear c37b0
               try clear c37b1
               try clear hx151_0
               try clear hx152_0
               try clear hx152_1
               try clear hx152_2
               try clear hx152_3
               try clear hx157_0
               try clear p1
               try clear p15
               try clear p151
               try clear p152
               try clear p157
               try clear p2
               try clear p6
               try clear q1
               try clear q15
               try clear q151
               try clear q152
               try clear q157
               obtain ⟨kq,x75_35,rfl,HA,HJ35,HO_9,HB⟩:=hcut
               cases kq with
               | zero=>exact absurd HA.out (by simp [jo.j4])
               | succ kj35 =>
                have H:=HA.out
                clear HA
                simp only [jo.j4] at H
                by_cases c38:x75_35=true
                ·subst c38
                 have H1:((jla.f kj35 l0 (rd t148 x10_1)).bind fun t160=>(if a3=true then ((jo.f kj35 l0 (wrap64 ((rd t148 x10_1)+1)) t160 true).bind fun t161=>(if t161=true then (jo.l0 kj35 l0 a3 t148 (wrap64 (x10_1+1))) else (some false))) else ((jo.f kj35 l0 (wrap64 ((rd t148 x10_1)+1)) t160 (((jc l0 (rd t148 x10_1)).f1) == 12)).bind fun t162=>(if t162=true then (jo.l0 kj35 l0 a3 t148 (wrap64 (x10_1+1))) else (some false)))))=some r:=by rw [if_pos rfl] at H;exact H
                 clear H
                 have H:=H1
                 clear H1
                 replace H:=bzS H
                 obtain ⟨t160,A390,H⟩:=H
                 replace H:(if a3=true then ((jo.f kj35 l0 (wrap64 ((rd t148 x10_1)+1)) t160 true).bind fun t161=>(if t161=true then (jo.l0 kj35 l0 a3 t148 (wrap64 (x10_1+1))) else (some false))) else ((jo.f kj35 l0 (wrap64 ((rd t148 x10_1)+1)) t160 (((jc l0 (rd t148 x10_1)).f1) == 12)).bind fun t162=>(if t162=true then (jo.l0 kj35 l0 a3 t148 (wrap64 (x10_1+1))) else (some false))))=some r:=H
                 have A39:=am A390
                 clear A390
                 by_cases c40:a3=true
                 ·subst c40
                  have H1:((jo.f kj35 l0 (wrap64 ((rd t148 x10_1)+1)) t160 true).bind fun t161=>(if t161=true then (jo.l0 kj35 l0 true t148 (wrap64 (x10_1+1))) else (some false)))=some r:=by rw [if_pos rfl] at H;exact H
                  clear H
                  have H:=H1
                  clear H1
                  replace H:=bzS H
                  obtain ⟨t161,A410,H⟩:=H
                  replace H:(if t161=true then (jo.l0 kj35 l0 true t148 (wrap64 (x10_1+1))) else (some false))=some r:=H
                  have A41:=am A410
                  clear A410
                  by_cases c42:t161=true
                  ·subst c42
                   have H1:(jo.l0 kj35 l0 true t148 (wrap64 (x10_1+1)))=some r:=by rw [if_pos rfl] at H;exact H
                   clear H
                   have H:=H1
                   clear H1
                   have H':=am H
                   clear H
                   go_wp2_with (first |((with_reducible refine jd (f:=89) rfl ?_);refine gL (some 83) Try.func89 #[.slice (some ad152) l0.length c0, .int .i64 (rd t148 x10_1)] ?_;(with_reducible refine (jla.calls kj35 _ _ l0 (rd t148 x10_1) t160 _ ?side1 ?side2 A39.out).mono ?_);(case side1=>exact cq (Kd.jba HR0.out HB.out));(case side2=>exact HC0.out);rintro e w' ⟨rfl,⟨nd,rfl⟩⟩;refine ⟨_,rfl,?_⟩) |((with_reducible refine jd (f:=68) rfl ?_);refine gL (some 89) Try.func68 #[.slice (some ad152) l0.length c0, .int .i64 (wrap64 ((rd t148 x10_1)+1)), .int .i64 t160, .bool true] ?_;(with_reducible refine (ih kj35 (by have:=HK1.out;have:=HJ10.out;have:=HJ15.out;have:=HJ35.out;omega) _ _ l0 (wrap64 ((rd t148 x10_1)+1)) t160 true true _ ?side1 ?side2 A41.out).mono ?_);(case side1=>exact cq (Kd.jba HR0.out (bq)));(case side2=>exact HC0.out);rintro e w43 ⟨rfl,hb⟩;refine ⟨_,rfl,?_⟩;replace HO_9:=am (Kd.jT (rq HO_9.out) hb);replace HB:=am (je (bq) hb);(try clear hb);(try clear hb2);(try clear hk);(try clear hi)))
                   go_roundg kj35
                   case measure=>have:=HK1.out;have:=HJ10.out;have:=HJ15.out;have:=HJ35.out;omega
                   case rel=>exact ⟨(wrap64 (x10_1+1)),(sq),H',⟨by have:=HK1.out;have:=HJ10.out;have:=HJ15.out;have:=HJ35.out;omega⟩,⟨rq HO_9.out⟩,⟨bq⟩⟩
                  ·replace c42:=Bool.eq_false_iff.mpr c42
                   subst c42
                   have H1:(some false)=some r:=by rw [if_neg (show ¬ (false=true) by decide)] at H;exact H
                   clear H
                   have H:=H1
                   clear H1
                   obtain rfl:=Option.some.inj H
                   go_wp2_with (first |((with_reducible refine jd (f:=89) rfl ?_);refine gL (some 83) Try.func89 #[.slice (some ad152) l0.length c0, .int .i64 (rd t148 x10_1)] ?_;(with_reducible refine (jla.calls kj35 _ _ l0 (rd t148 x10_1) t160 _ ?side1 ?side2 A39.out).mono ?_);(case side1=>exact cq (Kd.jba HR0.out HB.out));(case side2=>exact HC0.out);rintro e w' ⟨rfl,⟨nd,rfl⟩⟩;refine ⟨_,rfl,?_⟩) |((with_reducible refine jd (f:=68) rfl ?_);refine gL (some 89) Try.func68 #[.slice (some ad152) l0.length c0, .int .i64 (wrap64 ((rd t148 x10_1)+1)), .int .i64 t160, .bool true] ?_;(with_reducible refine (ih kj35 (by have:=HK1.out;have:=HJ10.out;have:=HJ15.out;have:=HJ35.out;omega) _ _ l0 (wrap64 ((rd t148 x10_1)+1)) t160 true false _ ?side1 ?side2 A41.out).mono ?_);(case side1=>exact cq (Kd.jba HR0.out (bq)));(case side2=>exact HC0.out);rintro e w44 ⟨rfl,hb⟩;refine ⟨_,rfl,?_⟩;replace HO_9:=am (Kd.jT (rq HO_9.out) hb);replace HB:=am (je (bq) hb);(try clear hb);(try clear hb2);(try clear hk);(try clear hi)))
                   go_ret
                   exact ⟨Y0,bq⟩
                 ·replace c40:=Bool.eq_false_iff.mpr c40
                  subst c40
                  have H1:((jo.f kj35 l0 (wrap64 ((rd t148 x10_1)+1)) t160 (((jc l0 (rd t148 x10_1)).f1) == 12)).bind fun t162=>(if t162=true then (jo.l0 kj35 l0 false t148 (wrap64 (x10_1+1))) else (some false)))=some r:=by rw [if_neg (show ¬ (false=true) by decide)] at H;exact H
                  clear H
                  have H:=H1
                  clear H1
                  replace H:=bzS H
                  obtain ⟨t162,A450,H⟩:=H
                  replace H:(if t162=true then (jo.l0 kj35 l0 false t148 (wrap64 (x10_1+1))) else (some false))=some r:=H
                  have A45:=am A450
                  clear A450
                  by_cases c46:t162=true
                  ·subst c46
                   have H1:(jo.l0 kj35 l0 false t148 (wrap64 (x10_1+1)))=some r:=by rw [if_pos rfl] at H;exact H
                   clear H
                   have H:=H1
                   clear H1
                   have H':=am H
                   clear H
                   go_wp2_with (first |((with_reducible refine jd (f:=89) rfl ?_);refine gL (some 83) Try.func89 #[.slice (some ad152) l0.length c0, .int .i64 (rd t148 x10_1)] ?_;(with_reducible refine (jla.calls kj35 _ _ l0 (rd t148 x10_1) t160 _ ?side1 ?side2 A39.out).mono ?_);(case side1=>exact cq (Kd.jba HR0.out HB.out));(case side2=>exact HC0.out);rintro e w' ⟨rfl,⟨nd,rfl⟩⟩;refine ⟨_,rfl,?_⟩) |((with_reducible refine jd (f:=68) rfl ?_);refine gL (some 89) Try.func68 #[.slice (some ad152) l0.length c0, .int .i64 (wrap64 ((rd t148 x10_1)+1)), .int .i64 t160, .bool (((jc l0 (rd t148 x10_1)).f1) == 12)] ?_;(with_reducible refine (ih kj35 (by have:=HK1.out;have:=HJ10.out;have:=HJ15.out;have:=HJ35.out;omega) _ _ l0 (wrap64 ((rd t148 x10_1)+1)) t160 (((jc l0 (rd t148 x10_1)).f1) == 12) true _ ?side1 ?side2 A45.out).mono ?_);(case side1=>exact cq (Kd.jba HR0.out (bq)));(case side2=>exact HC0.out);rintro e w47 ⟨rfl,hb⟩;refine ⟨_,rfl,?_⟩;replace HO_9:=am (Kd.jT (rq HO_9.out) hb);replace HB:=am (je (bq) hb);(try clear hb);(try clear hb2);(try clear hk);(try clear hi)))
                   go_roundg kj35
                   case measure=>have:=HK1.out;have:=HJ10.out;have:=HJ15.out;have:=HJ35.out;omega
                   case rel=>exact ⟨(wrap64 (x10_1+1)),(sq),H',⟨by have:=HK1.out;have:=HJ10.out;have:=HJ15.out;have:=HJ35.out;omega⟩,⟨rq HO_9.out⟩,⟨bq⟩⟩
                  ·replace c46:=Bool.eq_false_iff.mpr c46
                   subst c46
                   have H1:(some false)=some r:=by rw [if_neg (show ¬ (false=true) by decide)] at H;exact H
                   clear H
                   have H:=H1
                   clear H1
                   obtain rfl:=Option.some.inj H
                   go_wp2_with (first |((with_reducible refine jd (f:=89) rfl ?_);refine gL (some 83) Try.func89 #[.slice (some ad152) l0.length c0, .int .i64 (rd t148 x10_1)] ?_;(with_reducible refine (jla.calls kj35 _ _ l0 (rd t148 x10_1) t160 _ ?side1 ?side2 A39.out).mono ?_);(case side1=>exact cq (Kd.jba HR0.out HB.out));(case side2=>exact HC0.out);rintro e w' ⟨rfl,⟨nd,rfl⟩⟩;refine ⟨_,rfl,?_⟩) |((with_reducible refine jd (f:=68) rfl ?_);refine gL (some 89) Try.func68 #[.slice (some ad152) l0.length c0, .int .i64 (wrap64 ((rd t148 x10_1)+1)), .int .i64 t160, .bool (((jc l0 (rd t148 x10_1)).f1) == 12)] ?_;(with_reducible refine (ih kj35 (by have:=HK1.out;have:=HJ10.out;have:=HJ15.out;have:=HJ35.out;omega) _ _ l0 (wrap64 ((rd t148 x10_1)+1)) t160 (((jc l0 (rd t148 x10_1)).f1) == 12) false _ ?side1 ?side2 A45.out).mono ?_);(case side1=>exact cq (Kd.jba HR0.out (bq)));(case side2=>exact HC0.out);rintro e w48 ⟨rfl,hb⟩;refine ⟨_,rfl,?_⟩;replace HO_9:=am (Kd.jT (rq HO_9.out) hb);replace HB:=am (je (bq) hb);(try clear hb);(try clear hb2);(try clear hk);(try clear hi)))
                   go_ret
                   exact ⟨Y0,bq⟩
                ·replace c38:=Bool.eq_false_iff.mpr c38
                 subst c38
                 have H1:(jo.l0 kj35 l0 a3 t148 (wrap64 (x10_1+1)))=some r:=by rw [if_neg (show ¬ (false=true) by decide)] at H;exact H
                 clear H
                 have H:=H1
                 clear H1
                 have H':=am H
                 clear H
                 go_wp2
                 go_roundg kj35
                 case measure=>have:=HK1.out;have:=HJ10.out;have:=HJ15.out;have:=HJ35.out;omega
                 case rel=>exact ⟨(wrap64 (x10_1+1)),(sq),H',⟨by have:=HK1.out;have:=HJ10.out;have:=HJ15.out;have:=HJ35.out;omega⟩,⟨rq HO_9.out⟩,⟨bq⟩⟩
      ·rw [if_neg c10] at H
       exact absurd H (by simp)
     ·rw [if_neg c9] at H
      exact absurd H (by simp)
    ·rw [if_neg c8] at H
     exact absurd H (by simp)
   ·rw [if_neg c7] at H
    have c7b0:decide (x10_1<(t148.length:Int))=false:=dzF c7
    clear c7
    obtain rfl:=Option.some.inj H
    obtain ⟨Ao49,co49,eo49⟩:=Kd.jU HO_9.out
    subst eo49
    go_wp2
    go_ret
    exact ⟨Y0,bq⟩
def inB (a lo hi : Int) : Bool := decide (lo ≤ a) && decide (a ≤ hi)
theorem jPb (a lo hi : Int) : jL.f a lo hi = some (inB a lo hi) := by
 unfold jL.f inB
 by_cases h:a≥lo
 ·rw [if_pos h];simp [show lo≤a from h]
 ·rw [if_neg h];simp [show ¬ lo≤a from h]
theorem jzc (a b c d : Int) : jYa.f a b c d = some (inB b 7 12) := by
 unfold jYa.f
 rw [jPb];rfl
def VF (W : World) (B1 BL BT : Nat) (a x : S52) (tv : Value) : Prop :=
 W.heap[B1]?=some (.cells #[.int .i64 a.f0, .int .i64 a.f1, .int .i64 a.f2, .int .i64 a.f3] 52 (0,0))∧W.heap[BL]?=some (.cells #[.int .i64 x.f0, .int .i64 x.f1, .int .i64 x.f2, .int .i64 x.f3] 52 (0,0))∧W.cell? ⟨BT,0,none⟩=some tv
theorem VF.below {W W' : World} {B1 BL BT : Nat} {a x : S52} {tv : Value} (h : VF W B1 BL BT a x tv) (hb : Below W.heap.size W W') : VF W' B1 BL BT a x tv :=
 ⟨(hb.block _ (jDb h.1)).trans h.1,(hb.block _ (jDb h.2.1)).trans h.2.1,jwa hb h.2.2⟩
theorem VF.cells {W : World} {B1 BL BT : Nat} {a x : S52} {tv : Value} (h : VF W B1 BL BT a x tv) :
  W.cell? ⟨B1,0,none⟩=some (.int .i64 a.f0)∧W.cell? ⟨B1,1,none⟩=some (.int .i64 a.f1)∧W.cell? ⟨B1,2,none⟩=some (.int .i64 a.f2)∧W.cell? ⟨B1,3,none⟩=some (.int .i64 a.f3) ∧
  W.cell? ⟨BL,0,none⟩=some (.int .i64 x.f0)∧W.cell? ⟨BL,1,none⟩=some (.int .i64 x.f1)∧W.cell? ⟨BL,2,none⟩=some (.int .i64 x.f2)∧W.cell? ⟨BL,3,none⟩=some (.int .i64 x.f3)∧W.cell? ⟨BT,0,none⟩=some tv :=
 ⟨(jK h.1 0).trans rfl,(jK h.1 1).trans rfl,(jK h.1 2).trans rfl,(jK h.1 3).trans rfl,(jK h.2.1 0).trans rfl,(jK h.2.1 1).trans rfl,(jK h.2.1 2).trans rfl,(jK h.2.1 3).trans rfl,h.2.2⟩
theorem VF.frozen {W : World} {B1 BL BT : Nat} {a x : S52} {tv : Value} (h : VF W B1 BL BT a x tv) : W.frozen? ⟨B1, 0, none⟩ = false ∧ W.frozen? ⟨B1, 1, none⟩ = false ∧ W.frozen? ⟨B1, 2, none⟩ = false ∧ W.frozen? ⟨B1, 3, none⟩ = false :=
 ⟨ja h.1 0,ja h.1 1,ja h.1 2,ja h.1 3⟩
theorem four_stored {W : World} {B T : Nat} {a b c d a' b' c' d' : Value} (h : W.heap[B]? = some (.cells #[a, b, c, d] T (0, 0))) :
  ((((W.setCell ⟨B,0,none⟩ a').setCell ⟨B,1,none⟩ b').setCell ⟨B,2,none⟩ c').setCell ⟨B,3,none⟩ d').heap[B]?=some (.cells #[a',b',c',d'] T (0,0)):=by
 have h0:=blk_set h 0 a'
 have h1:=blk_set h0 1 b'
 have h2:=blk_set h1 2 c'
 have h3:=blk_set h2 3 d'
 simpa using h3
theorem four_below {W w : World} {base B : Nat} {a' b' c' d' : Value} (h : Below base w W) (hB : base ≤ B) :
  Below base w ((((W.setCell ⟨B,0,none⟩ a').setCell ⟨B,1,none⟩ b').setCell ⟨B,2,none⟩ c').setCell ⟨B,3,none⟩ d') :=
 (((h.setCell (p:=⟨B,0,none⟩) hB _).setCell (p:=⟨B,1,none⟩) hB _).setCell (p:=⟨B,2,none⟩) hB _).setCell (p:=⟨B,3,none⟩) hB _
theorem four_far {W : World} {B C : Nat} {a' b' c' d' v : Value} (h : W.cell? ⟨C, 0, none⟩ = some v) (hne : B ≠ C) :
  ((((W.setCell ⟨B,0,none⟩ a').setCell ⟨B,1,none⟩ b').setCell ⟨B,2,none⟩ c').setCell ⟨B,3,none⟩ d').cell? ⟨C,0,none⟩=some v:=by
 have e:∀ j,(⟨B,j,none⟩:Addr)≠⟨C,0,none⟩:=fun j hj=>hne (by injection hj)
 rw [World.cell?_setCell_other (h:=e 3),World.cell?_setCell_other (h:=e 2),World.cell?_setCell_other (h:=e 1),World.cell?_setCell_other (h:=e 0)]
 exact h
def jr.bad (x last : S52) : Bool := !inB x.f0 0 5 || (inB last.f1 7 12 && decide (x.f0 ≠ last.f0 + 1)) || (!inB last.f1 7 12 && decide (last.f0 < x.f0))
def jr.go (k : Nat) (t : List S87) : List S52 → S52 → Option (Option S52)
 | [],last=>some (some last)
 | x :: xs,last=>(jza.f k x.f0 x.f1 x.f2 x.f3 t).bind fun v=>if v=false then some none else if jr.bad x last then some none else jr.go k t xs x
def jr.f (k : Nat) (l0_0 : List S87) (l1 : List S52) : Option Bool := (jF.f k l0_0).bind fun v =>
 if v=false then some false else if 24<l1.length then some false else
 (jr.go k l0_0 l1 ⟨-1,7,0,0⟩).bind fun q=>match q with
 | none=>some false
 | some last=>if l1.length=0 then jo.f k l1 0 (l1.length:Int) false else if inB last.f1 7 12 then some false else jo.f k l1 0 (l1.length:Int) false
theorem jr.step {k : Nat} {t : List S87} {p : List S52} {n : Nat} {last : S52} {q : Option S52} (hn : n < p.length) (h : jr.go k t (p.drop n) last = some q) :
  ∃ v,jza.f k p[n].f0 p[n].f1 p[n].f2 p[n].f3 t=some v∧(if v=false then some none else if jr.bad p[n] last then some none else jr.go k t (p.drop (n+1)) p[n])=some q:=by
 rw [List.drop_eq_getElem_cons hn] at h
 exact bzS h
set_option maxHeartbeats 8000000 in
set_option maxRecDepth 100000 in
theorem jr.calls (k : Nat) (A0_0 : Option Addr) (c0_0 : Nat) (l0_0 : List S87) (A1 : Option Addr) (c1 : Nat) (l1 : List S52) (r : Bool) (w : World) (hr0_0 : Kd.C k87 w A0_0 l0_0.length l0_0) (hc0_0 : l0_0.length ≤ c0_0) (hr1 : Kd.C k52 w A1 l1.length l1) (hc1 : l1.length ≤ c1) (h : jr.f k l0_0 l1 = some r) :
  Calls Try.prog 29 #[.agg #[.slice A0_0 l0_0.length c0_0], .slice A1 l1.length c1] w fun e w'=>e=.returned (.bool r)∧Below w.heap.size w w':=by
 have hu32:=Try.underlying32
 have hu52:=Try.underlying52
 have hm:l1.length≤9223372036854775807:=Kd.C_max hr1
 obtain ⟨v,hv,h⟩:=bzS h
 have HV:=am (fun W (hb:Below w.heap.size w W)=>jF.calls k A0_0 c0_0 l0_0 v W (Kd.jba hr0_0 hb) hc0_0 hv)
 have HR0:=am hr0_0
 have HR1:=am hr1
 clear hv hr0_0 hr1
 cases v with
 | false =>
  obtain rfl:false=r:=by simpa using h
  clear h
  go_enter Try.func29,Try.ntmps29
  go_wp2_with (go_at_call 64;refine (HV.out _ ((Below.refl _ _).alloc (Nat.le_refl _) _)).mono ?_;rintro e w' ⟨rfl,hb2⟩)
  go_ret
  exact ⟨rfl,((Below.refl _ _).alloc (Nat.le_refl _) _).trans (hb2.mono (by simp))⟩
 | true =>
  simp only [Bool.true_eq_false,if_false] at h
  by_cases h24:24<l1.length
  ·rw [if_pos h24] at h
   obtain rfl:false=r:=by simpa using h
   have h24b:decide (24<l1.length)=true:=dzT h24
   clear h
   go_enter Try.func29,Try.ntmps29
   go_wp2_with (go_at_call 64;refine (HV.out _ ((Below.refl _ _).alloc (Nat.le_refl _) _)).mono ?_;rintro e w' ⟨rfl,hb2⟩)
   go_ret
   exact ⟨rfl,((Below.refl _ _).alloc (Nat.le_refl _) _).trans (hb2.mono (by simp))⟩
  ·rw [if_neg h24] at h
   have h24b:decide (24<l1.length)=false:=dzF h24
   obtain ⟨q,hq,h⟩:=bzS h
   have H0:=am hq
   have HZ:=am h
   clear h hq
   go_enter Try.func29,Try.ntmps29
   go_wp2_with (go_at_call 64;refine (HV.out _ ((Below.refl _ _).alloc (Nat.le_refl _) _)).mono ?_;rintro e w2 ⟨rfl,hb2⟩;have HB2:=am (((Below.refl w.heap.size w).alloc (Nat.le_refl _) (.cells #[.slice A0_0 l0_0.length c0_0] 32)).trans (hb2.mono (by simp)));have hs2:w.heap.size<w2.heap.size:=Nat.lt_of_lt_of_le (by simp) hb2.size;have ht2:=jwa hb2 (show (w.alloc (.cells #[.slice A0_0 l0_0.length c0_0] 32)).cell? ⟨w.heap.size,0,none⟩=some (.slice A0_0 l0_0.length c0_0) by simp);clear hb2)
   obtain ⟨B1,hB1⟩:∃ B1,B1=w2.heap.size:=⟨_,rfl⟩
   have HBK:=am (show (w2.alloc (.cells #[.int .i64 (-1), .int .i64 7, .int .i64 0, .int .i64 0] 52)).heap[B1]?=some (.cells #[.int .i64 (-1), .int .i64 7, .int .i64 0, .int .i64 0] 52 (0,0)) by rw [hB1];exact heap_alloc_new w2 _)
   have hBl:=am (HB2.out.alloc (Nat.le_of_lt hs2) (.cells #[.int .i64 (-1), .int .i64 7, .int .i64 0, .int .i64 0] 52))
   have hT:=am (show (w2.alloc (.cells #[.int .i64 (-1), .int .i64 7, .int .i64 0, .int .i64 0] 52)).cell? ⟨w.heap.size,0,none⟩=some (.slice A0_0 l0_0.length c0_0) by simp [World.cell?_alloc_old,Nat.ne_of_lt hs2,ht2])
   rw [← hB1]
   have hlt1:w.heap.size<B1:=by omega
   clear hB1
   generalize w2.alloc (.cells #[.int .i64 (-1), .int .i64 7, .int .i64 0, .int .i64 0] 52)=w3 at HBK hBl hT ⊢
   clear ht2 hs2 HB2 HV
   go_loopw [19] (fun i19 wr=>∃ (n:Nat) (last:S52),i19=.int .i64 n∧n≤l1.length∧-1≤last.f0∧last.f0≤5∧jq (jr.go k l0_0 (l1.drop n) last=some q)∧jq (wr.heap[B1]?=some (.cells #[.int .i64 last.f0, .int .i64 last.f1, .int .i64 last.f2, .int .i64 last.f3] 52 (0,0)))∧jq (wr.cell? ⟨w.heap.size,0,none⟩=some (.slice A0_0 l0_0.length c0_0))∧jq (Below w.heap.size w wr)) (fun i19 _=>l1.length - (intOf i19).toNat)
   case atStart=>exact ⟨0,⟨-1,7,0,0⟩,rfl,Nat.zero_le _,by simp,by simp,H0,HBK,hT,hBl⟩
   case round =>
    clear H0 HBK hT hBl
    obtain ⟨n,last,rfl,hn,hlo,hhi,HA,HBK,HT,HB⟩:=hrel
    have ht2:=HT.out
    have g0:wr.cell? ⟨B1,0,none⟩=some (.int .i64 last.f0):=(jK HBK.out 0).trans rfl
    have g1:wr.cell? ⟨B1,1,none⟩=some (.int .i64 last.f1):=(jK HBK.out 1).trans rfl
    have g2:wr.cell? ⟨B1,2,none⟩=some (.int .i64 last.f2):=(jK HBK.out 2).trans rfl
    have g3:wr.cell? ⟨B1,3,none⟩=some (.int .i64 last.f3):=(jK HBK.out 3).trans rfl
    have hBw:B1<wr.heap.size:=jDb HBK.out
    have hne:B1≠wr.heap.size:=by omega
    have hne2:w.heap.size≠wr.heap.size:=by omega
    have hTw:w.heap.size<wr.heap.size:=by omega
    by_cases hlt:n<l1.length
    ·obtain ⟨v,hv,hs⟩:=jr.step hlt HA.out
     clear HA
     obtain ⟨ad,rfl,hx0,hx1,hx2,hx3⟩:=jta HR1.out (n:Int) (by omega) (by omega)
     have hrd:jc l1 (n:Int)=l1[n]:=by simp [jc,List.getD_eq_getElem?_getD,hlt]
     rw [hrd,Int.toNat_natCast] at hx0 hx1 hx2 hx3
     clear hrd
     generalize l1[n]=x at hv hs hx0 hx1 hx2 hx3
     have hb:=HB.out
     replace hx0:=jwa hb hx0
     replace hx1:=jwa hb hx1
     replace hx2:=jwa hb hx2
     replace hx3:=jwa hb hx3
     clear hb
     have HG:=am (fun W (hb:Below w.heap.size w W)=>jza.calls k x.f0 x.f1 x.f2 x.f3 A0_0 c0_0 l0_0 v W (Kd.jba HR0.out hb) hc0_0 hv)
     clear hv
     cases v with
     | false =>
      obtain rfl:none=q:=by simpa using hs
      obtain rfl:false=r:=by simpa using HZ.out
      clear hs HZ
      go_wp2_with (go_at_call 65;refine (HG.out _ (HB.out.alloc HB.out.size _)).mono ?_;rintro e w4 ⟨rfl,hb4⟩)
      go_ret
      exact ⟨rfl,jha (HB.out.alloc HB.out.size _) (by simp;have:=HB.out.size;omega) hb4⟩
     | true =>
      simp only [Bool.true_eq_false,if_false] at hs
      have V0:=am (show VF (wr.alloc (.cells #[.int .i64 x.f0, .int .i64 x.f1, .int .i64 x.f2, .int .i64 x.f3] 52)) B1 wr.heap.size w.heap.size last x (.slice A0_0 l0_0.length c0_0) from ⟨(heap_alloc_old wr _ hBw).trans HBK.out,heap_alloc_new wr _,by rw [World.cell?_alloc_old _ _ _ hne2];exact HT.out⟩)
      have HO:=am (fun W=>jYa.calls last.f0 last.f1 last.f2 last.f3 _ W (jzc _ _ _ _))
      clear g0 g1 g2 g3
      have tok1:True:=trivial
      have HS:=am hs
      clear hs
      cases h5:inB x.f0 0 5 with
      | false =>
       have H5:=am h5
       obtain rfl:none=q:=by simpa [jr.bad,h5] using HS.out
       obtain rfl:false=r:=by simpa using HZ.out
       clear HS HZ h5
       go_wp2_with (first |(go_at_call 65;refine (HG.out _ (HB.out.alloc HB.out.size _)).mono ?_;rintro e w4 ⟨rfl,hb4⟩;have V4:=am (VF.below V0.out hb4);have HB4:=am (jha (HB.out.alloc HB.out.size _) (by simp;have:=HB.out.size;omega) hb4);clear hb4;obtain ⟨g0,g1,g2,g3,e0,e1,e2,e3,ht4⟩:=VF.cells V4.out) |(go_at_call 66;refine (jL.calls _ _ _ _ _ (jPb _ _ _)).mono ?_;rintro e w5 ⟨rfl,⟨nd,rfl⟩⟩;rw [H5.out]))
       go_ret
       exact ⟨rfl,jw HB4.out _⟩
      | true =>
       have H5:=am h5
       have hx5:0≤x.f0∧x.f0≤5:=by simpa [inB] using h5
       cases ho:inB last.f1 7 12 with
       | true =>
        rw [ho] at HO
        by_cases hd:x.f0=last.f0+1
        ·have hb1:(x.f0 != last.f0+1)=false:=by simpa using hd
         have hbad:jr.bad x last=false:=by unfold jr.bad;rw [h5,ho];simp [hd]
         have HN:=am (by have:=HS.out;rw [hbad] at this;simpa using this:jr.go k l0_0 (l1.drop (n+1)) x=some q)
         clear hbad
         clear HS hd h5 ho
         go_wp2_with (first |(go_at_call 65;refine (HG.out _ (HB.out.alloc HB.out.size _)).mono ?_;rintro e w4 ⟨rfl,hb4⟩;have V4:=am (VF.below V0.out hb4);have HB4:=am (jha (HB.out.alloc HB.out.size _) (by simp;have:=HB.out.size;omega) hb4);clear hb4;obtain ⟨g0,g1,g2,g3,e0,e1,e2,e3,ht4⟩:=VF.cells V4.out) |(go_at_call 66;refine (jL.calls _ _ _ _ _ (jPb _ _ _)).mono ?_;rintro e w5 ⟨rfl,⟨nd,rfl⟩⟩;rw [H5.out]) |(go_at_call 67;have tk1:=tok1;clear tok1;refine (HO.out _).mono ?_;rintro e w6 ⟨rfl,hb6⟩;have V6:=am (VF.below (W:=World.drewN _ _) V4.out hb6);have HB6:=am (jha (w1:=World.drewN _ _) (show Below w.heap.size w (World.drewN _ _) from ⟨HB4.out.os,HB4.out.tape,HB4.out.output,HB4.out.size,HB4.out.block⟩) HB4.out.size hb6);clear hb6 g0 g1 g2 g3 e0 e1 e2 e3 ht4;obtain ⟨g0,g1,g2,g3,e0,e1,e2,e3,ht4⟩:=VF.cells V6.out) |(go_at_call 67;refine (HO.out _).mono ?_;rintro e w7 ⟨rfl,hb7⟩;have V7:=am (VF.below V6.out hb7);have HB7:=am (jha HB6.out HB6.out.size hb7);clear hb7 g0 g1 g2 g3 e0 e1 e2 e3 ht4;obtain ⟨g0,g1,g2,g3,e0,e1,e2,e3,ht4⟩:=VF.cells V7.out;obtain ⟨f0,f1,f2,f3⟩:=VF.frozen V7.out))
         go_roundw
         case rel=>exact ⟨n+1,x,by go_num,hlt,by omega,by omega,HN,⟨four_stored V7.out.1⟩,⟨four_far V7.out.2.2 (by omega)⟩,⟨four_below HB7.out (by omega)⟩⟩
         case measure=>simp [intOf];omega
        ·have hb1:(x.f0 != last.f0+1)=true:=by simpa using hd
         obtain rfl:none=q:=by simpa [jr.bad,h5,ho,hd] using HS.out
         obtain rfl:false=r:=by simpa using HZ.out
         clear HS HZ hd h5 ho
         go_wp2_with (first |(go_at_call 65;refine (HG.out _ (HB.out.alloc HB.out.size _)).mono ?_;rintro e w4 ⟨rfl,hb4⟩;have V4:=am (VF.below V0.out hb4);have HB4:=am (jha (HB.out.alloc HB.out.size _) (by simp;have:=HB.out.size;omega) hb4);clear hb4;obtain ⟨g0,g1,g2,g3,e0,e1,e2,e3,ht4⟩:=VF.cells V4.out) |(go_at_call 66;refine (jL.calls _ _ _ _ _ (jPb _ _ _)).mono ?_;rintro e w5 ⟨rfl,⟨nd,rfl⟩⟩;rw [H5.out]) |(go_at_call 67;have tk1:=tok1;clear tok1;refine (HO.out _).mono ?_;rintro e w6 ⟨rfl,hb6⟩;have V6:=am (VF.below (W:=World.drewN _ _) V4.out hb6);have HB6:=am (jha (w1:=World.drewN _ _) (show Below w.heap.size w (World.drewN _ _) from ⟨HB4.out.os,HB4.out.tape,HB4.out.output,HB4.out.size,HB4.out.block⟩) HB4.out.size hb6);clear hb6 g0 g1 g2 g3 e0 e1 e2 e3 ht4;obtain ⟨g0,g1,g2,g3,e0,e1,e2,e3,ht4⟩:=VF.cells V6.out))
         go_ret
         exact ⟨rfl,HB6.out⟩
       | false =>
        rw [ho] at HO
        by_cases hd:last.f0<x.f0
        ·have hb1:decide (last.f0<x.f0)=true:=dzT hd
         have hbad:jr.bad x last=true:=by unfold jr.bad;rw [h5,ho];simp [hd]
         obtain rfl:none=q:=by have:=HS.out;rw [hbad] at this;simpa using this
         obtain rfl:false=r:=by simpa using HZ.out
         clear HS HZ hd h5 ho hbad
         go_wp2_with (first |(go_at_call 65;refine (HG.out _ (HB.out.alloc HB.out.size _)).mono ?_;rintro e w4 ⟨rfl,hb4⟩;have V4:=am (VF.below V0.out hb4);have HB4:=am (jha (HB.out.alloc HB.out.size _) (by simp;have:=HB.out.size;omega) hb4);clear hb4;obtain ⟨g0,g1,g2,g3,e0,e1,e2,e3,ht4⟩:=VF.cells V4.out) |(go_at_call 66;refine (jL.calls _ _ _ _ _ (jPb _ _ _)).mono ?_;rintro e w5 ⟨rfl,⟨nd,rfl⟩⟩;rw [H5.out]) |(go_at_call 67;have tk1:=tok1;clear tok1;refine (HO.out _).mono ?_;rintro e w6 ⟨rfl,hb6⟩;have V6:=am (VF.below (W:=World.drewN _ _) V4.out hb6);have HB6:=am (jha (w1:=World.drewN _ _) (show Below w.heap.size w (World.drewN _ _) from ⟨HB4.out.os,HB4.out.tape,HB4.out.output,HB4.out.size,HB4.out.block⟩) HB4.out.size hb6);clear hb6 g0 g1 g2 g3 e0 e1 e2 e3 ht4;obtain ⟨g0,g1,g2,g3,e0,e1,e2,e3,ht4⟩:=VF.cells V6.out) |(go_at_call 67;refine (HO.out _).mono ?_;rintro e w7 ⟨rfl,hb7⟩;have V7:=am (VF.below V6.out hb7);have HB7:=am (jha HB6.out HB6.out.size hb7);clear hb7 g0 g1 g2 g3 e0 e1 e2 e3 ht4;obtain ⟨g0,g1,g2,g3,e0,e1,e2,e3,ht4⟩:=VF.cells V7.out;obtain ⟨f0,f1,f2,f3⟩:=VF.frozen V7.out))
         go_ret
         exact ⟨rfl,HB7.out⟩
        ·have hb1:decide (last.f0<x.f0)=false:=dzF hd
         have hbad:jr.bad x last=false:=by unfold jr.bad;rw [h5,ho];simp [hd]
         have HN:=am (by have:=HS.out;rw [hbad] at this;simpa using this:jr.go k l0_0 (l1.drop (n+1)) x=some q)
         clear hbad HS hd h5 ho
         go_wp2_with (first |(go_at_call 65;refine (HG.out _ (HB.out.alloc HB.out.size _)).mono ?_;rintro e w4 ⟨rfl,hb4⟩;have V4:=am (VF.below V0.out hb4);have HB4:=am (jha (HB.out.alloc HB.out.size _) (by simp;have:=HB.out.size;omega) hb4);clear hb4;obtain ⟨g0,g1,g2,g3,e0,e1,e2,e3,ht4⟩:=VF.cells V4.out) |(go_at_call 66;refine (jL.calls _ _ _ _ _ (jPb _ _ _)).mono ?_;rintro e w5 ⟨rfl,⟨nd,rfl⟩⟩;rw [H5.out]) |(go_at_call 67;have tk1:=tok1;clear tok1;refine (HO.out _).mono ?_;rintro e w6 ⟨rfl,hb6⟩;have V6:=am (VF.below (W:=World.drewN _ _) V4.out hb6);have HB6:=am (jha (w1:=World.drewN _ _) (show Below w.heap.size w (World.drewN _ _) from ⟨HB4.out.os,HB4.out.tape,HB4.out.output,HB4.out.size,HB4.out.block⟩) HB4.out.size hb6);clear hb6 g0 g1 g2 g3 e0 e1 e2 e3 ht4;obtain ⟨g0,g1,g2,g3,e0,e1,e2,e3,ht4⟩:=VF.cells V6.out) |(go_at_call 67;refine (HO.out _).mono ?_;rintro e w7 ⟨rfl,hb7⟩;have V7:=am (VF.below V6.out hb7);have HB7:=am (jha HB6.out HB6.out.size hb7);clear hb7 g0 g1 g2 g3 e0 e1 e2 e3 ht4;obtain ⟨g0,g1,g2,g3,e0,e1,e2,e3,ht4⟩:=VF.cells V7.out;obtain ⟨f0,f1,f2,f3⟩:=VF.frozen V7.out))
         go_roundw
         case rel=>exact ⟨n+1,x,by go_num,hlt,by omega,by omega,HN,⟨four_stored V7.out.1⟩,⟨four_far V7.out.2.2 (by omega)⟩,⟨four_below HB7.out (by omega)⟩⟩
         case measure=>simp [intOf];omega
    ·have hgo:=HA.out
     rw [List.drop_eq_nil_of_le (by omega)] at hgo
     obtain rfl:some last=q:=by simpa [jr.go] using hgo
     clear hgo HA
     have HY:=am HZ.out
     clear HZ
     by_cases h0:l1.length=0
     ·have hy:=HY.out
      simp only [if_pos h0] at hy
      have HQ:=am (fun W (hb:Below w.heap.size w W)=>jo.calls k A1 c1 l1 0 (l1.length:Int) false r W (Kd.jba HR1.out hb) hc1 hy)
      have HBX:=HB.out
      clear hy HY
      have hz1:((l1.length:Int) == 0)=true:=by simp [h0]
      have hz2:(l1.length == 0)=true:=by simp [h0]
      clear h0
      go_wp2_with (first |(go_at_call 68;refine (HQ.out _ HBX).mono ?_;rintro e w9 ⟨rfl,hb9⟩;have HB9:=am (jha HBX HBX.size hb9)))
      go_ret
      exact ⟨rfl,HB9.out⟩
     ·have hz1:((l1.length:Int) == 0)=false:=by simpa using h0
      have hz2:(l1.length == 0)=false:=by simpa using h0
      have HO:=am (fun W=>jYa.calls last.f0 last.f1 last.f2 last.f3 _ W (jzc _ _ _ _))
      have hy:=HY.out
      simp only [if_neg h0] at hy
      clear HY
      cases ho:inB last.f1 7 12 with
      | true =>
       rw [ho] at HO hy
       obtain rfl:false=r:=by simpa using hy
       clear hy ho h0
       go_wp2_with (first |(go_at_call 67;refine (HO.out _).mono ?_;rintro e w6 ⟨rfl,hb6⟩;have HBX:=jha HB.out HB.out.size hb6;clear hb6))
       go_ret
       exact ⟨rfl,HBX⟩
      | false =>
       rw [ho] at HO hy
       simp only [Bool.false_eq_true,if_false] at hy
       have HQ:=am (fun W (hb:Below w.heap.size w W)=>jo.calls k A1 c1 l1 0 (l1.length:Int) false r W (Kd.jba HR1.out hb) hc1 hy)
       clear hy ho h0
       go_wp2_with (first |(go_at_call 67;refine (HO.out _).mono ?_;rintro e w6 ⟨rfl,hb6⟩;have HBX:=jha HB.out HB.out.size hb6;clear hb6) |(go_at_call 68;refine (HQ.out _ HBX).mono ?_;rintro e w9 ⟨rfl,hb9⟩;have HB9:=am (jha HBX HBX.size hb9)))
       go_ret
       exact ⟨rfl,HB9.out⟩
def jLa.l0 : Nat → List Int → Int → Int → Option (Bool)
 | 0,_,_,_=>none
 | k+1,x0,x1,x5=>if x5<(x0.length:Int) then (if 0≤x5 then (if (rd x0 x5)=x1 then (some true) else (jLa.l0 k x0 x1 (wrap64 (x5+1)))) else (none)) else (some false)
def jLa.f (k : Nat) (l0 : List Int) (a1 : Int) : Option (Bool) := jLa.l0 k l0 a1 0
set_option maxHeartbeats 8000000 in
set_option maxRecDepth 100000 in
theorem jLa.calls (k : Nat) (A0 : Option Addr) (c0 : Nat) (l0 : List Int) (a1 : Int) (r : Bool) (w : World) (hr0 : Kd.C (Kd.int .i64) w A0 l0.length l0) (hc0 : l0.length ≤ c0) (h : jLa.f k l0 a1 = some r) :
  Calls Try.prog 33 #[.slice A0 l0.length c0, .int .i64 a1] w fun e w'=>e=.returned (.bool r)∧jjb w w':=by
 have HR0:=am hr0
 have HC0:=am hc0
 clear hr0 hc0
 have H:(jLa.l0 k l0 a1 0)=some r:=h
 clear h
 have H':=am H
 clear H
 go_enter Try.func33,Try.ntmps33
 go_wp2
 go_loopg [5] k (fun kq v5 w'=>∃ (x5_1:Int),v5=.int .i64 x5_1∧jq (jLa.l0 kq l0 a1 x5_1=some r)∧jq (kq≤k)∧jjb w w')
 case atStart=>exact ⟨(0),(sq),H',⟨Nat.le_refl _⟩,Y5⟩
 case round =>
  clear H'
  try clear p2
  obtain ⟨x5_1,rfl,HA,HK1,⟨m1,rfl⟩⟩:=hrel
  cases gk with
  | zero=>exact absurd HA.out (by simp [jLa.l0])
  | succ k1 =>
   have H:=HA.out
   clear HA
   simp only [jLa.l0] at H
   by_cases c3:x5_1<(l0.length:Int)
   ·rw [if_pos c3] at H
    have c3b0:decide (x5_1<(l0.length:Int))=true:=dzT c3
    clear c3
    by_cases c4:0≤x5_1
    ·rw [if_pos c4] at H
     have c4b0:decide (0≤x5_1)=true:=dzT c4
     clear c4
     by_cases c5:(rd l0 x5_1)=a1
     ·rw [if_pos c5] at H
      have c5b0:((rd l0 x5_1) == a1)=true:=beq_iff_eq.mpr c5
      have c5b1:((rd l0 x5_1) != a1)=false:=bne_eq_false_iff_eq.mpr c5
      clear c5
      obtain rfl:=Option.some.inj H
      have p163:0≤(x5_1:Int):=ozD (uq)
      have q163:x5_1<(l0.length:Int):=ozD (uq)
      obtain ⟨ad163,e163,hx163_0⟩:=Kd.jgb HR0.out x5_1 p163 q163
      cases e163
      replace p163:=ezT p163
      replace q163:=ezT q163
      go_wp2
      go_ret
      exact ⟨sq,Y5⟩
     ·rw [if_neg c5] at H
      have c5b0:((rd l0 x5_1) == a1)=false:=beq_eq_false_iff_ne.mpr c5
      have c5b1:((rd l0 x5_1) != a1)=true:=bne_iff_ne.mpr c5
      have H':=am H
      clear H
      have p163:0≤(x5_1:Int):=ozD (uq)
      have q163:x5_1<(l0.length:Int):=ozD (uq)
      obtain ⟨ad163,e163,hx163_0⟩:=Kd.jgb HR0.out x5_1 p163 q163
      cases e163
      replace p163:=ezT p163
      replace q163:=ezT q163
      go_wp2
      go_roundg k1
      case measure=>have:=HK1.out;omega
      case rel=>exact ⟨(wrap64 (x5_1+1)),(sq),H',⟨by have:=HK1.out;omega⟩,Y5⟩
    ·rw [if_neg c4] at H
     exact absurd H (by simp)
   ·rw [if_neg c3] at H
    have c3b0:decide (x5_1<(l0.length:Int))=false:=dzF c3
    clear c3
    obtain rfl:=Option.some.inj H
    go_wp2
    go_ret
    exact ⟨sq,Y5⟩
def jf (w0 W : World) (g : Nat) (f0 : List Int) (f1 : Int) : Prop := ∃ A0 c0, W.heap[g]? = some (.cells #[.slice A0 f0.length c0, .int .i64 f1] 97 (0, 0)) ∧ w0.heap.size ≤ g ∧ Kd.C (Kd.int .u8) w0 A0 f0.length f0
theorem jf.grown {w0 W : World} {g : Nat} {f0 : List Int} {f1 : Int} {W1 : World} {row : Option Nat} (h : jf w0 W g f0 f1) (hw : W.grownBy W1 row) (hne : some g ≠ row) : jf w0 W1 g f0 f1 := by
 obtain ⟨A0,c0,hb,hg,hr0⟩:=h
 exact ⟨A0,c0,jbb hb hw hne,hg,hr0⟩
theorem jf.kept {w0 W : World} {g : Nat} {f0 : List Int} {f1 : Int} {W1 : World} {S : Nat → Prop} (h : jf w0 W g f0 f1) (hk : Kept W W1 S) (hne : ¬ S g) : jf w0 W1 g f0 f1 := by
 obtain ⟨A0,c0,hb,hg,hr0⟩:=h
 exact ⟨A0,c0,blk_kept hb hk hne,hg,hr0⟩
theorem jf.below {w0 W : World} {g : Nat} {f0 : List Int} {f1 : Int} {W1 : World} (h : jf w0 W g f0 f1) (hw : Below W.heap.size W W1) : jf w0 W1 g f0 f1 := h.grown (grown_of_below hw none) (by simp)
theorem jf.alloc {w0 W : World} {g : Nat} {f0 : List Int} {f1 : Int} (h : jf w0 W g f0 f1) (o : Obj) : jf w0 (W.alloc o) g f0 f1 := h.below (jR (Below.refl _ _) o)
theorem jf.drewN {w0 W : World} {g : Nat} {f0 : List Int} {f1 : Int} (h : jf w0 W g f0 f1) (m : Nat) : jf w0 (W.drewN m) g f0 f1 := h
theorem jf.drew {w0 W : World} {g : Nat} {f0 : List Int} {f1 : Int} (h : jf w0 W g f0 f1) : jf w0 W.drew g f0 f1 := h
theorem jf.at_ {w0 W : World} {g : Nat} {f0 : List Int} {f1 : Int} {w' : World} {m : Nat} (hq : W.drewN m = w') (h : jf w0 W g f0 f1) : jf w0 w' g f0 f1 := by subst hq; exact jf.drewN h m
theorem jf.apart {w0 W : World} {g : Nat} {f0 : List Int} {f1 : Int} {α : Type} {d : Kd α} {e : Nat} {base : Nat} {ok : Nat → Prop} {v : Value} {xs : List α} (h : jf w0 W g f0 f1) (ho : d.R e W base ok v xs) (ht : ∀ q, q ∈ e :: d.E → q ≠ 97) : d.R e W base (fun k => ok k ∧ k ≠ g) v xs := by
 obtain ⟨A0,c0,hb,hg,hr0⟩:=h
 exact Kd.jPa ho hb ht
theorem jf.own_ne {w0 W : World} {g : Nat} {f0 : List Int} {f1 : Int} {α : Type} {d : Kd α} {e : Nat} {base : Nat} {ok : Nat → Prop} {v : Value} {xs : List α} (h : jf w0 W g f0 f1) (ho : d.R e W base ok v xs) (ht : e ≠ 97) : some g ≠ v.ownBlock := by
 obtain ⟨A0,c0,hb,hg,hr0⟩:=h
 exact Kd.R_ne ho hb ht
theorem jf.apartQ {w0 W : World} {g : Nat} {f0 : List Int} {f1 : Int} {α : Type} {d : Kd α} {e : Nat} {base : Nat} {ok : Nat → Prop} {v : Value} {xs : List α} (h : jf w0 W g f0 f1) (ho : d.Q e W base ok v xs) (ht : ∀ q, q ∈ e :: d.E → q ≠ 97) : d.Q e W base (fun k => ok k ∧ k ≠ g) v xs := by
 obtain ⟨A0,c0,hb,hg,hr0⟩:=h
 exact Kd.Q_types ho hb ht
theorem jf.lt {w0 W : World} {g : Nat} {f0 : List Int} {f1 : Int} (h : jf w0 W g f0 f1) : g < W.heap.size := by
 obtain ⟨A0,c0,hb,hg,hr0⟩:=h
 exact jDb hb
theorem jf.ge {w0 W : World} {g : Nat} {f0 : List Int} {f1 : Int} (h : jf w0 W g f0 f1) : w0.heap.size ≤ g := by
 obtain ⟨A0,c0,hb,hg,hr0⟩:=h
 exact hg
theorem jf.ne_blk {w0 W : World} {g : Nat} {f0 : List Int} {f1 : Int} {a : Nat} {cs : Array Value} {t : TypeId} {fr : Nat × Nat} (h : jf w0 W g f0 f1) (hb2 : W.heap[a]? = some (.cells cs t fr)) (ht : t ≠ 97) : g ≠ a := by
 obtain ⟨A0,c0,hb,hg,hr0⟩:=h
 rintro rfl
 rw [hb] at hb2
 injection hb2 with hb2
 injection hb2 with _ ht2
 exact ht ht2.symm
theorem jf.far {w0 W : World} {g : Nat} {f0 : List Int} {f1 : Int} {p : Addr} (h : jf w0 W g f0 f1) (hne : g ≠ p.block) (u : Value) : jf w0 (W.setCell p u) g f0 f1 := by
 obtain ⟨A0,c0,hb,hg,hr0⟩:=h
 exact ⟨A0,c0,jlb hb hne u,hg,hr0⟩
theorem cellS97_0 {W : World} {g : Nat} {A0 : Option Addr} {c0 : Nat} {f0 : List Int} {f1 : Int} (h : W.heap[g]? = some (.cells #[.slice A0 f0.length c0, .int .i64 f1] 97 (0, 0))) : W.cell? ⟨g, 0, none⟩ = some (.slice A0 f0.length c0) := (jK h 0).trans rfl
theorem cellS97_1 {W : World} {g : Nat} {A0 : Option Addr} {c0 : Nat} {f0 : List Int} {f1 : Int} (h : W.heap[g]? = some (.cells #[.slice A0 f0.length c0, .int .i64 f1] 97 (0, 0))) : W.cell? ⟨g, 1, none⟩ = some (.int .i64 f1) := (jK h 1).trans rfl
theorem jf.jfc {w0 W : World} {g : Nat} {f0 : List Int} {f1 : Int} (h : jf w0 W g f0 f1) (x : Int) : jf w0 (W.setCell ⟨g, 1, none⟩ (.int .i64 x)) g f0 x := by
 obtain ⟨A0,c0,hb,hg,hr0⟩:=h
 exact ⟨A0,c0,by simpa using blk_set hb 1 (.int .i64 x),hg,hr0⟩
def jg.j0 : Nat → Int → Bool → List Int → Int → Option (Int × Int)
 | 0,_,_,_,_=>none
 | k+1,x1,x24,x1000,x1001=>if x24=true then (some (0,x1001)) else (if (wrap64 (x1001 - 1))<(x1000.length:Int) then (if 0≤(wrap64 (x1001 - 1)) then (if x1=0 then (none) else (some (Int.tmod (wrap64 (rd x1000 (wrap64 (x1001 - 1)))) x1,x1001))) else (none)) else (if (x1000.length:Int)=0 then (none) else (if 0≤(Int.tmod (wrap64 (x1001 - 1)) (x1000.length:Int)) then (if (Int.tmod (wrap64 (x1001 - 1)) (x1000.length:Int))<(x1000.length:Int) then (if 0≤(Int.tmod (wrap64 ((wrap64 ((wrap64 (x1001 - 1)) * 7))+3)) (x1000.length:Int)) then (if (Int.tmod (wrap64 ((wrap64 ((wrap64 (x1001 - 1)) * 7))+3)) (x1000.length:Int))<(x1000.length:Int) then (if x1=0 then (none) else (some (Int.tmod (Go.bits .xor .i64 (wrap64 ((wrap64 ((wrap64 ((wrap64 ((wrap64 (rd x1000 (Int.tmod (wrap64 (x1001 - 1)) (x1000.length:Int)))) * 131))+(wrap64 ((wrap64 (rd x1000 (Int.tmod (wrap64 ((wrap64 ((wrap64 (x1001 - 1)) * 7))+3)) (x1000.length:Int)))) * 1117))))+(wrap64 ((wrap64 (x1001 - 1)) * 29))))+(wrap64 ((wrap64 (Int.tdiv (wrap64 (x1001 - 1)) (x1000.length:Int))) * 53)))) (wrap64 (Int.tdiv (wrap64 ((wrap64 ((wrap64 ((wrap64 ((wrap64 (rd x1000 (Int.tmod (wrap64 (x1001 - 1)) (x1000.length:Int)))) * 131))+(wrap64 ((wrap64 (rd x1000 (Int.tmod (wrap64 ((wrap64 ((wrap64 (x1001 - 1)) * 7))+3)) (x1000.length:Int)))) * 1117))))+(wrap64 ((wrap64 (x1001 - 1)) * 29))))+(wrap64 ((wrap64 (Int.tdiv (wrap64 (x1001 - 1)) (x1000.length:Int))) * 53)))) 64))) x1,x1001))) else (none)) else (none)) else (none)) else (none))))
def jg.f (k : Nat) (s0_0 : List Int) (s0_1 : Int) (a1 : Int) : Option (Int × Int) := if a1 < 1 then (jg.j0 k a1 true s0_0 (wrap64 (s0_1 + 1))) else (jg.j0 k a1 ((s0_0.length : Int) == 0) s0_0 (wrap64 (s0_1 + 1)))
set_option maxHeartbeats 8000000 in
set_option maxRecDepth 100000 in
theorem jg.calls (k : Nat) (g : Nat) (s0_0 : List Int) (s0_1 : Int) (a1 : Int) (r1 : Int) (r2 : Int) (w0 w : World) (hI : jf w0 w g s0_0 s0_1) (hB : Below w0.heap.size w0 w) (h : jg.f k s0_0 s0_1 a1 = some (r1, r2)) :
  Calls Try.prog 71 #[.pointer (some ⟨g,0,none⟩), .int .i64 a1] w fun e w'=>e=.returned (.int .i64 r1)∧jf w0 w' g s0_0 r2∧Below w0.heap.size w0 w'∧jb w w' g none:=by
 have HI0:=am hI
 have HK:=am (jb.refl w g none)
 have HL:=am hB.size
 clear hI
 have HW0:=am hB.size
 have HB:=am hB
 clear hB
 have H:(if a1<1 then (jg.j0 k a1 true s0_0 (wrap64 (s0_1+1))) else (jg.j0 k a1 ((s0_0.length:Int) == 0) s0_0 (wrap64 (s0_1+1))))=some (r1,r2):=h
 clear h
 have HC3:=am H
 clear H
 obtain ⟨ASz4_0,cSz4_0,HGz4,hgz4,HSz4_0⟩:=HI0.out
 have hcz4_0:=cellS97_0 HGz4
 have hcz4_1:=cellS97_1 HGz4
 have hfz4_1:=ja HGz4 1
 clear HGz4 hgz4
 go_enter Try.func71,Try.ntmps71
 go_upto_region 2 with (fail)
 repeat (go_quiet (fail);go_upto_region 2 with (fail))
 go_cut [24] (fun v24 wc=>∃ (kq:Nat) (x24_2:Bool),v24=.bool x24_2∧jq (jg.j0 kq a1 x24_2 s0_0 (wrap64 (s0_1+1))=some (r1,r2))∧jq (kq≤k)∧jq (jf w0 wc g s0_0 (wrap64 (s0_1+1)))∧jq (jb w wc g none)∧jq (Below w0.heap.size w0 wc))
 case first =>
  have H:=HC3.out
  clear HC3
  by_cases c5:a1<1
  ·rw [if_pos c5] at H
   have c5b0:decide (a1<1)=true:=dzT c5
   clear c5
   (first | rw [c5b0] |(simp only [jhb,jpb];rw [c5b0]) | skip)
   have H':=am H
   clear H
   go_wp2
   repeat (go_quiet (fail);try go_wp2)
   go_meet
   case rel=>exact ⟨_,(true),(sq),H',⟨Y35⟩,⟨Y16⟩,⟨Y17⟩,⟨Y18⟩⟩
  ·rw [if_neg c5] at H
   have c5b0:decide (a1<1)=false:=dzF c5
   clear c5
   (first | rw [c5b0] |(simp only [jhb,jpb];rw [c5b0]) | skip)
   have H':=am H
   clear H
   obtain ⟨ASz6_0,cSz6_0,HGz6,hgz6,HSz6_0⟩:=HI0.out
   have hcz6_0:=cellS97_0 HGz6
   have hcz6_1:=cellS97_1 HGz6
   have hfz6_1:=ja HGz6 1
   clear HGz6 hgz6
   go_wp2
   repeat (go_quiet (fail);try go_wp2)
   go_meet
   case rel=>exact ⟨_,(((s0_0.length:Int) == 0)),(sq),H',⟨Y35⟩,⟨Y16⟩,⟨Y17⟩,⟨Y18⟩⟩
 case rest =>
  clear HC3
  try clear p2
  try clear c5
  try clear c5b0
  try clear p6
  try clear hcz4_0
  try clear hcz4_1
  try clear hcz6_0
  try clear hcz6_1
  try clear hfz4_1
  try clear hfz6_1
  obtain ⟨kq,x24_2,rfl,HA,HJ2,HI0,HK,HB⟩:=hcut
  cases kq with
  | zero=>exact absurd HA.out (by simp [jg.j0])
  | succ kj2 =>
   have H:=HA.out
   clear HA
   simp only [jg.j0] at H
   by_cases c7:x24_2=true
   ·subst c7
    have H1:(some (0,(wrap64 (s0_1+1))))=some (r1,r2):=by rw [if_pos rfl] at H;exact H
    clear H
    have H:=H1
    clear H1
    simp only [Option.some.injEq,Prod.mk.injEq] at H
    obtain ⟨rfl,rfl⟩:=H
    go_wp2
    repeat (go_quiet (fail);try go_wp2)
    go_ret
    exact ⟨Y0,Y16,Y18,Y17⟩
   ·replace c7:=Bool.eq_false_iff.mpr c7
    subst c7
    have H1:(if (wrap64 ((wrap64 (s0_1+1)) - 1))<(s0_0.length:Int) then (if 0≤(wrap64 ((wrap64 (s0_1+1)) - 1)) then (if a1=0 then (none) else (some (Int.tmod (wrap64 (rd s0_0 (wrap64 ((wrap64 (s0_1+1)) - 1)))) a1,(wrap64 (s0_1+1))))) else (none)) else (if (s0_0.length:Int)=0 then (none) else (if 0≤(Int.tmod (wrap64 ((wrap64 (s0_1+1)) - 1)) (s0_0.length:Int)) then (if (Int.tmod (wrap64 ((wrap64 (s0_1+1)) - 1)) (s0_0.length:Int))<(s0_0.length:Int) then (if 0≤(Int.tmod (wrap64 ((wrap64 ((wrap64 ((wrap64 (s0_1+1)) - 1)) * 7))+3)) (s0_0.length:Int)) then (if (Int.tmod (wrap64 ((wrap64 ((wrap64 ((wrap64 (s0_1+1)) - 1)) * 7))+3)) (s0_0.length:Int))<(s0_0.length:Int) then (if a1=0 then (none) else (some (Int.tmod (Go.bits .xor .i64 (wrap64 ((wrap64 ((wrap64 ((wrap64 ((wrap64 (rd s0_0 (Int.tmod (wrap64 ((wrap64 (s0_1+1)) - 1)) (s0_0.length:Int)))) * 131))+(wrap64 ((wrap64 (rd s0_0 (Int.tmod (wrap64 ((wrap64 ((wrap64 ((wrap64 (s0_1+1)) - 1)) * 7))+3)) (s0_0.length:Int)))) * 1117))))+(wrap64 ((wrap64 ((wrap64 (s0_1+1)) - 1)) * 29))))+(wrap64 ((wrap64 (Int.tdiv (wrap64 ((wrap64 (s0_1+1)) - 1)) (s0_0.length:Int))) * 53)))) (wrap64 (Int.tdiv (wrap64 ((wrap64 ((wrap64 ((wrap64 ((wrap64 (rd s0_0 (Int.tmod (wrap64 ((wrap64 (s0_1+1)) - 1)) (s0_0.length:Int)))) * 131))+(wrap64 ((wrap64 (rd s0_0 (Int.tmod (wrap64 ((wrap64 ((wrap64 ((wrap64 (s0_1+1)) - 1)) * 7))+3)) (s0_0.length:Int)))) * 1117))))+(wrap64 ((wrap64 ((wrap64 (s0_1+1)) - 1)) * 29))))+(wrap64 ((wrap64 (Int.tdiv (wrap64 ((wrap64 (s0_1+1)) - 1)) (s0_0.length:Int))) * 53)))) 64))) a1,(wrap64 (s0_1+1))))) else (none)) else (none)) else (none)) else (none))))=some (r1,r2):=by rw [if_neg (show ¬ (false=true) by decide)] at H;exact H
    clear H
    have H:=H1
    clear H1
    by_cases c8:(wrap64 ((wrap64 (s0_1+1)) - 1))<(s0_0.length:Int)
    ·rw [if_pos c8] at H
     have c8b0:decide ((wrap64 ((wrap64 (s0_1+1)) - 1))<(s0_0.length:Int))=true:=dzT c8
     clear c8
     obtain ⟨ji9,hji9⟩:∃ j_:Int,(wrap64 ((wrap64 (s0_1+1)) - 1))=j_:=⟨_,rfl⟩
     replace H:(if 0≤(ji9) then (if a1=0 then (none) else (some (Int.tmod (wrap64 (rd s0_0 (ji9))) a1,(wrap64 (s0_1+1))))) else (none))=some (r1,r2):=by first |(rw [hji9] at H;exact H) |(simp only [hji9] at H ⊢;exact H)
     (try rw [hji9] at c8b0)
     have hji9w:(IntKind.i64.wrap ((wrap64 (s0_1+1)) - 1))=ji9:=(jhb _).trans hji9
     by_cases c10:0≤(ji9)
     ·rw [if_pos c10] at H
      have c10b0:decide (0≤(ji9))=true:=dzT c10
      clear c10
      by_cases c11:a1=0
      ·rw [if_pos c11] at H
       exact absurd H (by simp)
      ·rw [if_neg c11] at H
       have c11b0:(a1 == 0)=false:=beq_eq_false_iff_ne.mpr c11
       have c11b1:(a1 != 0)=true:=bne_iff_ne.mpr c11
       simp only [Option.some.injEq,Prod.mk.injEq] at H
       obtain ⟨rfl,rfl⟩:=H
       obtain ⟨ASz12_0,cSz12_0,HGz12,hgz12,HSz12_0⟩:=HI0.out
       have hcz12_0:=cellS97_0 HGz12
       have hcz12_1:=cellS97_1 HGz12
       have hfz12_1:=ja HGz12 1
       clear HGz12 hgz12
       have p164:0≤((ji9):Int):=ozD (uq)
       have q164:(ji9)<(s0_0.length:Int):=ozD (uq)
       obtain ⟨ad164,e164,hx164_0⟩:=Kd.jgb HSz12_0 (ji9) p164 q164
       cases e164
       replace hx164_0:=jwa HB.out hx164_0
       replace p164:=ezT p164
       replace q164:=ezT q164
       go_wp2
       repeat (go_quiet (fail);try go_wp2)
       go_ret
       exact ⟨by first | rfl |(simp [jWb,jVb] <;> rfl) |(simp only [← hji9];first | rfl |(simp [jWb,jVb] <;> rfl)) |(simp [*,jWb,jVb] <;> rfl),Y16,Y18,Y17⟩
     ·rw [if_neg c10] at H
      exact absurd H (by simp)
    ·rw [if_neg c8] at H
     have c8b0:decide ((wrap64 ((wrap64 (s0_1+1)) - 1))<(s0_0.length:Int))=false:=dzF c8
     clear c8
     by_cases c13:(s0_0.length:Int)=0
     ·rw [if_pos c13] at H
      exact absurd H (by simp)
     ·rw [if_neg c13] at H
      have c13b0:((s0_0.length:Int) == 0)=false:=beq_eq_false_iff_ne.mpr c13
      have c13b1:((s0_0.length:Int) != 0)=true:=bne_iff_ne.mpr c13
      have c13b2:¬ (s0_0=[]):=fun h_=>c13 (by rw [h_];rfl)
      obtain ⟨ji14,hji14⟩:∃ j_:Int,(Int.tmod (wrap64 ((wrap64 (s0_1+1)) - 1)) (s0_0.length:Int))=j_:=⟨_,rfl⟩
      replace H:(if 0≤(ji14) then (if (ji14)<(s0_0.length:Int) then (if 0≤(Int.tmod (wrap64 ((wrap64 ((wrap64 ((wrap64 (s0_1+1)) - 1)) * 7))+3)) (s0_0.length:Int)) then (if (Int.tmod (wrap64 ((wrap64 ((wrap64 ((wrap64 (s0_1+1)) - 1)) * 7))+3)) (s0_0.length:Int))<(s0_0.length:Int) then (if a1=0 then (none) else (some (Int.tmod (Go.bits .xor .i64 (wrap64 ((wrap64 ((wrap64 ((wrap64 ((wrap64 (rd s0_0 (ji14))) * 131))+(wrap64 ((wrap64 (rd s0_0 (Int.tmod (wrap64 ((wrap64 ((wrap64 ((wrap64 (s0_1+1)) - 1)) * 7))+3)) (s0_0.length:Int)))) * 1117))))+(wrap64 ((wrap64 ((wrap64 (s0_1+1)) - 1)) * 29))))+(wrap64 ((wrap64 (Int.tdiv (wrap64 ((wrap64 (s0_1+1)) - 1)) (s0_0.length:Int))) * 53)))) (wrap64 (Int.tdiv (wrap64 ((wrap64 ((wrap64 ((wrap64 ((wrap64 (rd s0_0 (ji14))) * 131))+(wrap64 ((wrap64 (rd s0_0 (Int.tmod (wrap64 ((wrap64 ((wrap64 ((wrap64 (s0_1+1)) - 1)) * 7))+3)) (s0_0.length:Int)))) * 1117))))+(wrap64 ((wrap64 ((wrap64 (s0_1+1)) - 1)) * 29))))+(wrap64 ((wrap64 (Int.tdiv (wrap64 ((wrap64 (s0_1+1)) - 1)) (s0_0.length:Int))) * 53)))) 64))) a1,(wrap64 (s0_1+1))))) else (none)) else (none)) else (none)) else (none))=some (r1,r2):=by first |(rw [hji14] at H;exact H) |(simp only [hji14] at H ⊢;exact H)
      by_cases c15:0≤(ji14)
      ·rw [if_pos c15] at H
       have c15b0:decide (0≤(ji14))=true:=dzT c15
       clear c15
       by_cases c16:(ji14)<(s0_0.length:Int)
       ·rw [if_pos c16] at H
        have c16b0:decide ((ji14)<(s0_0.length:Int))=true:=dzT c16
        clear c16
        obtain ⟨ji17,hji17⟩:∃ j_:Int,(Int.tmod (wrap64 ((wrap64 ((wrap64 ((wrap64 (s0_1+1)) - 1)) * 7))+3)) (s0_0.length:Int))=j_:=⟨_,rfl⟩
        replace H:(if 0≤(ji17) then (if (ji17)<(s0_0.length:Int) then (if a1=0 then (none) else (some (Int.tmod (Go.bits .xor .i64 (wrap64 ((wrap64 ((wrap64 ((wrap64 ((wrap64 (rd s0_0 (ji14))) * 131))+(wrap64 ((wrap64 (rd s0_0 (ji17))) * 1117))))+(wrap64 ((wrap64 ((wrap64 (s0_1+1)) - 1)) * 29))))+(wrap64 ((wrap64 (Int.tdiv (wrap64 ((wrap64 (s0_1+1)) - 1)) (s0_0.length:Int))) * 53)))) (wrap64 (Int.tdiv (wrap64 ((wrap64 ((wrap64 ((wrap64 ((wrap64 (rd s0_0 (ji14))) * 131))+(wrap64 ((wrap64 (rd s0_0 (ji17))) * 1117))))+(wrap64 ((wrap64 ((wrap64 (s0_1+1)) - 1)) * 29))))+(wrap64 ((wrap64 (Int.tdiv (wrap64 ((wrap64 (s0_1+1)) - 1)) (s0_0.length:Int))) * 53)))) 64))) a1,(wrap64 (s0_1+1))))) else (none)) else (none))=some (r1,r2):=by first |(rw [hji17] at H;exact H) |(simp only [hji17] at H ⊢;exact H)
        by_cases c18:0≤(ji17)
        ·rw [if_pos c18] at H
         have c18b0:decide (0≤(ji17))=true:=dzT c18
         clear c18
         by_cases c19:(ji17)<(s0_0.length:Int)
         ·rw [if_pos c19] at H
          have c19b0:decide ((ji17)<(s0_0.length:Int))=true:=dzT c19
          clear c19
          by_cases c20:a1=0
          ·rw [if_pos c20] at H
           exact absurd H (by simp)
          ·rw [if_neg c20] at H
           have c20b0:(a1 == 0)=false:=beq_eq_false_iff_ne.mpr c20
           have c20b1:(a1 != 0)=true:=bne_iff_ne.mpr c20
           simp only [Option.some.injEq,Prod.mk.injEq] at H
           obtain ⟨rfl,rfl⟩:=H
           obtain ⟨ASz21_0,cSz21_0,HGz21,hgz21,HSz21_0⟩:=HI0.out
           have hcz21_0:=cellS97_0 HGz21
           have hcz21_1:=cellS97_1 HGz21
           have hfz21_1:=ja HGz21 1
           clear HGz21 hgz21
           have p165:0≤((ji14):Int):=ozD (uq)
           have q165:(ji14)<(s0_0.length:Int):=ozD (uq)
           obtain ⟨ad165,e165,hx165_0⟩:=Kd.jgb HSz21_0 (ji14) p165 q165
           cases e165
           replace hx165_0:=jwa HB.out hx165_0
           replace p165:=ezT p165
           replace q165:=ezT q165
           have p166:0≤((ji17):Int):=ozD (uq)
           have q166:(ji17)<(s0_0.length:Int):=ozD (uq)
           obtain ⟨ad166,e166,hx166_0⟩:=Kd.jgb HSz21_0 (ji17) p166 q166
           obtain rfl:ad165=ad166:=(by injection e166)
           replace hx166_0:=jwa HB.out hx166_0
           replace p166:=ezT p166
           replace q166:=ezT q166
           go_wp2
           repeat (go_quiet (fail);try go_wp2)
           go_ret
           exact ⟨by first | rfl |(simp [jWb,jVb] <;> rfl) |(simp only [← hji14,← hji17];first | rfl |(simp [jWb,jVb] <;> rfl)) |(simp [*,jWb,jVb] <;> rfl),Y16,Y18,Y17⟩
         ·rw [if_neg c19] at H
          exact absurd H (by simp)
        ·rw [if_neg c18] at H
         exact absurd H (by simp)
       ·rw [if_neg c16] at H
        exact absurd H (by simp)
      ·rw [if_neg c15] at H
       exact absurd H (by simp)
def ji.f (k : Nat) (s0_0 : List Int) (s0_1 : Int) (l1 : List Int) : Option (Int × Int) := (jg.f k s0_0 s0_1 (l1.length : Int)).bind fun bt167 => (if 0 ≤ bt167.1 then (if bt167.1 < (l1.length : Int) then (some (rd l1 bt167.1, bt167.2)) else (none)) else (none))
set_option maxHeartbeats 8000000 in
set_option maxRecDepth 100000 in
theorem ji.calls (k : Nat) (g : Nat) (s0_0 : List Int) (s0_1 : Int) (A1 : Option Addr) (c1 : Nat) (l1 : List Int) (r1 : Int) (r2 : Int) (w0 w : World) (hI : jf w0 w g s0_0 s0_1) (hB : Below w0.heap.size w0 w) (hr1 : Kd.C (Kd.int .i64) w A1 l1.length l1) (hc1 : l1.length ≤ c1) (hf1 : ∀ ad, A1 = some ad → 0 < l1.length → ad.block ≠ g) (h : ji.f k s0_0 s0_1 l1 = some (r1, r2)) :
  Calls Try.prog 91 #[.pointer (some ⟨g,0,none⟩), .slice A1 l1.length c1] w fun e w'=>e=.returned (.int .i64 r1)∧jf w0 w' g s0_0 r2∧Below w0.heap.size w0 w'∧jb w w' g none:=by
 have HR1:=am hr1
 have HC1:=am hc1
 clear hr1 hc1
 have HI0:=am hI
 have HK:=am (jb.refl w g none)
 have HL:=am hB.size
 clear hI
 have HW0:=am hB.size
 have HB:=am hB
 clear hB
 have H:((jg.f k s0_0 s0_1 (l1.length:Int)).bind fun bt167=>(if 0≤bt167.1 then (if bt167.1<(l1.length:Int) then (some (rd l1 bt167.1,bt167.2)) else (none)) else (none)))=some (r1,r2):=h
 clear h
 replace H:=bzS H
 obtain ⟨⟨t167,t168⟩,A30,H⟩:=H
 replace H:(if 0≤t167 then (if t167<(l1.length:Int) then (some (rd l1 t167,t168)) else (none)) else (none))=some (r1,r2):=H
 have A3:=am A30
 clear A30
 by_cases c4:0≤t167
 ·rw [if_pos c4] at H
  have c4b0:decide (0≤t167)=true:=dzT c4
  clear c4
  by_cases c5:t167<(l1.length:Int)
  ·rw [if_pos c5] at H
   have c5b0:decide (t167<(l1.length:Int))=true:=dzT c5
   clear c5
   simp only [Option.some.injEq,Prod.mk.injEq] at H
   obtain ⟨rfl,rfl⟩:=H
   go_enter Try.func91,Try.ntmps91
   go_wp2_with (first |((with_reducible refine jd (f:=71) rfl ?_);refine gL (some 9) Try.func71 #[.pointer (some ⟨g,0,none⟩), .int .i64 (l1.length:Int)] ?_;(with_reducible refine (jg.calls k g s0_0 s0_1 (l1.length:Int) t167 t168 w0 _ ?side1 ?side2 A3.out).mono ?_);(case side1=>exact Y16);(case side2=>exact Y18);rintro e w6 ⟨rfl,hi,hb,hk⟩;refine ⟨_,rfl,?_⟩;replace HK:=am (jb.trans (Y17) hk (.inl rfl));replace HB:=am (hb);replace HI0:=am (hi);(try clear hb);(try clear hb2);(try clear hk);(try clear hi);have p169:0≤(t167:Int):=ozD (uq);have q169:t167<(l1.length:Int):=ozD (uq);obtain ⟨ad169,e169,hx169_0⟩:=Kd.jgb HR1.out t167 p169 q169;cases e169;replace hx169_0:=keep_cell HK.out hx169_0 (by first |(rw [add_block];exact hf1 _ rfl (by omega)) | exact hf1 _ rfl (by omega) | exact hf1 ad169 rfl (by omega));replace p169:=ezT p169;replace q169:=ezT q169))
   go_ret
   exact ⟨Y0,Y16,Y18,Y17⟩
  ·rw [if_neg c5] at H
   exact absurd H (by simp)
 ·rw [if_neg c4] at H
  exact absurd H (by simp)
def jZ.l0 : Nat → List ByteArray → Int → Int → List Int → Int → List (S87) → Option ((List (S87)) × Int)
 | 0,_,_,_,_,_,_=>none
 | k+1,x3,x5,x6,x1000,x1001,x178000=>if x6<x5 then (if 0≤x6 then (if x6<(x3.length:Int) then ((jg.f k x1000 x1001 x6).bind fun bt184=>((ji.f k x1000 bt184.2 (([0,bt184.1,wrap64 (x6 - 1)]:List Int))).bind fun bt189=>(if x178000.length<5864062014805 then (jZ.l0 k x3 x5 (wrap64 (x6+1)) x1000 bt189.2 (x178000 ++ [(⟨rdOf ByteArray.empty x3 x6,bt189.1⟩:S87)])) else (none)))) else (none)) else (none)) else (some (x178000,x1001))
def jZ.f (k : Nat) (s0_0 : List Int) (s0_1 : Int) : Option ((List (S87)) × Int) := (ji.f k s0_0 s0_1 (([4, 5, 3, 6, 2, 1, 8] : List Int))).bind fun bt181 => (jZ.l0 k (([(⟨#[97, 110, 121]⟩ : ByteArray), (⟨#[105, 111]⟩ : ByteArray), (⟨#[107, 101, 121]⟩ : ByteArray), (⟨#[116, 105, 109, 101]⟩ : ByteArray), (⟨#[110, 101, 116]⟩ : ByteArray), (⟨#[100, 105, 115, 107]⟩ : ByteArray), (⟨#[116, 121, 112, 101]⟩ : ByteArray), (⟨#[111, 100, 100]⟩ : ByteArray)] : List ByteArray)) bt181.1 1 s0_0 bt181.2 (([(⟨(⟨#[97, 110, 121]⟩ : ByteArray), (-1)⟩ : S87)] : List (S87))))
def jZ.T7 : Bool × List (List Nat × List Nat) := (true, [([], []), ([0], [0]), ([], []), ([], []), ([2, 3], [2, 3]), ([4], [4]), ([], []), ([], []), ([], []), ([7, 8], [7, 8]), ([], []), ([10], [10]), ([9, 11], [9, 11]), ([6, 12, 9], [6, 12]), ([5, 13], [5, 13]), ([14], [14]), ([1, 15, 13], [1, 15]), ([0, 1, 2, 3, 4, 5, 6, 7, 8, 9, 10, 11, 12, 13, 14, 15, 16], []), ([17, 16, 16, 0, 1, 2, 3, 4, 5, 6, 7, 8, 9, 10, 11, 12, 13, 14, 15, 16], [16, 17])])
def jZ.B7 : List Nat := [0, 1, 0, 0, 12, 28, 0, 0, 0, 384, 0, 1024, 3968, 8128, 16380, 32764, 65535, 131071, 262143]
theorem jZ.tab7 : rtab .any (opsOf Try.f115 7) = jZ.T7 := by kernel_rfl
theorem jZ.bits7 : jrc jZ.T7.2 jZ.B7 = true := by kernel_rfl
set_option maxHeartbeats 8000000 in
set_option maxRecDepth 100000 in
theorem jZ.calls (k : Nat) (g : Nat) (s0_0 : List Int) (s0_1 : Int) (r1 : List (S87)) (r2 : Int) (w0 w : World) (hI : jf w0 w g s0_0 s0_1) (hB : Below w0.heap.size w0 w) (h : jZ.f k s0_0 s0_1 = some (r1, r2)) :
  Calls Try.prog 115 #[.pointer (some ⟨g,0,none⟩)] w fun e w'=>∃ v0_:Value,e=.returned (.agg #[v0_])∧Kd.R k87 87 w' w.heap.size (fun _=>True) v0_ r1∧jf w0 w' g s0_0 r2∧Below w0.heap.size w0 w'∧jb w w' g none:=by
 have hu32:=Try.underlying32
 have hu87:=Try.underlying87
 have HI0:=am hI
 have HK:=am (jb.refl w g none)
 have HL:=am hB.size
 clear hI
 have HW0:=am hB.size
 have HB:=am hB
 clear hB
 have H:((ji.f k s0_0 s0_1 (([4,5,3,6,2,1,8]:List Int))).bind fun bt181=>(jZ.l0 k (([(⟨#[97,110,121]⟩:ByteArray),(⟨#[105,111]⟩:ByteArray),(⟨#[107,101,121]⟩:ByteArray),(⟨#[116,105,109,101]⟩:ByteArray),(⟨#[110,101,116]⟩:ByteArray),(⟨#[100,105,115,107]⟩:ByteArray),(⟨#[116,121,112,101]⟩:ByteArray),(⟨#[111,100,100]⟩:ByteArray)]:List ByteArray)) bt181.1 1 s0_0 bt181.2 (([(⟨(⟨#[97,110,121]⟩:ByteArray),(-1)⟩:S87)]:List (S87)))))=some (r1,r2):=h
 clear h
 obtain ⟨y171,hy171⟩:∃ y_:List ByteArray,y_=(([(⟨#[97,110,121]⟩:ByteArray),(⟨#[105,111]⟩:ByteArray),(⟨#[107,101,121]⟩:ByteArray),(⟨#[116,105,109,101]⟩:ByteArray),(⟨#[110,101,116]⟩:ByteArray),(⟨#[100,105,115,107]⟩:ByteArray),(⟨#[116,121,112,101]⟩:ByteArray),(⟨#[111,100,100]⟩:ByteArray)]:List ByteArray)):=⟨_,rfl⟩
 replace H:((ji.f k s0_0 s0_1 (([4,5,3,6,2,1,8]:List Int))).bind fun bt181=>(jZ.l0 k y171 bt181.1 1 s0_0 bt181.2 (([(⟨(⟨#[97,110,121]⟩:ByteArray),(-1)⟩:S87)]:List (S87)))))=some (r1,r2):=by first |(rw [hy171];with_reducible exact H) |(have H2_:=(Option.bind_some _ _).symm.trans H;rw [hy171];with_reducible exact H2_) |(have H2_:=(Option.bind_some _ _).symm.trans H;with_reducible exact H2_) | with_reducible exact H |(rw [hy171];exact H) | exact H
 have Ny171:=am hy171
 clear hy171
 obtain ⟨y174,hy174⟩:∃ y_:List (S87),y_=(([(⟨(⟨#[97,110,121]⟩:ByteArray),(-1)⟩:S87)]:List (S87))):=⟨_,rfl⟩
 replace H:((ji.f k s0_0 s0_1 (([4,5,3,6,2,1,8]:List Int))).bind fun bt181=>(jZ.l0 k y171 bt181.1 1 s0_0 bt181.2 y174))=some (r1,r2):=by first |(rw [hy174];with_reducible exact H) |(have H2_:=(Option.bind_some _ _).symm.trans H;rw [hy174];with_reducible exact H2_) |(have H2_:=(Option.bind_some _ _).symm.trans H;with_reducible exact H2_) | with_reducible exact H |(rw [hy174];exact H) | exact H
 have Ny174:=am hy174
 clear hy174
 obtain ⟨y178,hy178⟩:∃ y_:List Int,y_=(([4,5,3,6,2,1,8]:List Int)):=⟨_,rfl⟩
 replace H:((ji.f k s0_0 s0_1 y178).bind fun bt181=>(jZ.l0 k y171 bt181.1 1 s0_0 bt181.2 y174))=some (r1,r2):=by first |(rw [hy178];with_reducible exact H) |(have H2_:=(Option.bind_some _ _).symm.trans H;rw [hy178];with_reducible exact H2_) |(have H2_:=(Option.bind_some _ _).symm.trans H;with_reducible exact H2_) | with_reducible exact H |(rw [hy178];exact H) | exact H
 have Ny178:=am hy178
 clear hy178
 replace H:=bzS H
 obtain ⟨⟨t181,t182⟩,A20,H⟩:=H
 replace H:(jZ.l0 k y171 t181 1 s0_0 t182 y174)=some (r1,r2):=H
 have A2:=am A20
 clear A20
 have H':=am H
 clear H
 go_enter Try.func115,Try.ntmps115
 go_wp2_with (first |((with_reducible refine jM (N:=2) rfl ?_);refine bE (N:=2) (cs:=#[.slice none 0 0]) (t:=32) ?_;intro gb170 hg w3 hbox hb;have BK170:=am (hbox);have GW170:=am ((Y12:w.heap.size≤gb170));have GE170:=am ((Nat.le_trans HW0.out (Y12:w.heap.size≤gb170):w0.heap.size≤gb170));have NB0_170:=am ((Y27:g≠gb170));have NB170_0:=am ((Y28:gb170≠g));replace HK:=am (jb.trans (Y17) (jb.of_below hb g none) (.inl rfl));replace HB:=am (je (Y18) hb);replace HI0:=am (jf.below (Y16) hb);clear hb hbox hg) |((with_reducible refine jM (N:=7) rfl ?_);refine Kd.jbc Kd.string _ 9 ?hg (N:=7) ?hd (xs:=([(⟨#[97,110,121]⟩:ByteArray),(⟨#[105,111]⟩:ByteArray),(⟨#[107,101,121]⟩:ByteArray),(⟨#[116,105,109,101]⟩:ByteArray),(⟨#[110,101,116]⟩:ByteArray),(⟨#[100,105,115,107]⟩:ByteArray),(⟨#[116,121,112,101]⟩:ByteArray),(⟨#[111,100,100]⟩:ByteArray)]:List ByteArray)) (inner:=[.string (⟨#[97,110,121]⟩:ByteArray), .string (⟨#[105,111]⟩:ByteArray), .string (⟨#[107,101,121]⟩:ByteArray), .string (⟨#[116,105,109,101]⟩:ByteArray), .string (⟨#[110,101,116]⟩:ByteArray), .string (⟨#[100,105,115,107]⟩:ByteArray), .string (⟨#[116,121,112,101]⟩:ByteArray), .string (⟨#[111,100,100]⟩:ByteArray)]) (ok:=fun _=>True) (okp:=fun _=>True) ?hr ?hp (fun _ hk=>hk) trivial (Below.refl _ _) (Nat.le_refl _) (by simp) ?_;(case hd=>rfl);(case hg=>rfl);(case hr=>exact Y7);(case hp=>exact (Reps.one (show Kd.M Kd.string _ _ _ (⟨#[97,110,121]⟩:ByteArray) [.string (⟨#[97,110,121]⟩:ByteArray)] from rfl) (Reps.one (show Kd.M Kd.string _ _ _ (⟨#[105,111]⟩:ByteArray) [.string (⟨#[105,111]⟩:ByteArray)] from rfl) (Reps.one (show Kd.M Kd.string _ _ _ (⟨#[107,101,121]⟩:ByteArray) [.string (⟨#[107,101,121]⟩:ByteArray)] from rfl) (Reps.one (show Kd.M Kd.string _ _ _ (⟨#[116,105,109,101]⟩:ByteArray) [.string (⟨#[116,105,109,101]⟩:ByteArray)] from rfl) (Reps.one (show Kd.M Kd.string _ _ _ (⟨#[110,101,116]⟩:ByteArray) [.string (⟨#[110,101,116]⟩:ByteArray)] from rfl) (Reps.one (show Kd.M Kd.string _ _ _ (⟨#[100,105,115,107]⟩:ByteArray) [.string (⟨#[100,105,115,107]⟩:ByteArray)] from rfl) (Reps.one (show Kd.M Kd.string _ _ _ (⟨#[116,121,112,101]⟩:ByteArray) [.string (⟨#[116,121,112,101]⟩:ByteArray)] from rfl) (Reps.one (show Kd.M Kd.string _ _ _ (⟨#[111,100,100]⟩:ByteArray) [.string (⟨#[111,100,100]⟩:ByteArray)] from rfl) (Reps.none _ _))))))))));intro v172 w4 ho5 hb hg_ hnew_;clear hg_ hnew_;(first | rw [← Ny171.out] at ho5 |(simp only [Int.reduceToNat] at ho5;rw [← Ny171.out] at ho5));have HO173:=am (Kd.jQ ho5 (jJ (w:=w) (g:=g) (row:=none) (Y72)));replace BK170:=am (jm (g:=gb170) (o:=.cells #[.slice none 0 0] 32 (0,0)) (kq BK170.out) hb);replace HK:=am (jb.trans (Y72) (jb.of_below hb g none) (.inl rfl));replace HB:=am (je (Y95) hb);replace HI0:=am (jf.below (Y96) hb);clear hb ho5) |((with_reducible refine jM (N:=9) rfl ?_);refine Kd.jbc k87 _ 87 ?hg (N:=9) ?hd (xs:=([(⟨(⟨#[97,110,121]⟩:ByteArray),(-1)⟩:S87)]:List (S87))) (inner:=[.string (⟨#[97,110,121]⟩:ByteArray), .int .i64 (-1)]) (ok:=fun _=>True) (okp:=fun _=>True) ?hr ?hp (fun _ hk=>hk) trivial (Below.refl _ _) (Nat.le_refl _) (by simp) ?_;(case hd=>rfl);(case hg=>rfl);(case hr=>exact Y7);(case hp=>exact (Reps.c2 (show Kd.M k87 _ _ _ (⟨(⟨#[97,110,121]⟩:ByteArray),(-1)⟩:S87) [.string (⟨#[97,110,121]⟩:ByteArray), .int .i64 (-1)] from (k87_mkM _ _ _ (⟨(⟨#[97,110,121]⟩:ByteArray),(-1)⟩:S87) )) (Reps.none _ _)));intro v175 w6 ho7 hb hg_ hnew_;clear hg_ hnew_;(first | rw [← Ny174.out] at ho7 |(simp only [Int.reduceToNat] at ho7;rw [← Ny174.out] at ho7));have HO176:=am (Kd.jQ ho7 (jJ (w:=w) (g:=g) (row:=none) (Y72)));replace HO173:=am (Kd.jT (rq HO173.out) hb);replace BK170:=am (jm (g:=gb170) (o:=.cells #[.slice none 0 0] 32 (0,0)) (kq BK170.out) hb);replace HK:=am (jb.trans (Y72) (jb.of_below hb g none) (.inl rfl));replace HB:=am (je (Y95) hb);replace HI0:=am (jf.below (Y96) hb);clear hb ho7;obtain ⟨Ao8,co8,eo8⟩:=Kd.jU HO176.out;subst eo8) |((with_reducible refine jM (N:=4) rfl ?_);refine bE (N:=4) (cs:=#[.slice none 0 0]) (t:=32) ?_;intro gb177 hg w9 hbox hb;have BK177:=am (hbox);have GW177:=am ((Y104:w.heap.size≤gb177));have GE177:=am ((Nat.le_trans HW0.out (Y104:w.heap.size≤gb177):w0.heap.size≤gb177));have NB170_177:=am ((by rw [hg];exact Nat.ne_of_lt (jDb (g:=gb170) (o:=.cells #[.slice none 0 0] 32 (0,0)) (kq BK170.out)):gb170≠gb177));have NB177_170:=am ((by rw [hg];exact Nat.ne_of_gt (jDb (g:=gb170) (o:=.cells #[.slice none 0 0] 32 (0,0)) (kq BK170.out)):gb177≠gb170));have NB0_177:=am ((by rw [hg];exact Nat.ne_of_lt (jf.lt (show jf w0 _ g s0_0 s0_1 from by repeat (first |(with_reducible first | exact HI0.out | apply jf.alloc | apply jf.drewN | apply jf.drew | apply jf.jfc | refine jf.far ?_ NB0_170.out _) | exact HI0.out))):g≠gb177));have NB177_0:=am ((by rw [hg];exact Nat.ne_of_gt (jf.lt (show jf w0 _ g s0_0 s0_1 from by repeat (first |(with_reducible first | exact HI0.out | apply jf.alloc | apply jf.drewN | apply jf.drew | apply jf.jfc | refine jf.far ?_ NB0_170.out _) | exact HI0.out))):gb177≠g));replace HO173:=am (Kd.jT (rq HO173.out) hb);replace HO176:=am (Kd.jT (rq HO176.out) hb);replace BK170:=am (jm (g:=gb170) (o:=.cells #[.slice none 0 0] 32 (0,0)) (kq BK170.out) hb);replace HK:=am (jb.trans (Y72) (jb.of_below hb g none) (.inl rfl));replace HB:=am (je (Y95) hb);replace HI0:=am (jf.below (Y96) hb);clear hb hbox hg;have hnb10:=NB177_170.out;have hnc10:=NB170_177.out;have hnb11:=NB177_0.out;have hnc11:=NB0_177.out;have hcz12_0:=bc0 BK177.out;have hfz12_0:=ja BK177.out 0) |((with_reducible refine jM (N:=12) rfl ?_);refine Kd.jbc (Kd.int .i64) _ 3 ?hg (N:=12) ?hd (xs:=([4,5,3,6,2,1,8]:List Int)) (inner:=[.int .i64 4, .int .i64 5, .int .i64 3, .int .i64 6, .int .i64 2, .int .i64 1, .int .i64 8]) (ok:=fun _=>True) (okp:=fun _=>True) ?hr ?hp (fun _ hk=>hk) trivial (Below.refl _ _) (Nat.le_refl _) (by simp) ?_;(case hd=>rfl);(case hg=>rfl);(case hr=>exact Y7);(case hp=>exact (Reps.one (show Kd.M (Kd.int .i64) _ _ _ 4 [.int .i64 4] from rfl) (Reps.one (show Kd.M (Kd.int .i64) _ _ _ 5 [.int .i64 5] from rfl) (Reps.one (show Kd.M (Kd.int .i64) _ _ _ 3 [.int .i64 3] from rfl) (Reps.one (show Kd.M (Kd.int .i64) _ _ _ 6 [.int .i64 6] from rfl) (Reps.one (show Kd.M (Kd.int .i64) _ _ _ 2 [.int .i64 2] from rfl) (Reps.one (show Kd.M (Kd.int .i64) _ _ _ 1 [.int .i64 1] from rfl) (Reps.one (show Kd.M (Kd.int .i64) _ _ _ 8 [.int .i64 8] from rfl) (Reps.none _ _)))))))));intro v179 w13 ho14 hb hg_ hnew_;clear hg_ hnew_;(first | rw [← Ny178.out] at ho14 |(simp only [Int.reduceToNat] at ho14;rw [← Ny178.out] at ho14));have HO180:=am (Kd.jQ ho14 (jJ (w:=w) (g:=g) (row:=none) (Y37)));replace HO173:=am (Kd.jT (by (with_reducible repeat (first | apply Kd.jY | apply Kd.jX | apply Kd.jia));exact (Kd.jE (Kd.jLb (p:=⟨gb177,0,none⟩) (Kd.jPa HO173.out BK177.out (by decide)) (fun _ hk=>hk.2) (.slice Ao8 y174.length co8)) (fun _ h_=>h_.1))) hb);replace HO176:=am (Kd.jT (by (with_reducible repeat (first | apply Kd.jY | apply Kd.jX | apply Kd.jia));exact (Kd.jE (Kd.jLb (p:=⟨gb177,0,none⟩) (Kd.jPa HO176.out BK177.out (by decide)) (fun _ hk=>hk.2) (.slice Ao8 y174.length co8)) (fun _ h_=>h_.1))) hb);replace BK170:=am (jm (g:=gb170) (o:=.cells #[.slice none 0 0] 32 (0,0)) (by (with_reducible repeat (first | refine jy ?_ _ | refine jD ?_ | refine jB ?_ _));refine jlb ?_ NB170_177.out _;(with_reducible repeat (first | refine jy ?_ _ | refine jD ?_ | refine jB ?_ _));exact BK170.out) hb);replace BK177:=am (jm (g:=gb177) (o:=.cells #[.slice Ao8 y174.length co8] 32 (0,0)) (by (with_reducible repeat (first | refine jy ?_ _ | refine jD ?_ | refine jB ?_ _));refine jZa (cs:=#[.slice none 0 0]) ?_ 0 _ rfl;(with_reducible repeat (first | refine jy ?_ _ | refine jD ?_ | refine jB ?_ _));exact BK177.out) hb);replace HK:=am (jb.trans (Y37) (jb.of_below hb g none) (.inl rfl));replace HB:=am (je (Y44) hb);replace HI0:=am (jf.below (show jf w0 (w9.setCell ⟨gb177,0,none⟩ (.slice Ao8 y174.length co8)) g s0_0 s0_1 from Y29) hb);clear hb ho14;obtain ⟨Ao15,co15,eo15⟩:=Kd.jU HO180.out;subst eo15) |((with_reducible refine jd (f:=91) rfl ?_);refine gL (some 13) Try.func91 #[.pointer (some ⟨g,0,none⟩), .slice Ao15 y178.length co15] ?_;(with_reducible refine (ji.calls k g s0_0 s0_1 _ _ y178 t181 t182 w0 _ ?side1 ?side2 ?side3 ?side4 ?side5 A2.out).mono ?_);(case side1=>exact Y29);(case side2=>exact Y44);(case side3=>exact cq (Kd.jh HO180.out).2.2);(case side4=>exact (Kd.jh HO180.out).2.1);(case side5=>exact jzb (jf.own_ne HI0.out HO180.out (by decide)));rintro e w16 ⟨rfl,hi,hb,hk⟩;refine ⟨_,rfl,?_⟩;replace BK170:=am (jb.blk hk (g':=gb170) (o:=.cells #[.slice none 0 0] 32 (0,0)) (kq BK170.out) NB170_0.out (by simp));replace HO173:=am (Kd.jE (Kd.jxa (jf.apart (show jf w0 _ g s0_0 s0_1 from Y29) (rq HO173.out) (by decide)) hk (fun _ h=>h.2)) (fun _ h=>h.1));replace HO176:=am (Kd.jE (Kd.jxa (jf.apart (show jf w0 _ g s0_0 s0_1 from Y29) (rq HO176.out) (by decide)) hk (fun _ h=>h.2)) (fun _ h=>h.1));replace BK177:=am (jb.blk hk (g':=gb177) (o:=.cells #[.slice Ao8 y174.length co8] 32 (0,0)) (kq BK177.out) NB177_0.out (by simp));replace HO180:=am (Kd.jE (Kd.jxa (jf.apart (show jf w0 _ g s0_0 s0_1 from Y29) (rq HO180.out) (by decide)) hk (fun _ h=>h.2)) (fun _ h=>h.1));replace HK:=am (jb.trans (Y37) hk (.inl rfl));replace HB:=am (hb);replace HI0:=am (hi);(try clear hb);(try clear hb2);(try clear hk);(try clear hi)))
 go_loopg [6] k (fun kq v6 w'=>∃ (x6_1:Int) (x1001_1:Int) (x178000_1:List (S87)) (u178000:Value),v6=.int .i64 x6_1∧jq (jZ.l0 kq y171 t181 x6_1 s0_0 x1001_1 x178000_1=some (r1,r2))∧jq (kq≤k)∧jq (Kd.R Kd.string 9 w' w.heap.size (fun _=>True) v172 y171)∧jq (Kd.R k87 87 w' w.heap.size (fun _=>True) u178000 x178000_1)∧jq (w'.heap[gb170]?=some (.cells #[(.slice none 0 0)] 32 (0,0)))∧jq (w'.heap[gb177]?=some (.cells #[u178000] 32 (0,0)))∧jq (jf w0 w' g s0_0 x1001_1)∧jq (jb w w' g none)∧jq (Below w0.heap.size w0 w'))
 case atStart=>exact ⟨(1),(t182),(y174),(.slice Ao8 y174.length co8),(sq),H',⟨Nat.le_refl _⟩,⟨rq HO173.out⟩,⟨rq HO176.out⟩,⟨kq BK170.out⟩,⟨kq BK177.out⟩,⟨Y29⟩,⟨Y37⟩,⟨Y44⟩⟩
 case round =>
  clear H'
  try clear c1
  try clear c2
  try clear p2
  try clear c9
  try clear c10
  try clear c11
  try clear hcz12_0
  try clear hfz12_0
  obtain ⟨x6_1,x1001_1,x178000_1,u178000,rfl,HA,HK1,HO_3,HO_178000,BK170,BK177,HI0,HK,HB⟩:=hrel
  cases gk with
  | zero=>exact absurd HA.out (by simp [jZ.l0])
  | succ k1 =>
   have H:=HA.out
   clear HA
   simp only [jZ.l0] at H
   by_cases c17:x6_1<t181
   ·rw [if_pos c17] at H
    have c17b0:decide (x6_1<t181)=true:=dzT c17
    clear c17
    by_cases c18:0≤x6_1
    ·rw [if_pos c18] at H
     have c18b0:decide (0≤x6_1)=true:=dzT c18
     clear c18
     by_cases c19:x6_1<(y171.length:Int)
     ·rw [if_pos c19] at H
      have c19b0:decide (x6_1<(y171.length:Int))=true:=dzT c19
      clear c19
      replace H:=bzS H
      obtain ⟨⟨t184,t185⟩,A200,H⟩:=H
      replace H:((ji.f k1 s0_0 t185 (([0,t184,wrap64 (x6_1 - 1)]:List Int))).bind fun bt189=>(if x178000_1.length<5864062014805 then (jZ.l0 k1 y171 t181 (wrap64 (x6_1+1)) s0_0 bt189.2 (x178000_1 ++ [(⟨rdOf ByteArray.empty y171 x6_1,bt189.1⟩:S87)])) else (none)))=some (r1,r2):=H
      have A20:=am A200
      clear A200
      obtain ⟨y186,hy186⟩:∃ y_:List Int,y_=(([0,t184,wrap64 (x6_1 - 1)]:List Int)):=⟨_,rfl⟩
      replace H:((ji.f k1 s0_0 t185 y186).bind fun bt189=>(if x178000_1.length<5864062014805 then (jZ.l0 k1 y171 t181 (wrap64 (x6_1+1)) s0_0 bt189.2 (x178000_1 ++ [(⟨rdOf ByteArray.empty y171 x6_1,bt189.1⟩:S87)])) else (none)))=some (r1,r2):=by first |(rw [hy186];with_reducible exact H) |(have H2_:=(Option.bind_some _ _).symm.trans H;rw [hy186];with_reducible exact H2_) |(have H2_:=(Option.bind_some _ _).symm.trans H;with_reducible exact H2_) | with_reducible exact H |(rw [hy186];exact H) | exact H
      have Ny186:=am hy186
      clear hy186
      replace H:=bzS H
      obtain ⟨⟨t189,t190⟩,A210,H⟩:=H
      replace H:(if x178000_1.length<5864062014805 then (jZ.l0 k1 y171 t181 (wrap64 (x6_1+1)) s0_0 t190 (x178000_1 ++ [(⟨rdOf ByteArray.empty y171 x6_1,t189⟩:S87)])) else (none))=some (r1,r2):=H
      have A21:=am A210
      clear A210
      by_cases c22:x178000_1.length<5864062014805
      ·rw [if_pos c22] at H
       have LMc22:=am c22
       clear c22
       obtain ⟨y191,hy191⟩:∃ y_:List (S87),y_=(x178000_1 ++ [(⟨rdOf ByteArray.empty y171 x6_1,t189⟩:S87)]):=⟨_,rfl⟩
       replace H:(jZ.l0 k1 y171 t181 (wrap64 (x6_1+1)) s0_0 t190 y191)=some (r1,r2):=by first |(rw [hy191];with_reducible exact H) |(have H2_:=(Option.bind_some _ _).symm.trans H;rw [hy191];with_reducible exact H2_) |(have H2_:=(Option.bind_some _ _).symm.trans H;with_reducible exact H2_) | with_reducible exact H |(rw [hy191];exact H) | exact H
       have Ny191:=am hy191
       clear hy191
       have H':=am H
       clear H
       try go_wp2
       replace HO_3:=am (Kd.jia HO_3.out)
       replace HO_178000:=am (Kd.jia HO_178000.out)
       replace BK170:=am (jD BK170.out)
       replace BK177:=am (jD BK177.out)
       replace HI0:=am (jf.drew HI0.out)
       replace HK:=am (jMa HK.out)
       replace HB:=am (jS HB.out)
       obtain ⟨Ao24,co24,eo24⟩:=Kd.jU HO_3.out
       (first | subst eo24 |(injection eo24 with f1_ f2_ f3_;have f4_:=f1_.symm;have f5_:=f3_.symm;clear f1_ f2_ f3_;subst f4_;subst f5_))
       have p183:0≤(x6_1:Int):=ozD (uq)
       have q183:x6_1<(y171.length:Int):=ozD (uq)
       obtain ⟨ad183,e183,hx183_0⟩:=Kd.at_string (Kd.jh HO_3.out).2.2 x6_1 p183 q183
       cases e183
       replace p183:=ezT p183
       replace q183:=ezT q183
       refine start_ (n:=19) (S:=fun w'=>w'.cell? ⟨gb177,0,none⟩=some (u178000)∧w'.cell? (ad183.add (x6_1).toNat)=some (.string (rdOf ByteArray.empty y171 x6_1))) (ds:=[16,18]) #[false,false,false,false,false,false,false,false,false,false,false,false,false,false,false,false,false,false,false] (by kernel_rfl) rfl rfl ⟨(jK BK177.out 0).trans rfl,hx183_0⟩ (fun hHeld=>?_);refine jqc jZ.tab7 jZ.bits7 (fun HT_ HW_=>?_)
       generalize wr.drew=w23 at HO_3 HO_178000 BK170 BK177 HI0 HK HB hx183_0 hHeld ⊢
       refine pq (i:=0) (N:=some 19) #[true,false,false,false,false,false,false,false,false,false,false,false,false,false,false,false,false,false,false] ?_
       refine pq (i:=2) (N:=some 21) #[true,false,true,false,false,false,false,false,false,false,false,false,false,false,false,false,false,false,false] ?_
       refine pq (i:=3) (N:=some 22) #[true,false,true,true,false,false,false,false,false,false,false,false,false,false,false,false,false,false,false] ?_
       refine pq (i:=4) (N:=some 23) #[true,false,true,true,true,false,false,false,false,false,false,false,false,false,false,false,false,false,false] ?_
       refine pq (i:=6) (N:=some 25) #[true,false,true,true,true,false,true,false,false,false,false,false,false,false,false,false,false,false,false] ?_
       refine pq (i:=7) (N:=some 26) #[true,false,true,true,true,false,true,true,false,false,false,false,false,false,false,false,false,false,false] ?_
       refine pq (i:=8) (N:=some 27) #[true,false,true,true,true,false,true,true,true,false,false,false,false,false,false,false,false,false,false] ?_
       refine pq (i:=10) (N:=some 29) #[true,false,true,true,true,false,true,true,true,false,true,false,false,false,false,false,false,false,false] ?_
       refine pq (i:=11) (N:=some 30) #[true,false,true,true,true,false,true,true,true,false,true,true,false,false,false,false,false,false,false] ?_
       refine take_ (i:=1) (N:=some 20) (v:=?_) (a':=?_) #[true,true,true,true,true,false,true,true,true,false,true,true,false,false,false,false,false,false,false] rfl rfl (jlc HT_.out HW_.out (by kernel_rfl)) (fun _ _ _ h=>h) (Or.inl ⟨by rfl,?_⟩) hHeld ?_ ?_
       rotate_left
       ·rintro w' ⟨s0,s1⟩
        go_simp
        with_reducible rfl
       rotate_left
       ·exact sa
       refine take_ (i:=5) (N:=some 24) (v:=?_) (a':=?_) #[true,true,true,true,true,true,true,true,true,false,true,true,false,false,false,false,false,false,false] rfl rfl (jlc HT_.out HW_.out (by kernel_rfl)) (fun _ _ _ h=>h) (Or.inl ⟨by rfl,?_⟩) hHeld ?_ ?_
       rotate_left
       ·rintro w' ⟨s0,s1⟩
        go_simp
        with_reducible rfl
       rotate_left
       ·exact sa
       refine one_ (i:=9) (N:=some 28) #[true,true,true,true,true,true,true,true,true,true,true,true,false,false,false,false,false,false,false] rfl rfl (jTb HT_.out (by kernel_rfl)) (by decide) (fun K hK=>?_)
       refine goes_ Try.func71 (by kernel_rfl) rfl #[.pointer (some ⟨g,0,none⟩), .int .i64 x6_1] (by rfl) rfl rfl (aq) ?_
       with_reducible refine (jg.calls k1 g s0_0 x1001_1 x6_1 t184 t185 w0 _ ?side1 ?side2 A20.out).mono ?_
       (case side1=>exact Y29)
       (case side2=>exact Y44)
       rintro e w25 ⟨rfl,hi,hb,hk⟩
       have HS1_:=keep_cell hk (hHeld.2) (Y105)
       refine ⟨_,rfl,?_⟩
       replace HO_3:=am (Kd.jE (Kd.jxa (jf.apart (show jf w0 _ g s0_0 x1001_1 from Y29) (rq HO_3.out) (by decide)) hk (fun _ h=>h.2)) (fun _ h=>h.1))
       replace HO_178000:=am (Kd.jE (Kd.jxa (jf.apart (show jf w0 _ g s0_0 x1001_1 from Y29) (rq HO_178000.out) (by decide)) hk (fun _ h=>h.2)) (fun _ h=>h.1))
       replace BK170:=am (jb.blk hk (g':=gb170) (o:=.cells #[.slice none 0 0] 32 (0,0)) (kq BK170.out) NB170_0.out (by simp))
       replace BK177:=am (jb.blk hk (g':=gb177) (o:=.cells #[u178000] 32 (0,0)) (kq BK177.out) NB177_0.out (by simp))
       replace HK:=am (jb.trans (Y37) hk (.inl rfl))
       replace HB:=am (hb)
       replace HI0:=am (hi)
       (try clear hb)
       (try clear hb2)
       (try clear hk)
       (try clear hi)
       refine hK.out _ _ ⟨(jK BK177.out 0).trans rfl,HS1_⟩ (fun hHeld=>?_)
       clear hK K
       refine jjc (a':=?_) ?_ ?_
       rotate_left
       ·show Act.put _ (some 28) _=_
        simp only [Act.put,List.setIfInBounds_toArray,List.set_cons_zero,List.set_cons_succ,jhb,jpb]
        rfl
       refine one_ (i:=12) (N:=some 31) #[true,true,true,true,true,true,true,true,true,true,true,true,true,false,false,false,false,false,false] rfl rfl (jTb HT_.out (by kernel_rfl)) (by decide) (fun K hK=>?_)
       refine Kd.jdc (Kd.int .i64) _ 3 ?hg (N:=31) ?hd (xs:=([0,t184,wrap64 (x6_1 - 1)]:List Int)) (inner:=[.int .i64 0, .int .i64 t184, .int .i64 (wrap64 (x6_1 - 1))]) (ok:=fun _=>True) (okp:=fun _=>True) ?hr ?hp (fun _ hk=>hk) trivial (Below.refl _ _) (Nat.le_refl _) (by simp) ?_;(case hd=>rfl);(case hg=>rfl);(case hr=>exact Y7);(case hp=>exact (Reps.one (show Kd.M (Kd.int .i64) _ _ _ 0 [.int .i64 0] from rfl) (Reps.one (show Kd.M (Kd.int .i64) _ _ _ t184 [.int .i64 t184] from rfl) (Reps.one (show Kd.M (Kd.int .i64) _ _ _ (wrap64 (x6_1 - 1)) [.int .i64 (wrap64 (x6_1 - 1))] from rfl) (Reps.none _ _)))))
       intro v187 w26 ho27 hb hg_ hnew_
       have HS1_:=(hb.cell (World.block_lt_of_cell? _ _ (hHeld.2))).trans (hHeld.2)
       clear hg_ hnew_
       (first | rw [← Ny186.out] at ho27 |(simp only [Int.reduceToNat] at ho27;rw [← Ny186.out] at ho27))
       have HO188:=am (Kd.jQ ho27 (jJ (w:=w) (g:=g) (row:=none) (Y37)))
       replace HO_3:=am (Kd.jT (rq HO_3.out) hb)
       replace HO_178000:=am (Kd.jT (rq HO_178000.out) hb)
       replace BK170:=am (jm (g:=gb170) (o:=.cells #[.slice none 0 0] 32 (0,0)) (kq BK170.out) hb)
       replace BK177:=am (jm (g:=gb177) (o:=.cells #[u178000] 32 (0,0)) (kq BK177.out) hb)
       replace HK:=am (jb.trans (Y37) (jb.of_below hb g none) (.inl rfl))
       replace HB:=am (je (Y44) hb)
       replace HI0:=am (jf.below (Y29) hb)
       clear hb ho27
       obtain ⟨Ao28,co28,eo28⟩:=Kd.jU HO188.out
       (first | subst eo28 |(injection eo28 with f1_ f2_ f3_;have f4_:=f1_.symm;have f5_:=f3_.symm;clear f1_ f2_ f3_;subst f4_;subst f5_))
       refine hK.out _ _ ⟨(jK BK177.out 0).trans rfl,HS1_⟩ (fun hHeld=>?_)
       clear hK K
       refine jjc (a':=?_) ?_ ?_
       rotate_left
       ·show Act.put _ (some 31) _=_
        simp only [Act.put,List.setIfInBounds_toArray,List.set_cons_zero,List.set_cons_succ,jhb,jpb]
        rfl
       refine one_ (i:=13) (N:=some 32) #[true,true,true,true,true,true,true,true,true,true,true,true,true,true,false,false,false,false,false] rfl rfl (jTb HT_.out (by kernel_rfl)) (by decide) (fun K hK=>?_)
       refine goes_ Try.func91 (by kernel_rfl) rfl #[.pointer (some ⟨g,0,none⟩), .slice Ao28 y186.length co28] (by rfl) rfl rfl (aq) ?_
       with_reducible refine (ji.calls k1 g s0_0 t185 _ _ y186 t189 t190 w0 _ ?side1 ?side2 ?side3 ?side4 ?side5 A21.out).mono ?_
       (case side1=>exact Y29)
       (case side2=>exact Y44)
       (case side3=>exact cq (Kd.jh HO188.out).2.2)
       (case side4=>exact (Kd.jh HO188.out).2.1)
       (case side5=>exact jzb (jf.own_ne HI0.out HO188.out (by decide)))
       rintro e w29 ⟨rfl,hi,hb,hk⟩
       have HS1_:=keep_cell hk (hHeld.2) (Y105)
       refine ⟨_,rfl,?_⟩
       replace HO_3:=am (Kd.jE (Kd.jxa (jf.apart (show jf w0 _ g s0_0 t185 from Y29) (rq HO_3.out) (by decide)) hk (fun _ h=>h.2)) (fun _ h=>h.1))
       replace HO_178000:=am (Kd.jE (Kd.jxa (jf.apart (show jf w0 _ g s0_0 t185 from Y29) (rq HO_178000.out) (by decide)) hk (fun _ h=>h.2)) (fun _ h=>h.1))
       replace BK170:=am (jb.blk hk (g':=gb170) (o:=.cells #[.slice none 0 0] 32 (0,0)) (kq BK170.out) NB170_0.out (by simp))
       replace BK177:=am (jb.blk hk (g':=gb177) (o:=.cells #[u178000] 32 (0,0)) (kq BK177.out) NB177_0.out (by simp))
       replace HO188:=am (Kd.jE (Kd.jxa (jf.apart (show jf w0 _ g s0_0 t185 from Y29) (rq HO188.out) (by decide)) hk (fun _ h=>h.2)) (fun _ h=>h.1))
       replace HK:=am (jb.trans (Y37) hk (.inl rfl))
       replace HB:=am (hb)
       replace HI0:=am (hi)
       (try clear hb)
       (try clear hb2)
       (try clear hk)
       (try clear hi)
       refine hK.out _ _ ⟨(jK BK177.out 0).trans rfl,HS1_⟩ (fun hHeld=>?_)
       clear hK K
       refine jjc (a':=?_) ?_ ?_
       rotate_left
       ·show Act.put _ (some 32) _=_
        simp only [Act.put,List.setIfInBounds_toArray,List.set_cons_zero,List.set_cons_succ,jhb,jpb]
        rfl
       refine pq (i:=14) (N:=some 33) #[true,true,true,true,true,true,true,true,true,true,true,true,true,true,true,false,false,false,false] ?_
       refine one_ (i:=15) (N:=some 34) #[true,true,true,true,true,true,true,true,true,true,true,true,true,true,true,true,false,false,false] rfl rfl (jTb HT_.out (by kernel_rfl)) (by decide) (fun K hK=>?_)
       refine value_ (w1:=?_) (v:=?_) (by rfl) rfl ?_ ?_
       rotate_left 2
       ·go_simp
        constructor
        ·rfl
        ·rfl
       refine hK.out _ _ ⟨(jK (jB BK177.out _) 0).trans rfl,(World.cell?_alloc_lt _ _ _ (World.block_lt_of_cell? _ _ (hHeld.2))).trans (hHeld.2)⟩ (fun hHeld=>?_)
       clear hK K
       refine jjc (a':=?_) ?_ ?_
       rotate_left
       ·show Act.put _ (some 34) _=_
        simp only [Act.put,List.setIfInBounds_toArray,List.set_cons_zero,List.set_cons_succ,jhb,jpb]
        rfl
       refine last_ (i:=16) (N:=some 35) #[true,true,true,true,true,true,true,true,true,true,true,true,true,true,true,true,true,false,false] rfl rfl (jTb HT_.out (by kernel_rfl)) (by decide) (fun K hK=>?_)
       refine Kd.R_append_step k87 w.heap.size (by rfl) (.tmp 20) (.tmp 34) 30 87 (.agg #[(.string ⟨#[]⟩),(.int .i64 0)]) 24 rfl Try.underlying30 info87 rfl (by decide) (by omega) u178000 x178000_1 (⟨rdOf ByteArray.empty y171 x6_1,t189⟩:S87) [.string (rdOf ByteArray.empty y171 x6_1), .int .i64 t189] (fun _=>True) (fun _=>False) rfl rfl ?aP (fun _ hk=>hk.elim) ?aF ?aO (Below.refl _ _) ?aS ?aL ?_
       (case aP=>exact k87_mkM _ _ _ (⟨rdOf ByteArray.empty y171 x6_1,t189⟩:S87))
       (case aF=>exact (fun _ _=>trivial))
       (case aO=>exact (rq HO_178000.out))
       (case aS=>exact (jJ (w:=w) (g:=g) (row:=none) (Y37)))
       (case aL=>have:=LMc22.out;omega)
       intro v192 w30 ho hb hg hat
       rw [← Ny191.out] at ho
       have n0_:=am (Kd.juc (rq HO_3.out) (Kd.jtc (rq HO_178000.out)) (by decide) hg)
       have n1_:=am (jbb (g:=gb170) (o:=.cells #[.slice none 0 0] 32 (0,0)) (kq BK170.out) hg (Kd.R_ne HO_178000.out BK170.out (by decide)))
       have n2_:=am (jbb (g:=gb177) (o:=.cells #[u178000] 32 (0,0)) (kq BK177.out) hg (Kd.R_ne HO_178000.out BK177.out (by decide)))
       have n3_:=am (jf.grown (Y29) hg (jf.own_ne HI0.out HO_178000.out (by decide)))
       have n4_:=am (Kd.juc (rq HO188.out) (Kd.jtc (rq HO_178000.out)) (by decide) hg)
       have n5_:=am (jib (Y44) HL.out hb)
       have n6_:=am (jb.trans (Y37) (jb.jBb hg g) (Kd.jXb HO_178000.out))
       have n7_:=am (ho)
       clear HO_3
       clear BK170
       clear BK177
       clear HI0
       clear HO188
       clear HB
       clear HK
       clear HO_178000
       have HO_3:=n0_
       have BK170:=n1_
       have BK177:=n2_
       have HI0:=n3_
       have HO188:=n4_
       have HB:=n5_
       have HK:=n6_
       have HO193:=n7_
       clear n0_ n1_ n2_ n3_ n4_ n5_ n6_ n7_
       clear ho hb hg hat
       obtain ⟨Ao31,co31,eo31⟩:=Kd.jU HO193.out
       (first | subst eo31 |(injection eo31 with f1_ f2_ f3_;have f4_:=f1_.symm;have f5_:=f3_.symm;clear f1_ f2_ f3_;subst f4_;subst f5_))
       refine hK.out _ _ ?_
       clear hK K
       refine jjc (a':=?_) ?_ ?_
       rotate_left
       ·show Act.put _ (some 35) _=_
        simp only [Act.put,List.setIfInBounds_toArray,List.set_cons_zero,List.set_cons_succ,jhb,jpb]
        rfl
       refine pq (i:=17) (N:=some 36) #[true,true,true,true,true,true,true,true,true,true,true,true,true,true,true,true,true,true,false] ?_
       refine last_ (i:=18) (N:=none) #[true,true,true,true,true,true,true,true,true,true,true,true,true,true,true,true,true,true,true] rfl rfl (jTb HT_.out (by kernel_rfl)) (by decide) (fun K hK=>?_)
       have hs32:w30.cell? ⟨gb177,0,none⟩=some (u178000):=(jK BK177.out 0).trans rfl
       have hfs32:=ja BK177.out 0
       have hns32_0:=NB170_177.out
       have hms32_0:=NB177_170.out
       refine skip_ (w1:=?_) (by rfl) rfl ?_ ?_
       rotate_left
       ·go_simp
        rfl
       refine hK.out _ _ ?_
       clear hK K
       refine done_ (done_of HT_.out (by kernel_rfl)) ?_
       try go_wp2
       go_roundg k1
       case measure=>have:=HK1.out;omega
       case rel=>exact ⟨(wrap64 (x6_1+1)),(t190),(y191),(.slice Ao31 y191.length co31),(sq),H',⟨by have:=HK1.out;omega⟩,⟨by (with_reducible repeat (first | apply Kd.jY | apply Kd.jX | apply Kd.jia));exact Kd.jE (Kd.jLb (p:=⟨gb177,0,none⟩) (Kd.jPa HO_3.out BK177.out (by decide)) (fun _ hk=>hk.2) (.slice Ao31 y191.length co31)) (fun _ hk=>trivial)⟩,⟨by (with_reducible repeat (first | apply Kd.jY | apply Kd.jX | apply Kd.jia));exact Kd.jE (Kd.jLb (p:=⟨gb177,0,none⟩) (Kd.jPa HO193.out BK177.out (by decide)) (fun _ hk=>hk.2) (.slice Ao31 y191.length co31)) (fun _ hk=>trivial)⟩,⟨by (with_reducible repeat (first | refine jy ?_ _ | refine jD ?_ | refine jB ?_ _));refine jlb ?_ NB170_177.out _;(with_reducible repeat (first | refine jy ?_ _ | refine jD ?_ | refine jB ?_ _));exact BK170.out⟩,⟨by (with_reducible repeat (first | refine jy ?_ _ | refine jD ?_ | refine jB ?_ _));refine jZa (cs:=#[u178000]) ?_ 0 _ rfl;(with_reducible repeat (first | refine jy ?_ _ | refine jD ?_ | refine jB ?_ _));exact BK177.out⟩,⟨Y29⟩,⟨Y37⟩,⟨Y44⟩⟩
      ·rw [if_neg c22] at H
       exact absurd H (by simp)
     ·rw [if_neg c19] at H
      exact absurd H (by simp)
    ·rw [if_neg c18] at H
     exact absurd H (by simp)
   ·rw [if_neg c17] at H
    have c17b0:decide (x6_1<t181)=false:=dzF c17
    clear c17
    simp only [Option.some.injEq,Prod.mk.injEq] at H
    obtain ⟨rfl,rfl⟩:=H
    have hnb33:=NB177_170.out
    have hnc33:=NB170_177.out
    have hnb34:=NB177_0.out
    have hnc34:=NB0_177.out
    have hcz35_0:=bc0 BK177.out
    have hfz35_0:=ja BK177.out 0
    obtain ⟨Ao36,co36,eo36⟩:=Kd.jU HO_178000.out
    subst eo36
    have hnb37:=NB170_0.out
    have hnc37:=NB0_170.out
    have hcz38_0:=bc0 BK170.out
    have hfz38_0:=ja BK170.out 0
    go_wp2
    refine bodyPost_ret (results_cell_row rfl _ _ gb170 32 #[.slice Ao36 x178000_1.length co36] (0,0) _ rfl (by (with_reducible repeat (first | refine jy ?_ _ | refine jD ?_ | refine jB ?_ _));refine jZa (cs:=#[.slice none 0 0]) ?_ 0 _ rfl;(with_reducible repeat (first | refine jy ?_ _ | refine jD ?_ | refine jB ?_ _));exact BK170.out) Try.underlying32 rfl (by kernel_rfl)) rfl ?_
    exact ⟨_,Y0,by (with_reducible repeat (first | apply Kd.jY | apply Kd.jX | apply Kd.jia));exact Kd.jE (Kd.jLb (p:=⟨gb170,0,none⟩) (Kd.jPa HO_178000.out BK170.out (by decide)) (fun _ hk=>hk.2) (.slice Ao36 x178000_1.length co36)) (fun _ hk=>trivial),Y29,Y44,Y37⟩
def jkb.f (k : Nat) (s0_0 : List Int) (s0_1 : Int) (l1 : List ByteArray) : Option (ByteArray × Int) := (jg.f k s0_0 s0_1 (l1.length : Int)).bind fun bt194 => (if 0 ≤ bt194.1 then (if bt194.1 < (l1.length : Int) then (some (rdOf ByteArray.empty l1 bt194.1, bt194.2)) else (none)) else (none))
set_option maxHeartbeats 8000000 in
set_option maxRecDepth 100000 in
theorem jkb.calls (k : Nat) (g : Nat) (s0_0 : List Int) (s0_1 : Int) (A1 : Option Addr) (c1 : Nat) (l1 : List ByteArray) (r1 : ByteArray) (r2 : Int) (w0 w : World) (hI : jf w0 w g s0_0 s0_1) (hB : Below w0.heap.size w0 w) (hr1 : Kd.C Kd.string w A1 l1.length l1) (hc1 : l1.length ≤ c1) (hf1 : ∀ ad, A1 = some ad → 0 < l1.length → ad.block ≠ g) (h : jkb.f k s0_0 s0_1 l1 = some (r1, r2)) :
  Calls Try.prog 116 #[.pointer (some ⟨g,0,none⟩), .slice A1 l1.length c1] w fun e w'=>e=.returned (.string r1)∧jf w0 w' g s0_0 r2∧Below w0.heap.size w0 w'∧jb w w' g none:=by
 have HR1:=am hr1
 have HC1:=am hc1
 clear hr1 hc1
 have HI0:=am hI
 have HK:=am (jb.refl w g none)
 have HL:=am hB.size
 clear hI
 have HW0:=am hB.size
 have HB:=am hB
 clear hB
 have H:((jg.f k s0_0 s0_1 (l1.length:Int)).bind fun bt194=>(if 0≤bt194.1 then (if bt194.1<(l1.length:Int) then (some (rdOf ByteArray.empty l1 bt194.1,bt194.2)) else (none)) else (none)))=some (r1,r2):=h
 clear h
 replace H:=bzS H
 obtain ⟨⟨t194,t195⟩,A30,H⟩:=H
 replace H:(if 0≤t194 then (if t194<(l1.length:Int) then (some (rdOf ByteArray.empty l1 t194,t195)) else (none)) else (none))=some (r1,r2):=H
 have A3:=am A30
 clear A30
 by_cases c4:0≤t194
 ·rw [if_pos c4] at H
  have c4b0:decide (0≤t194)=true:=dzT c4
  clear c4
  by_cases c5:t194<(l1.length:Int)
  ·rw [if_pos c5] at H
   have c5b0:decide (t194<(l1.length:Int))=true:=dzT c5
   clear c5
   simp only [Option.some.injEq,Prod.mk.injEq] at H
   obtain ⟨rfl,rfl⟩:=H
   go_enter Try.func116,Try.ntmps116
   go_wp2_with (first |((with_reducible refine jd (f:=71) rfl ?_);refine gL (some 9) Try.func71 #[.pointer (some ⟨g,0,none⟩), .int .i64 (l1.length:Int)] ?_;(with_reducible refine (jg.calls k g s0_0 s0_1 (l1.length:Int) t194 t195 w0 _ ?side1 ?side2 A3.out).mono ?_);(case side1=>exact Y16);(case side2=>exact Y18);rintro e w6 ⟨rfl,hi,hb,hk⟩;refine ⟨_,rfl,?_⟩;replace HK:=am (jb.trans (Y17) hk (.inl rfl));replace HB:=am (hb);replace HI0:=am (hi);(try clear hb);(try clear hb2);(try clear hk);(try clear hi);have p196:0≤(t194:Int):=ozD (uq);have q196:t194<(l1.length:Int):=ozD (uq);obtain ⟨ad196,e196,hx196_0⟩:=Kd.at_string HR1.out t194 p196 q196;cases e196;replace hx196_0:=keep_cell HK.out hx196_0 (by first |(rw [add_block];exact hf1 _ rfl (by omega)) | exact hf1 _ rfl (by omega) | exact hf1 ad196 rfl (by omega));replace p196:=ezT p196;replace q196:=ezT q196))
   go_ret
   exact ⟨Y0,Y16,Y18,Y17⟩
  ·rw [if_neg c5] at H
   exact absurd H (by simp)
 ·rw [if_neg c4] at H
  exact absurd H (by simp)
end Go.Proofs.Ytkokajljeebgdaa.P
end
