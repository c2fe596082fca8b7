/- One part of the proofs on this program: functions of the program as plain functions, that the code comes to them, and facts on them. -/
import Derived.LoopIn
import Derived.LoopNIn
import Derived.OwnWalkIn
import Derived.RangeFuncBound
import Derived.RangeFuncBox
import Derived.RangeFuncCalls
import Derived.RangeFuncLeaves
import Derived.RangeFuncNested
import Derived.Shelf.Abstract
import Derived.Shelf.RegionOpen
import Derived.TacticsInMore
import Derived.WalkKit
import Derived.Test.YtbbmgiloikkpiaaYAll1
import Derived.Test.YtbbmgiloikkpiaaYAll3
import Derived.Test.YtbbmgiloikkpiaaYAll4
import Derived.Test.YtbbmgiloikkpiaaYWAuto
section
namespace Go.Proofs.Ytbbmgiloikkpiaa.P
open Go.RowKit Go.Proofs.YtbbmgiloikkpiaaW.PrintWords Go.Proofs.YtbbmgiloikkpiaaW.PrintLast Go.Proofs.YtbbmgiloikkpiaaW.PrintMore
attribute [local go_sem] jaa jY joa jna jR jQ jZ jX jh
set_option linter.unusedVariables false
set_option linter.unusedSimpArgs false
mutual
def ji.l0 : Nat → List (S51) → Bool → List Int → Int → Option (Bool)
 | 0,_,_,_,_=>none
 | k+1,x0,x3,x9,x10=>if x10<(x9.length:Int) then (if 0≤x10 then (if 0≤(rd x9 x10) then (if (rd x9 x10)<(x0.length:Int) then (if ((jd x0 (rd x9 x10)).f1)=5 then (ji.j1 k x0 x3 x9 x10 (rd x9 x10) ((jd x0 (rd x9 x10)).f1) ((jd x0 (rd x9 x10)).f1) (((jd x0 (rd x9 x10)).f1) == 5)) else (ji.j1 k x0 x3 x9 x10 (rd x9 x10) ((jd x0 (rd x9 x10)).f1) ((jd x0 (rd x9 x10)).f1) (((jd x0 (rd x9 x10)).f1) == 6))) else (none)) else (none)) else (none)) else (some true)
def ji.j1 : Nat → List (S51) → Bool → List Int → Int → Int → Int → Int → Bool → Option (Bool)
 | 0,_,_,_,_,_,_,_,_=>none
 | k+1,x0,x3,x9,x10,x11,x12,x35,x36=>if x36=true then (if x3=true then (ji.l0 k x0 x3 x9 (wrap64 (x10+1))) else (some false)) else (if x35=8 then (ji.j2 k x0 x3 x9 x10 x11 x12 x35 (x35 == 8)) else (if x35=9 then (ji.j2 k x0 x3 x9 x10 x11 x12 x35 (x35 == 9)) else (ji.j2 k x0 x3 x9 x10 x11 x12 x35 (x35 == 10))))
def ji.j2 : Nat → List (S51) → Bool → List Int → Int → Int → Int → Int → Bool → Option (Bool)
 | 0,_,_,_,_,_,_,_,_=>none
 | k+1,x0,x3,x9,x10,x11,x12,x35,x41=>if x41=true then (some false) else (if x35=7 then ((jV.f k x0 x11).bind fun t365=>((jPa.f x0 t365).bind fun t368=>(if t368=true then (ji.l1 k x0 x3 x9 x10 t365 t365 (t365.length:Int) 0) else (some false)))) else (if x35=11 then (ji.j4 k x0 x3 x9 x10 x11 x12 (x35 == 11)) else (ji.j4 k x0 x3 x9 x10 x11 x12 (x35 == 12))))
def ji.l1 : Nat → List (S51) → Bool → List Int → Int → List Int → List Int → Int → Int → Option (Bool)
 | 0,_,_,_,_,_,_,_,_=>none
 | k+1,x0,x3,x9,x10,x13,x54,x55,x56=>if x56<x55 then (if 0≤x56 then (if x56<(x54.length:Int) then ((jfa.f k x0 (rd x54 x56)).bind fun t370=>((ji.f k x0 (wrap64 ((rd x54 x56)+1)) t370 x3).bind fun t371=>(if t371=true then (ji.l1 k x0 x3 x9 x10 x13 x54 x55 (wrap64 (x56+1))) else (some false)))) else (none)) else (none)) else (ji.l0 k x0 x3 x9 (wrap64 ((wrap64 (x10+(wrap64 ((x13.length:Int) - 1))))+1)))
def ji.j4 : Nat → List (S51) → Bool → List Int → Int → Int → Int → Bool → Option (Bool)
 | 0,_,_,_,_,_,_,_=>none
 | k+1,x0,x3,x9,x10,x11,x12,x75=>if x75=true then ((jfa.f k x0 x11).bind fun t372=>(if x3=true then ((ji.f k x0 (wrap64 (x11+1)) t372 true).bind fun t373=>(if t373=true then (ji.l0 k x0 x3 x9 (wrap64 (x10+1))) else (some false))) else ((ji.f k x0 (wrap64 (x11+1)) t372 (x12 == 12)).bind fun t374=>(if t374=true then (ji.l0 k x0 x3 x9 (wrap64 (x10+1))) else (some false))))) else (ji.l0 k x0 x3 x9 (wrap64 (x10+1)))
def ji.f : Nat → List (S51) → Int → Int → Bool → Option (Bool)
 | 0,_,_,_,_=>none
 | k+1,l0,a1,a2,a3=>(jHa.f k l0 a1 a2).bind fun t360=>(ji.l0 k l0 a3 t360 0)
end
set_option maxHeartbeats 8000000 in
set_option maxRecDepth 100000 in
theorem ji.calls (k : Nat) : ∀ (A0 : Option Addr) (c0 : Nat) (l0 : List (S51)) (a1 : Int) (a2 : Int) (a3 : Bool) (r : Bool) (w : World) (hr0 : Kd.C k51 w A0 l0.length l0) (hc0 : l0.length ≤ c0) (h : ji.f k l0 a1 a2 a3 = some r),
  Calls Try.prog 65 #[.slice A0 l0.length c0, .int .i64 a1, .int .i64 a2, .bool a3] w fun e w'=>e=.returned (.bool r)∧Below w.heap.size w w':=by
 induction k using Nat.strongRecOn with
 | _ k ih =>
 intro A0 c0 l0 a1 a2 a3 r w hr0 hc0 h
 cases k with
 | zero=>exact absurd h (by simp [ji.f])
 | succ k =>
 simp only [ji.f] at h
 have HR0:=am hr0
 have HC0:=am hc0
 clear hr0 hc0
 have HB:=am (Below.refl w.heap.size w)
 have H:((jHa.f k l0 a1 a2).bind fun t360=>(ji.l0 k l0 a3 t360 0))=some r:=h
 clear h
 replace H:=bzS H
 obtain ⟨t360,A50,H⟩:=H
 replace H:(ji.l0 k l0 a3 t360 0)=some r:=H
 have A5:=am A50
 clear A50
 have H':=am H
 clear H
 go_enter Try.func65,Try.ntmps65
 go_wp2_with (first |((with_reducible refine jg (f:=76) rfl ?_);refine gL (some 19) Try.func76 #[.slice A0 l0.length c0, .int .i64 a1, .int .i64 a2] ?_;(with_reducible refine (jHa.calls k _ _ l0 a1 a2 t360 _ ?side1 ?side2 A5.out).mono ?_);(case side1=>exact Y16);(case side2=>exact HC0.out);rintro e w6 ⟨v361,rfl,ho0,hb⟩;refine ⟨_,rfl,?_⟩;have HO362:=am (Kd.jra ho0 (jv (bq)));replace HB:=am (jc (bq) hb);(try clear hb);(try clear hb2);(try clear hk);(try clear hi);(try clear ho0)))
 go_loopg [10] k (fun kq v10 w'=>∃ (x10_1:Int),v10=.int .i64 x10_1∧jq (ji.l0 kq l0 a3 t360 x10_1=some r)∧jq (kq≤k)∧jq (Kd.R (Kd.int .i64) 3 w' w.heap.size (fun _=>True) v361 t360)∧jq (Below w.heap.size w w'))
 case atStart=>exact ⟨(0),(sq),H',⟨Nat.le_refl _⟩,⟨rq HO362.out⟩,⟨bq⟩⟩
 case round =>
  clear H'
  try clear p2
  try clear c6
  obtain ⟨x10_1,rfl,HA,HK1,HO_9,HB⟩:=hrel
  cases gk with
  | zero=>exact absurd HA.out (by simp [ji.l0])
  | succ k1 =>
   have H:=HA.out
   clear HA
   simp only [ji.l0] at H
   by_cases c7:x10_1<(t360.length:Int)
   ·rw [if_pos c7] at H
    have c7b0:decide (x10_1<(t360.length:Int))=true:=dzT c7
    clear c7
    by_cases c8:0≤x10_1
    ·rw [if_pos c8] at H
     have c8b0:decide (0≤x10_1)=true:=dzT c8
     clear c8
     by_cases c9:0≤(rd t360 x10_1)
     ·rw [if_pos c9] at H
      have c9b0:decide (0≤(rd t360 x10_1))=true:=dzT c9
      clear c9
      by_cases c10:(rd t360 x10_1)<(l0.length:Int)
      ·rw [if_pos c10] at H
       have c10b0:decide ((rd t360 x10_1)<(l0.length:Int))=true:=dzT c10
       clear c10
       have HC11:=am H
       clear H
       obtain ⟨Ao12,co12,eo12⟩:=Kd.jga HO_9.out
       subst eo12
       have p363:0≤(x10_1:Int):=ozD (uq)
       have q363:x10_1<(t360.length:Int):=ozD (uq)
       obtain ⟨ad363,e363,hx363_0⟩:=Kd.jpc (Kd.jw HO_9.out).2.2 x10_1 p363 q363
       cases e363
       replace p363:=ezT p363
       replace q363:=ezT q363
       have p364:0≤((rd t360 x10_1):Int):=ozD (uq)
       have q364:(rd t360 x10_1)<(l0.length:Int):=ozD (uq)
       obtain ⟨ad364,e364,hx364_0,hx364_1,hx364_2,hx364_3⟩:=jAa HR0.out (rd t360 x10_1) p364 q364
       cases e364
       replace hx364_0:=cb HB.out hx364_0
       replace hx364_1:=cb HB.out hx364_1
       replace hx364_2:=cb HB.out hx364_2
       replace hx364_3:=cb HB.out hx364_3
       replace p364:=ezT p364
       replace q364:=ezT q364
       go_upto_if 36 with (fail)
       go_cut [36] (fun v36 wc=>∃ (kq:Nat) (x36_10:Bool),v36=.bool x36_10∧jq (ji.j1 kq l0 a3 t360 x10_1 (rd t360 x10_1) ((jd l0 (rd t360 x10_1)).f1) ((jd l0 (rd t360 x10_1)).f1) x36_10=some r)∧jq (kq≤k1)∧jq (Kd.R (Kd.int .i64) 3 wc w.heap.size (fun _=>True) (.slice (some ad363) t360.length co12) t360)∧jq (Below w.heap.size w wc))
       case first =>
        have H:=HC11.out
        clear HC11
        by_cases c13:((jd l0 (rd t360 x10_1)).f1)=5
        ·rw [if_pos c13] at H
         have c13b0:(((jd l0 (rd t360 x10_1)).f1) == 5)=true:=beq_iff_eq.mpr c13
         have c13b1:(((jd l0 (rd t360 x10_1)).f1) != 5)=false:=bne_eq_false_iff_eq.mpr c13
         clear c13
         (first | rw [c13b0] |(simp only [jcb,jdb];rw [c13b0]) | skip)
         have H':=am H
         clear H
         go_wp2
         go_meet
         case rel=>exact ⟨_,((((jd l0 (rd t360 x10_1)).f1) == 5)),(sq),H',⟨by have:=HK1.out;first | omega | exact Nat.le_refl _⟩,⟨rq HO_9.out⟩,⟨bq⟩⟩
        ·rw [if_neg c13] at H
         have c13b0:(((jd l0 (rd t360 x10_1)).f1) == 5)=false:=beq_eq_false_iff_ne.mpr c13
         have c13b1:(((jd l0 (rd t360 x10_1)).f1) != 5)=true:=bne_iff_ne.mpr c13
         (first | rw [c13b0] |(simp only [jcb,jdb];rw [c13b0]) | skip)
         have H':=am H
         clear H
         go_wp2
         go_meet
         case rel=>exact ⟨_,((((jd l0 (rd t360 x10_1)).f1) == 6)),(sq),H',⟨by have:=HK1.out;first | omega | exact Nat.le_refl _⟩,⟨rq HO_9.out⟩,⟨bq⟩⟩
       case rest =>
        clear HC11
        try clear c1
        try clear p2
        try clear p3
        try clear q3
        try clear hx3
        try clear c6
        try clear c7
        try clear c7b0
        try clear c8
        try clear c8b0
        try clear c9
        try clear c9b0
        try clear c10
        try clear c10b0
        try clear c13
        try clear c13b0
        try clear c13b1
        try clear hx363_0
        try clear hx364_0
        try clear hx364_1
        try clear hx364_2
        try clear hx364_3
        try clear p2
        try clear p363
        try clear p364
        try clear q363
        try clear q364
        obtain ⟨kq,x36_10,rfl,HA,HJ10,HO_9,HB⟩:=hcut
        cases kq with
        | zero=>exact absurd HA.out (by simp [ji.j1])
        | succ kj10 =>
         have H:=HA.out
         clear HA
         simp only [ji.j1] at H
         by_cases c14:x36_10=true
         ·subst c14
          have H1:(if a3=true then (ji.l0 kj10 l0 a3 t360 (wrap64 (x10_1+1))) else (some false))=some r:=by rw [if_pos rfl] at H;exact H
          clear H
          have H:=H1
          clear H1
          by_cases c15:a3=true
          ·subst c15
           have H1:(ji.l0 kj10 l0 true t360 (wrap64 (x10_1+1)))=some r:=by rw [if_pos rfl] at H;exact H
           clear H
           have H:=H1
           clear H1
           have H':=am H
           clear H
           go_wp2
           go_roundg kj10
           case measure=>have:=HK1.out;have:=HJ10.out;omega
           case rel=>exact ⟨(wrap64 (x10_1+1)),(sq),H',⟨by have:=HK1.out;have:=HJ10.out;omega⟩,⟨rq HO_9.out⟩,⟨bq⟩⟩
          ·replace c15:=Bool.eq_false_iff.mpr c15
           subst c15
           have H1:(some false)=some r:=by rw [if_neg (show ¬ (false=true) by decide)] at H;exact H
           clear H
           have H:=H1
           clear H1
           obtain rfl:=Option.some.inj H
           go_wp2
           go_ret
           exact ⟨Y0,bq⟩
         ·replace c14:=Bool.eq_false_iff.mpr c14
          subst c14
          have H1:(if ((jd l0 (rd t360 x10_1)).f1)=8 then (ji.j2 kj10 l0 a3 t360 x10_1 (rd t360 x10_1) ((jd l0 (rd t360 x10_1)).f1) ((jd l0 (rd t360 x10_1)).f1) (((jd l0 (rd t360 x10_1)).f1) == 8)) else (if ((jd l0 (rd t360 x10_1)).f1)=9 then (ji.j2 kj10 l0 a3 t360 x10_1 (rd t360 x10_1) ((jd l0 (rd t360 x10_1)).f1) ((jd l0 (rd t360 x10_1)).f1) (((jd l0 (rd t360 x10_1)).f1) == 9)) else (ji.j2 kj10 l0 a3 t360 x10_1 (rd t360 x10_1) ((jd l0 (rd t360 x10_1)).f1) ((jd l0 (rd t360 x10_1)).f1) (((jd l0 (rd t360 x10_1)).f1) == 10))))=some r:=by rw [if_neg (show ¬ (false=true) by decide)] at H;exact H
          clear H
          have H:=H1
          clear H1
          have HC16:=am H
          clear H
          go_upto_if 41 with (fail)
          go_cut [41] (fun v41 wc=>∃ (kq:Nat) (x41_15:Bool),v41=.bool x41_15∧jq (ji.j2 kq l0 a3 t360 x10_1 (rd t360 x10_1) ((jd l0 (rd t360 x10_1)).f1) ((jd l0 (rd t360 x10_1)).f1) x41_15=some r)∧jq (kq≤kj10)∧jq (Kd.R (Kd.int .i64) 3 wc w.heap.size (fun _=>True) (.slice (some ad363) t360.length co12) t360)∧jq (Below w.heap.size w wc))
          case first =>
           have H:=HC16.out
           clear HC16
           by_cases c17:((jd l0 (rd t360 x10_1)).f1)=8
           ·rw [if_pos c17] at H
            have c17b0:(((jd l0 (rd t360 x10_1)).f1) == 8)=true:=beq_iff_eq.mpr c17
            have c17b1:(((jd l0 (rd t360 x10_1)).f1) != 8)=false:=bne_eq_false_iff_eq.mpr c17
            clear c17
            (first | rw [c17b0] |(simp only [jcb,jdb];rw [c17b0]) | skip)
            have H':=am H
            clear H
            go_wp2
            go_meet
            case rel=>exact ⟨_,((((jd l0 (rd t360 x10_1)).f1) == 8)),(sq),H',⟨by have:=HK1.out;have:=HJ10.out;first | omega | exact Nat.le_refl _⟩,⟨rq HO_9.out⟩,⟨bq⟩⟩
           ·rw [if_neg c17] at H
            have c17b0:(((jd l0 (rd t360 x10_1)).f1) == 8)=false:=beq_eq_false_iff_ne.mpr c17
            have c17b1:(((jd l0 (rd t360 x10_1)).f1) != 8)=true:=bne_iff_ne.mpr c17
            (first | rw [c17b0] |(simp only [jcb,jdb];rw [c17b0]) | skip)
            by_cases c18:((jd l0 (rd t360 x10_1)).f1)=9
            ·rw [if_pos c18] at H
             have c18b0:(((jd l0 (rd t360 x10_1)).f1) == 9)=true:=beq_iff_eq.mpr c18
             have c18b1:(((jd l0 (rd t360 x10_1)).f1) != 9)=false:=bne_eq_false_iff_eq.mpr c18
             clear c18
             have H':=am H
             clear H
             go_wp2
             go_meet
             case rel=>exact ⟨_,((((jd l0 (rd t360 x10_1)).f1) == 9)),(sq),H',⟨by have:=HK1.out;have:=HJ10.out;first | omega | exact Nat.le_refl _⟩,⟨rq HO_9.out⟩,⟨bq⟩⟩
            ·rw [if_neg c18] at H
             have c18b0:(((jd l0 (rd t360 x10_1)).f1) == 9)=false:=beq_eq_false_iff_ne.mpr c18
             have c18b1:(((jd l0 (rd t360 x10_1)).f1) != 9)=true:=bne_iff_ne.mpr c18
             have H':=am H
             clear H
             go_wp2
             go_meet
             case rel=>exact ⟨_,((((jd l0 (rd t360 x10_1)).f1) == 10)),(sq),H',⟨by have:=HK1.out;have:=HJ10.out;first | omega | exact Nat.le_refl _⟩,⟨rq HO_9.out⟩,⟨bq⟩⟩
          case rest =>
           clear HC16
           try clear c1
           try clear p2
           try clear p3
           try clear q3
           try clear hx3
           try clear c6
           try clear p6
           try clear c7
           try clear c7b0
           try clear c8
           try clear c8b0
           try clear c9
           try clear c9b0
           try clear c10
           try clear c10b0
           try clear c13
           try clear c13b0
           try clear c13b1
           try clear c14
           try clear c15
           try clear c17
           try clear c17b0
           try clear c17b1
           try clear c18
           try clear c18b0
           try clear c18b1
           try clear hx363_0
           try clear hx364_0
           try clear hx364_1
           try clear hx364_2
           try clear hx364_3
           try clear p2
           try clear p3
           try clear p363
           try clear p364
           try clear q3
           try clear q363
           try clear q364
           obtain ⟨kq,x41_15,rfl,HA,HJ15,HO_9,HB⟩:=hcut
           cases kq with
           | zero=>exact absurd HA.out (by simp [ji.j2])
           | succ kj15 =>
            have H:=HA.out
            clear HA
            simp only [ji.j2] at H
            by_cases c19:x41_15=true
            ·subst c19
             have H1:(some false)=some r:=by rw [if_pos rfl] at H;exact H
             clear H
             have H:=H1
             clear H1
             obtain rfl:=Option.some.inj H
             go_wp2
             go_ret
             exact ⟨Y0,bq⟩
            ·replace c19:=Bool.eq_false_iff.mpr c19
             subst c19
             have H1:(if ((jd l0 (rd t360 x10_1)).f1)=7 then ((jV.f kj15 l0 (rd t360 x10_1)).bind fun t365=>((jPa.f l0 t365).bind fun t368=>(if t368=true then (ji.l1 kj15 l0 a3 t360 x10_1 t365 t365 (t365.length:Int) 0) else (some false)))) else (if ((jd l0 (rd t360 x10_1)).f1)=11 then (ji.j4 kj15 l0 a3 t360 x10_1 (rd t360 x10_1) ((jd l0 (rd t360 x10_1)).f1) (((jd l0 (rd t360 x10_1)).f1) == 11)) else (ji.j4 kj15 l0 a3 t360 x10_1 (rd t360 x10_1) ((jd l0 (rd t360 x10_1)).f1) (((jd l0 (rd t360 x10_1)).f1) == 12))))=some r:=by rw [if_neg (show ¬ (false=true) by decide)] at H;exact H
             clear H
             have H:=H1
             clear H1
             by_cases c20:((jd l0 (rd t360 x10_1)).f1)=7
             ·rw [if_pos c20] at H
              have c20b0:(((jd l0 (rd t360 x10_1)).f1) == 7)=true:=beq_iff_eq.mpr c20
              have c20b1:(((jd l0 (rd t360 x10_1)).f1) != 7)=false:=bne_eq_false_iff_eq.mpr c20
              clear c20
              replace H:=bzS H
              obtain ⟨t365,A210,H⟩:=H
              replace H:((jPa.f l0 t365).bind fun t368=>(if t368=true then (ji.l1 kj15 l0 a3 t360 x10_1 t365 t365 (t365.length:Int) 0) else (some false)))=some r:=H
              have A21:=am A210
              clear A210
              replace H:=bzS H
              obtain ⟨t368,A220,H⟩:=H
              replace H:(if t368=true then (ji.l1 kj15 l0 a3 t360 x10_1 t365 t365 (t365.length:Int) 0) else (some false))=some r:=H
              have A22:=am A220
              clear A220
              by_cases c23:t368=true
              ·subst c23
               have H1:(ji.l1 kj15 l0 a3 t360 x10_1 t365 t365 (t365.length:Int) 0)=some r:=by rw [if_pos rfl] at H;exact H
               clear H
               have H:=H1
               clear H1
               have H':=am H
               clear H
               go_wp2_with (first |((with_reducible refine jg (f:=77) rfl ?_);refine gL (some 49) Try.func77 #[.slice (some ad364) l0.length c0, .int .i64 (rd t360 x10_1)] ?_;(with_reducible refine (jV.calls kj15 _ _ l0 (rd t360 x10_1) t365 _ ?side1 ?side2 A21.out).mono ?_);(case side1=>exact cq (Kd.jF HR0.out HB.out));(case side2=>exact HC0.out);rintro e w24 ⟨v366,rfl,ho0,hb⟩;refine ⟨_,rfl,?_⟩;have HO367:=am (Kd.jra (Kd.jBb ho0 (Kd.R_lt (rq HO_9.out))) (jv (bq)));replace HO_9:=am (Kd.jYa (rq HO_9.out) (Kd.jlb ho0) hb);replace HB:=am (jc (bq) hb);(try clear hb);(try clear hb2);(try clear hk);(try clear hi);(try clear ho0);obtain ⟨Ao25,co25,eo25⟩:=Kd.jga HO367.out;subst eo25) |((with_reducible refine jg (f:=78) rfl ?_);refine gL (some 52) Try.func78 #[.slice (some ad364) l0.length c0, .slice Ao25 t365.length co25] ?_;(with_reducible refine (jPa.calls _ _ l0 _ _ t365 true _ ?side1 ?side2 ?side3 ?side4 A22.out).mono ?_);(case side1=>exact cq (Kd.jF HR0.out HB.out));(case side2=>exact HC0.out);(case side3=>exact cq (Kd.jw HO367.out).2.2);(case side4=>exact (Kd.jw HO367.out).2.1);rintro e w' ⟨rfl,⟨nd,rfl⟩⟩;refine ⟨_,rfl,?_⟩))
               go_loopg [56] kj15 (fun kq v56 w'=>∃ (x56_4:Int),v56=.int .i64 x56_4∧jq (ji.l1 kq l0 a3 t360 x10_1 t365 t365 (t365.length:Int) x56_4=some r)∧jq (kq≤kj15)∧jq (Kd.R (Kd.int .i64) 3 w' w.heap.size (fun k_=>some k_≠((.slice Ao25 t365.length co25):Value).ownBlock∧some k_≠((.slice Ao25 t365.length co25):Value).ownBlock) (.slice (some ad363) t360.length co12) t360)∧jq (Kd.R (Kd.int .i64) 3 w' w.heap.size (fun k_=>some k_≠((.slice (some ad363) t360.length co12):Value).ownBlock) (.slice Ao25 t365.length co25) t365)∧jq (Kd.R (Kd.int .i64) 3 w' w.heap.size (fun k_=>some k_≠((.slice (some ad363) t360.length co12):Value).ownBlock) (.slice Ao25 t365.length co25) t365)∧jq (Below w.heap.size w w'))
               case atStart=>exact ⟨(0),(sq),H',⟨Nat.le_refl _⟩,⟨by (with_reducible repeat (first | apply Kd.jGa | apply Kd.jKa | apply Kd.jLa));exact Kd.jca HO_9.out (fun _ hk=>⟨hk.2,hk.2⟩)⟩,⟨by (with_reducible repeat (first | apply Kd.jGa | apply Kd.jKa | apply Kd.jLa));exact Kd.jca HO367.out (fun _ hk=>hk.2)⟩,⟨by (with_reducible repeat (first | apply Kd.jGa | apply Kd.jKa | apply Kd.jLa));exact Kd.jca HO367.out (fun _ hk=>hk.2)⟩,⟨bq⟩⟩
               case round =>
                clear H'
                try clear c1
                try clear c2
                try clear p2
                try clear p3
                try clear q3
                try clear hx3
                try clear c6
                try clear p6
                try clear c7
                try clear c7b0
                try clear c8
                try clear c8b0
                try clear c9
                try clear c9b0
                try clear c10
                try clear c10b0
                try clear c13
                try clear c13b0
                try clear c13b1
                try clear c14
                try clear c15
                try clear c17
                try clear c17b0
                try clear c17b1
                try clear c18
                try clear c18b0
                try clear c18b1
                try clear c19
                try clear c20
                try clear c20b0
                try clear c20b1
                try clear c23
                try clear hx363_0
                try clear hx364_0
                try clear hx364_1
                try clear hx364_2
                try clear hx364_3
                try clear p2
                try clear p3
                try clear p363
                try clear p364
                try clear p6
                try clear q3
                try clear q363
                try clear q364
                obtain ⟨x56_4,rfl,HA,HK4,HO_9,HO_13,HO_54,HB⟩:=hrel
                cases gk with
                | zero=>exact absurd HA.out (by simp [ji.l1])
                | succ k4 =>
                 have H:=HA.out
                 clear HA
                 simp only [ji.l1] at H
                 by_cases c26:x56_4<(t365.length:Int)
                 ·rw [if_pos c26] at H
                  have c26b0:decide (x56_4<(t365.length:Int))=true:=dzT c26
                  clear c26
                  by_cases c27:0≤x56_4
                  ·rw [if_pos c27] at H
                   have c27b0:decide (0≤x56_4)=true:=dzT c27
                   clear c27
                   by_cases c28:x56_4<(t365.length:Int)
                   ·rw [if_pos c28] at H
                    have c28b0:decide (x56_4<(t365.length:Int))=true:=dzT c28
                    clear c28
                    replace H:=bzS H
                    obtain ⟨t370,A290,H⟩:=H
                    replace H:((ji.f k4 l0 (wrap64 ((rd t365 x56_4)+1)) t370 a3).bind fun t371=>(if t371=true then (ji.l1 k4 l0 a3 t360 x10_1 t365 t365 (t365.length:Int) (wrap64 (x56_4+1))) else (some false)))=some r:=H
                    have A29:=am A290
                    clear A290
                    replace H:=bzS H
                    obtain ⟨t371,A300,H⟩:=H
                    replace H:(if t371=true then (ji.l1 k4 l0 a3 t360 x10_1 t365 t365 (t365.length:Int) (wrap64 (x56_4+1))) else (some false))=some r:=H
                    have A30:=am A300
                    clear A300
                    by_cases c31:t371=true
                    ·subst c31
                     have H1:(ji.l1 k4 l0 a3 t360 x10_1 t365 t365 (t365.length:Int) (wrap64 (x56_4+1)))=some r:=by rw [if_pos rfl] at H;exact H
                     clear H
                     have H:=H1
                     clear H1
                     have H':=am H
                     clear H
                     have p369:0≤(x56_4:Int):=ozD (uq)
                     have q369:x56_4<(t365.length:Int):=ozD (uq)
                     obtain ⟨ad369,e369,hx369_0⟩:=Kd.jpc (Kd.jw HO_54.out).2.2 x56_4 p369 q369
                     cases e369
                     replace p369:=ezT p369
                     replace q369:=ezT q369
                     go_wp2_with (first |((with_reducible refine jg (f:=79) rfl ?_);refine gL (some 65) Try.func79 #[.slice (some ad364) l0.length c0, .int .i64 (rd t365 x56_4)] ?_;(with_reducible refine (jfa.calls k4 _ _ l0 (rd t365 x56_4) t370 _ ?side1 ?side2 A29.out).mono ?_);(case side1=>exact cq (Kd.jF HR0.out HB.out));(case side2=>exact HC0.out);rintro e w' ⟨rfl,⟨nd,rfl⟩⟩;refine ⟨_,rfl,?_⟩) |((with_reducible refine jg (f:=65) rfl ?_);refine gL (some 67) Try.func65 #[.slice (some ad364) l0.length c0, .int .i64 (wrap64 ((rd t365 x56_4)+1)), .int .i64 t370, .bool a3] ?_;(with_reducible refine (ih k4 (by have:=HK1.out;have:=HJ10.out;have:=HJ15.out;have:=HK4.out;omega) _ _ l0 (wrap64 ((rd t365 x56_4)+1)) t370 a3 true _ ?side1 ?side2 A30.out).mono ?_);(case side1=>exact cq (Kd.jF HR0.out (bq)));(case side2=>exact HC0.out);rintro e w32 ⟨rfl,hb⟩;refine ⟨_,rfl,?_⟩;replace HO_9:=am (Kd.jH (rq HO_9.out) hb);replace HO_13:=am (Kd.jH (rq HO_13.out) hb);replace HO_54:=am (Kd.jH (rq HO_54.out) hb);replace HB:=am (jc (bq) hb);(try clear hb);(try clear hb2);(try clear hk);(try clear hi)))
                     go_roundg k4
                     case measure=>have:=HK1.out;have:=HJ10.out;have:=HJ15.out;have:=HK4.out;omega
                     case rel=>exact ⟨(wrap64 (x56_4+1)),(sq),H',⟨by have:=HK1.out;have:=HJ10.out;have:=HJ15.out;have:=HK4.out;omega⟩,⟨rq HO_9.out⟩,⟨rq HO_13.out⟩,⟨rq HO_54.out⟩,⟨bq⟩⟩
                    ·replace c31:=Bool.eq_false_iff.mpr c31
                     subst c31
                     have H1:(some false)=some r:=by rw [if_neg (show ¬ (false=true) by decide)] at H;exact H
                     clear H
                     have H:=H1
                     clear H1
                     obtain rfl:=Option.some.inj H
                     have p369:0≤(x56_4:Int):=ozD (uq)
                     have q369:x56_4<(t365.length:Int):=ozD (uq)
                     obtain ⟨ad369,e369,hx369_0⟩:=Kd.jpc (Kd.jw HO_54.out).2.2 x56_4 p369 q369
                     cases e369
                     replace p369:=ezT p369
                     replace q369:=ezT q369
                     go_wp2_with (first |((with_reducible refine jg (f:=79) rfl ?_);refine gL (some 65) Try.func79 #[.slice (some ad364) l0.length c0, .int .i64 (rd t365 x56_4)] ?_;(with_reducible refine (jfa.calls k4 _ _ l0 (rd t365 x56_4) t370 _ ?side1 ?side2 A29.out).mono ?_);(case side1=>exact cq (Kd.jF HR0.out HB.out));(case side2=>exact HC0.out);rintro e w' ⟨rfl,⟨nd,rfl⟩⟩;refine ⟨_,rfl,?_⟩) |((with_reducible refine jg (f:=65) rfl ?_);refine gL (some 67) Try.func65 #[.slice (some ad364) l0.length c0, .int .i64 (wrap64 ((rd t365 x56_4)+1)), .int .i64 t370, .bool a3] ?_;(with_reducible refine (ih k4 (by have:=HK1.out;have:=HJ10.out;have:=HJ15.out;have:=HK4.out;omega) _ _ l0 (wrap64 ((rd t365 x56_4)+1)) t370 a3 false _ ?side1 ?side2 A30.out).mono ?_);(case side1=>exact cq (Kd.jF HR0.out (bq)));(case side2=>exact HC0.out);rintro e w33 ⟨rfl,hb⟩;refine ⟨_,rfl,?_⟩;replace HO_9:=am (Kd.jH (rq HO_9.out) hb);replace HO_13:=am (Kd.jH (rq HO_13.out) hb);replace HO_54:=am (Kd.jH (rq HO_54.out) hb);replace HB:=am (jc (bq) hb);(try clear hb);(try clear hb2);(try clear hk);(try clear hi)))
                     go_ret
                     exact ⟨Y0,bq⟩
                   ·rw [if_neg c28] at H
                    exact absurd H (by simp)
                  ·rw [if_neg c27] at H
                   exact absurd H (by simp)
                 ·rw [if_neg c26] at H
                  have c26b0:decide (x56_4<(t365.length:Int))=false:=dzF c26
                  clear c26
                  have H':=am H
                  clear H
                  go_wp2
                  go_roundg k4
                  case measure=>have:=HK1.out;have:=HJ10.out;have:=HJ15.out;have:=HK4.out;omega
                  case rel=>exact ⟨(wrap64 ((wrap64 (x10_1+(wrap64 ((t365.length:Int) - 1))))+1)),(sq),H',⟨by have:=HK1.out;have:=HJ10.out;have:=HJ15.out;have:=HK4.out;omega⟩,⟨by (with_reducible repeat (first | apply Kd.jGa | apply Kd.jKa | apply Kd.jLa));exact Kd.jca HO_9.out (fun _ hk=>trivial)⟩,⟨bq⟩⟩
              ·replace c23:=Bool.eq_false_iff.mpr c23
               subst c23
               have H1:(some false)=some r:=by rw [if_neg (show ¬ (false=true) by decide)] at H;exact H
               clear H
               have H:=H1
               clear H1
               obtain rfl:=Option.some.inj H
               go_wp2_with (first |((with_reducible refine jg (f:=77) rfl ?_);refine gL (some 49) Try.func77 #[.slice (some ad364) l0.length c0, .int .i64 (rd t360 x10_1)] ?_;(with_reducible refine (jV.calls kj15 _ _ l0 (rd t360 x10_1) t365 _ ?side1 ?side2 A21.out).mono ?_);(case side1=>exact cq (Kd.jF HR0.out HB.out));(case side2=>exact HC0.out);rintro e w34 ⟨v366,rfl,ho0,hb⟩;refine ⟨_,rfl,?_⟩;have HO367:=am (Kd.jra (Kd.jBb ho0 (Kd.R_lt (rq HO_9.out))) (jv (bq)));replace HO_9:=am (Kd.jYa (rq HO_9.out) (Kd.jlb ho0) hb);replace HB:=am (jc (bq) hb);(try clear hb);(try clear hb2);(try clear hk);(try clear hi);(try clear ho0);obtain ⟨Ao35,co35,eo35⟩:=Kd.jga HO367.out;subst eo35) |((with_reducible refine jg (f:=78) rfl ?_);refine gL (some 52) Try.func78 #[.slice (some ad364) l0.length c0, .slice Ao35 t365.length co35] ?_;(with_reducible refine (jPa.calls _ _ l0 _ _ t365 false _ ?side1 ?side2 ?side3 ?side4 A22.out).mono ?_);(case side1=>exact cq (Kd.jF HR0.out HB.out));(case side2=>exact HC0.out);(case side3=>exact cq (Kd.jw HO367.out).2.2);(case side4=>exact (Kd.jw HO367.out).2.1);rintro e w' ⟨rfl,⟨nd,rfl⟩⟩;refine ⟨_,rfl,?_⟩))
               go_ret
               exact ⟨Y0,bq⟩
             ·rw [if_neg c20] at H
              have c20b0:(((jd l0 (rd t360 x10_1)).f1) == 7)=false:=beq_eq_false_iff_ne.mpr c20
              have c20b1:(((jd l0 (rd t360 x10_1)).f1) != 7)=true:=bne_iff_ne.mpr c20
              have HC36:=am H
              clear H
              go_upto_if 75 with (fail)
              go_cut [75] (fun v75 wc=>∃ (kq:Nat) (x75_35:Bool),v75=.bool x75_35∧jq (ji.j4 kq l0 a3 t360 x10_1 (rd t360 x10_1) ((jd l0 (rd t360 x10_1)).f1) x75_35=some r)∧jq (kq≤kj15)∧jq (Kd.R (Kd.int .i64) 3 wc w.heap.size (fun _=>True) (.slice (some ad363) t360.length co12) t360)∧jq (Below w.heap.size w wc))
              case first =>
               have H:=HC36.out
               clear HC36
               by_cases c37:((jd l0 (rd t360 x10_1)).f1)=11
               ·rw [if_pos c37] at H
                have c37b0:(((jd l0 (rd t360 x10_1)).f1) == 11)=true:=beq_iff_eq.mpr c37
                have c37b1:(((jd l0 (rd t360 x10_1)).f1) != 11)=false:=bne_eq_false_iff_eq.mpr c37
                clear c37
                (first | rw [c37b0] |(simp only [jcb,jdb];rw [c37b0]) | skip)
                have H':=am H
                clear H
                go_wp2
                go_meet
                case rel=>exact ⟨_,((((jd l0 (rd t360 x10_1)).f1) == 11)),(sq),H',⟨by have:=HK1.out;have:=HJ10.out;have:=HJ15.out;first | omega | exact Nat.le_refl _⟩,⟨rq HO_9.out⟩,⟨bq⟩⟩
               ·rw [if_neg c37] at H
                have c37b0:(((jd l0 (rd t360 x10_1)).f1) == 11)=false:=beq_eq_false_iff_ne.mpr c37
                have c37b1:(((jd l0 (rd t360 x10_1)).f1) != 11)=true:=bne_iff_ne.mpr c37
                (first | rw [c37b0] |(simp only [jcb,jdb];rw [c37b0]) | skip)
                have H':=am H
                clear H
                go_wp2
                go_meet
                case rel=>exact ⟨_,((((jd l0 (rd t360 x10_1)).f1) == 12)),(sq),H',⟨by have:=HK1.out;have:=HJ10.out;have:=HJ15.out;first | omega | exact Nat.le_refl _⟩,⟨rq HO_9.out⟩,⟨bq⟩⟩
              case rest =>
               clear HC36
               try clear c1
               try clear c2
               try clear p2
               try clear c3
               try clear p3
               try clear q3
               try clear hx3
               try clear c6
               try clear p6
               try clear c7
               try clear c7b0
               try clear c8
               try clear c8b0
               try clear c9
               try clear c9b0
               try clear c10
               try clear c10b0
               try clear c13
               try clear c13b0
               try clear c13b1
               try clear c14
               try clear c15
               try clear c17
               try clear c17b0
               try clear c17b1
               try clear c18
               try clear c18b0
               try clear c18b1
               try clear c19
               try clear c20
               try clear c20b0
               try clear c20b1
               try clear c23
               try clear c26
               try clear c26b0
               try clear c27
               try clear c27b0
               try clear c28
               try clear c28b0
               try clear c31
               try clear p36
               try clear q36
               try clear hx36
               try clear c37
               try clear c37b0
               try clear c37b1
               try clear hx363_0
               try clear hx364_0
               try clear hx364_1
               try clear hx364_2
               try clear hx364_3
               try clear hx369_0
               try clear p2
               try clear p3
               try clear p363
               try clear p364
               try clear p369
               try clear p6
               try clear q3
               try clear q363
               try clear q364
               try clear q369
               obtain ⟨kq,x75_35,rfl,HA,HJ35,HO_9,HB⟩:=hcut
               cases kq with
               | zero=>exact absurd HA.out (by simp [ji.j4])
               | succ kj35 =>
                have H:=HA.out
                clear HA
                simp only [ji.j4] at H
                by_cases c38:x75_35=true
                ·subst c38
                 have H1:((jfa.f kj35 l0 (rd t360 x10_1)).bind fun t372=>(if a3=true then ((ji.f kj35 l0 (wrap64 ((rd t360 x10_1)+1)) t372 true).bind fun t373=>(if t373=true then (ji.l0 kj35 l0 a3 t360 (wrap64 (x10_1+1))) else (some false))) else ((ji.f kj35 l0 (wrap64 ((rd t360 x10_1)+1)) t372 (((jd l0 (rd t360 x10_1)).f1) == 12)).bind fun t374=>(if t374=true then (ji.l0 kj35 l0 a3 t360 (wrap64 (x10_1+1))) else (some false)))))=some r:=by rw [if_pos rfl] at H;exact H
                 clear H
                 have H:=H1
                 clear H1
                 replace H:=bzS H
                 obtain ⟨t372,A390,H⟩:=H
                 replace H:(if a3=true then ((ji.f kj35 l0 (wrap64 ((rd t360 x10_1)+1)) t372 true).bind fun t373=>(if t373=true then (ji.l0 kj35 l0 a3 t360 (wrap64 (x10_1+1))) else (some false))) else ((ji.f kj35 l0 (wrap64 ((rd t360 x10_1)+1)) t372 (((jd l0 (rd t360 x10_1)).f1) == 12)).bind fun t374=>(if t374=true then (ji.l0 kj35 l0 a3 t360 (wrap64 (x10_1+1))) else (some false))))=some r:=H
                 have A39:=am A390
                 clear A390
                 by_cases c40:a3=true
                 ·subst c40
                  have H1:((ji.f kj35 l0 (wrap64 ((rd t360 x10_1)+1)) t372 true).bind fun t373=>(if t373=true then (ji.l0 kj35 l0 true t360 (wrap64 (x10_1+1))) else (some false)))=some r:=by rw [if_pos rfl] at H;exact H
                  clear H
                  have H:=H1
                  clear H1
                  replace H:=bzS H
                  obtain ⟨t373,A410,H⟩:=H
                  replace H:(if t373=true then (ji.l0 kj35 l0 true t360 (wrap64 (x10_1+1))) else (some false))=some r:=H
                  have A41:=am A410
                  clear A410
                  by_cases c42:t373=true
                  ·subst c42
                   have H1:(ji.l0 kj35 l0 true t360 (wrap64 (x10_1+1)))=some r:=by rw [if_pos rfl] at H;exact H
                   clear H
                   have H:=H1
                   clear H1
                   have H':=am H
                   clear H
                   go_wp2_with (first |((with_reducible refine jg (f:=79) rfl ?_);refine gL (some 83) Try.func79 #[.slice (some ad364) l0.length c0, .int .i64 (rd t360 x10_1)] ?_;(with_reducible refine (jfa.calls kj35 _ _ l0 (rd t360 x10_1) t372 _ ?side1 ?side2 A39.out).mono ?_);(case side1=>exact cq (Kd.jF HR0.out HB.out));(case side2=>exact HC0.out);rintro e w' ⟨rfl,⟨nd,rfl⟩⟩;refine ⟨_,rfl,?_⟩) |((with_reducible refine jg (f:=65) rfl ?_);refine gL (some 89) Try.func65 #[.slice (some ad364) l0.length c0, .int .i64 (wrap64 ((rd t360 x10_1)+1)), .int .i64 t372, .bool true] ?_;(with_reducible refine (ih kj35 (by have:=HK1.out;have:=HJ10.out;have:=HJ15.out;have:=HJ35.out;omega) _ _ l0 (wrap64 ((rd t360 x10_1)+1)) t372 true true _ ?side1 ?side2 A41.out).mono ?_);(case side1=>exact cq (Kd.jF HR0.out (bq)));(case side2=>exact HC0.out);rintro e w43 ⟨rfl,hb⟩;refine ⟨_,rfl,?_⟩;replace HO_9:=am (Kd.jH (rq HO_9.out) hb);replace HB:=am (jc (bq) hb);(try clear hb);(try clear hb2);(try clear hk);(try clear hi)))
                   go_roundg kj35
                   case measure=>have:=HK1.out;have:=HJ10.out;have:=HJ15.out;have:=HJ35.out;omega
                   case rel=>exact ⟨(wrap64 (x10_1+1)),(sq),H',⟨by have:=HK1.out;have:=HJ10.out;have:=HJ15.out;have:=HJ35.out;omega⟩,⟨rq HO_9.out⟩,⟨bq⟩⟩
                  ·replace c42:=Bool.eq_false_iff.mpr c42
                   subst c42
                   have H1:(some false)=some r:=by rw [if_neg (show ¬ (false=true) by decide)] at H;exact H
                   clear H
                   have H:=H1
                   clear H1
                   obtain rfl:=Option.some.inj H
                   go_wp2_with (first |((with_reducible refine jg (f:=79) rfl ?_);refine gL (some 83) Try.func79 #[.slice (some ad364) l0.length c0, .int .i64 (rd t360 x10_1)] ?_;(with_reducible refine (jfa.calls kj35 _ _ l0 (rd t360 x10_1) t372 _ ?side1 ?side2 A39.out).mono ?_);(case side1=>exact cq (Kd.jF HR0.out HB.out));(case side2=>exact HC0.out);rintro e w' ⟨rfl,⟨nd,rfl⟩⟩;refine ⟨_,rfl,?_⟩) |((with_reducible refine jg (f:=65) rfl ?_);refine gL (some 89) Try.func65 #[.slice (some ad364) l0.length c0, .int .i64 (wrap64 ((rd t360 x10_1)+1)), .int .i64 t372, .bool true] ?_;(with_reducible refine (ih kj35 (by have:=HK1.out;have:=HJ10.out;have:=HJ15.out;have:=HJ35.out;omega) _ _ l0 (wrap64 ((rd t360 x10_1)+1)) t372 true false _ ?side1 ?side2 A41.out).mono ?_);(case side1=>exact cq (Kd.jF HR0.out (bq)));(case side2=>exact HC0.out);rintro e w44 ⟨rfl,hb⟩;refine ⟨_,rfl,?_⟩;replace HO_9:=am (Kd.jH (rq HO_9.out) hb);replace HB:=am (jc (bq) hb);(try clear hb);(try clear hb2);(try clear hk);(try clear hi)))
                   go_ret
                   exact ⟨Y0,bq⟩
                 ·replace c40:=Bool.eq_false_iff.mpr c40
                  subst c40
                  have H1:((ji.f kj35 l0 (wrap64 ((rd t360 x10_1)+1)) t372 (((jd l0 (rd t360 x10_1)).f1) == 12)).bind fun t374=>(if t374=true then (ji.l0 kj35 l0 false t360 (wrap64 (x10_1+1))) else (some false)))=some r:=by rw [if_neg (show ¬ (false=true) by decide)] at H;exact H
                  clear H
                  have H:=H1
                  clear H1
                  replace H:=bzS H
                  obtain ⟨t374,A450,H⟩:=H
                  replace H:(if t374=true then (ji.l0 kj35 l0 false t360 (wrap64 (x10_1+1))) else (some false))=some r:=H
                  have A45:=am A450
                  clear A450
                  by_cases c46:t374=true
                  ·subst c46
                   have H1:(ji.l0 kj35 l0 false t360 (wrap64 (x10_1+1)))=some r:=by rw [if_pos rfl] at H;exact H
                   clear H
                   have H:=H1
                   clear H1
                   have H':=am H
                   clear H
                   go_wp2_with (first |((with_reducible refine jg (f:=79) rfl ?_);refine gL (some 83) Try.func79 #[.slice (some ad364) l0.length c0, .int .i64 (rd t360 x10_1)] ?_;(with_reducible refine (jfa.calls kj35 _ _ l0 (rd t360 x10_1) t372 _ ?side1 ?side2 A39.out).mono ?_);(case side1=>exact cq (Kd.jF HR0.out HB.out));(case side2=>exact HC0.out);rintro e w' ⟨rfl,⟨nd,rfl⟩⟩;refine ⟨_,rfl,?_⟩) |((with_reducible refine jg (f:=65) rfl ?_);refine gL (some 89) Try.func65 #[.slice (some ad364) l0.length c0, .int .i64 (wrap64 ((rd t360 x10_1)+1)), .int .i64 t372, .bool (((jd l0 (rd t360 x10_1)).f1) == 12)] ?_;(with_reducible refine (ih kj35 (by have:=HK1.out;have:=HJ10.out;have:=HJ15.out;have:=HJ35.out;omega) _ _ l0 (wrap64 ((rd t360 x10_1)+1)) t372 (((jd l0 (rd t360 x10_1)).f1) == 12) true _ ?side1 ?side2 A45.out).mono ?_);(case side1=>exact cq (Kd.jF HR0.out (bq)));(case side2=>exact HC0.out);rintro e w47 ⟨rfl,hb⟩;refine ⟨_,rfl,?_⟩;replace HO_9:=am (Kd.jH (rq HO_9.out) hb);replace HB:=am (jc (bq) hb);(try clear hb);(try clear hb2);(try clear hk);(try clear hi)))
                   go_roundg kj35
                   case measure=>have:=HK1.out;have:=HJ10.out;have:=HJ15.out;have:=HJ35.out;omega
                   case rel=>exact ⟨(wrap64 (x10_1+1)),(sq),H',⟨by have:=HK1.out;have:=HJ10.out;have:=HJ15.out;have:=HJ35.out;omega⟩,⟨rq HO_9.out⟩,⟨bq⟩⟩
                  ·replace c46:=Bool.eq_false_iff.mpr c46
                   subst c46
                   have H1:(some false)=some r:=by rw [if_neg (show ¬ (false=true) by decide)] at H;exact H
                   clear H
                   have H:=H1
                   clear H1
                   obtain rfl:=Option.some.inj H
                   go_wp2_with (first |((with_reducible refine jg (f:=79) rfl ?_);refine gL (some 83) Try.func79 #[.slice (some ad364) l0.length c0, .int .i64 (rd t360 x10_1)] ?_;(with_reducible refine (jfa.calls kj35 _ _ l0 (rd t360 x10_1) t372 _ ?side1 ?side2 A39.out).mono ?_);(case side1=>exact cq (Kd.jF HR0.out HB.out));(case side2=>exact HC0.out);rintro e w' ⟨rfl,⟨nd,rfl⟩⟩;refine ⟨_,rfl,?_⟩) |((with_reducible refine jg (f:=65) rfl ?_);refine gL (some 89) Try.func65 #[.slice (some ad364) l0.length c0, .int .i64 (wrap64 ((rd t360 x10_1)+1)), .int .i64 t372, .bool (((jd l0 (rd t360 x10_1)).f1) == 12)] ?_;(with_reducible refine (ih kj35 (by have:=HK1.out;have:=HJ10.out;have:=HJ15.out;have:=HJ35.out;omega) _ _ l0 (wrap64 ((rd t360 x10_1)+1)) t372 (((jd l0 (rd t360 x10_1)).f1) == 12) false _ ?side1 ?side2 A45.out).mono ?_);(case side1=>exact cq (Kd.jF HR0.out (bq)));(case side2=>exact HC0.out);rintro e w48 ⟨rfl,hb⟩;refine ⟨_,rfl,?_⟩;replace HO_9:=am (Kd.jH (rq HO_9.out) hb);replace HB:=am (jc (bq) hb);(try clear hb);(try clear hb2);(try clear hk);(try clear hi)))
                   go_ret
                   exact ⟨Y0,bq⟩
                ·replace c38:=Bool.eq_false_iff.mpr c38
                 subst c38
                 have H1:(ji.l0 kj35 l0 a3 t360 (wrap64 (x10_1+1)))=some r:=by rw [if_neg (show ¬ (false=true) by decide)] at H;exact H
                 clear H
                 have H:=H1
                 clear H1
                 have H':=am H
                 clear H
                 go_wp2
                 go_roundg kj35
                 case measure=>have:=HK1.out;have:=HJ10.out;have:=HJ15.out;have:=HJ35.out;omega
                 case rel=>exact ⟨(wrap64 (x10_1+1)),(sq),H',⟨by have:=HK1.out;have:=HJ10.out;have:=HJ15.out;have:=HJ35.out;omega⟩,⟨rq HO_9.out⟩,⟨bq⟩⟩
      ·rw [if_neg c10] at H
       exact absurd H (by simp)
     ·rw [if_neg c9] at H
      exact absurd H (by simp)
    ·rw [if_neg c8] at H
     exact absurd H (by simp)
   ·rw [if_neg c7] at H
    have c7b0:decide (x10_1<(t360.length:Int))=false:=dzF c7
    clear c7
    obtain rfl:=Option.some.inj H
    obtain ⟨Ao49,co49,eo49⟩:=Kd.jga HO_9.out
    subst eo49
    go_wp2
    go_ret
    exact ⟨Y0,bq⟩
def inB (a lo hi : Int) : Bool := decide (lo ≤ a) && decide (a ≤ hi)
theorem jEb (a lo hi : Int) : jI.f a lo hi = some (inB a lo hi) := by
 unfold jI.f inB
 by_cases h:a≥lo
 ·rw [if_pos h];simp [show lo≤a from h]
 ·rw [if_neg h];simp [show ¬ lo≤a from h]
theorem jBc (a b c d : Int) : jyb.f a b c d = some (inB b 7 12) := by
 unfold jyb.f
 rw [jEb];rfl
def VF (W : World) (B1 BL BT : Nat) (a x : S51) (tv : Value) : Prop :=
 W.heap[B1]?=some (.cells #[.int .i64 a.f0, .int .i64 a.f1, .int .i64 a.f2, .int .i64 a.f3] 51 (0,0))∧W.heap[BL]?=some (.cells #[.int .i64 x.f0, .int .i64 x.f1, .int .i64 x.f2, .int .i64 x.f3] 51 (0,0))∧W.cell? ⟨BT,0,none⟩=some tv
theorem VF.below {W W' : World} {B1 BL BT : Nat} {a x : S51} {tv : Value} (h : VF W B1 BL BT a x tv) (hb : Below W.heap.size W W') : VF W' B1 BL BT a x tv :=
 ⟨(hb.block _ (jza h.1)).trans h.1,(hb.block _ (jza h.2.1)).trans h.2.1,jha hb h.2.2⟩
theorem VF.cells {W : World} {B1 BL BT : Nat} {a x : S51} {tv : Value} (h : VF W B1 BL BT a x tv) :
  W.cell? ⟨B1,0,none⟩=some (.int .i64 a.f0)∧W.cell? ⟨B1,1,none⟩=some (.int .i64 a.f1)∧W.cell? ⟨B1,2,none⟩=some (.int .i64 a.f2)∧W.cell? ⟨B1,3,none⟩=some (.int .i64 a.f3) ∧
  W.cell? ⟨BL,0,none⟩=some (.int .i64 x.f0)∧W.cell? ⟨BL,1,none⟩=some (.int .i64 x.f1)∧W.cell? ⟨BL,2,none⟩=some (.int .i64 x.f2)∧W.cell? ⟨BL,3,none⟩=some (.int .i64 x.f3)∧W.cell? ⟨BT,0,none⟩=some tv :=
 ⟨(jr h.1 0).trans rfl,(jr h.1 1).trans rfl,(jr h.1 2).trans rfl,(jr h.1 3).trans rfl,(jr h.2.1 0).trans rfl,(jr h.2.1 1).trans rfl,(jr h.2.1 2).trans rfl,(jr h.2.1 3).trans rfl,h.2.2⟩
theorem VF.frozen {W : World} {B1 BL BT : Nat} {a x : S51} {tv : Value} (h : VF W B1 BL BT a x tv) : W.frozen? ⟨B1, 0, none⟩ = false ∧ W.frozen? ⟨B1, 1, none⟩ = false ∧ W.frozen? ⟨B1, 2, none⟩ = false ∧ W.frozen? ⟨B1, 3, none⟩ = false :=
 ⟨ja h.1 0,ja h.1 1,ja h.1 2,ja h.1 3⟩
theorem four_stored {W : World} {B T : Nat} {a b c d a' b' c' d' : Value} (h : W.heap[B]? = some (.cells #[a, b, c, d] T (0, 0))) :
  ((((W.setCell ⟨B,0,none⟩ a').setCell ⟨B,1,none⟩ b').setCell ⟨B,2,none⟩ c').setCell ⟨B,3,none⟩ d').heap[B]?=some (.cells #[a',b',c',d'] T (0,0)):=by
 have h0:=blk_set h 0 a'
 have h1:=blk_set h0 1 b'
 have h2:=blk_set h1 2 c'
 have h3:=blk_set h2 3 d'
 simpa using h3
theorem four_below {W w : World} {base B : Nat} {a' b' c' d' : Value} (h : Below base w W) (hB : base ≤ B) :
  Below base w ((((W.setCell ⟨B,0,none⟩ a').setCell ⟨B,1,none⟩ b').setCell ⟨B,2,none⟩ c').setCell ⟨B,3,none⟩ d') :=
 (((h.setCell (p:=⟨B,0,none⟩) hB _).setCell (p:=⟨B,1,none⟩) hB _).setCell (p:=⟨B,2,none⟩) hB _).setCell (p:=⟨B,3,none⟩) hB _
theorem four_far {W : World} {B C : Nat} {a' b' c' d' v : Value} (h : W.cell? ⟨C, 0, none⟩ = some v) (hne : B ≠ C) :
  ((((W.setCell ⟨B,0,none⟩ a').setCell ⟨B,1,none⟩ b').setCell ⟨B,2,none⟩ c').setCell ⟨B,3,none⟩ d').cell? ⟨C,0,none⟩=some v:=by
 have e:∀ j,(⟨B,j,none⟩:Addr)≠⟨C,0,none⟩:=fun j hj=>hne (by injection hj)
 rw [World.cell?_setCell_other (h:=e 3),World.cell?_setCell_other (h:=e 2),World.cell?_setCell_other (h:=e 1),World.cell?_setCell_other (h:=e 0)]
 exact h
def jE.bad (x last : S51) : Bool := !inB x.f0 0 5 || (inB last.f1 7 12 && decide (x.f0 ≠ last.f0 + 1)) || (!inB last.f1 7 12 && decide (last.f0 < x.f0))
def jE.go (k : Nat) (t : List S75) : List S51 → S51 → Option (Option S51)
 | [],last=>some (some last)
 | x :: xs,last=>(jya.f k x.f0 x.f1 x.f2 x.f3 t).bind fun v=>if v=false then some none else if jE.bad x last then some none else jE.go k t xs x
def jE.f (k : Nat) (l0_0 : List S75) (l1 : List S51) : Option Bool := (jA.f k l0_0).bind fun v =>
 if v=false then some false else if 24<l1.length then some false else
 (jE.go k l0_0 l1 ⟨-1,7,0,0⟩).bind fun q=>match q with
 | none=>some false
 | some last=>if l1.length=0 then ji.f k l1 0 (l1.length:Int) false else if inB last.f1 7 12 then some false else ji.f k l1 0 (l1.length:Int) false
theorem jE.step {k : Nat} {t : List S75} {p : List S51} {n : Nat} {last : S51} {q : Option S51} (hn : n < p.length) (h : jE.go k t (p.drop n) last = some q) :
  ∃ v,jya.f k p[n].f0 p[n].f1 p[n].f2 p[n].f3 t=some v∧(if v=false then some none else if jE.bad p[n] last then some none else jE.go k t (p.drop (n+1)) p[n])=some q:=by
 rw [List.drop_eq_getElem_cons hn] at h
 exact bzS h
set_option maxHeartbeats 8000000 in
set_option maxRecDepth 100000 in
theorem jE.calls (k : Nat) (A0_0 : Option Addr) (c0_0 : Nat) (l0_0 : List S75) (A1 : Option Addr) (c1 : Nat) (l1 : List S51) (r : Bool) (w : World) (hr0_0 : Kd.C k75 w A0_0 l0_0.length l0_0) (hc0_0 : l0_0.length ≤ c0_0) (hr1 : Kd.C k51 w A1 l1.length l1) (hc1 : l1.length ≤ c1) (h : jE.f k l0_0 l1 = some r) :
  Calls Try.prog 48 #[.agg #[.slice A0_0 l0_0.length c0_0], .slice A1 l1.length c1] w fun e w'=>e=.returned (.bool r)∧Below w.heap.size w w':=by
 have hu35:=Try.underlying35
 have hu51:=Try.underlying51
 have hm:l1.length≤9223372036854775807:=Kd.C_max hr1
 obtain ⟨v,hv,h⟩:=bzS h
 have HV:=am (fun W (hb:Below w.heap.size w W)=>jA.calls k A0_0 c0_0 l0_0 v W (Kd.jF hr0_0 hb) hc0_0 hv)
 have HR0:=am hr0_0
 have HR1:=am hr1
 clear hv hr0_0 hr1
 cases v with
 | false =>
  obtain rfl:false=r:=by simpa using h
  clear h
  go_enter Try.func48,Try.ntmps48
  go_wp2_with (go_at_call 39;refine (HV.out _ ((Below.refl _ _).alloc (Nat.le_refl _) _)).mono ?_;rintro e w' ⟨rfl,hb2⟩)
  go_ret
  exact ⟨rfl,((Below.refl _ _).alloc (Nat.le_refl _) _).trans (hb2.mono (by simp))⟩
 | true =>
  simp only [Bool.true_eq_false,if_false] at h
  by_cases h24:24<l1.length
  ·rw [if_pos h24] at h
   obtain rfl:false=r:=by simpa using h
   have h24b:decide (24<l1.length)=true:=dzT h24
   clear h
   go_enter Try.func48,Try.ntmps48
   go_wp2_with (go_at_call 39;refine (HV.out _ ((Below.refl _ _).alloc (Nat.le_refl _) _)).mono ?_;rintro e w' ⟨rfl,hb2⟩)
   go_ret
   exact ⟨rfl,((Below.refl _ _).alloc (Nat.le_refl _) _).trans (hb2.mono (by simp))⟩
  ·rw [if_neg h24] at h
   have h24b:decide (24<l1.length)=false:=dzF h24
   obtain ⟨q,hq,h⟩:=bzS h
   have H0:=am hq
   have HZ:=am h
   clear h hq
   go_enter Try.func48,Try.ntmps48
   go_wp2_with (go_at_call 39;refine (HV.out _ ((Below.refl _ _).alloc (Nat.le_refl _) _)).mono ?_;rintro e w2 ⟨rfl,hb2⟩;have HB2:=am (((Below.refl w.heap.size w).alloc (Nat.le_refl _) (.cells #[.slice A0_0 l0_0.length c0_0] 35)).trans (hb2.mono (by simp)));have hs2:w.heap.size<w2.heap.size:=Nat.lt_of_lt_of_le (by simp) hb2.size;have ht2:=jha hb2 (show (w.alloc (.cells #[.slice A0_0 l0_0.length c0_0] 35)).cell? ⟨w.heap.size,0,none⟩=some (.slice A0_0 l0_0.length c0_0) by simp);clear hb2)
   obtain ⟨B1,hB1⟩:∃ B1,B1=w2.heap.size:=⟨_,rfl⟩
   have HBK:=am (show (w2.alloc (.cells #[.int .i64 (-1), .int .i64 7, .int .i64 0, .int .i64 0] 51)).heap[B1]?=some (.cells #[.int .i64 (-1), .int .i64 7, .int .i64 0, .int .i64 0] 51 (0,0)) by rw [hB1];exact heap_alloc_new w2 _)
   have hBl:=am (HB2.out.alloc (Nat.le_of_lt hs2) (.cells #[.int .i64 (-1), .int .i64 7, .int .i64 0, .int .i64 0] 51))
   have hT:=am (show (w2.alloc (.cells #[.int .i64 (-1), .int .i64 7, .int .i64 0, .int .i64 0] 51)).cell? ⟨w.heap.size,0,none⟩=some (.slice A0_0 l0_0.length c0_0) by simp [World.cell?_alloc_old,Nat.ne_of_lt hs2,ht2])
   rw [← hB1]
   have hlt1:w.heap.size<B1:=by omega
   clear hB1
   generalize w2.alloc (.cells #[.int .i64 (-1), .int .i64 7, .int .i64 0, .int .i64 0] 51)=w3 at HBK hBl hT ⊢
   clear ht2 hs2 HB2 HV
   go_loopw [19] (fun i19 wr=>∃ (n:Nat) (last:S51),i19=.int .i64 n∧n≤l1.length∧-1≤last.f0∧last.f0≤5∧jq (jE.go k l0_0 (l1.drop n) last=some q)∧jq (wr.heap[B1]?=some (.cells #[.int .i64 last.f0, .int .i64 last.f1, .int .i64 last.f2, .int .i64 last.f3] 51 (0,0)))∧jq (wr.cell? ⟨w.heap.size,0,none⟩=some (.slice A0_0 l0_0.length c0_0))∧jq (Below w.heap.size w wr)) (fun i19 _=>l1.length - (intOf i19).toNat)
   case atStart=>exact ⟨0,⟨-1,7,0,0⟩,rfl,Nat.zero_le _,by simp,by simp,H0,HBK,hT,hBl⟩
   case round =>
    clear H0 HBK hT hBl
    obtain ⟨n,last,rfl,hn,hlo,hhi,HA,HBK,HT,HB⟩:=hrel
    have ht2:=HT.out
    have g0:wr.cell? ⟨B1,0,none⟩=some (.int .i64 last.f0):=(jr HBK.out 0).trans rfl
    have g1:wr.cell? ⟨B1,1,none⟩=some (.int .i64 last.f1):=(jr HBK.out 1).trans rfl
    have g2:wr.cell? ⟨B1,2,none⟩=some (.int .i64 last.f2):=(jr HBK.out 2).trans rfl
    have g3:wr.cell? ⟨B1,3,none⟩=some (.int .i64 last.f3):=(jr HBK.out 3).trans rfl
    have hBw:B1<wr.heap.size:=jza HBK.out
    have hne:B1≠wr.heap.size:=by omega
    have hne2:w.heap.size≠wr.heap.size:=by omega
    have hTw:w.heap.size<wr.heap.size:=by omega
    by_cases hlt:n<l1.length
    ·obtain ⟨v,hv,hs⟩:=jE.step hlt HA.out
     clear HA
     obtain ⟨ad,rfl,hx0,hx1,hx2,hx3⟩:=jAa HR1.out (n:Int) (by omega) (by omega)
     have hrd:jd l1 (n:Int)=l1[n]:=by simp [jd,List.getD_eq_getElem?_getD,hlt]
     rw [hrd,Int.toNat_natCast] at hx0 hx1 hx2 hx3
     clear hrd
     generalize l1[n]=x at hv hs hx0 hx1 hx2 hx3
     have hb:=HB.out
     replace hx0:=jha hb hx0
     replace hx1:=jha hb hx1
     replace hx2:=jha hb hx2
     replace hx3:=jha hb hx3
     clear hb
     have HG:=am (fun W (hb:Below w.heap.size w W)=>jya.calls k x.f0 x.f1 x.f2 x.f3 A0_0 c0_0 l0_0 v W (Kd.jF HR0.out hb) hc0_0 hv)
     clear hv
     cases v with
     | false =>
      obtain rfl:none=q:=by simpa using hs
      obtain rfl:false=r:=by simpa using HZ.out
      clear hs HZ
      go_wp2_with (go_at_call 63;refine (HG.out _ (HB.out.alloc HB.out.size _)).mono ?_;rintro e w4 ⟨rfl,hb4⟩)
      go_ret
      exact ⟨rfl,jU (HB.out.alloc HB.out.size _) (by simp;have:=HB.out.size;omega) hb4⟩
     | true =>
      simp only [Bool.true_eq_false,if_false] at hs
      have V0:=am (show VF (wr.alloc (.cells #[.int .i64 x.f0, .int .i64 x.f1, .int .i64 x.f2, .int .i64 x.f3] 51)) B1 wr.heap.size w.heap.size last x (.slice A0_0 l0_0.length c0_0) from ⟨(heap_alloc_old wr _ hBw).trans HBK.out,heap_alloc_new wr _,by rw [World.cell?_alloc_old _ _ _ hne2];exact HT.out⟩)
      have HO:=am (fun W=>jyb.calls last.f0 last.f1 last.f2 last.f3 _ W (jBc _ _ _ _))
      clear g0 g1 g2 g3
      have tok1:True:=trivial
      have HS:=am hs
      clear hs
      cases h5:inB x.f0 0 5 with
      | false =>
       have H5:=am h5
       obtain rfl:none=q:=by simpa [jE.bad,h5] using HS.out
       obtain rfl:false=r:=by simpa using HZ.out
       clear HS HZ h5
       go_wp2_with (first |(go_at_call 63;refine (HG.out _ (HB.out.alloc HB.out.size _)).mono ?_;rintro e w4 ⟨rfl,hb4⟩;have V4:=am (VF.below V0.out hb4);have HB4:=am (jU (HB.out.alloc HB.out.size _) (by simp;have:=HB.out.size;omega) hb4);clear hb4;obtain ⟨g0,g1,g2,g3,e0,e1,e2,e3,ht4⟩:=VF.cells V4.out) |(go_at_call 60;refine (jI.calls _ _ _ _ _ (jEb _ _ _)).mono ?_;rintro e w5 ⟨rfl,⟨nd,rfl⟩⟩;rw [H5.out]))
       go_ret
       exact ⟨rfl,jf HB4.out _⟩
      | true =>
       have H5:=am h5
       have hx5:0≤x.f0∧x.f0≤5:=by simpa [inB] using h5
       cases ho:inB last.f1 7 12 with
       | true =>
        rw [ho] at HO
        by_cases hd:x.f0=last.f0+1
        ·have hb1:(x.f0 != last.f0+1)=false:=by simpa using hd
         have hbad:jE.bad x last=false:=by unfold jE.bad;rw [h5,ho];simp [hd]
         have HN:=am (by have:=HS.out;rw [hbad] at this;simpa using this:jE.go k l0_0 (l1.drop (n+1)) x=some q)
         clear hbad
         clear HS hd h5 ho
         go_wp2_with (first |(go_at_call 63;refine (HG.out _ (HB.out.alloc HB.out.size _)).mono ?_;rintro e w4 ⟨rfl,hb4⟩;have V4:=am (VF.below V0.out hb4);have HB4:=am (jU (HB.out.alloc HB.out.size _) (by simp;have:=HB.out.size;omega) hb4);clear hb4;obtain ⟨g0,g1,g2,g3,e0,e1,e2,e3,ht4⟩:=VF.cells V4.out) |(go_at_call 60;refine (jI.calls _ _ _ _ _ (jEb _ _ _)).mono ?_;rintro e w5 ⟨rfl,⟨nd,rfl⟩⟩;rw [H5.out]) |(go_at_call 64;have tk1:=tok1;clear tok1;refine (HO.out _).mono ?_;rintro e w6 ⟨rfl,hb6⟩;have V6:=am (VF.below (W:=World.drewN _ _) V4.out hb6);have HB6:=am (jU (w1:=World.drewN _ _) (show Below w.heap.size w (World.drewN _ _) from ⟨HB4.out.os,HB4.out.tape,HB4.out.output,HB4.out.size,HB4.out.block⟩) HB4.out.size hb6);clear hb6 g0 g1 g2 g3 e0 e1 e2 e3 ht4;obtain ⟨g0,g1,g2,g3,e0,e1,e2,e3,ht4⟩:=VF.cells V6.out) |(go_at_call 64;refine (HO.out _).mono ?_;rintro e w7 ⟨rfl,hb7⟩;have V7:=am (VF.below V6.out hb7);have HB7:=am (jU HB6.out HB6.out.size hb7);clear hb7 g0 g1 g2 g3 e0 e1 e2 e3 ht4;obtain ⟨g0,g1,g2,g3,e0,e1,e2,e3,ht4⟩:=VF.cells V7.out;obtain ⟨f0,f1,f2,f3⟩:=VF.frozen V7.out))
         go_roundw
         case rel=>exact ⟨n+1,x,by go_num,hlt,by omega,by omega,HN,⟨four_stored V7.out.1⟩,⟨four_far V7.out.2.2 (by omega)⟩,⟨four_below HB7.out (by omega)⟩⟩
         case measure=>simp [intOf];omega
        ·have hb1:(x.f0 != last.f0+1)=true:=by simpa using hd
         obtain rfl:none=q:=by simpa [jE.bad,h5,ho,hd] using HS.out
         obtain rfl:false=r:=by simpa using HZ.out
         clear HS HZ hd h5 ho
         go_wp2_with (first |(go_at_call 63;refine (HG.out _ (HB.out.alloc HB.out.size _)).mono ?_;rintro e w4 ⟨rfl,hb4⟩;have V4:=am (VF.below V0.out hb4);have HB4:=am (jU (HB.out.alloc HB.out.size _) (by simp;have:=HB.out.size;omega) hb4);clear hb4;obtain ⟨g0,g1,g2,g3,e0,e1,e2,e3,ht4⟩:=VF.cells V4.out) |(go_at_call 60;refine (jI.calls _ _ _ _ _ (jEb _ _ _)).mono ?_;rintro e w5 ⟨rfl,⟨nd,rfl⟩⟩;rw [H5.out]) |(go_at_call 64;have tk1:=tok1;clear tok1;refine (HO.out _).mono ?_;rintro e w6 ⟨rfl,hb6⟩;have V6:=am (VF.below (W:=World.drewN _ _) V4.out hb6);have HB6:=am (jU (w1:=World.drewN _ _) (show Below w.heap.size w (World.drewN _ _) from ⟨HB4.out.os,HB4.out.tape,HB4.out.output,HB4.out.size,HB4.out.block⟩) HB4.out.size hb6);clear hb6 g0 g1 g2 g3 e0 e1 e2 e3 ht4;obtain ⟨g0,g1,g2,g3,e0,e1,e2,e3,ht4⟩:=VF.cells V6.out))
         go_ret
         exact ⟨rfl,HB6.out⟩
       | false =>
        rw [ho] at HO
        by_cases hd:last.f0<x.f0
        ·have hb1:decide (last.f0<x.f0)=true:=dzT hd
         have hbad:jE.bad x last=true:=by unfold jE.bad;rw [h5,ho];simp [hd]
         obtain rfl:none=q:=by have:=HS.out;rw [hbad] at this;simpa using this
         obtain rfl:false=r:=by simpa using HZ.out
         clear HS HZ hd h5 ho hbad
         go_wp2_with (first |(go_at_call 63;refine (HG.out _ (HB.out.alloc HB.out.size _)).mono ?_;rintro e w4 ⟨rfl,hb4⟩;have V4:=am (VF.below V0.out hb4);have HB4:=am (jU (HB.out.alloc HB.out.size _) (by simp;have:=HB.out.size;omega) hb4);clear hb4;obtain ⟨g0,g1,g2,g3,e0,e1,e2,e3,ht4⟩:=VF.cells V4.out) |(go_at_call 60;refine (jI.calls _ _ _ _ _ (jEb _ _ _)).mono ?_;rintro e w5 ⟨rfl,⟨nd,rfl⟩⟩;rw [H5.out]) |(go_at_call 64;have tk1:=tok1;clear tok1;refine (HO.out _).mono ?_;rintro e w6 ⟨rfl,hb6⟩;have V6:=am (VF.below (W:=World.drewN _ _) V4.out hb6);have HB6:=am (jU (w1:=World.drewN _ _) (show Below w.heap.size w (World.drewN _ _) from ⟨HB4.out.os,HB4.out.tape,HB4.out.output,HB4.out.size,HB4.out.block⟩) HB4.out.size hb6);clear hb6 g0 g1 g2 g3 e0 e1 e2 e3 ht4;obtain ⟨g0,g1,g2,g3,e0,e1,e2,e3,ht4⟩:=VF.cells V6.out) |(go_at_call 64;refine (HO.out _).mono ?_;rintro e w7 ⟨rfl,hb7⟩;have V7:=am (VF.below V6.out hb7);have HB7:=am (jU HB6.out HB6.out.size hb7);clear hb7 g0 g1 g2 g3 e0 e1 e2 e3 ht4;obtain ⟨g0,g1,g2,g3,e0,e1,e2,e3,ht4⟩:=VF.cells V7.out;obtain ⟨f0,f1,f2,f3⟩:=VF.frozen V7.out))
         go_ret
         exact ⟨rfl,HB7.out⟩
        ·have hb1:decide (last.f0<x.f0)=false:=dzF hd
         have hbad:jE.bad x last=false:=by unfold jE.bad;rw [h5,ho];simp [hd]
         have HN:=am (by have:=HS.out;rw [hbad] at this;simpa using this:jE.go k l0_0 (l1.drop (n+1)) x=some q)
         clear hbad HS hd h5 ho
         go_wp2_with (first |(go_at_call 63;refine (HG.out _ (HB.out.alloc HB.out.size _)).mono ?_;rintro e w4 ⟨rfl,hb4⟩;have V4:=am (VF.below V0.out hb4);have HB4:=am (jU (HB.out.alloc HB.out.size _) (by simp;have:=HB.out.size;omega) hb4);clear hb4;obtain ⟨g0,g1,g2,g3,e0,e1,e2,e3,ht4⟩:=VF.cells V4.out) |(go_at_call 60;refine (jI.calls _ _ _ _ _ (jEb _ _ _)).mono ?_;rintro e w5 ⟨rfl,⟨nd,rfl⟩⟩;rw [H5.out]) |(go_at_call 64;have tk1:=tok1;clear tok1;refine (HO.out _).mono ?_;rintro e w6 ⟨rfl,hb6⟩;have V6:=am (VF.below (W:=World.drewN _ _) V4.out hb6);have HB6:=am (jU (w1:=World.drewN _ _) (show Below w.heap.size w (World.drewN _ _) from ⟨HB4.out.os,HB4.out.tape,HB4.out.output,HB4.out.size,HB4.out.block⟩) HB4.out.size hb6);clear hb6 g0 g1 g2 g3 e0 e1 e2 e3 ht4;obtain ⟨g0,g1,g2,g3,e0,e1,e2,e3,ht4⟩:=VF.cells V6.out) |(go_at_call 64;refine (HO.out _).mono ?_;rintro e w7 ⟨rfl,hb7⟩;have V7:=am (VF.below V6.out hb7);have HB7:=am (jU HB6.out HB6.out.size hb7);clear hb7 g0 g1 g2 g3 e0 e1 e2 e3 ht4;obtain ⟨g0,g1,g2,g3,e0,e1,e2,e3,ht4⟩:=VF.cells V7.out;obtain ⟨f0,f1,f2,f3⟩:=VF.frozen V7.out))
         go_roundw
         case rel=>exact ⟨n+1,x,by go_num,hlt,by omega,by omega,HN,⟨four_stored V7.out.1⟩,⟨four_far V7.out.2.2 (by omega)⟩,⟨four_below HB7.out (by omega)⟩⟩
         case measure=>simp [intOf];omega
    ·have hgo:=HA.out
     rw [List.drop_eq_nil_of_le (by omega)] at hgo
     obtain rfl:some last=q:=by simpa [jE.go] using hgo
     clear hgo HA
     have HY:=am HZ.out
     clear HZ
     by_cases h0:l1.length=0
     ·have hy:=HY.out
      simp only [if_pos h0] at hy
      have HQ:=am (fun W (hb:Below w.heap.size w W)=>ji.calls k A1 c1 l1 0 (l1.length:Int) false r W (Kd.jF HR1.out hb) hc1 hy)
      have HBX:=HB.out
      clear hy HY
      have hz1:((l1.length:Int) == 0)=true:=by simp [h0]
      have hz2:(l1.length == 0)=true:=by simp [h0]
      clear h0
      go_wp2_with (first |(go_at_call 65;refine (HQ.out _ HBX).mono ?_;rintro e w9 ⟨rfl,hb9⟩;have HB9:=am (jU HBX HBX.size hb9)))
      go_ret
      exact ⟨rfl,HB9.out⟩
     ·have hz1:((l1.length:Int) == 0)=false:=by simpa using h0
      have hz2:(l1.length == 0)=false:=by simpa using h0
      have HO:=am (fun W=>jyb.calls last.f0 last.f1 last.f2 last.f3 _ W (jBc _ _ _ _))
      have hy:=HY.out
      simp only [if_neg h0] at hy
      clear HY
      cases ho:inB last.f1 7 12 with
      | true =>
       rw [ho] at HO hy
       obtain rfl:false=r:=by simpa using hy
       clear hy ho h0
       go_wp2_with (first |(go_at_call 64;refine (HO.out _).mono ?_;rintro e w6 ⟨rfl,hb6⟩;have HBX:=jU HB.out HB.out.size hb6;clear hb6))
       go_ret
       exact ⟨rfl,HBX⟩
      | false =>
       rw [ho] at HO hy
       simp only [Bool.false_eq_true,if_false] at hy
       have HQ:=am (fun W (hb:Below w.heap.size w W)=>ji.calls k A1 c1 l1 0 (l1.length:Int) false r W (Kd.jF HR1.out hb) hc1 hy)
       clear hy ho h0
       go_wp2_with (first |(go_at_call 64;refine (HO.out _).mono ?_;rintro e w6 ⟨rfl,hb6⟩;have HBX:=jU HB.out HB.out.size hb6;clear hb6) |(go_at_call 65;refine (HQ.out _ HBX).mono ?_;rintro e w9 ⟨rfl,hb9⟩;have HB9:=am (jU HBX HBX.size hb9)))
       go_ret
       exact ⟨rfl,HB9.out⟩
def jzb.f (l0 : List (S51)) : Option ((List (S51))) := some (l0)
set_option maxHeartbeats 8000000 in
set_option maxRecDepth 100000 in
theorem jzb.calls (P0_ : Nat → Prop) (u9000_ : Value) (l0 : List (S51)) (r : List (S51)) (w0 w : World) (hB : Below w0.heap.size w0 w) (ho0 : Kd.R k51 51 w w0.heap.size P0_ u9000_ l0) (h : jzb.f l0 = some r) :
  Calls Try.prog 49 #[u9000_] w fun e w'=>∃ v0_:Value,e=.returned (v0_)∧Kd.R k51 51 w' w0.heap.size (fun k_=>(P0_ k_∨w.heap.size≤k_)) v0_ r∧Below w0.heap.size w0 w'∧Kept w w' (fun k_=>P0_ k_):=by
 have HO0:=am (show Kd.R k51 51 w w0.heap.size (fun k_=>(P0_ k_∨w.heap.size≤k_)) u9000_ l0 from Kd.jca ho0 (fun k_ hk=>(.inl hk)))
 have HK:=am (Kept.refl w (fun k_=>P0_ k_))
 have HW0:=am hB.size
 have HB:=am hB
 clear hB
 have H:(some (l0))=some r:=h
 clear h
 obtain ⟨y375,hy375⟩:∃ y_:List (S51),y_=(l0):=⟨_,rfl⟩
 replace H:(some y375)=some r:=by first |(rw [hy375];with_reducible exact H) |(have H2_:=(Option.bind_some _ _).symm.trans H;rw [hy375];with_reducible exact H2_) |(have H2_:=(Option.bind_some _ _).symm.trans H;with_reducible exact H2_) | with_reducible exact H |(rw [hy375];exact H) | exact H
 have Ny375:=am hy375
 clear hy375
 obtain rfl:=Option.some.inj H
 obtain ⟨Ao2,co2,eo2⟩:=Kd.jga HO0.out
 subst eo2
 obtain ⟨i03,hi03,_,hsz3,_⟩:=info_parts info51
 have hy3:y375.length=l0.length:=(by rw [Ny375.out])
 have hcut3:=cut_clip (P:=Try.prog) 30 51 Try.underlying30 hi03 Ao2 _ co2 _ (Kd.jw HO0.out).2.1 hy3
 have hr3:=Kd.R_clip HO0.out Ny375.out
 clear hy3 hi03 hsz3 HO0
 have HO377:=am hr3
 clear hr3
 go_enter Try.func49,Try.ntmps49
 go_wp2
 go_ret
 exact ⟨_,Y0,rq HO377.out,bq,Y7⟩
def jib.f (k : Nat) (l0_0 : List (S75)) (l1 : List (S51)) : Option ((List (S51)) × Bool) := (jE.f k l0_0 l1).bind fun t379 => (if t379 = true then ((jzb.f l1).bind fun t380 => (some (t380, true))) else (some (([] : List (S51)), false)))
set_option maxHeartbeats 8000000 in
set_option maxRecDepth 100000 in
theorem jib.calls (k : Nat) (A0_0 : Option Addr) (c0_0 : Nat) (l0_0 : List (S75)) (P1_ : Nat → Prop) (u9000_ : Value) (l1 : List (S51)) (r1 : List (S51)) (r2 : Bool) (w0 w : World) (hB : Below w0.heap.size w0 w) (hr0_0 : ∀ W_, Kept w W_ (fun k_ => P1_ k_) → Kd.C k75 W_ A0_0 l0_0.length l0_0) (hc0_0 : l0_0.length ≤ c0_0) (ho1 : Kd.R k51 51 w w0.heap.size P1_ u9000_ l1) (h : jib.f k l0_0 l1 = some (r1, r2)) :
  Calls Try.prog 28 #[.agg #[.slice A0_0 l0_0.length c0_0],u9000_] w fun e w'=>∃ v0_:Value,e=.returned (.tuple #[v0_, .bool r2])∧Kd.R k51 51 w' w0.heap.size (fun k_=>(P1_ k_∨w.heap.size≤k_)) v0_ r1∧Below w0.heap.size w0 w'∧Kept w w' (fun k_=>P1_ k_):=by
 have hu35:=Try.underlying35
 have HR0_0:=am hr0_0
 have HC0_0:=am hc0_0
 clear hr0_0 hc0_0
 have HO1:=am (show Kd.R k51 51 w w0.heap.size (fun k_=>(P1_ k_∨w.heap.size≤k_)) u9000_ l1 from Kd.jca ho1 (fun k_ hk=>(.inl hk)))
 have HK:=am (Kept.refl w (fun k_=>P1_ k_))
 have HW0:=am hB.size
 have HB:=am hB
 clear hB
 have H:((jE.f k l0_0 l1).bind fun t379=>(if t379=true then ((jzb.f l1).bind fun t380=>(some (t380,true))) else (some (([]:List (S51)),false))))=some (r1,r2):=h
 clear h
 replace H:=bzS H
 obtain ⟨t379,A30,H⟩:=H
 replace H:(if t379=true then ((jzb.f l1).bind fun t380=>(some (t380,true))) else (some (([]:List (S51)),false)))=some (r1,r2):=H
 have A3:=am A30
 clear A30
 by_cases c4:t379=true
 ·subst c4
  have H1:((jzb.f l1).bind fun t380=>(some (t380,true)))=some (r1,r2):=by rw [if_pos rfl] at H;exact H
  clear H
  have H:=H1
  clear H1
  replace H:=bzS H
  obtain ⟨t380,A50,H⟩:=H
  replace H:(some (t380,true))=some (r1,r2):=H
  have A5:=am A50
  clear A50
  simp only [Option.some.injEq,Prod.mk.injEq] at H
  obtain ⟨rfl,rfl⟩:=H
  go_enter Try.func28,Try.ntmps28
  go_wp2_with (first |((with_reducible refine jB (N:=2) rfl ?_);refine bE (N:=2) (cs:=#[.slice A0_0 l0_0.length c0_0]) (t:=35) ?_;intro gb378 hg w6 hbox hb;have BK378:=am (hbox);have GW378:=am ((Y43:w.heap.size≤gb378));have GE378:=am ((Y1:w0.heap.size≤gb378));replace HO1:=am (Kd.jH (rq HO1.out) hb);replace HK:=am (Kept.below (S:=(fun k_=>P1_ k_)) (Y7) hb);replace HB:=am (jc (bq) hb);clear hb hbox hg;have hcz7_0:=bc0 BK378.out;have hfz7_0:=ja BK378.out 0;obtain ⟨Ao8,co8,eo8⟩:=Kd.jga HO1.out;subst eo8) |((with_reducible refine jg (f:=48) rfl ?_);refine gL (some 8) Try.func48 #[.agg #[.slice A0_0 l0_0.length c0_0], .slice Ao8 l1.length co8] ?_;(with_reducible refine (jE.calls k _ _ l0_0 _ _ l1 true _ ?side1 ?side2 ?side3 ?side4 A3.out).mono ?_);(case side1=>exact Kd.C_kept_now HR0_0.out (Y22));(case side2=>exact HC0_0.out);(case side3=>exact cq (Kd.jw HO1.out).2.2);(case side4=>exact (Kd.jw HO1.out).2.1);rintro e w9 ⟨rfl,hb⟩;refine ⟨_,rfl,?_⟩;replace HO1:=am (Kd.jH (rq HO1.out) hb);replace BK378:=am (je (g:=gb378) (o:=.cells #[.slice A0_0 l0_0.length c0_0] 35 (0,0)) (kq BK378.out) hb);replace HK:=am (Kept.below (S:=(fun k_=>P1_ k_)) (Y22) hb);replace HB:=am (jc (Y32) hb);(try clear hb);(try clear hb2);(try clear hk);(try clear hi)) |((with_reducible refine jg (f:=49) rfl ?_);refine gL (some 11) Try.func49 #[.slice Ao8 l1.length co8] ?_;(with_reducible refine (jzb.calls (fun k_=>some k_=(.slice Ao8 l1.length co8:Value).ownBlock) (.slice Ao8 l1.length co8) l1 t380 w0 _ ?side1 ?side2 A5.out).mono ?_);(case side1=>exact Y32);(case side2=>exact Kd.R_tight rfl HO1.out);rintro e w10 ⟨v381,rfl,ho0,hb,hkp⟩;refine ⟨_,rfl,?_⟩;have n0_:=am (jOb (kq BK378.out) hkp (fun hs_=>(fun e_=>(Kd.R_ne HO1.out BK378.out (by decide)) e_) hs_));have n1_:=am (Kd.jca (ok':=fun k_=>(P1_ k_∨w.heap.size≤k_)) ho0 (fun k_ hk_=>Or.elim hk_ (fun hs_=>(HO1.out.1 k_ (hs_).symm)) (fun hn_=>(.inr (Nat.le_trans (by first | exact HK.out.1 | exact (show Kept w _ (fun k_=>P1_ k_) from by repeat (first |(with_reducible first | exact HK.out | apply Kept.alloc | apply Kept.drewN | apply Kept.drew | refine Kept.setCell ?_ (.inr GW378.out) _) | exact HK.out)).1) hn_)))));have n2_:=am (Kept.then_ (S:=(fun k_=>P1_ k_)) (Y22) hkp (fun k_ hs_=>(fun e_=>(HO1.out.1 k_ e_.symm)) hs_));have n3_:=am (hb);clear BK378 HK HB HO1;have BK378:=n0_;have HO382:=n1_;have HK:=n2_;have HB:=n3_;clear n0_ n1_ n2_ n3_;(try clear hb);(try clear hkp);(try clear ho0)))
  go_ret2
  exact ⟨_,Y0,rq HO382.out,Y32,Y22⟩
 ·replace c4:=Bool.eq_false_iff.mpr c4
  subst c4
  have H1:(some (([]:List (S51)),false))=some (r1,r2):=by rw [if_neg (show ¬ (false=true) by decide)] at H;exact H
  clear H
  have H:=H1
  clear H1
  simp only [Option.some.injEq,Prod.mk.injEq] at H
  obtain ⟨rfl,rfl⟩:=H
  go_enter Try.func28,Try.ntmps28
  go_wp2_with (first |((with_reducible refine jB (N:=2) rfl ?_);refine bE (N:=2) (cs:=#[.slice A0_0 l0_0.length c0_0]) (t:=35) ?_;intro gb378 hg w11 hbox hb;have BK378:=am (hbox);have GW378:=am ((Y43:w.heap.size≤gb378));have GE378:=am ((Y1:w0.heap.size≤gb378));replace HO1:=am (Kd.jH (rq HO1.out) hb);replace HK:=am (Kept.below (S:=(fun k_=>P1_ k_)) (Y7) hb);replace HB:=am (jc (bq) hb);clear hb hbox hg;have hcz12_0:=bc0 BK378.out;have hfz12_0:=ja BK378.out 0;obtain ⟨Ao13,co13,eo13⟩:=Kd.jga HO1.out;subst eo13) |((with_reducible refine jg (f:=48) rfl ?_);refine gL (some 8) Try.func48 #[.agg #[.slice A0_0 l0_0.length c0_0], .slice Ao13 l1.length co13] ?_;(with_reducible refine (jE.calls k _ _ l0_0 _ _ l1 false _ ?side1 ?side2 ?side3 ?side4 A3.out).mono ?_);(case side1=>exact Kd.C_kept_now HR0_0.out (Y22));(case side2=>exact HC0_0.out);(case side3=>exact cq (Kd.jw HO1.out).2.2);(case side4=>exact (Kd.jw HO1.out).2.1);rintro e w14 ⟨rfl,hb⟩;refine ⟨_,rfl,?_⟩;replace HO1:=am (Kd.jH (rq HO1.out) hb);replace BK378:=am (je (g:=gb378) (o:=.cells #[.slice A0_0 l0_0.length c0_0] 35 (0,0)) (kq BK378.out) hb);replace HK:=am (Kept.below (S:=(fun k_=>P1_ k_)) (Y22) hb);replace HB:=am (jc (Y32) hb);(try clear hb);(try clear hb2);(try clear hk);(try clear hi)))
  go_ret2
  exact ⟨_,Y0,Y57,Y32,Y22⟩
section
open Go.Shelf
attribute [local go_sem] Oper.semAt_some
theorem xwrP {x : Int} (h : -9223372036854775808 ≤ x ∧ x ≤ 9223372036854775807) : wrap64 x = x := by unfold wrap64; omega
def uptoP {α : Type} (f : Nat → α) (k : Nat) : List α := (List.range k).map f
theorem uptoP_succ {α : Type} (f : Nat → α) (k : Nat) : uptoP f (k + 1) = uptoP f k ++ [f k] := by simp [uptoP, List.range_succ]
theorem uptoP_length {α : Type} (f : Nat → α) (k : Nat) : (uptoP f k).length = k := by simp [uptoP]
set_option maxRecDepth 100000 in
set_option maxHeartbeats 4000000 in
theorem backP1_in {α : Type} (F : Fence) (n : Nat) (h8 : F.fn 45) (hro : F.round = none) (hn : 1 ≤ n) (l Bs : Nat) (A : Option Addr) (cap : Nat) (xs : List S54) (hm : xs.length ≤ 9223372036854775807) (RD : World → Prop) (Kp : World → World → Prop) (hRD : ∀ W, RD W → Kd.C k54 W A xs.length xs ∧ Boxed W Bs 37 (.slice A xs.length cap)) (hKp : ∀ W W', Kp W W' → RD W → RD W')
  (encs:α→Array Value) (g:Nat→α) (hg:∀ j:Nat,j<xs.length→encs (g j)=#[.int .i64 ((xs.length:Int) - 1 - j), .agg #[.int .i64 (jN xs ((xs.length:Int) - 1 - j)).f0, .int .i64 (jN xs ((xs.length:Int) - 1 - j)).f1, .int .i64 (jN xs ((xs.length:Int) - 1 - j)).f2]])
  (J Jx:List α→World→Prop)
  (hY:∀ pre x W,J pre W→pre.length<xs.length→YieldAt F (n - 1) Try.prog l (encs x) W fun e W' =>
   (e=.returned (.bool true)∧J (pre ++ [x]) W'∧Kp W W')∨(e=.returned (.bool false)∧Jx (pre ++ [x]) W'))
  (W:World) (hW:RD W) (h0:J [] W) :
  CallsIn F n Try.prog 45 #[.func (.yield l) #[] #[], .pointer (some ⟨Bs,0,none⟩)] W fun e W'=>(∃ v,e=.returned v) ∧
   ((∃ ys,ys=uptoP g xs.length∧J ys W')∨(∃ pre,(∃ k,k≤xs.length∧pre=uptoP g k)∧Jx pre W')):=by
 have hu:=Try.underlying54
 have cBs:=(hRD W hW).2.cell
 refine callsIn_of_wp Try.func45 rfl h8 ?_ hro
 simp only [Try.ntmps45,List.size_toArray,List.length_cons,List.length_nil,Nat.reduceAdd,Nat.reduceSub,Array.replicate_succ,Array.replicate_zero,List.push_toArray,List.append_toArray,List.nil_append,List.cons_append]
 gi_wp2
 have hwr:wrap64 ((xs.length:Int) - 1)=(xs.length:Int) - 1:=xwrP (by omega)
 gi_loopw [3] (fun i wr=>∃ k:Nat,k≤xs.length∧i=.int .i64 ((xs.length:Int) - 1 - k)∧J (uptoP g k) wr∧RD wr)
  (fun i _=>(intOf i+1).toNat)
 case atStart=>exact ⟨0,Nat.zero_le _,by simp,h0,hW⟩
 case round =>
  obtain ⟨k,hk,rfl,hJs,hnx⟩:=hrel
  have cB:=(hRD _ hnx).2.cell
  by_cases hlt:k<xs.length
  ·obtain ⟨fn,tmps,assign,body,hy,hR⟩:=hY _ (g k) wr hJs (by rw [uptoP_length];exact hlt)
   rw [hg k hlt] at hy
   obtain ⟨j,hj⟩:∃ j:Nat,(xs.length:Int) - 1 - k=(j:Int):=⟨xs.length - 1 - k,by omega⟩
   have p0:0≤(j:Int):=by omega
   have p1:(j:Int)<(xs.length:Int):=by omega
   have p2:j<xs.length:=by omega
   rw [hj] at hy ⊢
   obtain ⟨ad,rfl,x0,x1,x2⟩:=at_T54 (hRD _ hnx).1 (j:Int) p0 p1
   rw [Int.toNat_natCast] at x0 x1 x2
   gi_wp2
   refine hR.mono ?_
   rintro e W3 (⟨rfl,hJ3,hk3⟩ | ⟨rfl,hJx3⟩)
   ·have hb3:=hKp _ _ hk3 hnx
    have c3:=(hRD _ hb3).2.cell
    gi_wp2
    go_roundw
    case rel=>exact ⟨k+1,by omega,by congr 1;omega,by rw [uptoP_succ];exact hJ3,hb3⟩
    case measure=>simp [intOf]
   ·gi_wp2
    refine bodyPost_ret (results_none rfl _ _ _) rfl ?_
    exact ⟨⟨_,rfl⟩, .inr ⟨_,⟨k+1,by omega,(uptoP_succ _ _).symm⟩,hJx3⟩⟩
  ·obtain rfl:k=xs.length:=by omega
   have q2:decide ((xs.length:Int) - 1 - xs.length≥0)=false:=dzF (by omega)
   gi_wp2
   go_end0
   exact ⟨⟨_,rfl⟩, .inl ⟨_,rfl,hJs⟩⟩
theorem KeepsFrom.jkc {W W' : World} (h : Below W.heap.size W W') (B : Nat) : KeepsFrom B W W' := ⟨h.size, fun k o _ hk _ => (h.block k (Array.getElem?_eq_some_iff.1 hk).1).trans hk⟩
theorem Boxed.jwc {W W' : World} {B : Nat} {t : TypeId} {v : Value} (h : Boxed W B t v) (hb : Below W.heap.size W W') : Boxed W' B t v := (hb.block B h.lt).trans h
set_option maxHeartbeats 1000000 in
theorem backP_in (F : Fence) (n : Nat) (h6 : F.fn 26) (hro : F.round = none) (a : Option Addr) (len cap : Nat) (w : World) :
  CallsIn F n Try.prog 26 #[.slice a len cap] w fun e w'=>e=.returned (.func (.func 45) #[] #[.pointer (some ⟨w.heap.size,0,none⟩)])∧w'=w.alloc (.cells #[.slice a len cap] 37):=by
 refine callsIn_of_wp Try.func26 rfl h6 ?_ hro
 simp only [Try.ntmps26,List.size_toArray,List.length_cons,List.length_nil,Nat.reduceAdd,Nat.reduceSub,Array.replicate_succ,Array.replicate_zero,List.push_toArray,List.append_toArray,List.nil_append,List.cons_append]
 gi_wp2
 go_ret
 exact ⟨rfl,rfl⟩
def poIn (P : List S51) : List S51 := if P.length = 0 then [⟨1, 0, 0, 0⟩] else P.map fun x => ⟨wrap64 (x.f0 + 1), x.f1, x.f2, x.f3⟩
def poAr (P more : List S51) : List S51 := ⟨0, 7, 0, 0⟩ :: (poIn P ++ more)
def jdc (x : S54) : List S51 := if x.f0 = 0 then [(⟨0, 10, 0, 0⟩ : S51), (⟨1, 1, x.f1, 0⟩ : S51)] else if x.f0 = 1 then [(⟨0, 8, 0, 0⟩ : S51), (⟨1, 1, x.f1, 0⟩ : S51), (⟨1, 3, 0, 0⟩ : S51)] else if x.f0 = 2 then [(⟨0, 8, x.f1, 0⟩ : S51), (⟨1, 0, 0, 0⟩ : S51)] else if x.f0 = 3 then [(⟨0, 10, 0, 0⟩ : S51), (⟨1, 2, x.f1, x.f2⟩ : S51)] else []
def jbb (P : List S51) (x : S54) : List S51 := if jdc x = [] then P else poAr P (jdc x)
def jfc (a : Bool) (b c : Int) : List S51 := if a = true then [⟨0, 2, b, c⟩] else [⟨0, 0, 0, 0⟩]
def poAll (l : List S54) (p : List S51) : List S51 := l.reverse.foldl jbb p
theorem poIn_len (P : List S51) : (poIn P).length ≤ P.length + 1 := by unfold poIn; split <;> simp
theorem poMore_len (x : S54) : (jdc x).length ≤ 3 := by unfold jdc; repeat (first | split | simp)
theorem poStep_len (P : List S51) (x : S54) : (jbb P x).length ≤ P.length + 5 := by
 unfold jbb poAr
 have h1:=poIn_len P
 have h2:=poMore_len x
 split
 ·omega
 ·simp only [List.length_cons,List.length_append];omega
theorem po_inner_l0 {P : List S51} (hm : P.length ≤ 1000000000) : ∀ (n i k : Nat) (acc : List S51), n + i = P.length → n + 1 ≤ k → acc.length = i → jTa.l0 k acc P (P.length : Int) (i : Int) = some (acc ++ (P.drop i).map fun x => ⟨wrap64 (x.f0 + 1), x.f1, x.f2, x.f3⟩)
 | 0,i,k,acc,h,hk,ha=>by
  obtain ⟨m,rfl⟩:∃ m,k=m+1:=⟨k - 1,by omega⟩
  rw [jTa.l0,if_neg (by omega),List.drop_eq_nil_of_le (by omega),List.map_nil,List.append_nil]
 | n+1,i,k,acc,h,hk,ha=>by
  obtain ⟨m,rfl⟩:∃ m,k=m+1:=⟨k - 1,by omega⟩
  have hi:i<P.length:=by omega
  have hr:jd P (i:Int)=P[i]:=by simp [jd,List.getD_eq_getElem?_getD,hi]
  rw [jTa.l0,if_pos (by omega),if_pos (by omega),if_pos (by omega),if_pos (by omega),hr,show wrap64 ((i:Int)+1)=((i+1:Nat):Int) by unfold wrap64;omega]
  rw [po_inner_l0 hm n (i+1) m _ (by omega) (by omega) (by simp [ha]),List.drop_eq_getElem_cons hi,List.map_cons,List.append_assoc]
  rfl
theorem po_inner {P : List S51} {k : Nat} (hk : P.length + 2 ≤ k) (hm : P.length ≤ 1000000000) : jTa.f k P = some (poIn P) := by
 unfold jTa.f poIn
 by_cases h:P.length=0
 ·rw [if_pos (by omega),if_pos h]
 ·rw [if_neg (by omega),if_neg h,if_pos (by omega),if_pos (by omega)]
  have:=po_inner_l0 hm P.length 0 k [] (by omega) (by omega) rfl
  rw [List.drop_zero,List.nil_append] at this
  exact this
theorem po_around {P more : List S51} {k : Nat} (hk : P.length + 2 ≤ k) (hm : P.length ≤ 1000000000) (h2 : more.length ≤ 3) : jic.f k P more = some (poAr P more) := by
 unfold jic.f
 rw [po_inner hk hm]
 simp only [Option.bind_some]
 unfold jQa.f
 have h1:=poIn_len P
 have e:([[(⟨0,7,0,0⟩:S51)],poIn P,more]:List (List S51)).flatten=poAr P more:=by simp [poAr]
 rw [e,if_pos (by unfold poAr;simp only [List.length_cons,List.length_append];omega)]
 rfl
theorem po0 {w : World} {b : Nat} {v : Value} {l : List Value} {t : TypeId} (h : w.heap[b]? = some (.cells ⟨v :: l⟩ t (0, 0))) : w.cell? ⟨b, 0, none⟩ = some v := (jr h 0).trans rfl
theorem po1 {w : World} {b : Nat} {v v1 : Value} {l : List Value} {t : TypeId} (h : w.heap[b]? = some (.cells ⟨v :: v1 :: l⟩ t (0, 0))) : w.cell? ⟨b, 1, none⟩ = some v1 := (jr h 1).trans rfl
theorem po2 {w : World} {b : Nat} {v v1 v2 : Value} {l : List Value} {t : TypeId} (h : w.heap[b]? = some (.cells ⟨v :: v1 :: v2 :: l⟩ t (0, 0))) : w.cell? ⟨b, 2, none⟩ = some v2 := (jr h 2).trans rfl
def jea.f (k : Nat) (l0_0 : List S75) (l1 : List S54) (a2_0 : Bool) (a2_1 a2_2 : Int) : Option (List S51 × Bool) :=
 (jxb.f k l0_0 l1).bind fun v=>if v=true then ((job.f a2_0 a2_1 a2_2 l0_0).bind fun v2=>if v2=true then (if l1.length≤1000000 then (if 5 * l1.length+10≤k then jib.f k l0_0 (poAll l1 (jfc a2_0 a2_1 a2_2)) else none) else none) else some ([],false)) else some ([],false)
abbrev PoEl := Int × S54
def jHb (p : List S51) (pre : List PoEl) : List S51 := pre.foldl (fun P x => jbb P x.2) p
theorem poAcc_snoc (p : List S51) (pre : List PoEl) (x : PoEl) : jHb p (pre ++ [x]) = jbb (jHb p pre) x.2 := by simp [jHb]
theorem poAcc_len (p : List S51) (pre : List PoEl) : (jHb p pre).length ≤ p.length + 5 * pre.length := by
 unfold jHb
 induction pre generalizing p with
 | nil=>simp
 | cons x r ih =>
  rw [List.foldl_cons,List.length_cons]
  have h1:=ih (jbb p x.2)
  have h2:=poStep_len p x.2
  omega
def poOf (l : List S54) (j : Nat) : PoEl := ((l.length : Int) - 1 - j, jN l ((l.length : Int) - 1 - j))
theorem poAcc_all (p : List S51) (l : List S54) : jHb p (uptoP (poOf l) l.length) = poAll l p := by
 have e:(uptoP (poOf l) l.length).map (fun x=>x.2)=l.reverse:=by
  apply List.ext_getElem
  ·simp [uptoP_length]
  ·intro j h1 h2
   have hj:j<l.length:=by simpa [uptoP_length] using h1
   have e1:((l.length:Int) - 1 - j).toNat=l.length - 1 - j:=by omega
   have h3:l.length - 1 - j<l.length:=by omega
   simp only [List.getElem_map,List.getElem_reverse,uptoP,List.getElem_range,poOf]
   rw [jN,e1,List.getD_eq_getElem?_getD,List.getElem?_eq_getElem h3];rfl
 unfold poAll jHb
 rw [← e,List.foldl_map]
def encP (l : List S51) : List Value := (l.map fun x => [Value.int .i64 x.f0, .int .i64 x.f1, .int .i64 x.f2, .int .i64 x.f3]).flatten
theorem reps_encP (w : World) (base : Nat) (ok : Nat → Prop) : ∀ l : List S51, Reps (k51.M w base ok) 4 l (encP l)
 | []=>Reps.none _ _
 | x :: l=>Reps.c4 (jfb _ _ _ x) (reps_encP w base ok l)
theorem encP_len (l : List S51) : (encP l).length = l.length * 4 := by
 induction l with
 | nil=>rfl
 | cons x r ih=>simp only [encP,List.map_cons,List.flatten_cons,List.length_append,List.length_cons,List.length_nil] at ih ⊢;rw [ih];omega
theorem po_lit (l : List S51) (w : World) (base : Nat) (hb : base ≤ w.heap.size) (hl : l.length ≤ 1000) : Kd.R k51 51 (w.alloc (.cells (encP l).toArray 51)) base (fun k => k = w.heap.size) (.slice (some ⟨w.heap.size, 0, none⟩) l.length l.length) l := by
 refine ⟨?_,encP l,World.ownsRow.weak ?_,reps_encP _ _ _ _⟩
 ·intro k hk;simpa [Value.ownBlock] using hk.symm
 ·have h:=World.ownsRow_lit (base:=base) (e:=51) (size:=4) w (encP l).toArray l.length hb (by have:maxLen=9223372036854775807:=rfl;omega) (by rw [List.size_toArray,encP_len])
  rw [List.toList_toArray] at h
  exact h
theorem boxRows_own {α β : Type} {d : Kd α} {e : Nat} (n₀ B : Nat) (t : TypeId) (f : β → List α) : Own (fun s W => ∃ v, Boxed W B t v ∧ Kd.R d e W n₀ (fun _ => True) v (f s)) := by
 rintro s W W' row ⟨v,h1,h2⟩ hg hr
 refine ⟨v,h1.kept hg (fun e'=>?_),Kd.jca (Kd.R_move (Kd.jac h2) (fun k hk=>?_)) (fun _ _=>trivial)⟩
 ·obtain ⟨o,ho,hc⟩:=hr B e'.symm
  rw [show W.heap[B]?=_ from h1] at ho;cases ho;cases hc
 ·obtain ⟨_,_,hk,q,hq,cells,hc⟩:=hk
  refine hg.block k hk (fun e'=>?_)
  obtain ⟨o,ho,hcells⟩:=hr k e'.symm
  rw [hc] at ho;cases ho;cases hcells
set_option maxHeartbeats 8000000 in
set_option maxRecDepth 100000 in
theorem jea.calls (k : Nat) (A0_0 : Option Addr) (c0_0 : Nat) (l0_0 : List (S75)) (A1 : Option Addr) (c1 : Nat) (l1 : List (S54)) (a2_0 : Bool) (a2_1 a2_2 : Int) (r1 : List (S51)) (r2 : Bool) (w : World) (hr0_0 : Kd.C k75 w A0_0 l0_0.length l0_0) (hc0_0 : l0_0.length ≤ c0_0) (hr1 : Kd.C k54 w A1 l1.length l1) (hc1 : l1.length ≤ c1) (h : jea.f k l0_0 l1 a2_0 a2_1 a2_2 = some (r1, r2)) :
  Calls Try.prog 10 #[.agg #[.slice A0_0 l0_0.length c0_0], .slice A1 l1.length c1, .agg #[.bool a2_0, .int .i64 a2_1, .int .i64 a2_2]] w fun e w'=>∃ v0_:Value,e=.returned (.tuple #[v0_, .bool r2])∧Kd.R k51 51 w' w.heap.size (fun _=>True) v0_ r1∧Below w.heap.size w w':=by
 replace h:=bzS h
 obtain ⟨v,hv,h⟩:=h
 have hu35:=Try.underlying35
 have hu39:=Try.underlying39
 have hu54:=Try.underlying54
 have hu51:=Try.underlying51
 have hmx:Try.prog.follows .mixedOrders=true:=by kernel_rfl
 have B2:Below w.heap.size w ((w.alloc (.cells #[.slice A0_0 l0_0.length c0_0] 35)).alloc (.cells #[.bool a2_0, .int .i64 a2_1, .int .i64 a2_2] 39)):=((Below.refl _ w).alloc (Nat.le_refl _) _).alloc (by simp) _
 have HV:=am (fun (W:World) (hb:Below w.heap.size w W)=>jxb.calls k A0_0 c0_0 l0_0 A1 c1 l1 v W (Kd.jF hr0_0 hb) hc0_0 (Kd.jF hr1 hb) hc1 hv)
 refine (callsIn_wide (n:=8)).1 ?_
 have hro:Fence.wide.round=none:=rfl
 refine callsIn_of_wp_marks Try.func10 rfl trivial ?_ hro
 simp only [Try.ntmps10,List.size_toArray,List.length_cons,List.length_nil,Nat.reduceAdd,Nat.reduceSub,Array.replicate_succ,Array.replicate_zero,List.push_toArray,List.append_toArray,List.nil_append,List.cons_append]
 have BT:=jT (heap_alloc_new w (.cells #[.slice A0_0 l0_0.length c0_0] 35)) (.cells #[.bool a2_0, .int .i64 a2_1, .int .i64 a2_2] 39)
 have BS:=show ((w.alloc (.cells #[.slice A0_0 l0_0.length c0_0] 35)).alloc (.cells #[.bool a2_0, .int .i64 a2_1, .int .i64 a2_2] 39)).heap[w.heap.size+1]?=some (.cells #[.bool a2_0, .int .i64 a2_1, .int .i64 a2_2] 39 (0,0)) by have h:=heap_alloc_new (w.alloc (.cells #[.slice A0_0 l0_0.length c0_0] 35)) (.cells #[.bool a2_0, .int .i64 a2_1, .int .i64 a2_2] 39);simpa only [World.size_alloc] using h
 obtain ⟨W2,hW2⟩:∃ W2,(w.alloc (.cells #[.slice A0_0 l0_0.length c0_0] 35)).alloc (.cells #[.bool a2_0, .int .i64 a2_1, .int .i64 a2_2] 39)=W2:=⟨_,rfl⟩
 have hs2:W2.heap.size=w.heap.size+2:=by rw [← hW2];simp
 rw [hW2] at BT BS B2
 have cT:=po0 BT
 have hcall:=HV.out W2 B2
 cases v with
 | false =>
  rw [if_neg (by simp)] at h
  simp only [Option.some.injEq,Prod.mk.injEq] at h
  obtain ⟨rfl,rfl⟩:=h
  gi_wp2_with (first |(refine ⟨trivial,?_⟩;gi_at_call 24;refine (callsIn_wide.2 hcall).mono ?_;rintro e w1 ⟨rfl,hb1⟩) |(refine ⟨trivial,?_⟩))
  refine ⟨.tuple #[.slice none 0 0, .bool false],?_,_,rfl,Kd.R_nil _ _ _ _ _,B2.trans (hb1.mono (by omega))⟩
  simp [results,Try.f10,go_sem]
 | true =>
  rw [if_pos rfl] at h
  replace h:=bzS h
  obtain ⟨v2,hv2,h⟩:=h
  have HS:=am (fun (W:World) (hb:Below w.heap.size w W)=>job.calls a2_0 a2_1 a2_2 A0_0 c0_0 l0_0 v2 W (Kd.jF hr0_0 hb) hc0_0 hv2)
  cases v2 with
  | false =>
   rw [if_neg (by simp)] at h
   simp only [Option.some.injEq,Prod.mk.injEq] at h
   obtain ⟨rfl,rfl⟩:=h
   gi_wp2_with (first |(refine ⟨trivial,?_⟩;gi_at_call 24;refine (callsIn_wide.2 hcall).mono ?_;rintro e w1 ⟨rfl,hb1⟩;have hB1:=B2.trans (hb1.mono (by omega));have BT1:=je BT hb1;have BS1:=je BS hb1;have cT1:=po0 BT1;have cS0:=po0 BS1;have cS1:=po1 BS1;have cS2:=po2 BS1) |(refine ⟨trivial,?_⟩;gi_at_call 25;refine (callsIn_wide.2 (HS.out _ hB1)).mono ?_;rintro e w2 ⟨rfl,hb2⟩))
   refine ⟨.tuple #[.slice none 0 0, .bool false],?_,_,rfl,Kd.R_nil _ _ _ _ _,jc hB1 hb2⟩
   simp [results,Try.f10,go_sem]
  | true =>
   rw [if_pos rfl] at h
   by_cases hlen:l1.length≤1000000
   case neg=>rw [if_neg hlen] at h;cases h
   rw [if_pos hlen] at h
   by_cases hlk:5 * l1.length+10≤k
   case neg=>rw [if_neg hlk] at h;cases h
   rw [if_pos hlk] at h
   have HZ:=am h
   clear h hv hv2 HV
   cases a2_0 with
   | false =>
    gi_wp2_with (first |(refine ⟨trivial,?_⟩;gi_at_call 24;refine (callsIn_wide.2 hcall).mono ?_;rintro e w1 ⟨rfl,hb1⟩;have hB1:=B2.trans (hb1.mono (by omega));have BT1:=je BT hb1;have BS1:=je BS hb1;have cT1:=po0 BT1;have cS0:=po0 BS1;have cS1:=po1 BS1;have cS2:=po2 BS1) |(refine ⟨trivial,?_⟩;gi_at_call 25;refine (callsIn_wide.2 (HS.out _ hB1)).mono ?_;rintro e w2 ⟨rfl,hb2⟩;have hB2:=jc hB1 hb2;have BT2:=je BT1 hb2;have BS2:=je BS1 hb2;clear cT1 cS0 cS1 cS2;have cS0:=po0 BS2;have cS1:=po1 BS2;have cS2:=po2 BS2;have hw2:=jza BS2;have hw1:w.heap.size<w2.heap.size:=jza BT2) |(refine ⟨trivial,?_⟩;gi_at_call 26;refine (backP_in Fence.wide _ trivial hro _ _ _ _).mono ?_;rintro e w' ⟨rfl,rfl⟩))
    have hBB:Below w.heap.size w ((w2.alloc (.cells #[.int .i64 0, .int .i64 0, .int .i64 0, .int .i64 0] 51)).alloc (.cells #[.slice (some ⟨w2.heap.size,0,none⟩) 1 1] 30)):=(hB2.alloc (Nat.le_of_lt hw1) _).alloc (by simp;omega) _
    have hs1:((w2.alloc (.cells #[.int .i64 0, .int .i64 0, .int .i64 0, .int .i64 0] 51)).alloc (.cells #[.slice (some ⟨w2.heap.size,0,none⟩) 1 1] 30)).heap.size=w2.heap.size+1+1:=by simp
    have d0:Boxed ((w2.alloc (.cells #[.int .i64 0, .int .i64 0, .int .i64 0, .int .i64 0] 51)).alloc (.cells #[.slice (some ⟨w2.heap.size,0,none⟩) 1 1] 30)) w.heap.size 35 (.slice A0_0 l0_0.length c0_0):=((show Boxed w2 w.heap.size 35 (.slice A0_0 l0_0.length c0_0) from BT2).alloc _).alloc _
    have dP:Boxed ((w2.alloc (.cells #[.int .i64 0, .int .i64 0, .int .i64 0, .int .i64 0] 51)).alloc (.cells #[.slice (some ⟨w2.heap.size,0,none⟩) 1 1] 30)) (w2.heap.size+1) 30 (.slice (some ⟨w2.heap.size,0,none⟩) 1 1):=by have h:=Boxed.new (w2.alloc (.cells #[.int .i64 0, .int .i64 0, .int .i64 0, .int .i64 0] 51)) 30 (.slice (some ⟨w2.heap.size,0,none⟩) 1 1);rw [World.size_alloc] at h;exact h
    have dR:Kd.R k51 51 ((w2.alloc (.cells #[.int .i64 0, .int .i64 0, .int .i64 0, .int .i64 0] 51)).alloc (.cells #[.slice (some ⟨w2.heap.size,0,none⟩) 1 1] 30)) w.heap.size (fun _=>True) (.slice (some ⟨w2.heap.size,0,none⟩) 1 1) [(⟨0,0,0,0⟩:S51)]:=Kd.jGa (Kd.jca (po_lit [(⟨0,0,0,0⟩:S51)] w2 w.heap.size (Nat.le_of_lt hw1) (by simp)) (fun _ _=>trivial)) _
    obtain ⟨WA,hWA⟩:∃ WA,((w2.alloc (.cells #[.int .i64 0, .int .i64 0, .int .i64 0, .int .i64 0] 51)).alloc (.cells #[.slice (some ⟨w2.heap.size,0,none⟩) 1 1] 30))=WA:=⟨_,rfl⟩
    rw [hWA] at hBB hs1 d0 dP dR ⊢
    have hPf:jfc false a2_1 a2_2=[(⟨0,0,0,0⟩:S51)]:=rfl
    rw [hPf] at HZ
    have hp1:([(⟨0,0,0,0⟩:S51)]:List S51).length=1:=rfl
    obtain ⟨p0,hp0⟩:∃ p0:List S51,[(⟨0,0,0,0⟩:S51)]=p0:=⟨_,rfl⟩
    rw [hp0] at HZ dR hp1
    clear hp0 hPf
    have hBs:=hs1.symm
    obtain ⟨Bp,hBp⟩:∃ Bp,w2.heap.size+1=Bp:=⟨_,rfl⟩
    have hpS:Bp<WA.heap.size:=by omega
    have hwp:w.heap.size<Bp:=by omega
    have dS:=Boxed.new WA 37 (.slice A1 l1.length c1)
    have e0:=d0.alloc (.cells #[.slice A1 l1.length c1] 37)
    have eP:=dP.alloc (.cells #[.slice A1 l1.length c1] 37)
    have eR:=Kd.jGa dR (.cells #[.slice A1 l1.length c1] 37)
    have eB:=hBB.alloc (by omega) (.cells #[.slice A1 l1.length c1] 37)
    obtain ⟨W0,hW0⟩:∃ W0,WA.alloc (.cells #[.slice A1 l1.length c1] 37)=W0:=⟨_,rfl⟩
    have hs0:W0.heap.size=WA.heap.size+1:=by rw [← hW0];simp
    rw [hW0] at dS e0 eP eR eB ⊢
    clear hW0 d0 dP dR hWA
    obtain ⟨Bs,hBsd⟩:∃ Bs,WA.heap.size=Bs:=⟨_,rfl⟩
    rw [hBsd] at dS hs0 hpS hBs
    rw [hBp] at eP
    try rw [hBp] at eR
    clear hs1
    have hnS:w.heap.size<Bs:=by omega
    have hBs2:Bs=Bp+1:=by omega
    rw [hBp]
    rw [← hBs2]
    clear hBs hBs2 hBp
    obtain ⟨RD,hRD⟩:∃ RD:World→Prop,RD=fun W=>Boxed W Bs 37 (.slice A1 l1.length c1)∧Below w.heap.size w W:=⟨_,rfl⟩
    have hRD1:∀ W,RD W→Kd.C k54 W A1 l1.length l1∧Boxed W Bs 37 (.slice A1 l1.length c1):=fun W h=>by
     rw [hRD] at h;exact ⟨Kd.jF hr1 h.2,h.1⟩
    have hRD2:∀ W,Below W0.heap.size W0 W→RD W:=fun W h=>by
     rw [hRD];exact ⟨Boxed.jwc dS h,eB.trans (h.mono eB.size)⟩
    have hRD3:∀ (W:World) (lp:Nat) (o o':Obj),W0.heap.size≤lp→W.heap[lp]?=some o→o.isCells=false→o.isWalk=false→RD W→RD (W.putObj lp o'):=fun W lp o o' hl ho hc hw h=>by
     rw [hRD] at h ⊢
     exact ⟨(boxed_own (β:=Unit) _ _ fun _=>_).putObj (s:=()) o' h.1 ho hc,h.2.trans (belowK_b eB.size W lp o o' hl ho hc hw)⟩
    have hRDi:∀ W,Boxed W Bs 37 (.slice A1 l1.length c1)→Below w.heap.size w W→RD W:=fun W h1 h2=>by rw [hRD];exact ⟨h1,h2⟩
    clear hRD
    obtain ⟨IV,hIV⟩:∃ IV:World→List S51→Prop,IV=fun W P=>(((Boxed W w.heap.size 35 (.slice A0_0 l0_0.length c0_0)∧Boxed W Bs 37 (.slice A1 l1.length c1))∧(∃ v,Boxed W Bp 30 v∧Kd.R k51 51 W w.heap.size (fun _=>True) v P))∧Below w.heap.size w W):=⟨_,rfl⟩
    have IB:=am (show ∀ (W W':World) (P:List S51),IV W P→Below W.heap.size W W'→IV W' P from fun W W' P h hb=>by
     rw [hIV] at h ⊢
     obtain ⟨⟨⟨i0,iS⟩,v,iP,iR⟩,hB⟩:=h
     exact ⟨⟨⟨Boxed.jwc i0 hb,Boxed.jwc iS hb⟩,v,Boxed.jwc iP hb,Kd.jH iR hb⟩,jc hB hb⟩)
    have IS:=am (show ∀ (W W':World) (P P':List S51) (v':Value),IV W P→Below W.heap.size W W'→Kd.R k51 51 W' w.heap.size (fun _=>True) v' P'→IV (W'.setCell ⟨Bp,0,none⟩ v') P' from fun W W' P P' v' h hb hR=>by
     rw [hIV] at h ⊢
     obtain ⟨⟨⟨i0,iS⟩,v,iP,iR⟩,hB⟩:=h
     have jP:=Boxed.jwc iP hb
     exact ⟨⟨⟨(Boxed.jwc i0 hb).other (by omega) _,(Boxed.jwc iS hb).other (by omega) _⟩,v',jP.set _,Kd.R_set hR jP (by decide) 0 v'⟩,(jc hB hb).setCell (p:=⟨Bp,0,none⟩) (by simp;omega) _⟩)
    have IR:=am (show ∀ (W:World) (P:List S51),IV W P→RD W from fun W P h=>by
     rw [hIV] at h
     obtain ⟨⟨⟨i0,iS⟩,v,iP,iR⟩,hB⟩:=h
     exact hRDi W iS hB)
    have hOwn:OwnFrom W0.heap.size (fun (pre:List PoEl) W=>IV W (jHb p0 pre)):=by
     rw [hIV]
     exact (OwnFrom.and (OwnFrom.and (OwnFrom.and (Own.from (boxed_own _ _ fun _=>_) _) (Own.from (boxed_own _ _ fun _=>_) _)) (Own.from (boxRows_own _ _ _ (fun pre=>jHb p0 pre)) _)) (ownFrom_below (Nat.le_refl _) (by omega)))
    have hI0:IV W0 p0:=by rw [hIV];exact ⟨⟨⟨e0,dS⟩,_,eP,eR⟩,eB⟩
    clear e0 dS eP eR
    have hlm:l1.length≤9223372036854775807:=by omega
    refine wpIn_rangeFunc_ownH hro (by omega) (gf:=45) (lb:=#[.pointer (some ⟨Bs,0,none⟩)]) rfl trivial (enters_of Try.func45 (by kernel_rfl) rfl)
     (encs:=fun x:PoEl=>#[.int .i64 x.1, .agg #[.int .i64 x.2.f0, .int .i64 x.2.f1, .int .i64 x.2.f2]]) (Kp:=fun W W'=>RD W→RD W')
     (S:=fun ys=>ys=uptoP (poOf l1) l1.length) (Sp:=fun pre=>∃ q,q≤l1.length∧pre=uptoP (poOf l1) q) (N:=l1.length) (w0:=W0)
     (fun lp J Jx W hW _ _ hY h0=>backP1_in Fence.wide _ trivial hro (by omega) lp Bs A1 c1 l1 hlm RD (fun W W'=>RD W→RD W') hRD1 (fun W W' h h2=>h h2) _ (poOf l1) (fun j hj=>rfl) J Jx hY W (hRD2 W hW) h0)
     (fun h k x=>k (h x)) (fun W lp o o' hl ho hc hw hx=>hRD3 W lp o o' hl ho hc hw hx) (Below.refl _ _) (fun _=>rfl)
     (fun pre W=>IV W (jHb p0 pre))
     (fun c pre W=>False)
     hOwn
     (fun c=>ownFrom_pure _ fun _=>False)
     hI0
     (fun x a' W=>∃ Bx,Bs<Bx∧W.heap[Bx]?=some (.cells #[.int .i64 x.2.f0, .int .i64 x.2.f1, .int .i64 x.2.f2] 54 (0,0))∧a'={ tmps:=#[.agg #[.slice A0_0 l0_0.length c0_0], .slice A1 l1.length c1, .agg #[.bool false, .int .i64 a2_1, .int .i64 a2_2], .pointer (some ⟨w.heap.size,0,none⟩),undef, .pointer (some ⟨w.heap.size+1,0,none⟩), .slice none 0 0, .bool false, .pointer (some ⟨Bp,0,none⟩),undef, .pointer (some ⟨Bx,0,none⟩), .agg #[.slice A0_0 l0_0.length c0_0], .slice A1 l1.length c1, .bool true, .bool false, .bool false, .agg #[.bool false, .int .i64 a2_1, .int .i64 a2_2], .agg #[.slice A0_0 l0_0.length c0_0], .bool true, .bool false, .bool false, .agg #[.int .i64 0, .int .i64 0, .int .i64 0, .int .i64 0], .slice (some ⟨w2.heap.size,0,none⟩) 1 1, .pointer (some ⟨w.heap.size+1,0,none⟩), .bool false,undef,undef,undef,undef,undef,undef, .slice A1 l1.length c1, .func (.func 45) #[] #[.pointer (some ⟨Bs,0,none⟩)], .int .i64 x.1, .agg #[.int .i64 x.2.f0, .int .i64 x.2.f1, .int .i64 x.2.f2],undef,undef,undef,undef,undef,undef,undef,undef,undef,undef,undef,undef,undef,undef,undef,undef,undef,undef,undef,undef,undef,undef,undef,undef,undef,undef,undef,undef,undef,undef,undef,undef,undef,undef,undef,undef,undef,undef,undef,undef,undef,undef,undef,undef,undef,undef],defers:=[] })
     (fun x a' _ X Y row hs hg hr=>by
      obtain ⟨Bx,h1,h2,h3⟩:=hs
      refine ⟨Bx,h1,(hg.block Bx (Array.getElem?_eq_some_iff.1 h2).1 (fun e=>?_)).trans h2,h3⟩
      obtain ⟨o,ho,hc⟩:=(hr Bx e.symm).2
      rw [h2] at ho;cases ho;cases hc)
     ?assign ?body ?done ?stop
    case assign =>
     rintro lp pre x W K hI hK
     have hI1:=hI
     rw [hIV] at hI1
     obtain ⟨⟨⟨i0,iS⟩,v,iP,iR⟩,hB⟩:=hI1
     clear hIV
     gi_wp2
     exact hK _ _ ((KeepsOthers.alloc _ _).from _) (fun _=>hRDi _ (iS.alloc _) (hB.alloc hB.size _)) (IB.out _ _ _ hI (jk (Below.refl _ _) _)) ⟨W.heap.size,by have:=iS.lt;omega,World.alloc_heap_new W _,rfl⟩
    case body =>
     rintro lp pre ⟨ix,x⟩ a' W hl ⟨rr,hrr⟩ hI ⟨Bx,hBx,bX,rfl⟩ hlt
     have hsn:=poAcc_snoc p0 pre (ix,x)
     have hln:=poAcc_len p0 pre
     obtain ⟨P,hP⟩:∃ P,jHb p0 pre=P:=⟨_,rfl⟩
     rw [hP] at hsn hln hI
     clear hP
     have hI1:=hI
     rw [hIV] at hI1
     obtain ⟨⟨⟨i0,iS⟩,v,iP,iR⟩,hB⟩:=hI1
     clear hIV
     obtain ⟨Ap,cp,rfl⟩:=Kd.jga iR
     obtain ⟨_,hcap,hC⟩:=Kd.jw iR
     have x0:W.cell? ⟨Bx,0,none⟩=some (.int .i64 x.f0):=(jr bX 0).trans rfl
     have x1:W.cell? ⟨Bx,1,none⟩=some (.int .i64 x.f1):=(jr bX 1).trans rfl
     have x2:W.cell? ⟨Bx,2,none⟩=some (.int .i64 x.f2):=(jr bX 2).trans rfl
     have cP:=iP.cell
     have hBpW:Bp<W.heap.size:=iP.lt
     have hBxW:Bx<W.heap.size:=jza bX
     have hwW:w.heap.size≤W.heap.size:=hB.size
     have IP:=am iP
     have hPl:P.length≤1000000000:=by omega
     have hkk:P.length+2≤k:=by omega
     have KA:=am (fun (more:List S51) (hm:more.length≤3) (W':World) (hb:Below W.heap.size W W') (A:Option Addr) (hV:Kd.R k51 51 W' w.heap.size (fun k=>k=W.heap.size) (.slice A more.length more.length) more)=>jic.calls k Ap cp P (fun k=>k=W.heap.size) A more.length more (poAr P more) W' (Kd.jF hC hb) hcap (Kd.R_V hV) (po_around hkk hPl hm))
     have HI:=am hI
     have HSN:=am hsn
     clear hI i0 iS iP iR hC hB hcap hsn hln hPl hkk
     by_cases hk:x.f0=0
     ·have hst:jbb P x=poAr P [(⟨0,10,0,0⟩:S51),(⟨1,1,x.f1,0⟩:S51)]:=by unfold jbb jdc;rw [if_pos hk,if_neg (by simp)]
      have hV:Kd.R k51 51 (W.alloc (.cells #[.int .i64 0, .int .i64 10, .int .i64 0, .int .i64 0, .int .i64 1, .int .i64 1, .int .i64 x.f1, .int .i64 0] 51)) w.heap.size (fun k=>k=W.heap.size) (.slice (some ⟨W.heap.size,0,none⟩) 2 2) [(⟨0,10,0,0⟩:S51),(⟨1,1,x.f1,0⟩:S51)]:=po_lit [(⟨0,10,0,0⟩:S51),(⟨1,1,x.f1,0⟩:S51)] W w.heap.size hwW (by simp)
      have hb1:=jk (Below.refl W.heap.size W) (.cells #[.int .i64 0, .int .i64 10, .int .i64 0, .int .i64 0, .int .i64 1, .int .i64 1, .int .i64 x.f1, .int .i64 0] 51)
      have HF:=am (show jHb p0 (pre ++ [(ix,x)])=poAr P [(⟨0,10,0,0⟩:S51),(⟨1,1,x.f1,0⟩:S51)] by rw [HSN.out,hst])
      clear hst
      have f0:(x.f0 == 0)=true:=by simp [hk]
      have f1:(x.f0 == 1)=false:=by simp [hk]
      have f2:(x.f0 == 2)=false:=by simp [hk]
      have f3:(x.f0 == 3)=false:=by simp [hk]
      clear hk
      gi_wp2_with (refine ⟨trivial,?_⟩;gi_at_call 27;refine (CallsIn.inRound lp (callsIn_wide.2 (KA.out [(⟨0,10,0,0⟩:S51),(⟨1,1,x.f1,0⟩:S51)] (by simp) _ hb1 _ hV))).mono ?_;clear hV KA;rintro e w4 ⟨v4,rfl,hR4,hb4⟩;obtain ⟨A4,cp4,rfl⟩:=Kd.jga hR4;have hB4:=jc hb1 hb4;have k4:=Boxed.jwc IP.out hB4;have c4:=k4.cell;have fr4:=k4.frozen;have HR4:=am (Kd.jca (Kd.jra hR4 (show w.heap.size≤(W.alloc (.cells #[.int .i64 0, .int .i64 10, .int .i64 0, .int .i64 0, .int .i64 1, .int .i64 1, .int .i64 x.f1, .int .i64 0] 51)).heap.size by simp;omega)) (fun _ _=>trivial));have HB4:=am hB4;clear hR4 hb4 hB4 k4 hb1)
      exact ⟨(KeepsFrom.jkc HB4.out _).trans ((KeepsOthers.setCell _ _ _).from _),fun _=>IR.out _ _ (IS.out _ _ _ _ _ HI.out HB4.out HR4.out),by show IV _ (jHb p0 (pre ++ [(ix,x)]));rw [HF.out];exact IS.out _ _ _ _ _ HI.out HB4.out HR4.out⟩
     ·have g0:=hk
      clear hk
      by_cases hk:x.f0=1
      ·have hst:jbb P x=poAr P [(⟨0,8,0,0⟩:S51),(⟨1,1,x.f1,0⟩:S51),(⟨1,3,0,0⟩:S51)]:=by unfold jbb jdc;rw [if_neg (show ¬ x.f0=0 by omega),if_pos hk,if_neg (by simp)]
       have hV:Kd.R k51 51 (W.alloc (.cells #[.int .i64 0, .int .i64 8, .int .i64 0, .int .i64 0, .int .i64 1, .int .i64 1, .int .i64 x.f1, .int .i64 0, .int .i64 1, .int .i64 3, .int .i64 0, .int .i64 0] 51)) w.heap.size (fun k=>k=W.heap.size) (.slice (some ⟨W.heap.size,0,none⟩) 3 3) [(⟨0,8,0,0⟩:S51),(⟨1,1,x.f1,0⟩:S51),(⟨1,3,0,0⟩:S51)]:=po_lit [(⟨0,8,0,0⟩:S51),(⟨1,1,x.f1,0⟩:S51),(⟨1,3,0,0⟩:S51)] W w.heap.size hwW (by simp)
       have hb1:=jk (Below.refl W.heap.size W) (.cells #[.int .i64 0, .int .i64 8, .int .i64 0, .int .i64 0, .int .i64 1, .int .i64 1, .int .i64 x.f1, .int .i64 0, .int .i64 1, .int .i64 3, .int .i64 0, .int .i64 0] 51)
       have HF:=am (show jHb p0 (pre ++ [(ix,x)])=poAr P [(⟨0,8,0,0⟩:S51),(⟨1,1,x.f1,0⟩:S51),(⟨1,3,0,0⟩:S51)] by rw [HSN.out,hst])
       clear hst
       have f0:(x.f0 == 0)=false:=by simp [hk]
       have f1:(x.f0 == 1)=true:=by simp [hk]
       have f2:(x.f0 == 2)=false:=by simp [hk]
       have f3:(x.f0 == 3)=false:=by simp [hk]
       clear hk
       gi_wp2_with (refine ⟨trivial,?_⟩;gi_at_call 27;refine (CallsIn.inRound lp (callsIn_wide.2 (KA.out [(⟨0,8,0,0⟩:S51),(⟨1,1,x.f1,0⟩:S51),(⟨1,3,0,0⟩:S51)] (by simp) _ hb1 _ hV))).mono ?_;clear hV KA;rintro e w4 ⟨v4,rfl,hR4,hb4⟩;obtain ⟨A4,cp4,rfl⟩:=Kd.jga hR4;have hB4:=jc hb1 hb4;have k4:=Boxed.jwc IP.out hB4;have c4:=k4.cell;have fr4:=k4.frozen;have HR4:=am (Kd.jca (Kd.jra hR4 (show w.heap.size≤(W.alloc (.cells #[.int .i64 0, .int .i64 8, .int .i64 0, .int .i64 0, .int .i64 1, .int .i64 1, .int .i64 x.f1, .int .i64 0, .int .i64 1, .int .i64 3, .int .i64 0, .int .i64 0] 51)).heap.size by simp;omega)) (fun _ _=>trivial));have HB4:=am hB4;clear hR4 hb4 hB4 k4 hb1)
       exact ⟨(KeepsFrom.jkc HB4.out _).trans ((KeepsOthers.setCell _ _ _).from _),fun _=>IR.out _ _ (IS.out _ _ _ _ _ HI.out HB4.out HR4.out),by show IV _ (jHb p0 (pre ++ [(ix,x)]));rw [HF.out];exact IS.out _ _ _ _ _ HI.out HB4.out HR4.out⟩
      ·have g1:=hk
       clear hk
       by_cases hk:x.f0=2
       ·have hst:jbb P x=poAr P [(⟨0,8,x.f1,0⟩:S51),(⟨1,0,0,0⟩:S51)]:=by unfold jbb jdc;rw [if_neg (show ¬ x.f0=0 by omega),if_neg (show ¬ x.f0=1 by omega),if_pos hk,if_neg (by simp)]
        have hV:Kd.R k51 51 (W.alloc (.cells #[.int .i64 0, .int .i64 8, .int .i64 x.f1, .int .i64 0, .int .i64 1, .int .i64 0, .int .i64 0, .int .i64 0] 51)) w.heap.size (fun k=>k=W.heap.size) (.slice (some ⟨W.heap.size,0,none⟩) 2 2) [(⟨0,8,x.f1,0⟩:S51),(⟨1,0,0,0⟩:S51)]:=po_lit [(⟨0,8,x.f1,0⟩:S51),(⟨1,0,0,0⟩:S51)] W w.heap.size hwW (by simp)
        have hb1:=jk (Below.refl W.heap.size W) (.cells #[.int .i64 0, .int .i64 8, .int .i64 x.f1, .int .i64 0, .int .i64 1, .int .i64 0, .int .i64 0, .int .i64 0] 51)
        have HF:=am (show jHb p0 (pre ++ [(ix,x)])=poAr P [(⟨0,8,x.f1,0⟩:S51),(⟨1,0,0,0⟩:S51)] by rw [HSN.out,hst])
        clear hst
        have f0:(x.f0 == 0)=false:=by simp [hk]
        have f1:(x.f0 == 1)=false:=by simp [hk]
        have f2:(x.f0 == 2)=true:=by simp [hk]
        have f3:(x.f0 == 3)=false:=by simp [hk]
        clear hk
        gi_wp2_with (refine ⟨trivial,?_⟩;gi_at_call 27;refine (CallsIn.inRound lp (callsIn_wide.2 (KA.out [(⟨0,8,x.f1,0⟩:S51),(⟨1,0,0,0⟩:S51)] (by simp) _ hb1 _ hV))).mono ?_;clear hV KA;rintro e w4 ⟨v4,rfl,hR4,hb4⟩;obtain ⟨A4,cp4,rfl⟩:=Kd.jga hR4;have hB4:=jc hb1 hb4;have k4:=Boxed.jwc IP.out hB4;have c4:=k4.cell;have fr4:=k4.frozen;have HR4:=am (Kd.jca (Kd.jra hR4 (show w.heap.size≤(W.alloc (.cells #[.int .i64 0, .int .i64 8, .int .i64 x.f1, .int .i64 0, .int .i64 1, .int .i64 0, .int .i64 0, .int .i64 0] 51)).heap.size by simp;omega)) (fun _ _=>trivial));have HB4:=am hB4;clear hR4 hb4 hB4 k4 hb1)
        exact ⟨(KeepsFrom.jkc HB4.out _).trans ((KeepsOthers.setCell _ _ _).from _),fun _=>IR.out _ _ (IS.out _ _ _ _ _ HI.out HB4.out HR4.out),by show IV _ (jHb p0 (pre ++ [(ix,x)]));rw [HF.out];exact IS.out _ _ _ _ _ HI.out HB4.out HR4.out⟩
       ·have g2:=hk
        clear hk
        by_cases hk:x.f0=3
        ·have hst:jbb P x=poAr P [(⟨0,10,0,0⟩:S51),(⟨1,2,x.f1,x.f2⟩:S51)]:=by unfold jbb jdc;rw [if_neg (show ¬ x.f0=0 by omega),if_neg (show ¬ x.f0=1 by omega),if_neg (show ¬ x.f0=2 by omega),if_pos hk,if_neg (by simp)]
         have hV:Kd.R k51 51 (W.alloc (.cells #[.int .i64 0, .int .i64 10, .int .i64 0, .int .i64 0, .int .i64 1, .int .i64 2, .int .i64 x.f1, .int .i64 x.f2] 51)) w.heap.size (fun k=>k=W.heap.size) (.slice (some ⟨W.heap.size,0,none⟩) 2 2) [(⟨0,10,0,0⟩:S51),(⟨1,2,x.f1,x.f2⟩:S51)]:=po_lit [(⟨0,10,0,0⟩:S51),(⟨1,2,x.f1,x.f2⟩:S51)] W w.heap.size hwW (by simp)
         have hb1:=jk (Below.refl W.heap.size W) (.cells #[.int .i64 0, .int .i64 10, .int .i64 0, .int .i64 0, .int .i64 1, .int .i64 2, .int .i64 x.f1, .int .i64 x.f2] 51)
         have HF:=am (show jHb p0 (pre ++ [(ix,x)])=poAr P [(⟨0,10,0,0⟩:S51),(⟨1,2,x.f1,x.f2⟩:S51)] by rw [HSN.out,hst])
         clear hst
         have f0:(x.f0 == 0)=false:=by simp [hk]
         have f1:(x.f0 == 1)=false:=by simp [hk]
         have f2:(x.f0 == 2)=false:=by simp [hk]
         have f3:(x.f0 == 3)=true:=by simp [hk]
         clear hk
         gi_wp2_with (refine ⟨trivial,?_⟩;gi_at_call 27;refine (CallsIn.inRound lp (callsIn_wide.2 (KA.out [(⟨0,10,0,0⟩:S51),(⟨1,2,x.f1,x.f2⟩:S51)] (by simp) _ hb1 _ hV))).mono ?_;clear hV KA;rintro e w4 ⟨v4,rfl,hR4,hb4⟩;obtain ⟨A4,cp4,rfl⟩:=Kd.jga hR4;have hB4:=jc hb1 hb4;have k4:=Boxed.jwc IP.out hB4;have c4:=k4.cell;have fr4:=k4.frozen;have HR4:=am (Kd.jca (Kd.jra hR4 (show w.heap.size≤(W.alloc (.cells #[.int .i64 0, .int .i64 10, .int .i64 0, .int .i64 0, .int .i64 1, .int .i64 2, .int .i64 x.f1, .int .i64 x.f2] 51)).heap.size by simp;omega)) (fun _ _=>trivial));have HB4:=am hB4;clear hR4 hb4 hB4 k4 hb1)
         exact ⟨(KeepsFrom.jkc HB4.out _).trans ((KeepsOthers.setCell _ _ _).from _),fun _=>IR.out _ _ (IS.out _ _ _ _ _ HI.out HB4.out HR4.out),by show IV _ (jHb p0 (pre ++ [(ix,x)]));rw [HF.out];exact IS.out _ _ _ _ _ HI.out HB4.out HR4.out⟩
        ·have g3:=hk
         clear hk
         have hst:jbb P x=P:=by unfold jbb jdc;rw [if_neg g0,if_neg g1,if_neg g2,if_neg g3,if_pos rfl]
         have HF:=am (show jHb p0 (pre ++ [(ix,x)])=P by rw [HSN.out,hst])
         have f0:(x.f0 == 0)=false:=by simpa using g0
         have f1:(x.f0 == 1)=false:=by simpa using g1
         have f2:(x.f0 == 2)=false:=by simpa using g2
         have f3:(x.f0 == 3)=false:=by simpa using g3
         clear g0 g1 g2 g3 hst KA
         gi_wp2
         exact ⟨(KeepsOthers.refl _).from _,fun h=>h,by show IV _ (jHb p0 (pre ++ [(ix,x)]));rw [HF.out];exact HI.out⟩
    case done =>
     rintro D ys W hD rfl hI hK
     rw [poAcc_all,hIV] at hI
     obtain ⟨⟨⟨i0,iS⟩,v,iP,iR⟩,hB⟩:=hI
     clear hIV
     have hDlt:=(Array.getElem?_eq_some_iff.1 hK).1
     have cT:=i0.cell
     have cP:=iP.cell
     have HV:=am (show Kd.R k51 51 W w.heap.size (fun k=>w.heap.size≤k∧k≠D) v (poAll l1 p0) from Kd.jca (Kd.jac iR) (fun k hk=>⟨hk.2.1,fun e=>by
      obtain ⟨_,_,_,q,_,cells,hc⟩:=hk
      rw [e,hK] at hc;cases hc⟩))
     have HB:=am hB
     have HK:=am hK
     have HT:=am (show ∀ W',Kept W W' (fun k=>w.heap.size≤k∧k≠D)→Kd.C k75 W' A0_0 l0_0.length l0_0 from Kd.C_kept_came k75_heap hr0_0 hB (fun k hk=>hk.1))
     clear iR hB hK i0 iS iP
     gi_wp2_with (refine ⟨trivial,?_⟩;gi_at_call 28;refine (callsIn_wide.2 (jib.calls k A0_0 c0_0 l0_0 (fun k=>w.heap.size≤k∧k≠D) v (poAll l1 p0) r1 r2 w W HB.out HT.out hc0_0 HV.out HZ.out)).mono ?_;rintro e W3 ⟨v0,rfl,hR,hB3,hKp⟩)
     have hKD:W3.heap[D]?=some (.deferred (some [])):=(hKp.2 D hDlt (fun h=>h.2 rfl)).trans HK.out
     refine ⟨by simp, .inl ⟨_,_,rfl,run_takeDeferred hKD,?_⟩⟩
     refine ⟨.tuple #[v0, .bool r2],?_,v0,rfl,Kd.jca (Kd.R_step hR (fun k hk hlt=>(grownBy_putObj' W3 D (.deferred none)).block k hlt (fun e=>?_))) (fun _ _=>trivial),hB3.trans (belowK_b (w:=w) (Nat.le_refl _) W3 D _ _ (by omega) hKD rfl rfl)⟩
     ·simp [results,Try.f10,go_sem]
     ·rcases hk with hk | hk
      ·exact hk.2 (by simpa using e)
      ·have:k=D:=by simpa using e
       omega
    case stop =>
     rintro D c pre W _ _ h _
     exact h.elim
   | true =>
    gi_wp2_with (first |(refine ⟨trivial,?_⟩;gi_at_call 24;refine (callsIn_wide.2 hcall).mono ?_;rintro e w1 ⟨rfl,hb1⟩;have hB1:=B2.trans (hb1.mono (by omega));have BT1:=je BT hb1;have BS1:=je BS hb1;have cT1:=po0 BT1;have cS0:=po0 BS1;have cS1:=po1 BS1;have cS2:=po2 BS1) |(refine ⟨trivial,?_⟩;gi_at_call 25;refine (callsIn_wide.2 (HS.out _ hB1)).mono ?_;rintro e w2 ⟨rfl,hb2⟩;have hB2:=jc hB1 hb2;have BT2:=je BT1 hb2;have BS2:=je BS1 hb2;clear cT1 cS0 cS1 cS2;have cS0:=po0 BS2;have cS1:=po1 BS2;have cS2:=po2 BS2;have hw2:=jza BS2;have hw1:w.heap.size<w2.heap.size:=jza BT2) |(refine ⟨trivial,?_⟩;gi_at_call 26;refine (backP_in Fence.wide _ trivial hro _ _ _ _).mono ?_;rintro e w' ⟨rfl,rfl⟩))
    have hBB:Below w.heap.size w (((w2.alloc (.cells #[.int .i64 0, .int .i64 0, .int .i64 0, .int .i64 0] 51)).alloc (.cells #[.slice (some ⟨w2.heap.size+1+1,0,none⟩) 1 1] 30)).alloc (.cells #[.int .i64 0, .int .i64 2, .int .i64 a2_1, .int .i64 a2_2] 51)):=((hB2.alloc (Nat.le_of_lt hw1) _).alloc (by simp;omega) _).alloc (by simp;omega) _
    have hs1:(((w2.alloc (.cells #[.int .i64 0, .int .i64 0, .int .i64 0, .int .i64 0] 51)).alloc (.cells #[.slice (some ⟨w2.heap.size+1+1,0,none⟩) 1 1] 30)).alloc (.cells #[.int .i64 0, .int .i64 2, .int .i64 a2_1, .int .i64 a2_2] 51)).heap.size=w2.heap.size+1+1+1:=by simp
    have d0:Boxed (((w2.alloc (.cells #[.int .i64 0, .int .i64 0, .int .i64 0, .int .i64 0] 51)).alloc (.cells #[.slice (some ⟨w2.heap.size+1+1,0,none⟩) 1 1] 30)).alloc (.cells #[.int .i64 0, .int .i64 2, .int .i64 a2_1, .int .i64 a2_2] 51)) w.heap.size 35 (.slice A0_0 l0_0.length c0_0):=(((show Boxed w2 w.heap.size 35 (.slice A0_0 l0_0.length c0_0) from BT2).alloc _).alloc _).alloc _
    have dP:Boxed (((w2.alloc (.cells #[.int .i64 0, .int .i64 0, .int .i64 0, .int .i64 0] 51)).alloc (.cells #[.slice (some ⟨w2.heap.size+1+1,0,none⟩) 1 1] 30)).alloc (.cells #[.int .i64 0, .int .i64 2, .int .i64 a2_1, .int .i64 a2_2] 51)) (w2.heap.size+1) 30 (.slice (some ⟨w2.heap.size+1+1,0,none⟩) 1 1):=by have h:=Boxed.new (w2.alloc (.cells #[.int .i64 0, .int .i64 0, .int .i64 0, .int .i64 0] 51)) 30 (.slice (some ⟨w2.heap.size+1+1,0,none⟩) 1 1);rw [World.size_alloc] at h;exact h.alloc _
    have dR:Kd.R k51 51 (((w2.alloc (.cells #[.int .i64 0, .int .i64 0, .int .i64 0, .int .i64 0] 51)).alloc (.cells #[.slice (some ⟨w2.heap.size+1+1,0,none⟩) 1 1] 30)).alloc (.cells #[.int .i64 0, .int .i64 2, .int .i64 a2_1, .int .i64 a2_2] 51)) w.heap.size (fun _=>True) (.slice (some ⟨w2.heap.size+1+1,0,none⟩) 1 1) [(⟨0,2,a2_1,a2_2⟩:S51)]:=by have h:=po_lit [(⟨0,2,a2_1,a2_2⟩:S51)] ((w2.alloc (.cells #[.int .i64 0, .int .i64 0, .int .i64 0, .int .i64 0] 51)).alloc (.cells #[.slice (some ⟨w2.heap.size+1+1,0,none⟩) 1 1] 30)) w.heap.size (by simp;omega) (by simp);simp only [World.size_alloc] at h;exact Kd.jca h (fun _ _=>trivial)
    obtain ⟨WA,hWA⟩:∃ WA,(((w2.alloc (.cells #[.int .i64 0, .int .i64 0, .int .i64 0, .int .i64 0] 51)).alloc (.cells #[.slice (some ⟨w2.heap.size+1+1,0,none⟩) 1 1] 30)).alloc (.cells #[.int .i64 0, .int .i64 2, .int .i64 a2_1, .int .i64 a2_2] 51))=WA:=⟨_,rfl⟩
    rw [hWA] at hBB hs1 d0 dP dR ⊢
    have hPf:jfc true a2_1 a2_2=[(⟨0,2,a2_1,a2_2⟩:S51)]:=rfl
    rw [hPf] at HZ
    have hp1:([(⟨0,2,a2_1,a2_2⟩:S51)]:List S51).length=1:=rfl
    obtain ⟨p0,hp0⟩:∃ p0:List S51,[(⟨0,2,a2_1,a2_2⟩:S51)]=p0:=⟨_,rfl⟩
    rw [hp0] at HZ dR hp1
    clear hp0 hPf
    have hBs:=hs1.symm
    obtain ⟨Bp,hBp⟩:∃ Bp,w2.heap.size+1=Bp:=⟨_,rfl⟩
    have hpS:Bp<WA.heap.size:=by omega
    have hwp:w.heap.size<Bp:=by omega
    have dS:=Boxed.new WA 37 (.slice A1 l1.length c1)
    have e0:=d0.alloc (.cells #[.slice A1 l1.length c1] 37)
    have eP:=dP.alloc (.cells #[.slice A1 l1.length c1] 37)
    have eR:=Kd.jGa dR (.cells #[.slice A1 l1.length c1] 37)
    have eB:=hBB.alloc (by omega) (.cells #[.slice A1 l1.length c1] 37)
    obtain ⟨W0,hW0⟩:∃ W0,WA.alloc (.cells #[.slice A1 l1.length c1] 37)=W0:=⟨_,rfl⟩
    have hs0:W0.heap.size=WA.heap.size+1:=by rw [← hW0];simp
    rw [hW0] at dS e0 eP eR eB ⊢
    clear hW0 d0 dP dR hWA
    obtain ⟨Bs,hBsd⟩:∃ Bs,WA.heap.size=Bs:=⟨_,rfl⟩
    rw [hBsd] at dS hs0 hpS hBs
    rw [hBp] at eP
    try rw [hBp] at eR
    clear hs1
    have hnS:w.heap.size<Bs:=by omega
    have hBs2:Bs=Bp+1+1:=by omega
    rw [hBp]
    rw [← hBs2]
    clear hBs hBs2 hBp
    obtain ⟨RD,hRD⟩:∃ RD:World→Prop,RD=fun W=>Boxed W Bs 37 (.slice A1 l1.length c1)∧Below w.heap.size w W:=⟨_,rfl⟩
    have hRD1:∀ W,RD W→Kd.C k54 W A1 l1.length l1∧Boxed W Bs 37 (.slice A1 l1.length c1):=fun W h=>by
     rw [hRD] at h;exact ⟨Kd.jF hr1 h.2,h.1⟩
    have hRD2:∀ W,Below W0.heap.size W0 W→RD W:=fun W h=>by
     rw [hRD];exact ⟨Boxed.jwc dS h,eB.trans (h.mono eB.size)⟩
    have hRD3:∀ (W:World) (lp:Nat) (o o':Obj),W0.heap.size≤lp→W.heap[lp]?=some o→o.isCells=false→o.isWalk=false→RD W→RD (W.putObj lp o'):=fun W lp o o' hl ho hc hw h=>by
     rw [hRD] at h ⊢
     exact ⟨(boxed_own (β:=Unit) _ _ fun _=>_).putObj (s:=()) o' h.1 ho hc,h.2.trans (belowK_b eB.size W lp o o' hl ho hc hw)⟩
    have hRDi:∀ W,Boxed W Bs 37 (.slice A1 l1.length c1)→Below w.heap.size w W→RD W:=fun W h1 h2=>by rw [hRD];exact ⟨h1,h2⟩
    clear hRD
    obtain ⟨IV,hIV⟩:∃ IV:World→List S51→Prop,IV=fun W P=>(((Boxed W w.heap.size 35 (.slice A0_0 l0_0.length c0_0)∧Boxed W Bs 37 (.slice A1 l1.length c1))∧(∃ v,Boxed W Bp 30 v∧Kd.R k51 51 W w.heap.size (fun _=>True) v P))∧Below w.heap.size w W):=⟨_,rfl⟩
    have IB:=am (show ∀ (W W':World) (P:List S51),IV W P→Below W.heap.size W W'→IV W' P from fun W W' P h hb=>by
     rw [hIV] at h ⊢
     obtain ⟨⟨⟨i0,iS⟩,v,iP,iR⟩,hB⟩:=h
     exact ⟨⟨⟨Boxed.jwc i0 hb,Boxed.jwc iS hb⟩,v,Boxed.jwc iP hb,Kd.jH iR hb⟩,jc hB hb⟩)
    have IS:=am (show ∀ (W W':World) (P P':List S51) (v':Value),IV W P→Below W.heap.size W W'→Kd.R k51 51 W' w.heap.size (fun _=>True) v' P'→IV (W'.setCell ⟨Bp,0,none⟩ v') P' from fun W W' P P' v' h hb hR=>by
     rw [hIV] at h ⊢
     obtain ⟨⟨⟨i0,iS⟩,v,iP,iR⟩,hB⟩:=h
     have jP:=Boxed.jwc iP hb
     exact ⟨⟨⟨(Boxed.jwc i0 hb).other (by omega) _,(Boxed.jwc iS hb).other (by omega) _⟩,v',jP.set _,Kd.R_set hR jP (by decide) 0 v'⟩,(jc hB hb).setCell (p:=⟨Bp,0,none⟩) (by simp;omega) _⟩)
    have IR:=am (show ∀ (W:World) (P:List S51),IV W P→RD W from fun W P h=>by
     rw [hIV] at h
     obtain ⟨⟨⟨i0,iS⟩,v,iP,iR⟩,hB⟩:=h
     exact hRDi W iS hB)
    have hOwn:OwnFrom W0.heap.size (fun (pre:List PoEl) W=>IV W (jHb p0 pre)):=by
     rw [hIV]
     exact (OwnFrom.and (OwnFrom.and (OwnFrom.and (Own.from (boxed_own _ _ fun _=>_) _) (Own.from (boxed_own _ _ fun _=>_) _)) (Own.from (boxRows_own _ _ _ (fun pre=>jHb p0 pre)) _)) (ownFrom_below (Nat.le_refl _) (by omega)))
    have hI0:IV W0 p0:=by rw [hIV];exact ⟨⟨⟨e0,dS⟩,_,eP,eR⟩,eB⟩
    clear e0 dS eP eR
    have hlm:l1.length≤9223372036854775807:=by omega
    refine wpIn_rangeFunc_ownH hro (by omega) (gf:=45) (lb:=#[.pointer (some ⟨Bs,0,none⟩)]) rfl trivial (enters_of Try.func45 (by kernel_rfl) rfl)
     (encs:=fun x:PoEl=>#[.int .i64 x.1, .agg #[.int .i64 x.2.f0, .int .i64 x.2.f1, .int .i64 x.2.f2]]) (Kp:=fun W W'=>RD W→RD W')
     (S:=fun ys=>ys=uptoP (poOf l1) l1.length) (Sp:=fun pre=>∃ q,q≤l1.length∧pre=uptoP (poOf l1) q) (N:=l1.length) (w0:=W0)
     (fun lp J Jx W hW _ _ hY h0=>backP1_in Fence.wide _ trivial hro (by omega) lp Bs A1 c1 l1 hlm RD (fun W W'=>RD W→RD W') hRD1 (fun W W' h h2=>h h2) _ (poOf l1) (fun j hj=>rfl) J Jx hY W (hRD2 W hW) h0)
     (fun h k x=>k (h x)) (fun W lp o o' hl ho hc hw hx=>hRD3 W lp o o' hl ho hc hw hx) (Below.refl _ _) (fun _=>rfl)
     (fun pre W=>IV W (jHb p0 pre))
     (fun c pre W=>False)
     hOwn
     (fun c=>ownFrom_pure _ fun _=>False)
     hI0
     (fun x a' W=>∃ Bx,Bs<Bx∧W.heap[Bx]?=some (.cells #[.int .i64 x.2.f0, .int .i64 x.2.f1, .int .i64 x.2.f2] 54 (0,0))∧a'={ tmps:=#[.agg #[.slice A0_0 l0_0.length c0_0], .slice A1 l1.length c1, .agg #[.bool true, .int .i64 a2_1, .int .i64 a2_2], .pointer (some ⟨w.heap.size,0,none⟩),undef, .pointer (some ⟨w.heap.size+1,0,none⟩), .slice none 0 0, .bool false, .pointer (some ⟨Bp,0,none⟩),undef, .pointer (some ⟨Bx,0,none⟩), .agg #[.slice A0_0 l0_0.length c0_0], .slice A1 l1.length c1, .bool true, .bool false, .bool false, .agg #[.bool true, .int .i64 a2_1, .int .i64 a2_2], .agg #[.slice A0_0 l0_0.length c0_0], .bool true, .bool false, .bool false, .agg #[.int .i64 0, .int .i64 0, .int .i64 0, .int .i64 0], .slice (some ⟨w2.heap.size,0,none⟩) 1 1, .pointer (some ⟨w.heap.size+1,0,none⟩), .bool true, .pointer (some ⟨w.heap.size+1,1,none⟩), .int .i64 a2_1, .pointer (some ⟨w.heap.size+1,2,none⟩), .int .i64 a2_2, .agg #[.int .i64 0, .int .i64 2, .int .i64 a2_1, .int .i64 a2_2], .slice (some ⟨Bp+1,0,none⟩) 1 1, .slice A1 l1.length c1, .func (.func 45) #[] #[.pointer (some ⟨Bs,0,none⟩)], .int .i64 x.1, .agg #[.int .i64 x.2.f0, .int .i64 x.2.f1, .int .i64 x.2.f2],undef,undef,undef,undef,undef,undef,undef,undef,undef,undef,undef,undef,undef,undef,undef,undef,undef,undef,undef,undef,undef,undef,undef,undef,undef,undef,undef,undef,undef,undef,undef,undef,undef,undef,undef,undef,undef,undef,undef,undef,undef,undef,undef,undef,undef,undef],defers:=[] })
     (fun x a' _ X Y row hs hg hr=>by
      obtain ⟨Bx,h1,h2,h3⟩:=hs
      refine ⟨Bx,h1,(hg.block Bx (Array.getElem?_eq_some_iff.1 h2).1 (fun e=>?_)).trans h2,h3⟩
      obtain ⟨o,ho,hc⟩:=(hr Bx e.symm).2
      rw [h2] at ho;cases ho;cases hc)
     ?assign ?body ?done ?stop
    case assign =>
     rintro lp pre x W K hI hK
     have hI1:=hI
     rw [hIV] at hI1
     obtain ⟨⟨⟨i0,iS⟩,v,iP,iR⟩,hB⟩:=hI1
     clear hIV
     gi_wp2
     exact hK _ _ ((KeepsOthers.alloc _ _).from _) (fun _=>hRDi _ (iS.alloc _) (hB.alloc hB.size _)) (IB.out _ _ _ hI (jk (Below.refl _ _) _)) ⟨W.heap.size,by have:=iS.lt;omega,World.alloc_heap_new W _,rfl⟩
    case body =>
     rintro lp pre ⟨ix,x⟩ a' W hl ⟨rr,hrr⟩ hI ⟨Bx,hBx,bX,rfl⟩ hlt
     have hsn:=poAcc_snoc p0 pre (ix,x)
     have hln:=poAcc_len p0 pre
     obtain ⟨P,hP⟩:∃ P,jHb p0 pre=P:=⟨_,rfl⟩
     rw [hP] at hsn hln hI
     clear hP
     have hI1:=hI
     rw [hIV] at hI1
     obtain ⟨⟨⟨i0,iS⟩,v,iP,iR⟩,hB⟩:=hI1
     clear hIV
     obtain ⟨Ap,cp,rfl⟩:=Kd.jga iR
     obtain ⟨_,hcap,hC⟩:=Kd.jw iR
     have x0:W.cell? ⟨Bx,0,none⟩=some (.int .i64 x.f0):=(jr bX 0).trans rfl
     have x1:W.cell? ⟨Bx,1,none⟩=some (.int .i64 x.f1):=(jr bX 1).trans rfl
     have x2:W.cell? ⟨Bx,2,none⟩=some (.int .i64 x.f2):=(jr bX 2).trans rfl
     have cP:=iP.cell
     have hBpW:Bp<W.heap.size:=iP.lt
     have hBxW:Bx<W.heap.size:=jza bX
     have hwW:w.heap.size≤W.heap.size:=hB.size
     have IP:=am iP
     have hPl:P.length≤1000000000:=by omega
     have hkk:P.length+2≤k:=by omega
     have KA:=am (fun (more:List S51) (hm:more.length≤3) (W':World) (hb:Below W.heap.size W W') (A:Option Addr) (hV:Kd.R k51 51 W' w.heap.size (fun k=>k=W.heap.size) (.slice A more.length more.length) more)=>jic.calls k Ap cp P (fun k=>k=W.heap.size) A more.length more (poAr P more) W' (Kd.jF hC hb) hcap (Kd.R_V hV) (po_around hkk hPl hm))
     have HI:=am hI
     have HSN:=am hsn
     clear hI i0 iS iP iR hC hB hcap hsn hln hPl hkk
     by_cases hk:x.f0=0
     ·have hst:jbb P x=poAr P [(⟨0,10,0,0⟩:S51),(⟨1,1,x.f1,0⟩:S51)]:=by unfold jbb jdc;rw [if_pos hk,if_neg (by simp)]
      have hV:Kd.R k51 51 (W.alloc (.cells #[.int .i64 0, .int .i64 10, .int .i64 0, .int .i64 0, .int .i64 1, .int .i64 1, .int .i64 x.f1, .int .i64 0] 51)) w.heap.size (fun k=>k=W.heap.size) (.slice (some ⟨W.heap.size,0,none⟩) 2 2) [(⟨0,10,0,0⟩:S51),(⟨1,1,x.f1,0⟩:S51)]:=po_lit [(⟨0,10,0,0⟩:S51),(⟨1,1,x.f1,0⟩:S51)] W w.heap.size hwW (by simp)
      have hb1:=jk (Below.refl W.heap.size W) (.cells #[.int .i64 0, .int .i64 10, .int .i64 0, .int .i64 0, .int .i64 1, .int .i64 1, .int .i64 x.f1, .int .i64 0] 51)
      have HF:=am (show jHb p0 (pre ++ [(ix,x)])=poAr P [(⟨0,10,0,0⟩:S51),(⟨1,1,x.f1,0⟩:S51)] by rw [HSN.out,hst])
      clear hst
      have f0:(x.f0 == 0)=true:=by simp [hk]
      have f1:(x.f0 == 1)=false:=by simp [hk]
      have f2:(x.f0 == 2)=false:=by simp [hk]
      have f3:(x.f0 == 3)=false:=by simp [hk]
      clear hk
      gi_wp2_with (refine ⟨trivial,?_⟩;gi_at_call 27;refine (CallsIn.inRound lp (callsIn_wide.2 (KA.out [(⟨0,10,0,0⟩:S51),(⟨1,1,x.f1,0⟩:S51)] (by simp) _ hb1 _ hV))).mono ?_;clear hV KA;rintro e w4 ⟨v4,rfl,hR4,hb4⟩;obtain ⟨A4,cp4,rfl⟩:=Kd.jga hR4;have hB4:=jc hb1 hb4;have k4:=Boxed.jwc IP.out hB4;have c4:=k4.cell;have fr4:=k4.frozen;have HR4:=am (Kd.jca (Kd.jra hR4 (show w.heap.size≤(W.alloc (.cells #[.int .i64 0, .int .i64 10, .int .i64 0, .int .i64 0, .int .i64 1, .int .i64 1, .int .i64 x.f1, .int .i64 0] 51)).heap.size by simp;omega)) (fun _ _=>trivial));have HB4:=am hB4;clear hR4 hb4 hB4 k4 hb1)
      exact ⟨(KeepsFrom.jkc HB4.out _).trans ((KeepsOthers.setCell _ _ _).from _),fun _=>IR.out _ _ (IS.out _ _ _ _ _ HI.out HB4.out HR4.out),by show IV _ (jHb p0 (pre ++ [(ix,x)]));rw [HF.out];exact IS.out _ _ _ _ _ HI.out HB4.out HR4.out⟩
     ·have g0:=hk
      clear hk
      by_cases hk:x.f0=1
      ·have hst:jbb P x=poAr P [(⟨0,8,0,0⟩:S51),(⟨1,1,x.f1,0⟩:S51),(⟨1,3,0,0⟩:S51)]:=by unfold jbb jdc;rw [if_neg (show ¬ x.f0=0 by omega),if_pos hk,if_neg (by simp)]
       have hV:Kd.R k51 51 (W.alloc (.cells #[.int .i64 0, .int .i64 8, .int .i64 0, .int .i64 0, .int .i64 1, .int .i64 1, .int .i64 x.f1, .int .i64 0, .int .i64 1, .int .i64 3, .int .i64 0, .int .i64 0] 51)) w.heap.size (fun k=>k=W.heap.size) (.slice (some ⟨W.heap.size,0,none⟩) 3 3) [(⟨0,8,0,0⟩:S51),(⟨1,1,x.f1,0⟩:S51),(⟨1,3,0,0⟩:S51)]:=po_lit [(⟨0,8,0,0⟩:S51),(⟨1,1,x.f1,0⟩:S51),(⟨1,3,0,0⟩:S51)] W w.heap.size hwW (by simp)
       have hb1:=jk (Below.refl W.heap.size W) (.cells #[.int .i64 0, .int .i64 8, .int .i64 0, .int .i64 0, .int .i64 1, .int .i64 1, .int .i64 x.f1, .int .i64 0, .int .i64 1, .int .i64 3, .int .i64 0, .int .i64 0] 51)
       have HF:=am (show jHb p0 (pre ++ [(ix,x)])=poAr P [(⟨0,8,0,0⟩:S51),(⟨1,1,x.f1,0⟩:S51),(⟨1,3,0,0⟩:S51)] by rw [HSN.out,hst])
       clear hst
       have f0:(x.f0 == 0)=false:=by simp [hk]
       have f1:(x.f0 == 1)=true:=by simp [hk]
       have f2:(x.f0 == 2)=false:=by simp [hk]
       have f3:(x.f0 == 3)=false:=by simp [hk]
       clear hk
       gi_wp2_with (refine ⟨trivial,?_⟩;gi_at_call 27;refine (CallsIn.inRound lp (callsIn_wide.2 (KA.out [(⟨0,8,0,0⟩:S51),(⟨1,1,x.f1,0⟩:S51),(⟨1,3,0,0⟩:S51)] (by simp) _ hb1 _ hV))).mono ?_;clear hV KA;rintro e w4 ⟨v4,rfl,hR4,hb4⟩;obtain ⟨A4,cp4,rfl⟩:=Kd.jga hR4;have hB4:=jc hb1 hb4;have k4:=Boxed.jwc IP.out hB4;have c4:=k4.cell;have fr4:=k4.frozen;have HR4:=am (Kd.jca (Kd.jra hR4 (show w.heap.size≤(W.alloc (.cells #[.int .i64 0, .int .i64 8, .int .i64 0, .int .i64 0, .int .i64 1, .int .i64 1, .int .i64 x.f1, .int .i64 0, .int .i64 1, .int .i64 3, .int .i64 0, .int .i64 0] 51)).heap.size by simp;omega)) (fun _ _=>trivial));have HB4:=am hB4;clear hR4 hb4 hB4 k4 hb1)
       exact ⟨(KeepsFrom.jkc HB4.out _).trans ((KeepsOthers.setCell _ _ _).from _),fun _=>IR.out _ _ (IS.out _ _ _ _ _ HI.out HB4.out HR4.out),by show IV _ (jHb p0 (pre ++ [(ix,x)]));rw [HF.out];exact IS.out _ _ _ _ _ HI.out HB4.out HR4.out⟩
      ·have g1:=hk
       clear hk
       by_cases hk:x.f0=2
       ·have hst:jbb P x=poAr P [(⟨0,8,x.f1,0⟩:S51),(⟨1,0,0,0⟩:S51)]:=by unfold jbb jdc;rw [if_neg (show ¬ x.f0=0 by omega),if_neg (show ¬ x.f0=1 by omega),if_pos hk,if_neg (by simp)]
        have hV:Kd.R k51 51 (W.alloc (.cells #[.int .i64 0, .int .i64 8, .int .i64 x.f1, .int .i64 0, .int .i64 1, .int .i64 0, .int .i64 0, .int .i64 0] 51)) w.heap.size (fun k=>k=W.heap.size) (.slice (some ⟨W.heap.size,0,none⟩) 2 2) [(⟨0,8,x.f1,0⟩:S51),(⟨1,0,0,0⟩:S51)]:=po_lit [(⟨0,8,x.f1,0⟩:S51),(⟨1,0,0,0⟩:S51)] W w.heap.size hwW (by simp)
        have hb1:=jk (Below.refl W.heap.size W) (.cells #[.int .i64 0, .int .i64 8, .int .i64 x.f1, .int .i64 0, .int .i64 1, .int .i64 0, .int .i64 0, .int .i64 0] 51)
        have HF:=am (show jHb p0 (pre ++ [(ix,x)])=poAr P [(⟨0,8,x.f1,0⟩:S51),(⟨1,0,0,0⟩:S51)] by rw [HSN.out,hst])
        clear hst
        have f0:(x.f0 == 0)=false:=by simp [hk]
        have f1:(x.f0 == 1)=false:=by simp [hk]
        have f2:(x.f0 == 2)=true:=by simp [hk]
        have f3:(x.f0 == 3)=false:=by simp [hk]
        clear hk
        gi_wp2_with (refine ⟨trivial,?_⟩;gi_at_call 27;refine (CallsIn.inRound lp (callsIn_wide.2 (KA.out [(⟨0,8,x.f1,0⟩:S51),(⟨1,0,0,0⟩:S51)] (by simp) _ hb1 _ hV))).mono ?_;clear hV KA;rintro e w4 ⟨v4,rfl,hR4,hb4⟩;obtain ⟨A4,cp4,rfl⟩:=Kd.jga hR4;have hB4:=jc hb1 hb4;have k4:=Boxed.jwc IP.out hB4;have c4:=k4.cell;have fr4:=k4.frozen;have HR4:=am (Kd.jca (Kd.jra hR4 (show w.heap.size≤(W.alloc (.cells #[.int .i64 0, .int .i64 8, .int .i64 x.f1, .int .i64 0, .int .i64 1, .int .i64 0, .int .i64 0, .int .i64 0] 51)).heap.size by simp;omega)) (fun _ _=>trivial));have HB4:=am hB4;clear hR4 hb4 hB4 k4 hb1)
        exact ⟨(KeepsFrom.jkc HB4.out _).trans ((KeepsOthers.setCell _ _ _).from _),fun _=>IR.out _ _ (IS.out _ _ _ _ _ HI.out HB4.out HR4.out),by show IV _ (jHb p0 (pre ++ [(ix,x)]));rw [HF.out];exact IS.out _ _ _ _ _ HI.out HB4.out HR4.out⟩
       ·have g2:=hk
        clear hk
        by_cases hk:x.f0=3
        ·have hst:jbb P x=poAr P [(⟨0,10,0,0⟩:S51),(⟨1,2,x.f1,x.f2⟩:S51)]:=by unfold jbb jdc;rw [if_neg (show ¬ x.f0=0 by omega),if_neg (show ¬ x.f0=1 by omega),if_neg (show ¬ x.f0=2 by omega),if_pos hk,if_neg (by simp)]
         have hV:Kd.R k51 51 (W.alloc (.cells #[.int .i64 0, .int .i64 10, .int .i64 0, .int .i64 0, .int .i64 1, .int .i64 2, .int .i64 x.f1, .int .i64 x.f2] 51)) w.heap.size (fun k=>k=W.heap.size) (.slice (some ⟨W.heap.size,0,none⟩) 2 2) [(⟨0,10,0,0⟩:S51),(⟨1,2,x.f1,x.f2⟩:S51)]:=po_lit [(⟨0,10,0,0⟩:S51),(⟨1,2,x.f1,x.f2⟩:S51)] W w.heap.size hwW (by simp)
         have hb1:=jk (Below.refl W.heap.size W) (.cells #[.int .i64 0, .int .i64 10, .int .i64 0, .int .i64 0, .int .i64 1, .int .i64 2, .int .i64 x.f1, .int .i64 x.f2] 51)
         have HF:=am (show jHb p0 (pre ++ [(ix,x)])=poAr P [(⟨0,10,0,0⟩:S51),(⟨1,2,x.f1,x.f2⟩:S51)] by rw [HSN.out,hst])
         clear hst
         have f0:(x.f0 == 0)=false:=by simp [hk]
         have f1:(x.f0 == 1)=false:=by simp [hk]
         have f2:(x.f0 == 2)=false:=by simp [hk]
         have f3:(x.f0 == 3)=true:=by simp [hk]
         clear hk
         gi_wp2_with (refine ⟨trivial,?_⟩;gi_at_call 27;refine (CallsIn.inRound lp (callsIn_wide.2 (KA.out [(⟨0,10,0,0⟩:S51),(⟨1,2,x.f1,x.f2⟩:S51)] (by simp) _ hb1 _ hV))).mono ?_;clear hV KA;rintro e w4 ⟨v4,rfl,hR4,hb4⟩;obtain ⟨A4,cp4,rfl⟩:=Kd.jga hR4;have hB4:=jc hb1 hb4;have k4:=Boxed.jwc IP.out hB4;have c4:=k4.cell;have fr4:=k4.frozen;have HR4:=am (Kd.jca (Kd.jra hR4 (show w.heap.size≤(W.alloc (.cells #[.int .i64 0, .int .i64 10, .int .i64 0, .int .i64 0, .int .i64 1, .int .i64 2, .int .i64 x.f1, .int .i64 x.f2] 51)).heap.size by simp;omega)) (fun _ _=>trivial));have HB4:=am hB4;clear hR4 hb4 hB4 k4 hb1)
         exact ⟨(KeepsFrom.jkc HB4.out _).trans ((KeepsOthers.setCell _ _ _).from _),fun _=>IR.out _ _ (IS.out _ _ _ _ _ HI.out HB4.out HR4.out),by show IV _ (jHb p0 (pre ++ [(ix,x)]));rw [HF.out];exact IS.out _ _ _ _ _ HI.out HB4.out HR4.out⟩
        ·have g3:=hk
         clear hk
         have hst:jbb P x=P:=by unfold jbb jdc;rw [if_neg g0,if_neg g1,if_neg g2,if_neg g3,if_pos rfl]
         have HF:=am (show jHb p0 (pre ++ [(ix,x)])=P by rw [HSN.out,hst])
         have f0:(x.f0 == 0)=false:=by simpa using g0
         have f1:(x.f0 == 1)=false:=by simpa using g1
         have f2:(x.f0 == 2)=false:=by simpa using g2
         have f3:(x.f0 == 3)=false:=by simpa using g3
         clear g0 g1 g2 g3 hst KA
         gi_wp2
         exact ⟨(KeepsOthers.refl _).from _,fun h=>h,by show IV _ (jHb p0 (pre ++ [(ix,x)]));rw [HF.out];exact HI.out⟩
    case done =>
     rintro D ys W hD rfl hI hK
     rw [poAcc_all,hIV] at hI
     obtain ⟨⟨⟨i0,iS⟩,v,iP,iR⟩,hB⟩:=hI
     clear hIV
     have hDlt:=(Array.getElem?_eq_some_iff.1 hK).1
     have cT:=i0.cell
     have cP:=iP.cell
     have HV:=am (show Kd.R k51 51 W w.heap.size (fun k=>w.heap.size≤k∧k≠D) v (poAll l1 p0) from Kd.jca (Kd.jac iR) (fun k hk=>⟨hk.2.1,fun e=>by
      obtain ⟨_,_,_,q,_,cells,hc⟩:=hk
      rw [e,hK] at hc;cases hc⟩))
     have HB:=am hB
     have HK:=am hK
     have HT:=am (show ∀ W',Kept W W' (fun k=>w.heap.size≤k∧k≠D)→Kd.C k75 W' A0_0 l0_0.length l0_0 from Kd.C_kept_came k75_heap hr0_0 hB (fun k hk=>hk.1))
     clear iR hB hK i0 iS iP
     gi_wp2_with (refine ⟨trivial,?_⟩;gi_at_call 28;refine (callsIn_wide.2 (jib.calls k A0_0 c0_0 l0_0 (fun k=>w.heap.size≤k∧k≠D) v (poAll l1 p0) r1 r2 w W HB.out HT.out hc0_0 HV.out HZ.out)).mono ?_;rintro e W3 ⟨v0,rfl,hR,hB3,hKp⟩)
     have hKD:W3.heap[D]?=some (.deferred (some [])):=(hKp.2 D hDlt (fun h=>h.2 rfl)).trans HK.out
     refine ⟨by simp, .inl ⟨_,_,rfl,run_takeDeferred hKD,?_⟩⟩
     refine ⟨.tuple #[v0, .bool r2],?_,v0,rfl,Kd.jca (Kd.R_step hR (fun k hk hlt=>(grownBy_putObj' W3 D (.deferred none)).block k hlt (fun e=>?_))) (fun _ _=>trivial),hB3.trans (belowK_b (w:=w) (Nat.le_refl _) W3 D _ _ (by omega) hKD rfl rfl)⟩
     ·simp [results,Try.f10,go_sem]
     ·rcases hk with hk | hk
      ·exact hk.2 (by simpa using e)
      ·have:k=D:=by simpa using e
       omega
    case stop =>
     rintro D c pre W _ _ h _
     exact h.elim
end
end Go.Proofs.Ytbbmgiloikkpiaa.P
end
