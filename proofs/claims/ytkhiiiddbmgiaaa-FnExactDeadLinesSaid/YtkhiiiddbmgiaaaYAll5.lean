/- One part of the proofs on this program: functions of the program as plain functions, that the code comes to them, and facts on them. -/
import Derived.Carry
import Derived.Maps.Own
import Derived.Maps.OwnOps
import Derived.Maps.OwnSet
import Derived.Maps.Views
import Derived.Test.YtkhiiiddbmgiaaaYAll1
import Derived.Test.YtkhiiiddbmgiaaaYAll4
import Derived.Test.YtkhiiiddbmgiaaaYWAuto
section
namespace Go.Proofs.Ytkhiiiddbmgiaaa.P
open Go.RowKit Go.Proofs.YtkhiiiddbmgiaaaW.PrintWords Go.Proofs.YtkhiiiddbmgiaaaW.PrintLast Go.Proofs.YtkhiiiddbmgiaaaW.PrintMore
attribute [local go_sem] jU jS jia jha jM jL jT jR jc
set_option linter.unusedVariables false
set_option linter.unusedSimpArgs false
mutual
def jh.l0 : Nat → List (S52) → Bool → List Int → Int → Option (Bool)
 | 0,_,_,_,_=>none
 | k+1,x0,x3,x9,x10=>if x10<(x9.length:Int) then (if 0≤x10 then (if 0≤(rd x9 x10) then (if (rd x9 x10)<(x0.length:Int) then (if ((jb x0 (rd x9 x10)).f1)=5 then (jh.j1 k x0 x3 x9 x10 (rd x9 x10) ((jb x0 (rd x9 x10)).f1) ((jb x0 (rd x9 x10)).f1) (((jb x0 (rd x9 x10)).f1) == 5)) else (jh.j1 k x0 x3 x9 x10 (rd x9 x10) ((jb x0 (rd x9 x10)).f1) ((jb x0 (rd x9 x10)).f1) (((jb x0 (rd x9 x10)).f1) == 6))) else (none)) else (none)) else (none)) else (some true)
def jh.j1 : Nat → List (S52) → Bool → List Int → Int → Int → Int → Int → Bool → Option (Bool)
 | 0,_,_,_,_,_,_,_,_=>none
 | k+1,x0,x3,x9,x10,x11,x12,x35,x36=>if x36=true then (if x3=true then (jh.l0 k x0 x3 x9 (wrap64 (x10+1))) else (some false)) else (if x35=8 then (jh.j2 k x0 x3 x9 x10 x11 x12 x35 (x35 == 8)) else (if x35=9 then (jh.j2 k x0 x3 x9 x10 x11 x12 x35 (x35 == 9)) else (jh.j2 k x0 x3 x9 x10 x11 x12 x35 (x35 == 10))))
def jh.j2 : Nat → List (S52) → Bool → List Int → Int → Int → Int → Int → Bool → Option (Bool)
 | 0,_,_,_,_,_,_,_,_=>none
 | k+1,x0,x3,x9,x10,x11,x12,x35,x41=>if x41=true then (some false) else (if x35=7 then ((jW.f k x0 x11).bind fun t253=>((jJa.f x0 t253).bind fun t256=>(if t256=true then (jh.l1 k x0 x3 x9 x10 t253 t253 (t253.length:Int) 0) else (some false)))) else (if x35=11 then (jh.j4 k x0 x3 x9 x10 x11 x12 (x35 == 11)) else (jh.j4 k x0 x3 x9 x10 x11 x12 (x35 == 12))))
def jh.l1 : Nat → List (S52) → Bool → List Int → Int → List Int → List Int → Int → Int → Option (Bool)
 | 0,_,_,_,_,_,_,_,_=>none
 | k+1,x0,x3,x9,x10,x13,x54,x55,x56=>if x56<x55 then (if 0≤x56 then (if x56<(x54.length:Int) then ((jda.f k x0 (rd x54 x56)).bind fun t258=>((jh.f k x0 (wrap64 ((rd x54 x56)+1)) t258 x3).bind fun t259=>(if t259=true then (jh.l1 k x0 x3 x9 x10 x13 x54 x55 (wrap64 (x56+1))) else (some false)))) else (none)) else (none)) else (jh.l0 k x0 x3 x9 (wrap64 ((wrap64 (x10+(wrap64 ((x13.length:Int) - 1))))+1)))
def jh.j4 : Nat → List (S52) → Bool → List Int → Int → Int → Int → Bool → Option (Bool)
 | 0,_,_,_,_,_,_,_=>none
 | k+1,x0,x3,x9,x10,x11,x12,x75=>if x75=true then ((jda.f k x0 x11).bind fun t260=>(if x3=true then ((jh.f k x0 (wrap64 (x11+1)) t260 true).bind fun t261=>(if t261=true then (jh.l0 k x0 x3 x9 (wrap64 (x10+1))) else (some false))) else ((jh.f k x0 (wrap64 (x11+1)) t260 (x12 == 12)).bind fun t262=>(if t262=true then (jh.l0 k x0 x3 x9 (wrap64 (x10+1))) else (some false))))) else (jh.l0 k x0 x3 x9 (wrap64 (x10+1)))
def jh.f : Nat → List (S52) → Int → Int → Bool → Option (Bool)
 | 0,_,_,_,_=>none
 | k+1,l0,a1,a2,a3=>(jxa.f k l0 a1 a2).bind fun t248=>(jh.l0 k l0 a3 t248 0)
end
set_option maxHeartbeats 8000000 in
set_option maxRecDepth 100000 in
theorem jh.calls (k : Nat) : ∀ (A0 : Option Addr) (c0 : Nat) (l0 : List (S52)) (a1 : Int) (a2 : Int) (a3 : Bool) (r : Bool) (w : World) (hr0 : Kd.C k52 w A0 l0.length l0) (hc0 : l0.length ≤ c0) (h : jh.f k l0 a1 a2 a3 = some r),
  Calls Try.prog 55 #[.slice A0 l0.length c0, .int .i64 a1, .int .i64 a2, .bool a3] w fun e w'=>e=.returned (.bool r)∧Below w.heap.size w w':=by
 induction k using Nat.strongRecOn with
 | _ k ih =>
 intro A0 c0 l0 a1 a2 a3 r w hr0 hc0 h
 cases k with
 | zero=>exact absurd h (by simp [jh.f])
 | succ k =>
 simp only [jh.f] at h
 have HR0:=am hr0
 have HC0:=am hc0
 clear hr0 hc0
 have HB:=am (Below.refl w.heap.size w)
 have H:((jxa.f k l0 a1 a2).bind fun t248=>(jh.l0 k l0 a3 t248 0))=some r:=h
 clear h
 replace H:=bzS H
 obtain ⟨t248,A50,H⟩:=H
 replace H:(jh.l0 k l0 a3 t248 0)=some r:=H
 have A5:=am A50
 clear A50
 have H':=am H
 clear H
 go_enter Try.func55,Try.ntmps55
 go_wp2_with (first |((with_reducible refine je (f:=82) rfl ?_);refine gL (some 19) Try.func82 #[.slice A0 l0.length c0, .int .i64 a1, .int .i64 a2] ?_;(with_reducible refine (jxa.calls k _ _ l0 a1 a2 t248 _ ?side1 ?side2 A5.out).mono ?_);(case side1=>exact Y11);(case side2=>exact HC0.out);rintro e w6 ⟨v249,rfl,ho0,hb⟩;refine ⟨_,rfl,?_⟩;have HO250:=am (Kd.jRa ho0 (jH (bq)));replace HB:=am (jd (bq) hb);(try clear hb);(try clear hb2);(try clear hk);(try clear hi);(try clear ho0)))
 go_loopg [10] k (fun kq v10 w'=>∃ (x10_1:Int),v10=.int .i64 x10_1∧jk (jh.l0 kq l0 a3 t248 x10_1=some r)∧jk (kq≤k)∧jk (Kd.R (Kd.int .i64) 3 w' w.heap.size (fun _=>True) v249 t248)∧jk (Below w.heap.size w w'))
 case atStart=>exact ⟨(0),(sq),H',⟨Nat.le_refl _⟩,⟨rq HO250.out⟩,⟨bq⟩⟩
 case round =>
  clear H'
  try clear p2
  try clear c5
  obtain ⟨x10_1,rfl,HA,HK1,HO_9,HB⟩:=hrel
  cases gk with
  | zero=>exact absurd HA.out (by simp [jh.l0])
  | succ k1 =>
   have H:=HA.out
   clear HA
   simp only [jh.l0] at H
   by_cases c7:x10_1<(t248.length:Int)
   ·rw [if_pos c7] at H
    have c7b0:decide (x10_1<(t248.length:Int))=true:=dzT c7
    clear c7
    by_cases c8:0≤x10_1
    ·rw [if_pos c8] at H
     have c8b0:decide (0≤x10_1)=true:=dzT c8
     clear c8
     by_cases c9:0≤(rd t248 x10_1)
     ·rw [if_pos c9] at H
      have c9b0:decide (0≤(rd t248 x10_1))=true:=dzT c9
      clear c9
      by_cases c10:(rd t248 x10_1)<(l0.length:Int)
      ·rw [if_pos c10] at H
       have c10b0:decide ((rd t248 x10_1)<(l0.length:Int))=true:=dzT c10
       clear c10
       have HC11:=am H
       clear H
       obtain ⟨Ao12,co12,eo12⟩:=Kd.jGa HO_9.out
       subst eo12
       have p251:0≤(x10_1:Int):=ozD (uq)
       have q251:x10_1<(t248.length:Int):=ozD (uq)
       obtain ⟨ad251,e251,hx251_0⟩:=Kd.jcb (Kd.jA HO_9.out).2.2 x10_1 p251 q251
       cases e251
       replace p251:=ezT p251
       replace q251:=ezT q251
       have p252:0≤((rd t248 x10_1):Int):=ozD (uq)
       have q252:(rd t248 x10_1)<(l0.length:Int):=ozD (uq)
       obtain ⟨ad252,e252,hx252_0,hx252_1,hx252_2,hx252_3⟩:=jba HR0.out (rd t248 x10_1) p252 q252
       cases e252
       replace hx252_0:=cb HB.out hx252_0
       replace hx252_1:=cb HB.out hx252_1
       replace hx252_2:=cb HB.out hx252_2
       replace hx252_3:=cb HB.out hx252_3
       replace p252:=ezT p252
       replace q252:=ezT q252
       go_upto_if 36 with (fail)
       go_cut [36] (fun v36 wc=>∃ (kq:Nat) (x36_10:Bool),v36=.bool x36_10∧jk (jh.j1 kq l0 a3 t248 x10_1 (rd t248 x10_1) ((jb l0 (rd t248 x10_1)).f1) ((jb l0 (rd t248 x10_1)).f1) x36_10=some r)∧jk (kq≤k1)∧jk (Kd.R (Kd.int .i64) 3 wc w.heap.size (fun _=>True) (.slice (some ad251) t248.length co12) t248)∧jk (Below w.heap.size w wc))
       case first =>
        have H:=HC11.out
        clear HC11
        by_cases c13:((jb l0 (rd t248 x10_1)).f1)=5
        ·rw [if_pos c13] at H
         have c13b0:(((jb l0 (rd t248 x10_1)).f1) == 5)=true:=beq_iff_eq.mpr c13
         have c13b1:(((jb l0 (rd t248 x10_1)).f1) != 5)=false:=bne_eq_false_iff_eq.mpr c13
         clear c13
         (first | rw [c13b0] |(simp only [jub,jvb];rw [c13b0]) | skip)
         have H':=am H
         clear H
         go_wp2
         go_meet
         case rel=>exact ⟨_,((((jb l0 (rd t248 x10_1)).f1) == 5)),(sq),H',⟨by have:=HK1.out;first | omega | exact Nat.le_refl _⟩,⟨rq HO_9.out⟩,⟨bq⟩⟩
        ·rw [if_neg c13] at H
         have c13b0:(((jb l0 (rd t248 x10_1)).f1) == 5)=false:=beq_eq_false_iff_ne.mpr c13
         have c13b1:(((jb l0 (rd t248 x10_1)).f1) != 5)=true:=bne_iff_ne.mpr c13
         (first | rw [c13b0] |(simp only [jub,jvb];rw [c13b0]) | skip)
         have H':=am H
         clear H
         go_wp2
         go_meet
         case rel=>exact ⟨_,((((jb l0 (rd t248 x10_1)).f1) == 6)),(sq),H',⟨by have:=HK1.out;first | omega | exact Nat.le_refl _⟩,⟨rq HO_9.out⟩,⟨bq⟩⟩
       case rest =>
        clear HC11
        try clear c1
        try clear p2
        try clear q2
        try clear hx2
        try clear c5
        try clear c7
        try clear c7b0
        try clear c8
        try clear c8b0
        try clear c9
        try clear c9b0
        try clear c10
        try clear c10b0
        try clear c13
        try clear c13b0
        try clear c13b1
        try clear hx251_0
        try clear hx252_0
        try clear hx252_1
        try clear hx252_2
        try clear hx252_3
        try clear p2
        try clear p251
        try clear p252
        try clear q251
        try clear q252
        obtain ⟨kq,x36_10,rfl,HA,HJ10,HO_9,HB⟩:=hcut
        cases kq with
        | zero=>exact absurd HA.out (by simp [jh.j1])
        | succ kj10 =>
         have H:=HA.out
         clear HA
         simp only [jh.j1] at H
         by_cases c14:x36_10=true
         ·subst c14
          have H1:(if a3=true then (jh.l0 kj10 l0 a3 t248 (wrap64 (x10_1+1))) else (some false))=some r:=by rw [if_pos rfl] at H;exact H
          clear H
          have H:=H1
          clear H1
          by_cases c15:a3=true
          ·subst c15
           have H1:(jh.l0 kj10 l0 true t248 (wrap64 (x10_1+1)))=some r:=by rw [if_pos rfl] at H;exact H
           clear H
           have H:=H1
           clear H1
           have H':=am H
           clear H
           go_wp2
           go_roundg kj10
           case measure=>have:=HK1.out;have:=HJ10.out;omega
           case rel=>exact ⟨(wrap64 (x10_1+1)),(sq),H',⟨by have:=HK1.out;have:=HJ10.out;omega⟩,⟨rq HO_9.out⟩,⟨bq⟩⟩
          ·replace c15:=Bool.eq_false_iff.mpr c15
           subst c15
           have H1:(some false)=some r:=by rw [if_neg (show ¬ (false=true) by decide)] at H;exact H
           clear H
           have H:=H1
           clear H1
           obtain rfl:=Option.some.inj H
           go_wp2
           go_ret
           exact ⟨Y0,bq⟩
         ·replace c14:=Bool.eq_false_iff.mpr c14
          subst c14
          have H1:(if ((jb l0 (rd t248 x10_1)).f1)=8 then (jh.j2 kj10 l0 a3 t248 x10_1 (rd t248 x10_1) ((jb l0 (rd t248 x10_1)).f1) ((jb l0 (rd t248 x10_1)).f1) (((jb l0 (rd t248 x10_1)).f1) == 8)) else (if ((jb l0 (rd t248 x10_1)).f1)=9 then (jh.j2 kj10 l0 a3 t248 x10_1 (rd t248 x10_1) ((jb l0 (rd t248 x10_1)).f1) ((jb l0 (rd t248 x10_1)).f1) (((jb l0 (rd t248 x10_1)).f1) == 9)) else (jh.j2 kj10 l0 a3 t248 x10_1 (rd t248 x10_1) ((jb l0 (rd t248 x10_1)).f1) ((jb l0 (rd t248 x10_1)).f1) (((jb l0 (rd t248 x10_1)).f1) == 10))))=some r:=by rw [if_neg (show ¬ (false=true) by decide)] at H;exact H
          clear H
          have H:=H1
          clear H1
          have HC16:=am H
          clear H
          go_upto_if 41 with (fail)
          go_cut [41] (fun v41 wc=>∃ (kq:Nat) (x41_15:Bool),v41=.bool x41_15∧jk (jh.j2 kq l0 a3 t248 x10_1 (rd t248 x10_1) ((jb l0 (rd t248 x10_1)).f1) ((jb l0 (rd t248 x10_1)).f1) x41_15=some r)∧jk (kq≤kj10)∧jk (Kd.R (Kd.int .i64) 3 wc w.heap.size (fun _=>True) (.slice (some ad251) t248.length co12) t248)∧jk (Below w.heap.size w wc))
          case first =>
           have H:=HC16.out
           clear HC16
           by_cases c17:((jb l0 (rd t248 x10_1)).f1)=8
           ·rw [if_pos c17] at H
            have c17b0:(((jb l0 (rd t248 x10_1)).f1) == 8)=true:=beq_iff_eq.mpr c17
            have c17b1:(((jb l0 (rd t248 x10_1)).f1) != 8)=false:=bne_eq_false_iff_eq.mpr c17
            clear c17
            (first | rw [c17b0] |(simp only [jub,jvb];rw [c17b0]) | skip)
            have H':=am H
            clear H
            go_wp2
            go_meet
            case rel=>exact ⟨_,((((jb l0 (rd t248 x10_1)).f1) == 8)),(sq),H',⟨by have:=HK1.out;have:=HJ10.out;first | omega | exact Nat.le_refl _⟩,⟨rq HO_9.out⟩,⟨bq⟩⟩
           ·rw [if_neg c17] at H
            have c17b0:(((jb l0 (rd t248 x10_1)).f1) == 8)=false:=beq_eq_false_iff_ne.mpr c17
            have c17b1:(((jb l0 (rd t248 x10_1)).f1) != 8)=true:=bne_iff_ne.mpr c17
            (first | rw [c17b0] |(simp only [jub,jvb];rw [c17b0]) | skip)
            by_cases c18:((jb l0 (rd t248 x10_1)).f1)=9
            ·rw [if_pos c18] at H
             have c18b0:(((jb l0 (rd t248 x10_1)).f1) == 9)=true:=beq_iff_eq.mpr c18
             have c18b1:(((jb l0 (rd t248 x10_1)).f1) != 9)=false:=bne_eq_false_iff_eq.mpr c18
             clear c18
             have H':=am H
             clear H
             go_wp2
             go_meet
             case rel=>exact ⟨_,((((jb l0 (rd t248 x10_1)).f1) == 9)),(sq),H',⟨by have:=HK1.out;have:=HJ10.out;first | omega | exact Nat.le_refl _⟩,⟨rq HO_9.out⟩,⟨bq⟩⟩
            ·rw [if_neg c18] at H
             have c18b0:(((jb l0 (rd t248 x10_1)).f1) == 9)=false:=beq_eq_false_iff_ne.mpr c18
             have c18b1:(((jb l0 (rd t248 x10_1)).f1) != 9)=true:=bne_iff_ne.mpr c18
             have H':=am H
             clear H
             go_wp2
             go_meet
             case rel=>exact ⟨_,((((jb l0 (rd t248 x10_1)).f1) == 10)),(sq),H',⟨by have:=HK1.out;have:=HJ10.out;first | omega | exact Nat.le_refl _⟩,⟨rq HO_9.out⟩,⟨bq⟩⟩
          case rest =>
           clear HC16
           try clear c1
           try clear p2
           try clear q2
           try clear hx2
           try clear c5
           try clear p6
           try clear c7
           try clear c7b0
           try clear c8
           try clear c8b0
           try clear c9
           try clear c9b0
           try clear c10
           try clear c10b0
           try clear c13
           try clear c13b0
           try clear c13b1
           try clear c14
           try clear c15
           try clear c17
           try clear c17b0
           try clear c17b1
           try clear c18
           try clear c18b0
           try clear c18b1
           try clear hx251_0
           try clear hx252_0
           try clear hx252_1
           try clear hx252_2
           try clear hx252_3
           try clear p2
           try clear p251
           try clear p252
           try clear q2
           try clear q251
           try clear q252
           obtain ⟨kq,x41_15,rfl,HA,HJ15,HO_9,HB⟩:=hcut
           cases kq with
           | zero=>exact absurd HA.out (by simp [jh.j2])
           | succ kj15 =>
            have H:=HA.out
            clear HA
            simp only [jh.j2] at H
            by_cases c19:x41_15=true
            ·subst c19
             have H1:(some false)=some r:=by rw [if_pos rfl] at H;exact H
             clear H
             have H:=H1
             clear H1
             obtain rfl:=Option.some.inj H
             go_wp2
             go_ret
             exact ⟨Y0,bq⟩
            ·replace c19:=Bool.eq_false_iff.mpr c19
             subst c19
             have H1:(if ((jb l0 (rd t248 x10_1)).f1)=7 then ((jW.f kj15 l0 (rd t248 x10_1)).bind fun t253=>((jJa.f l0 t253).bind fun t256=>(if t256=true then (jh.l1 kj15 l0 a3 t248 x10_1 t253 t253 (t253.length:Int) 0) else (some false)))) else (if ((jb l0 (rd t248 x10_1)).f1)=11 then (jh.j4 kj15 l0 a3 t248 x10_1 (rd t248 x10_1) ((jb l0 (rd t248 x10_1)).f1) (((jb l0 (rd t248 x10_1)).f1) == 11)) else (jh.j4 kj15 l0 a3 t248 x10_1 (rd t248 x10_1) ((jb l0 (rd t248 x10_1)).f1) (((jb l0 (rd t248 x10_1)).f1) == 12))))=some r:=by rw [if_neg (show ¬ (false=true) by decide)] at H;exact H
             clear H
             have H:=H1
             clear H1
             by_cases c20:((jb l0 (rd t248 x10_1)).f1)=7
             ·rw [if_pos c20] at H
              have c20b0:(((jb l0 (rd t248 x10_1)).f1) == 7)=true:=beq_iff_eq.mpr c20
              have c20b1:(((jb l0 (rd t248 x10_1)).f1) != 7)=false:=bne_eq_false_iff_eq.mpr c20
              clear c20
              replace H:=bzS H
              obtain ⟨t253,A210,H⟩:=H
              replace H:((jJa.f l0 t253).bind fun t256=>(if t256=true then (jh.l1 kj15 l0 a3 t248 x10_1 t253 t253 (t253.length:Int) 0) else (some false)))=some r:=H
              have A21:=am A210
              clear A210
              replace H:=bzS H
              obtain ⟨t256,A220,H⟩:=H
              replace H:(if t256=true then (jh.l1 kj15 l0 a3 t248 x10_1 t253 t253 (t253.length:Int) 0) else (some false))=some r:=H
              have A22:=am A220
              clear A220
              by_cases c23:t256=true
              ·subst c23
               have H1:(jh.l1 kj15 l0 a3 t248 x10_1 t253 t253 (t253.length:Int) 0)=some r:=by rw [if_pos rfl] at H;exact H
               clear H
               have H:=H1
               clear H1
               have H':=am H
               clear H
               go_wp2_with (first |((with_reducible refine je (f:=68) rfl ?_);refine gL (some 49) Try.func68 #[.slice (some ad252) l0.length c0, .int .i64 (rd t248 x10_1)] ?_;(with_reducible refine (jW.calls kj15 _ _ l0 (rd t248 x10_1) t253 _ ?side1 ?side2 A21.out).mono ?_);(case side1=>exact cq (Kd.jF HR0.out HB.out));(case side2=>exact HC0.out);rintro e w24 ⟨v254,rfl,ho0,hb⟩;refine ⟨_,rfl,?_⟩;have HO255:=am (Kd.jRa (Kd.jlc ho0 (Kd.R_lt (rq HO_9.out))) (jH (bq)));replace HO_9:=am (Kd.jCb (rq HO_9.out) (Kd.jmc ho0) hb);replace HB:=am (jd (bq) hb);(try clear hb);(try clear hb2);(try clear hk);(try clear hi);(try clear ho0);obtain ⟨Ao25,co25,eo25⟩:=Kd.jGa HO255.out;subst eo25) |((with_reducible refine je (f:=83) rfl ?_);refine gL (some 52) Try.func83 #[.slice (some ad252) l0.length c0, .slice Ao25 t253.length co25] ?_;(with_reducible refine (jJa.calls _ _ l0 _ _ t253 true _ ?side1 ?side2 ?side3 ?side4 A22.out).mono ?_);(case side1=>exact cq (Kd.jF HR0.out HB.out));(case side2=>exact HC0.out);(case side3=>exact cq (Kd.jA HO255.out).2.2);(case side4=>exact (Kd.jA HO255.out).2.1);rintro e w' ⟨rfl,⟨nd,rfl⟩⟩;refine ⟨_,rfl,?_⟩))
               go_loopg [56] kj15 (fun kq v56 w'=>∃ (x56_4:Int),v56=.int .i64 x56_4∧jk (jh.l1 kq l0 a3 t248 x10_1 t253 t253 (t253.length:Int) x56_4=some r)∧jk (kq≤kj15)∧jk (Kd.R (Kd.int .i64) 3 w' w.heap.size (fun k_=>some k_≠((.slice Ao25 t253.length co25):Value).ownBlock∧some k_≠((.slice Ao25 t253.length co25):Value).ownBlock) (.slice (some ad251) t248.length co12) t248)∧jk (Kd.R (Kd.int .i64) 3 w' w.heap.size (fun k_=>some k_≠((.slice (some ad251) t248.length co12):Value).ownBlock) (.slice Ao25 t253.length co25) t253)∧jk (Kd.R (Kd.int .i64) 3 w' w.heap.size (fun k_=>some k_≠((.slice (some ad251) t248.length co12):Value).ownBlock) (.slice Ao25 t253.length co25) t253)∧jk (Below w.heap.size w w'))
               case atStart=>exact ⟨(0),(sq),H',⟨Nat.le_refl _⟩,⟨by (with_reducible repeat (first | apply Kd.jzb | apply Kd.jyb | apply Kd.jsb));exact Kd.jSa HO_9.out (fun _ hk=>⟨hk.2,hk.2⟩)⟩,⟨by (with_reducible repeat (first | apply Kd.jzb | apply Kd.jyb | apply Kd.jsb));exact Kd.jSa HO255.out (fun _ hk=>hk.2)⟩,⟨by (with_reducible repeat (first | apply Kd.jzb | apply Kd.jyb | apply Kd.jsb));exact Kd.jSa HO255.out (fun _ hk=>hk.2)⟩,⟨bq⟩⟩
               case round =>
                clear H'
                try clear c1
                try clear c2
                try clear p2
                try clear q2
                try clear hx2
                try clear c5
                try clear c6
                try clear p6
                try clear c7
                try clear c7b0
                try clear c8
                try clear c8b0
                try clear c9
                try clear c9b0
                try clear c10
                try clear c10b0
                try clear c13
                try clear c13b0
                try clear c13b1
                try clear c14
                try clear c15
                try clear c17
                try clear c17b0
                try clear c17b1
                try clear c18
                try clear c18b0
                try clear c18b1
                try clear c19
                try clear c20
                try clear c20b0
                try clear c20b1
                try clear c23
                try clear p25
                try clear q25
                try clear hx25
                try clear hx251_0
                try clear hx252_0
                try clear hx252_1
                try clear hx252_2
                try clear hx252_3
                try clear p2
                try clear p251
                try clear p252
                try clear p6
                try clear q2
                try clear q251
                try clear q252
                obtain ⟨x56_4,rfl,HA,HK4,HO_9,HO_13,HO_54,HB⟩:=hrel
                cases gk with
                | zero=>exact absurd HA.out (by simp [jh.l1])
                | succ k4 =>
                 have H:=HA.out
                 clear HA
                 simp only [jh.l1] at H
                 by_cases c26:x56_4<(t253.length:Int)
                 ·rw [if_pos c26] at H
                  have c26b0:decide (x56_4<(t253.length:Int))=true:=dzT c26
                  clear c26
                  by_cases c27:0≤x56_4
                  ·rw [if_pos c27] at H
                   have c27b0:decide (0≤x56_4)=true:=dzT c27
                   clear c27
                   by_cases c28:x56_4<(t253.length:Int)
                   ·rw [if_pos c28] at H
                    have c28b0:decide (x56_4<(t253.length:Int))=true:=dzT c28
                    clear c28
                    replace H:=bzS H
                    obtain ⟨t258,A290,H⟩:=H
                    replace H:((jh.f k4 l0 (wrap64 ((rd t253 x56_4)+1)) t258 a3).bind fun t259=>(if t259=true then (jh.l1 k4 l0 a3 t248 x10_1 t253 t253 (t253.length:Int) (wrap64 (x56_4+1))) else (some false)))=some r:=H
                    have A29:=am A290
                    clear A290
                    replace H:=bzS H
                    obtain ⟨t259,A300,H⟩:=H
                    replace H:(if t259=true then (jh.l1 k4 l0 a3 t248 x10_1 t253 t253 (t253.length:Int) (wrap64 (x56_4+1))) else (some false))=some r:=H
                    have A30:=am A300
                    clear A300
                    by_cases c31:t259=true
                    ·subst c31
                     have H1:(jh.l1 k4 l0 a3 t248 x10_1 t253 t253 (t253.length:Int) (wrap64 (x56_4+1)))=some r:=by rw [if_pos rfl] at H;exact H
                     clear H
                     have H:=H1
                     clear H1
                     have H':=am H
                     clear H
                     have p257:0≤(x56_4:Int):=ozD (uq)
                     have q257:x56_4<(t253.length:Int):=ozD (uq)
                     obtain ⟨ad257,e257,hx257_0⟩:=Kd.jcb (Kd.jA HO_54.out).2.2 x56_4 p257 q257
                     cases e257
                     replace p257:=ezT p257
                     replace q257:=ezT q257
                     go_wp2_with (first |((with_reducible refine je (f:=62) rfl ?_);refine gL (some 65) Try.func62 #[.slice (some ad252) l0.length c0, .int .i64 (rd t253 x56_4)] ?_;(with_reducible refine (jda.calls k4 _ _ l0 (rd t253 x56_4) t258 _ ?side1 ?side2 A29.out).mono ?_);(case side1=>exact cq (Kd.jF HR0.out HB.out));(case side2=>exact HC0.out);rintro e w' ⟨rfl,⟨nd,rfl⟩⟩;refine ⟨_,rfl,?_⟩) |((with_reducible refine je (f:=55) rfl ?_);refine gL (some 67) Try.func55 #[.slice (some ad252) l0.length c0, .int .i64 (wrap64 ((rd t253 x56_4)+1)), .int .i64 t258, .bool a3] ?_;(with_reducible refine (ih k4 (by have:=HK1.out;have:=HJ10.out;have:=HJ15.out;have:=HK4.out;omega) _ _ l0 (wrap64 ((rd t253 x56_4)+1)) t258 a3 true _ ?side1 ?side2 A30.out).mono ?_);(case side1=>exact cq (Kd.jF HR0.out (bq)));(case side2=>exact HC0.out);rintro e w32 ⟨rfl,hb⟩;refine ⟨_,rfl,?_⟩;replace HO_9:=am (Kd.jX (rq HO_9.out) hb);replace HO_13:=am (Kd.jX (rq HO_13.out) hb);replace HO_54:=am (Kd.jX (rq HO_54.out) hb);replace HB:=am (jd (bq) hb);(try clear hb);(try clear hb2);(try clear hk);(try clear hi)))
                     go_roundg k4
                     case measure=>have:=HK1.out;have:=HJ10.out;have:=HJ15.out;have:=HK4.out;omega
                     case rel=>exact ⟨(wrap64 (x56_4+1)),(sq),H',⟨by have:=HK1.out;have:=HJ10.out;have:=HJ15.out;have:=HK4.out;omega⟩,⟨rq HO_9.out⟩,⟨rq HO_13.out⟩,⟨rq HO_54.out⟩,⟨bq⟩⟩
                    ·replace c31:=Bool.eq_false_iff.mpr c31
                     subst c31
                     have H1:(some false)=some r:=by rw [if_neg (show ¬ (false=true) by decide)] at H;exact H
                     clear H
                     have H:=H1
                     clear H1
                     obtain rfl:=Option.some.inj H
                     have p257:0≤(x56_4:Int):=ozD (uq)
                     have q257:x56_4<(t253.length:Int):=ozD (uq)
                     obtain ⟨ad257,e257,hx257_0⟩:=Kd.jcb (Kd.jA HO_54.out).2.2 x56_4 p257 q257
                     cases e257
                     replace p257:=ezT p257
                     replace q257:=ezT q257
                     go_wp2_with (first |((with_reducible refine je (f:=62) rfl ?_);refine gL (some 65) Try.func62 #[.slice (some ad252) l0.length c0, .int .i64 (rd t253 x56_4)] ?_;(with_reducible refine (jda.calls k4 _ _ l0 (rd t253 x56_4) t258 _ ?side1 ?side2 A29.out).mono ?_);(case side1=>exact cq (Kd.jF HR0.out HB.out));(case side2=>exact HC0.out);rintro e w' ⟨rfl,⟨nd,rfl⟩⟩;refine ⟨_,rfl,?_⟩) |((with_reducible refine je (f:=55) rfl ?_);refine gL (some 67) Try.func55 #[.slice (some ad252) l0.length c0, .int .i64 (wrap64 ((rd t253 x56_4)+1)), .int .i64 t258, .bool a3] ?_;(with_reducible refine (ih k4 (by have:=HK1.out;have:=HJ10.out;have:=HJ15.out;have:=HK4.out;omega) _ _ l0 (wrap64 ((rd t253 x56_4)+1)) t258 a3 false _ ?side1 ?side2 A30.out).mono ?_);(case side1=>exact cq (Kd.jF HR0.out (bq)));(case side2=>exact HC0.out);rintro e w33 ⟨rfl,hb⟩;refine ⟨_,rfl,?_⟩;replace HO_9:=am (Kd.jX (rq HO_9.out) hb);replace HO_13:=am (Kd.jX (rq HO_13.out) hb);replace HO_54:=am (Kd.jX (rq HO_54.out) hb);replace HB:=am (jd (bq) hb);(try clear hb);(try clear hb2);(try clear hk);(try clear hi)))
                     go_ret
                     exact ⟨Y0,bq⟩
                   ·rw [if_neg c28] at H
                    exact absurd H (by simp)
                  ·rw [if_neg c27] at H
                   exact absurd H (by simp)
                 ·rw [if_neg c26] at H
                  have c26b0:decide (x56_4<(t253.length:Int))=false:=dzF c26
                  clear c26
                  have H':=am H
                  clear H
                  go_wp2
                  go_roundg k4
                  case measure=>have:=HK1.out;have:=HJ10.out;have:=HJ15.out;have:=HK4.out;omega
                  case rel=>exact ⟨(wrap64 ((wrap64 (x10_1+(wrap64 ((t253.length:Int) - 1))))+1)),(sq),H',⟨by have:=HK1.out;have:=HJ10.out;have:=HJ15.out;have:=HK4.out;omega⟩,⟨by (with_reducible repeat (first | apply Kd.jzb | apply Kd.jyb | apply Kd.jsb));exact Kd.jSa HO_9.out (fun _ hk=>trivial)⟩,⟨bq⟩⟩
              ·replace c23:=Bool.eq_false_iff.mpr c23
               subst c23
               have H1:(some false)=some r:=by rw [if_neg (show ¬ (false=true) by decide)] at H;exact H
               clear H
               have H:=H1
               clear H1
               obtain rfl:=Option.some.inj H
               go_wp2_with (first |((with_reducible refine je (f:=68) rfl ?_);refine gL (some 49) Try.func68 #[.slice (some ad252) l0.length c0, .int .i64 (rd t248 x10_1)] ?_;(with_reducible refine (jW.calls kj15 _ _ l0 (rd t248 x10_1) t253 _ ?side1 ?side2 A21.out).mono ?_);(case side1=>exact cq (Kd.jF HR0.out HB.out));(case side2=>exact HC0.out);rintro e w34 ⟨v254,rfl,ho0,hb⟩;refine ⟨_,rfl,?_⟩;have HO255:=am (Kd.jRa (Kd.jlc ho0 (Kd.R_lt (rq HO_9.out))) (jH (bq)));replace HO_9:=am (Kd.jCb (rq HO_9.out) (Kd.jmc ho0) hb);replace HB:=am (jd (bq) hb);(try clear hb);(try clear hb2);(try clear hk);(try clear hi);(try clear ho0);obtain ⟨Ao35,co35,eo35⟩:=Kd.jGa HO255.out;subst eo35) |((with_reducible refine je (f:=83) rfl ?_);refine gL (some 52) Try.func83 #[.slice (some ad252) l0.length c0, .slice Ao35 t253.length co35] ?_;(with_reducible refine (jJa.calls _ _ l0 _ _ t253 false _ ?side1 ?side2 ?side3 ?side4 A22.out).mono ?_);(case side1=>exact cq (Kd.jF HR0.out HB.out));(case side2=>exact HC0.out);(case side3=>exact cq (Kd.jA HO255.out).2.2);(case side4=>exact (Kd.jA HO255.out).2.1);rintro e w' ⟨rfl,⟨nd,rfl⟩⟩;refine ⟨_,rfl,?_⟩))
               go_ret
               exact ⟨Y0,bq⟩
             ·rw [if_neg c20] at H
              have c20b0:(((jb l0 (rd t248 x10_1)).f1) == 7)=false:=beq_eq_false_iff_ne.mpr c20
              have c20b1:(((jb l0 (rd t248 x10_1)).f1) != 7)=true:=bne_iff_ne.mpr c20
              have HC36:=am H
              clear H
              go_upto_if 75 with (fail)
              go_cut [75] (fun v75 wc=>∃ (kq:Nat) (x75_35:Bool),v75=.bool x75_35∧jk (jh.j4 kq l0 a3 t248 x10_1 (rd t248 x10_1) ((jb l0 (rd t248 x10_1)).f1) x75_35=some r)∧jk (kq≤kj15)∧jk (Kd.R (Kd.int .i64) 3 wc w.heap.size (fun _=>True) (.slice (some ad251) t248.length co12) t248)∧jk (Below w.heap.size w wc))
              case first =>
               have H:=HC36.out
               clear HC36
               by_cases c37:((jb l0 (rd t248 x10_1)).f1)=11
               ·rw [if_pos c37] at H
                have c37b0:(((jb l0 (rd t248 x10_1)).f1) == 11)=true:=beq_iff_eq.mpr c37
                have c37b1:(((jb l0 (rd t248 x10_1)).f1) != 11)=false:=bne_eq_false_iff_eq.mpr c37
                clear c37
                (first | rw [c37b0] |(simp only [jub,jvb];rw [c37b0]) | skip)
                have H':=am H
                clear H
                go_wp2
                go_meet
                case rel=>exact ⟨_,((((jb l0 (rd t248 x10_1)).f1) == 11)),(sq),H',⟨by have:=HK1.out;have:=HJ10.out;have:=HJ15.out;first | omega | exact Nat.le_refl _⟩,⟨rq HO_9.out⟩,⟨bq⟩⟩
               ·rw [if_neg c37] at H
                have c37b0:(((jb l0 (rd t248 x10_1)).f1) == 11)=false:=beq_eq_false_iff_ne.mpr c37
                have c37b1:(((jb l0 (rd t248 x10_1)).f1) != 11)=true:=bne_iff_ne.mpr c37
                (first | rw [c37b0] |(simp only [jub,jvb];rw [c37b0]) | skip)
                have H':=am H
                clear H
                go_wp2
                go_meet
                case rel=>exact ⟨_,((((jb l0 (rd t248 x10_1)).f1) == 12)),(sq),H',⟨by have:=HK1.out;have:=HJ10.out;have:=HJ15.out;first | omega | exact Nat.le_refl _⟩,⟨rq HO_9.out⟩,⟨bq⟩⟩
              case rest =>
               clear HC36
               try clear c1
               try clear c2
               try clear p2
               try clear q2
               try clear hx2
               try clear c3
               try clear c5
               try clear c6
               try clear p6
               try clear c7
               try clear c7b0
               try clear c8
               try clear c8b0
               try clear c9
               try clear c9b0
               try clear c10
               try clear c10b0
               try clear c13
               try clear c13b0
               try clear c13b1
               try clear c14
               try clear c15
               try clear c17
               try clear c17b0
               try clear c17b1
               try clear c18
               try clear c18b0
               try clear c18b1
               try clear c19
               try clear c20
               try clear c20b0
               try clear c20b1
               try clear c23
               try clear p25
               try clear q25
               try clear hx25
               try clear c26
               try clear c26b0
               try clear c27
               try clear c27b0
               try clear c28
               try clear c28b0
               try clear c31
               try clear c37
               try clear c37b0
               try clear c37b1
               try clear hx251_0
               try clear hx252_0
               try clear hx252_1
               try clear hx252_2
               try clear hx252_3
               try clear hx257_0
               try clear p2
               try clear p25
               try clear p251
               try clear p252
               try clear p257
               try clear p6
               try clear q2
               try clear q25
               try clear q251
               try clear q252
               try clear q257
               obtain ⟨kq,x75_35,rfl,HA,HJ35,HO_9,HB⟩:=hcut
               cases kq with
               | zero=>exact absurd HA.out (by simp [jh.j4])
               | succ kj35 =>
                have H:=HA.out
                clear HA
                simp only [jh.j4] at H
                by_cases c38:x75_35=true
                ·subst c38
                 have H1:((jda.f kj35 l0 (rd t248 x10_1)).bind fun t260=>(if a3=true then ((jh.f kj35 l0 (wrap64 ((rd t248 x10_1)+1)) t260 true).bind fun t261=>(if t261=true then (jh.l0 kj35 l0 a3 t248 (wrap64 (x10_1+1))) else (some false))) else ((jh.f kj35 l0 (wrap64 ((rd t248 x10_1)+1)) t260 (((jb l0 (rd t248 x10_1)).f1) == 12)).bind fun t262=>(if t262=true then (jh.l0 kj35 l0 a3 t248 (wrap64 (x10_1+1))) else (some false)))))=some r:=by rw [if_pos rfl] at H;exact H
                 clear H
                 have H:=H1
                 clear H1
                 replace H:=bzS H
                 obtain ⟨t260,A390,H⟩:=H
                 replace H:(if a3=true then ((jh.f kj35 l0 (wrap64 ((rd t248 x10_1)+1)) t260 true).bind fun t261=>(if t261=true then (jh.l0 kj35 l0 a3 t248 (wrap64 (x10_1+1))) else (some false))) else ((jh.f kj35 l0 (wrap64 ((rd t248 x10_1)+1)) t260 (((jb l0 (rd t248 x10_1)).f1) == 12)).bind fun t262=>(if t262=true then (jh.l0 kj35 l0 a3 t248 (wrap64 (x10_1+1))) else (some false))))=some r:=H
                 have A39:=am A390
                 clear A390
                 by_cases c40:a3=true
                 ·subst c40
                  have H1:((jh.f kj35 l0 (wrap64 ((rd t248 x10_1)+1)) t260 true).bind fun t261=>(if t261=true then (jh.l0 kj35 l0 true t248 (wrap64 (x10_1+1))) else (some false)))=some r:=by rw [if_pos rfl] at H;exact H
                  clear H
                  have H:=H1
                  clear H1
                  replace H:=bzS H
                  obtain ⟨t261,A410,H⟩:=H
                  replace H:(if t261=true then (jh.l0 kj35 l0 true t248 (wrap64 (x10_1+1))) else (some false))=some r:=H
                  have A41:=am A410
                  clear A410
                  by_cases c42:t261=true
                  ·subst c42
                   have H1:(jh.l0 kj35 l0 true t248 (wrap64 (x10_1+1)))=some r:=by rw [if_pos rfl] at H;exact H
                   clear H
                   have H:=H1
                   clear H1
                   have H':=am H
                   clear H
                   go_wp2_with (first |((with_reducible refine je (f:=62) rfl ?_);refine gL (some 83) Try.func62 #[.slice (some ad252) l0.length c0, .int .i64 (rd t248 x10_1)] ?_;(with_reducible refine (jda.calls kj35 _ _ l0 (rd t248 x10_1) t260 _ ?side1 ?side2 A39.out).mono ?_);(case side1=>exact cq (Kd.jF HR0.out HB.out));(case side2=>exact HC0.out);rintro e w' ⟨rfl,⟨nd,rfl⟩⟩;refine ⟨_,rfl,?_⟩) |((with_reducible refine je (f:=55) rfl ?_);refine gL (some 89) Try.func55 #[.slice (some ad252) l0.length c0, .int .i64 (wrap64 ((rd t248 x10_1)+1)), .int .i64 t260, .bool true] ?_;(with_reducible refine (ih kj35 (by have:=HK1.out;have:=HJ10.out;have:=HJ15.out;have:=HJ35.out;omega) _ _ l0 (wrap64 ((rd t248 x10_1)+1)) t260 true true _ ?side1 ?side2 A41.out).mono ?_);(case side1=>exact cq (Kd.jF HR0.out (bq)));(case side2=>exact HC0.out);rintro e w43 ⟨rfl,hb⟩;refine ⟨_,rfl,?_⟩;replace HO_9:=am (Kd.jX (rq HO_9.out) hb);replace HB:=am (jd (bq) hb);(try clear hb);(try clear hb2);(try clear hk);(try clear hi)))
                   go_roundg kj35
                   case measure=>have:=HK1.out;have:=HJ10.out;have:=HJ15.out;have:=HJ35.out;omega
                   case rel=>exact ⟨(wrap64 (x10_1+1)),(sq),H',⟨by have:=HK1.out;have:=HJ10.out;have:=HJ15.out;have:=HJ35.out;omega⟩,⟨rq HO_9.out⟩,⟨bq⟩⟩
                  ·replace c42:=Bool.eq_false_iff.mpr c42
                   subst c42
                   have H1:(some false)=some r:=by rw [if_neg (show ¬ (false=true) by decide)] at H;exact H
                   clear H
                   have H:=H1
                   clear H1
                   obtain rfl:=Option.some.inj H
                   go_wp2_with (first |((with_reducible refine je (f:=62) rfl ?_);refine gL (some 83) Try.func62 #[.slice (some ad252) l0.length c0, .int .i64 (rd t248 x10_1)] ?_;(with_reducible refine (jda.calls kj35 _ _ l0 (rd t248 x10_1) t260 _ ?side1 ?side2 A39.out).mono ?_);(case side1=>exact cq (Kd.jF HR0.out HB.out));(case side2=>exact HC0.out);rintro e w' ⟨rfl,⟨nd,rfl⟩⟩;refine ⟨_,rfl,?_⟩) |((with_reducible refine je (f:=55) rfl ?_);refine gL (some 89) Try.func55 #[.slice (some ad252) l0.length c0, .int .i64 (wrap64 ((rd t248 x10_1)+1)), .int .i64 t260, .bool true] ?_;(with_reducible refine (ih kj35 (by have:=HK1.out;have:=HJ10.out;have:=HJ15.out;have:=HJ35.out;omega) _ _ l0 (wrap64 ((rd t248 x10_1)+1)) t260 true false _ ?side1 ?side2 A41.out).mono ?_);(case side1=>exact cq (Kd.jF HR0.out (bq)));(case side2=>exact HC0.out);rintro e w44 ⟨rfl,hb⟩;refine ⟨_,rfl,?_⟩;replace HO_9:=am (Kd.jX (rq HO_9.out) hb);replace HB:=am (jd (bq) hb);(try clear hb);(try clear hb2);(try clear hk);(try clear hi)))
                   go_ret
                   exact ⟨Y0,bq⟩
                 ·replace c40:=Bool.eq_false_iff.mpr c40
                  subst c40
                  have H1:((jh.f kj35 l0 (wrap64 ((rd t248 x10_1)+1)) t260 (((jb l0 (rd t248 x10_1)).f1) == 12)).bind fun t262=>(if t262=true then (jh.l0 kj35 l0 false t248 (wrap64 (x10_1+1))) else (some false)))=some r:=by rw [if_neg (show ¬ (false=true) by decide)] at H;exact H
                  clear H
                  have H:=H1
                  clear H1
                  replace H:=bzS H
                  obtain ⟨t262,A450,H⟩:=H
                  replace H:(if t262=true then (jh.l0 kj35 l0 false t248 (wrap64 (x10_1+1))) else (some false))=some r:=H
                  have A45:=am A450
                  clear A450
                  by_cases c46:t262=true
                  ·subst c46
                   have H1:(jh.l0 kj35 l0 false t248 (wrap64 (x10_1+1)))=some r:=by rw [if_pos rfl] at H;exact H
                   clear H
                   have H:=H1
                   clear H1
                   have H':=am H
                   clear H
                   go_wp2_with (first |((with_reducible refine je (f:=62) rfl ?_);refine gL (some 83) Try.func62 #[.slice (some ad252) l0.length c0, .int .i64 (rd t248 x10_1)] ?_;(with_reducible refine (jda.calls kj35 _ _ l0 (rd t248 x10_1) t260 _ ?side1 ?side2 A39.out).mono ?_);(case side1=>exact cq (Kd.jF HR0.out HB.out));(case side2=>exact HC0.out);rintro e w' ⟨rfl,⟨nd,rfl⟩⟩;refine ⟨_,rfl,?_⟩) |((with_reducible refine je (f:=55) rfl ?_);refine gL (some 89) Try.func55 #[.slice (some ad252) l0.length c0, .int .i64 (wrap64 ((rd t248 x10_1)+1)), .int .i64 t260, .bool (((jb l0 (rd t248 x10_1)).f1) == 12)] ?_;(with_reducible refine (ih kj35 (by have:=HK1.out;have:=HJ10.out;have:=HJ15.out;have:=HJ35.out;omega) _ _ l0 (wrap64 ((rd t248 x10_1)+1)) t260 (((jb l0 (rd t248 x10_1)).f1) == 12) true _ ?side1 ?side2 A45.out).mono ?_);(case side1=>exact cq (Kd.jF HR0.out (bq)));(case side2=>exact HC0.out);rintro e w47 ⟨rfl,hb⟩;refine ⟨_,rfl,?_⟩;replace HO_9:=am (Kd.jX (rq HO_9.out) hb);replace HB:=am (jd (bq) hb);(try clear hb);(try clear hb2);(try clear hk);(try clear hi)))
                   go_roundg kj35
                   case measure=>have:=HK1.out;have:=HJ10.out;have:=HJ15.out;have:=HJ35.out;omega
                   case rel=>exact ⟨(wrap64 (x10_1+1)),(sq),H',⟨by have:=HK1.out;have:=HJ10.out;have:=HJ15.out;have:=HJ35.out;omega⟩,⟨rq HO_9.out⟩,⟨bq⟩⟩
                  ·replace c46:=Bool.eq_false_iff.mpr c46
                   subst c46
                   have H1:(some false)=some r:=by rw [if_neg (show ¬ (false=true) by decide)] at H;exact H
                   clear H
                   have H:=H1
                   clear H1
                   obtain rfl:=Option.some.inj H
                   go_wp2_with (first |((with_reducible refine je (f:=62) rfl ?_);refine gL (some 83) Try.func62 #[.slice (some ad252) l0.length c0, .int .i64 (rd t248 x10_1)] ?_;(with_reducible refine (jda.calls kj35 _ _ l0 (rd t248 x10_1) t260 _ ?side1 ?side2 A39.out).mono ?_);(case side1=>exact cq (Kd.jF HR0.out HB.out));(case side2=>exact HC0.out);rintro e w' ⟨rfl,⟨nd,rfl⟩⟩;refine ⟨_,rfl,?_⟩) |((with_reducible refine je (f:=55) rfl ?_);refine gL (some 89) Try.func55 #[.slice (some ad252) l0.length c0, .int .i64 (wrap64 ((rd t248 x10_1)+1)), .int .i64 t260, .bool (((jb l0 (rd t248 x10_1)).f1) == 12)] ?_;(with_reducible refine (ih kj35 (by have:=HK1.out;have:=HJ10.out;have:=HJ15.out;have:=HJ35.out;omega) _ _ l0 (wrap64 ((rd t248 x10_1)+1)) t260 (((jb l0 (rd t248 x10_1)).f1) == 12) false _ ?side1 ?side2 A45.out).mono ?_);(case side1=>exact cq (Kd.jF HR0.out (bq)));(case side2=>exact HC0.out);rintro e w48 ⟨rfl,hb⟩;refine ⟨_,rfl,?_⟩;replace HO_9:=am (Kd.jX (rq HO_9.out) hb);replace HB:=am (jd (bq) hb);(try clear hb);(try clear hb2);(try clear hk);(try clear hi)))
                   go_ret
                   exact ⟨Y0,bq⟩
                ·replace c38:=Bool.eq_false_iff.mpr c38
                 subst c38
                 have H1:(jh.l0 kj35 l0 a3 t248 (wrap64 (x10_1+1)))=some r:=by rw [if_neg (show ¬ (false=true) by decide)] at H;exact H
                 clear H
                 have H:=H1
                 clear H1
                 have H':=am H
                 clear H
                 go_wp2
                 go_roundg kj35
                 case measure=>have:=HK1.out;have:=HJ10.out;have:=HJ15.out;have:=HJ35.out;omega
                 case rel=>exact ⟨(wrap64 (x10_1+1)),(sq),H',⟨by have:=HK1.out;have:=HJ10.out;have:=HJ15.out;have:=HJ35.out;omega⟩,⟨rq HO_9.out⟩,⟨bq⟩⟩
      ·rw [if_neg c10] at H
       exact absurd H (by simp)
     ·rw [if_neg c9] at H
      exact absurd H (by simp)
    ·rw [if_neg c8] at H
     exact absurd H (by simp)
   ·rw [if_neg c7] at H
    have c7b0:decide (x10_1<(t248.length:Int))=false:=dzF c7
    clear c7
    obtain rfl:=Option.some.inj H
    obtain ⟨Ao49,co49,eo49⟩:=Kd.jGa HO_9.out
    subst eo49
    go_wp2
    go_ret
    exact ⟨Y0,bq⟩
def inB (a lo hi : Int) : Bool := decide (lo ≤ a) && decide (a ≤ hi)
theorem jtb (a lo hi : Int) : jE.f a lo hi = some (inB a lo hi) := by
 unfold jE.f inB
 by_cases h:a≥lo
 ·rw [if_pos h];simp [show lo≤a from h]
 ·rw [if_neg h];simp [show ¬ lo≤a from h]
theorem jgc (a b c d : Int) : jOa.f a b c d = some (inB b 7 12) := by
 unfold jOa.f
 rw [jtb];rfl
def VF (W : World) (B1 BL BT : Nat) (a x : S52) (tv : Value) : Prop :=
 W.heap[B1]?=some (.cells #[.int .i64 a.f0, .int .i64 a.f1, .int .i64 a.f2, .int .i64 a.f3] 52 (0,0))∧W.heap[BL]?=some (.cells #[.int .i64 x.f0, .int .i64 x.f1, .int .i64 x.f2, .int .i64 x.f3] 52 (0,0))∧W.cell? ⟨BT,0,none⟩=some tv
theorem VF.below {W W' : World} {B1 BL BT : Nat} {a x : S52} {tv : Value} (h : VF W B1 BL BT a x tv) (hb : Below W.heap.size W W') : VF W' B1 BL BT a x tv :=
 ⟨(hb.block _ (jVa h.1)).trans h.1,(hb.block _ (jVa h.2.1)).trans h.2.1,jZ hb h.2.2⟩
theorem VF.cells {W : World} {B1 BL BT : Nat} {a x : S52} {tv : Value} (h : VF W B1 BL BT a x tv) :
  W.cell? ⟨B1,0,none⟩=some (.int .i64 a.f0)∧W.cell? ⟨B1,1,none⟩=some (.int .i64 a.f1)∧W.cell? ⟨B1,2,none⟩=some (.int .i64 a.f2)∧W.cell? ⟨B1,3,none⟩=some (.int .i64 a.f3) ∧
  W.cell? ⟨BL,0,none⟩=some (.int .i64 x.f0)∧W.cell? ⟨BL,1,none⟩=some (.int .i64 x.f1)∧W.cell? ⟨BL,2,none⟩=some (.int .i64 x.f2)∧W.cell? ⟨BL,3,none⟩=some (.int .i64 x.f3)∧W.cell? ⟨BT,0,none⟩=some tv :=
 ⟨(jDa h.1 0).trans rfl,(jDa h.1 1).trans rfl,(jDa h.1 2).trans rfl,(jDa h.1 3).trans rfl,(jDa h.2.1 0).trans rfl,(jDa h.2.1 1).trans rfl,(jDa h.2.1 2).trans rfl,(jDa h.2.1 3).trans rfl,h.2.2⟩
theorem VF.frozen {W : World} {B1 BL BT : Nat} {a x : S52} {tv : Value} (h : VF W B1 BL BT a x tv) : W.frozen? ⟨B1, 0, none⟩ = false ∧ W.frozen? ⟨B1, 1, none⟩ = false ∧ W.frozen? ⟨B1, 2, none⟩ = false ∧ W.frozen? ⟨B1, 3, none⟩ = false :=
 ⟨ja h.1 0,ja h.1 1,ja h.1 2,ja h.1 3⟩
theorem four_stored {W : World} {B T : Nat} {a b c d a' b' c' d' : Value} (h : W.heap[B]? = some (.cells #[a, b, c, d] T (0, 0))) :
  ((((W.setCell ⟨B,0,none⟩ a').setCell ⟨B,1,none⟩ b').setCell ⟨B,2,none⟩ c').setCell ⟨B,3,none⟩ d').heap[B]?=some (.cells #[a',b',c',d'] T (0,0)):=by
 have h0:=blk_set h 0 a'
 have h1:=blk_set h0 1 b'
 have h2:=blk_set h1 2 c'
 have h3:=blk_set h2 3 d'
 simpa using h3
theorem four_below {W w : World} {base B : Nat} {a' b' c' d' : Value} (h : Below base w W) (hB : base ≤ B) :
  Below base w ((((W.setCell ⟨B,0,none⟩ a').setCell ⟨B,1,none⟩ b').setCell ⟨B,2,none⟩ c').setCell ⟨B,3,none⟩ d') :=
 (((h.setCell (p:=⟨B,0,none⟩) hB _).setCell (p:=⟨B,1,none⟩) hB _).setCell (p:=⟨B,2,none⟩) hB _).setCell (p:=⟨B,3,none⟩) hB _
theorem four_far {W : World} {B C : Nat} {a' b' c' d' v : Value} (h : W.cell? ⟨C, 0, none⟩ = some v) (hne : B ≠ C) :
  ((((W.setCell ⟨B,0,none⟩ a').setCell ⟨B,1,none⟩ b').setCell ⟨B,2,none⟩ c').setCell ⟨B,3,none⟩ d').cell? ⟨C,0,none⟩=some v:=by
 have e:∀ j,(⟨B,j,none⟩:Addr)≠⟨C,0,none⟩:=fun j hj=>hne (by injection hj)
 rw [World.cell?_setCell_other (h:=e 3),World.cell?_setCell_other (h:=e 2),World.cell?_setCell_other (h:=e 1),World.cell?_setCell_other (h:=e 0)]
 exact h
def jy.bad (x last : S52) : Bool := !inB x.f0 0 5 || (inB last.f1 7 12 && decide (x.f0 ≠ last.f0 + 1)) || (!inB last.f1 7 12 && decide (last.f0 < x.f0))
def jy.go (k : Nat) (t : List S78) : List S52 → S52 → Option (Option S52)
 | [],last=>some (some last)
 | x :: xs,last=>(jsa.f k x.f0 x.f1 x.f2 x.f3 t).bind fun v=>if v=false then some none else if jy.bad x last then some none else jy.go k t xs x
def jy.f (k : Nat) (l0_0 : List S78) (l1 : List S52) : Option Bool := (jo.f k l0_0).bind fun v =>
 if v=false then some false else if 24<l1.length then some false else
 (jy.go k l0_0 l1 ⟨-1,7,0,0⟩).bind fun q=>match q with
 | none=>some false
 | some last=>if l1.length=0 then jh.f k l1 0 (l1.length:Int) false else if inB last.f1 7 12 then some false else jh.f k l1 0 (l1.length:Int) false
theorem jy.step {k : Nat} {t : List S78} {p : List S52} {n : Nat} {last : S52} {q : Option S52} (hn : n < p.length) (h : jy.go k t (p.drop n) last = some q) :
  ∃ v,jsa.f k p[n].f0 p[n].f1 p[n].f2 p[n].f3 t=some v∧(if v=false then some none else if jy.bad p[n] last then some none else jy.go k t (p.drop (n+1)) p[n])=some q:=by
 rw [List.drop_eq_getElem_cons hn] at h
 exact bzS h
set_option maxHeartbeats 8000000 in
set_option maxRecDepth 100000 in
theorem jy.calls (k : Nat) (A0_0 : Option Addr) (c0_0 : Nat) (l0_0 : List S78) (A1 : Option Addr) (c1 : Nat) (l1 : List S52) (r : Bool) (w : World) (hr0_0 : Kd.C k78 w A0_0 l0_0.length l0_0) (hc0_0 : l0_0.length ≤ c0_0) (hr1 : Kd.C k52 w A1 l1.length l1) (hc1 : l1.length ≤ c1) (h : jy.f k l0_0 l1 = some r) :
  Calls Try.prog 27 #[.agg #[.slice A0_0 l0_0.length c0_0], .slice A1 l1.length c1] w fun e w'=>e=.returned (.bool r)∧Below w.heap.size w w':=by
 have hu32:=Try.underlying32
 have hu52:=Try.underlying52
 have hm:l1.length≤9223372036854775807:=Kd.C_max hr1
 obtain ⟨v,hv,h⟩:=bzS h
 have HV:=am (fun W (hb:Below w.heap.size w W)=>jo.calls k A0_0 c0_0 l0_0 v W (Kd.jF hr0_0 hb) hc0_0 hv)
 have HR0:=am hr0_0
 have HR1:=am hr1
 clear hv hr0_0 hr1
 cases v with
 | false =>
  obtain rfl:false=r:=by simpa using h
  clear h
  go_enter Try.func27,Try.ntmps27
  go_wp2_with (go_at_call 51;refine (HV.out _ ((Below.refl _ _).alloc (Nat.le_refl _) _)).mono ?_;rintro e w' ⟨rfl,hb2⟩)
  go_ret
  exact ⟨rfl,((Below.refl _ _).alloc (Nat.le_refl _) _).trans (hb2.mono (by simp))⟩
 | true =>
  simp only [Bool.true_eq_false,if_false] at h
  by_cases h24:24<l1.length
  ·rw [if_pos h24] at h
   obtain rfl:false=r:=by simpa using h
   have h24b:decide (24<l1.length)=true:=dzT h24
   clear h
   go_enter Try.func27,Try.ntmps27
   go_wp2_with (go_at_call 51;refine (HV.out _ ((Below.refl _ _).alloc (Nat.le_refl _) _)).mono ?_;rintro e w' ⟨rfl,hb2⟩)
   go_ret
   exact ⟨rfl,((Below.refl _ _).alloc (Nat.le_refl _) _).trans (hb2.mono (by simp))⟩
  ·rw [if_neg h24] at h
   have h24b:decide (24<l1.length)=false:=dzF h24
   obtain ⟨q,hq,h⟩:=bzS h
   have H0:=am hq
   have HZ:=am h
   clear h hq
   go_enter Try.func27,Try.ntmps27
   go_wp2_with (go_at_call 51;refine (HV.out _ ((Below.refl _ _).alloc (Nat.le_refl _) _)).mono ?_;rintro e w2 ⟨rfl,hb2⟩;have HB2:=am (((Below.refl w.heap.size w).alloc (Nat.le_refl _) (.cells #[.slice A0_0 l0_0.length c0_0] 32)).trans (hb2.mono (by simp)));have hs2:w.heap.size<w2.heap.size:=Nat.lt_of_lt_of_le (by simp) hb2.size;have ht2:=jZ hb2 (show (w.alloc (.cells #[.slice A0_0 l0_0.length c0_0] 32)).cell? ⟨w.heap.size,0,none⟩=some (.slice A0_0 l0_0.length c0_0) by simp);clear hb2)
   obtain ⟨B1,hB1⟩:∃ B1,B1=w2.heap.size:=⟨_,rfl⟩
   have HBK:=am (show (w2.alloc (.cells #[.int .i64 (-1), .int .i64 7, .int .i64 0, .int .i64 0] 52)).heap[B1]?=some (.cells #[.int .i64 (-1), .int .i64 7, .int .i64 0, .int .i64 0] 52 (0,0)) by rw [hB1];exact heap_alloc_new w2 _)
   have hBl:=am (HB2.out.alloc (Nat.le_of_lt hs2) (.cells #[.int .i64 (-1), .int .i64 7, .int .i64 0, .int .i64 0] 52))
   have hT:=am (show (w2.alloc (.cells #[.int .i64 (-1), .int .i64 7, .int .i64 0, .int .i64 0] 52)).cell? ⟨w.heap.size,0,none⟩=some (.slice A0_0 l0_0.length c0_0) by simp [World.cell?_alloc_old,Nat.ne_of_lt hs2,ht2])
   rw [← hB1]
   have hlt1:w.heap.size<B1:=by omega
   clear hB1
   generalize w2.alloc (.cells #[.int .i64 (-1), .int .i64 7, .int .i64 0, .int .i64 0] 52)=w3 at HBK hBl hT ⊢
   clear ht2 hs2 HB2 HV
   go_loopw [19] (fun i19 wr=>∃ (n:Nat) (last:S52),i19=.int .i64 n∧n≤l1.length∧-1≤last.f0∧last.f0≤5∧jk (jy.go k l0_0 (l1.drop n) last=some q)∧jk (wr.heap[B1]?=some (.cells #[.int .i64 last.f0, .int .i64 last.f1, .int .i64 last.f2, .int .i64 last.f3] 52 (0,0)))∧jk (wr.cell? ⟨w.heap.size,0,none⟩=some (.slice A0_0 l0_0.length c0_0))∧jk (Below w.heap.size w wr)) (fun i19 _=>l1.length - (intOf i19).toNat)
   case atStart=>exact ⟨0,⟨-1,7,0,0⟩,rfl,Nat.zero_le _,by simp,by simp,H0,HBK,hT,hBl⟩
   case round =>
    clear H0 HBK hT hBl
    obtain ⟨n,last,rfl,hn,hlo,hhi,HA,HBK,HT,HB⟩:=hrel
    have ht2:=HT.out
    have g0:wr.cell? ⟨B1,0,none⟩=some (.int .i64 last.f0):=(jDa HBK.out 0).trans rfl
    have g1:wr.cell? ⟨B1,1,none⟩=some (.int .i64 last.f1):=(jDa HBK.out 1).trans rfl
    have g2:wr.cell? ⟨B1,2,none⟩=some (.int .i64 last.f2):=(jDa HBK.out 2).trans rfl
    have g3:wr.cell? ⟨B1,3,none⟩=some (.int .i64 last.f3):=(jDa HBK.out 3).trans rfl
    have hBw:B1<wr.heap.size:=jVa HBK.out
    have hne:B1≠wr.heap.size:=by omega
    have hne2:w.heap.size≠wr.heap.size:=by omega
    have hTw:w.heap.size<wr.heap.size:=by omega
    by_cases hlt:n<l1.length
    ·obtain ⟨v,hv,hs⟩:=jy.step hlt HA.out
     clear HA
     obtain ⟨ad,rfl,hx0,hx1,hx2,hx3⟩:=jba HR1.out (n:Int) (by omega) (by omega)
     have hrd:jb l1 (n:Int)=l1[n]:=by simp [jb,List.getD_eq_getElem?_getD,hlt]
     rw [hrd,Int.toNat_natCast] at hx0 hx1 hx2 hx3
     clear hrd
     generalize l1[n]=x at hv hs hx0 hx1 hx2 hx3
     have hb:=HB.out
     replace hx0:=jZ hb hx0
     replace hx1:=jZ hb hx1
     replace hx2:=jZ hb hx2
     replace hx3:=jZ hb hx3
     clear hb
     have HG:=am (fun W (hb:Below w.heap.size w W)=>jsa.calls k x.f0 x.f1 x.f2 x.f3 A0_0 c0_0 l0_0 v W (Kd.jF HR0.out hb) hc0_0 hv)
     clear hv
     cases v with
     | false =>
      obtain rfl:none=q:=by simpa using hs
      obtain rfl:false=r:=by simpa using HZ.out
      clear hs HZ
      go_wp2_with (go_at_call 52;refine (HG.out _ (HB.out.alloc HB.out.size _)).mono ?_;rintro e w4 ⟨rfl,hb4⟩)
      go_ret
      exact ⟨rfl,jV (HB.out.alloc HB.out.size _) (by simp;have:=HB.out.size;omega) hb4⟩
     | true =>
      simp only [Bool.true_eq_false,if_false] at hs
      have V0:=am (show VF (wr.alloc (.cells #[.int .i64 x.f0, .int .i64 x.f1, .int .i64 x.f2, .int .i64 x.f3] 52)) B1 wr.heap.size w.heap.size last x (.slice A0_0 l0_0.length c0_0) from ⟨(heap_alloc_old wr _ hBw).trans HBK.out,heap_alloc_new wr _,by rw [World.cell?_alloc_old _ _ _ hne2];exact HT.out⟩)
      have HO:=am (fun W=>jOa.calls last.f0 last.f1 last.f2 last.f3 _ W (jgc _ _ _ _))
      clear g0 g1 g2 g3
      have tok1:True:=trivial
      have HS:=am hs
      clear hs
      cases h5:inB x.f0 0 5 with
      | false =>
       have H5:=am h5
       obtain rfl:none=q:=by simpa [jy.bad,h5] using HS.out
       obtain rfl:false=r:=by simpa using HZ.out
       clear HS HZ h5
       go_wp2_with (first |(go_at_call 52;refine (HG.out _ (HB.out.alloc HB.out.size _)).mono ?_;rintro e w4 ⟨rfl,hb4⟩;have V4:=am (VF.below V0.out hb4);have HB4:=am (jV (HB.out.alloc HB.out.size _) (by simp;have:=HB.out.size;omega) hb4);clear hb4;obtain ⟨g0,g1,g2,g3,e0,e1,e2,e3,ht4⟩:=VF.cells V4.out) |(go_at_call 53;refine (jE.calls _ _ _ _ _ (jtb _ _ _)).mono ?_;rintro e w5 ⟨rfl,⟨nd,rfl⟩⟩;rw [H5.out]))
       go_ret
       exact ⟨rfl,jg HB4.out _⟩
      | true =>
       have H5:=am h5
       have hx5:0≤x.f0∧x.f0≤5:=by simpa [inB] using h5
       cases ho:inB last.f1 7 12 with
       | true =>
        rw [ho] at HO
        by_cases hd:x.f0=last.f0+1
        ·have hb1:(x.f0 != last.f0+1)=false:=by simpa using hd
         have hbad:jy.bad x last=false:=by unfold jy.bad;rw [h5,ho];simp [hd]
         have HN:=am (by have:=HS.out;rw [hbad] at this;simpa using this:jy.go k l0_0 (l1.drop (n+1)) x=some q)
         clear hbad
         clear HS hd h5 ho
         go_wp2_with (first |(go_at_call 52;refine (HG.out _ (HB.out.alloc HB.out.size _)).mono ?_;rintro e w4 ⟨rfl,hb4⟩;have V4:=am (VF.below V0.out hb4);have HB4:=am (jV (HB.out.alloc HB.out.size _) (by simp;have:=HB.out.size;omega) hb4);clear hb4;obtain ⟨g0,g1,g2,g3,e0,e1,e2,e3,ht4⟩:=VF.cells V4.out) |(go_at_call 53;refine (jE.calls _ _ _ _ _ (jtb _ _ _)).mono ?_;rintro e w5 ⟨rfl,⟨nd,rfl⟩⟩;rw [H5.out]) |(go_at_call 54;have tk1:=tok1;clear tok1;refine (HO.out _).mono ?_;rintro e w6 ⟨rfl,hb6⟩;have V6:=am (VF.below (W:=World.drewN _ _) V4.out hb6);have HB6:=am (jV (w1:=World.drewN _ _) (show Below w.heap.size w (World.drewN _ _) from ⟨HB4.out.os,HB4.out.tape,HB4.out.output,HB4.out.size,HB4.out.block⟩) HB4.out.size hb6);clear hb6 g0 g1 g2 g3 e0 e1 e2 e3 ht4;obtain ⟨g0,g1,g2,g3,e0,e1,e2,e3,ht4⟩:=VF.cells V6.out) |(go_at_call 54;refine (HO.out _).mono ?_;rintro e w7 ⟨rfl,hb7⟩;have V7:=am (VF.below V6.out hb7);have HB7:=am (jV HB6.out HB6.out.size hb7);clear hb7 g0 g1 g2 g3 e0 e1 e2 e3 ht4;obtain ⟨g0,g1,g2,g3,e0,e1,e2,e3,ht4⟩:=VF.cells V7.out;obtain ⟨f0,f1,f2,f3⟩:=VF.frozen V7.out))
         go_roundw
         case rel=>exact ⟨n+1,x,by go_num,hlt,by omega,by omega,HN,⟨four_stored V7.out.1⟩,⟨four_far V7.out.2.2 (by omega)⟩,⟨four_below HB7.out (by omega)⟩⟩
         case measure=>simp [intOf];omega
        ·have hb1:(x.f0 != last.f0+1)=true:=by simpa using hd
         obtain rfl:none=q:=by simpa [jy.bad,h5,ho,hd] using HS.out
         obtain rfl:false=r:=by simpa using HZ.out
         clear HS HZ hd h5 ho
         go_wp2_with (first |(go_at_call 52;refine (HG.out _ (HB.out.alloc HB.out.size _)).mono ?_;rintro e w4 ⟨rfl,hb4⟩;have V4:=am (VF.below V0.out hb4);have HB4:=am (jV (HB.out.alloc HB.out.size _) (by simp;have:=HB.out.size;omega) hb4);clear hb4;obtain ⟨g0,g1,g2,g3,e0,e1,e2,e3,ht4⟩:=VF.cells V4.out) |(go_at_call 53;refine (jE.calls _ _ _ _ _ (jtb _ _ _)).mono ?_;rintro e w5 ⟨rfl,⟨nd,rfl⟩⟩;rw [H5.out]) |(go_at_call 54;have tk1:=tok1;clear tok1;refine (HO.out _).mono ?_;rintro e w6 ⟨rfl,hb6⟩;have V6:=am (VF.below (W:=World.drewN _ _) V4.out hb6);have HB6:=am (jV (w1:=World.drewN _ _) (show Below w.heap.size w (World.drewN _ _) from ⟨HB4.out.os,HB4.out.tape,HB4.out.output,HB4.out.size,HB4.out.block⟩) HB4.out.size hb6);clear hb6 g0 g1 g2 g3 e0 e1 e2 e3 ht4;obtain ⟨g0,g1,g2,g3,e0,e1,e2,e3,ht4⟩:=VF.cells V6.out))
         go_ret
         exact ⟨rfl,HB6.out⟩
       | false =>
        rw [ho] at HO
        by_cases hd:last.f0<x.f0
        ·have hb1:decide (last.f0<x.f0)=true:=dzT hd
         have hbad:jy.bad x last=true:=by unfold jy.bad;rw [h5,ho];simp [hd]
         obtain rfl:none=q:=by have:=HS.out;rw [hbad] at this;simpa using this
         obtain rfl:false=r:=by simpa using HZ.out
         clear HS HZ hd h5 ho hbad
         go_wp2_with (first |(go_at_call 52;refine (HG.out _ (HB.out.alloc HB.out.size _)).mono ?_;rintro e w4 ⟨rfl,hb4⟩;have V4:=am (VF.below V0.out hb4);have HB4:=am (jV (HB.out.alloc HB.out.size _) (by simp;have:=HB.out.size;omega) hb4);clear hb4;obtain ⟨g0,g1,g2,g3,e0,e1,e2,e3,ht4⟩:=VF.cells V4.out) |(go_at_call 53;refine (jE.calls _ _ _ _ _ (jtb _ _ _)).mono ?_;rintro e w5 ⟨rfl,⟨nd,rfl⟩⟩;rw [H5.out]) |(go_at_call 54;have tk1:=tok1;clear tok1;refine (HO.out _).mono ?_;rintro e w6 ⟨rfl,hb6⟩;have V6:=am (VF.below (W:=World.drewN _ _) V4.out hb6);have HB6:=am (jV (w1:=World.drewN _ _) (show Below w.heap.size w (World.drewN _ _) from ⟨HB4.out.os,HB4.out.tape,HB4.out.output,HB4.out.size,HB4.out.block⟩) HB4.out.size hb6);clear hb6 g0 g1 g2 g3 e0 e1 e2 e3 ht4;obtain ⟨g0,g1,g2,g3,e0,e1,e2,e3,ht4⟩:=VF.cells V6.out) |(go_at_call 54;refine (HO.out _).mono ?_;rintro e w7 ⟨rfl,hb7⟩;have V7:=am (VF.below V6.out hb7);have HB7:=am (jV HB6.out HB6.out.size hb7);clear hb7 g0 g1 g2 g3 e0 e1 e2 e3 ht4;obtain ⟨g0,g1,g2,g3,e0,e1,e2,e3,ht4⟩:=VF.cells V7.out;obtain ⟨f0,f1,f2,f3⟩:=VF.frozen V7.out))
         go_ret
         exact ⟨rfl,HB7.out⟩
        ·have hb1:decide (last.f0<x.f0)=false:=dzF hd
         have hbad:jy.bad x last=false:=by unfold jy.bad;rw [h5,ho];simp [hd]
         have HN:=am (by have:=HS.out;rw [hbad] at this;simpa using this:jy.go k l0_0 (l1.drop (n+1)) x=some q)
         clear hbad HS hd h5 ho
         go_wp2_with (first |(go_at_call 52;refine (HG.out _ (HB.out.alloc HB.out.size _)).mono ?_;rintro e w4 ⟨rfl,hb4⟩;have V4:=am (VF.below V0.out hb4);have HB4:=am (jV (HB.out.alloc HB.out.size _) (by simp;have:=HB.out.size;omega) hb4);clear hb4;obtain ⟨g0,g1,g2,g3,e0,e1,e2,e3,ht4⟩:=VF.cells V4.out) |(go_at_call 53;refine (jE.calls _ _ _ _ _ (jtb _ _ _)).mono ?_;rintro e w5 ⟨rfl,⟨nd,rfl⟩⟩;rw [H5.out]) |(go_at_call 54;have tk1:=tok1;clear tok1;refine (HO.out _).mono ?_;rintro e w6 ⟨rfl,hb6⟩;have V6:=am (VF.below (W:=World.drewN _ _) V4.out hb6);have HB6:=am (jV (w1:=World.drewN _ _) (show Below w.heap.size w (World.drewN _ _) from ⟨HB4.out.os,HB4.out.tape,HB4.out.output,HB4.out.size,HB4.out.block⟩) HB4.out.size hb6);clear hb6 g0 g1 g2 g3 e0 e1 e2 e3 ht4;obtain ⟨g0,g1,g2,g3,e0,e1,e2,e3,ht4⟩:=VF.cells V6.out) |(go_at_call 54;refine (HO.out _).mono ?_;rintro e w7 ⟨rfl,hb7⟩;have V7:=am (VF.below V6.out hb7);have HB7:=am (jV HB6.out HB6.out.size hb7);clear hb7 g0 g1 g2 g3 e0 e1 e2 e3 ht4;obtain ⟨g0,g1,g2,g3,e0,e1,e2,e3,ht4⟩:=VF.cells V7.out;obtain ⟨f0,f1,f2,f3⟩:=VF.frozen V7.out))
         go_roundw
         case rel=>exact ⟨n+1,x,by go_num,hlt,by omega,by omega,HN,⟨four_stored V7.out.1⟩,⟨four_far V7.out.2.2 (by omega)⟩,⟨four_below HB7.out (by omega)⟩⟩
         case measure=>simp [intOf];omega
    ·have hgo:=HA.out
     rw [List.drop_eq_nil_of_le (by omega)] at hgo
     obtain rfl:some last=q:=by simpa [jy.go] using hgo
     clear hgo HA
     have HY:=am HZ.out
     clear HZ
     by_cases h0:l1.length=0
     ·have hy:=HY.out
      simp only [if_pos h0] at hy
      have HQ:=am (fun W (hb:Below w.heap.size w W)=>jh.calls k A1 c1 l1 0 (l1.length:Int) false r W (Kd.jF HR1.out hb) hc1 hy)
      have HBX:=HB.out
      clear hy HY
      have hz1:((l1.length:Int) == 0)=true:=by simp [h0]
      have hz2:(l1.length == 0)=true:=by simp [h0]
      clear h0
      go_wp2_with (first |(go_at_call 55;refine (HQ.out _ HBX).mono ?_;rintro e w9 ⟨rfl,hb9⟩;have HB9:=am (jV HBX HBX.size hb9)))
      go_ret
      exact ⟨rfl,HB9.out⟩
     ·have hz1:((l1.length:Int) == 0)=false:=by simpa using h0
      have hz2:(l1.length == 0)=false:=by simpa using h0
      have HO:=am (fun W=>jOa.calls last.f0 last.f1 last.f2 last.f3 _ W (jgc _ _ _ _))
      have hy:=HY.out
      simp only [if_neg h0] at hy
      clear HY
      cases ho:inB last.f1 7 12 with
      | true =>
       rw [ho] at HO hy
       obtain rfl:false=r:=by simpa using hy
       clear hy ho h0
       go_wp2_with (first |(go_at_call 54;refine (HO.out _).mono ?_;rintro e w6 ⟨rfl,hb6⟩;have HBX:=jV HB.out HB.out.size hb6;clear hb6))
       go_ret
       exact ⟨rfl,HBX⟩
      | false =>
       rw [ho] at HO hy
       simp only [Bool.false_eq_true,if_false] at hy
       have HQ:=am (fun W (hb:Below w.heap.size w W)=>jh.calls k A1 c1 l1 0 (l1.length:Int) false r W (Kd.jF HR1.out hb) hc1 hy)
       clear hy ho h0
       go_wp2_with (first |(go_at_call 54;refine (HO.out _).mono ?_;rintro e w6 ⟨rfl,hb6⟩;have HBX:=jV HB.out HB.out.size hb6;clear hb6) |(go_at_call 55;refine (HQ.out _ HBX).mono ?_;rintro e w9 ⟨rfl,hb9⟩;have HB9:=am (jV HBX HBX.size hb9)))
       go_ret
       exact ⟨rfl,HB9.out⟩
def jxb.f (a0_0 : Int) (a0_1 : Int) (a0_2 : Int) (a0_3 : Int) : Option (Bool) := (jE.f a0_1 2 6).bind fun t264 => (some t264)
set_option maxHeartbeats 8000000 in
set_option maxRecDepth 100000 in
theorem jxb.calls (a0_0 : Int) (a0_1 : Int) (a0_2 : Int) (a0_3 : Int) (r : Bool) (w : World) (h : jxb.f a0_0 a0_1 a0_2 a0_3 = some r) :
  Calls Try.prog 61 #[.agg #[.int .i64 a0_0, .int .i64 a0_1, .int .i64 a0_2, .int .i64 a0_3]] w fun e w'=>e=.returned (.bool r)∧Below w.heap.size w w':=by
 have hu52:=Try.underlying52
 have HB:=am (Below.refl w.heap.size w)
 have H:((jE.f a0_1 2 6).bind fun t264=>(some t264))=some r:=h
 clear h
 replace H:=bzS H
 obtain ⟨t264,A20,H⟩:=H
 replace H:(some t264)=some r:=H
 have A2:=am A20
 clear A20
 obtain rfl:=Option.some.inj H
 go_enter Try.func61,Try.ntmps61
 go_wp2_with (first |((with_reducible refine jP (N:=1) rfl ?_);refine bE (N:=1) (cs:=#[.int .i64 a0_0, .int .i64 a0_1, .int .i64 a0_2, .int .i64 a0_3]) (t:=52) ?_;intro gb263 hg w3 hbox hb;have BK263:=am (hbox);have GW263:=am ((Y1:w.heap.size≤gb263));have GE263:=am ((Y1:w.heap.size≤gb263));replace HB:=am (jd (bq) hb);clear hb hbox hg;have hcz4_0:=bc0 BK263.out;have hcz4_1:=bc1 BK263.out;have hcz4_2:=bc2 BK263.out;have hcz4_3:=bc3 BK263.out;have hfz4_0:=ja BK263.out 0;have hfz4_1:=ja BK263.out 1;have hfz4_2:=ja BK263.out 2;have hfz4_3:=ja BK263.out 3) |((with_reducible refine je (f:=53) rfl ?_);refine gL (some 5) Try.func53 #[.int .i64 a0_1, .int .i64 2, .int .i64 6] ?_;(with_reducible refine (jE.calls a0_1 2 6 t264 _ A2.out).mono ?_);rintro e w' ⟨rfl,⟨nd,rfl⟩⟩;refine ⟨_,rfl,?_⟩))
 go_ret
 exact ⟨Y0,by repeat (first |(with_reducible first | exact HB.out | apply jv | apply jg | apply jr | refine jw ?_ GE263.out) | exact HB.out)⟩

section
attribute [local go_sem] jU jS jia jha jM jL jT jR jc
def BSet (w : World) (b n : Nat) (S : Int → Bool) : Prop :=
 ∃ D:DataW Unit,w.ownsMap Try.prog 3 (plainElem Try.prog 4) b n D∧∀ x:Int,(Lit.int .i64 x).wf=true→D.atKey (.int .i64 x) (.lit (.bool false))=.lit (.bool (S x))
theorem BSet.made (w : World) : BSet (w.alloc (.map #[] 0)) w.heap.size 0 (fun _ => false) := ⟨.map [], World.ownsMap_made w _ _ _, fun x _ => rfl⟩
theorem BSet.kept {w w' : World} {b n : Nat} {S : Int → Bool} (h : BSet w b n S) {row : Option Nat} (hg : w.grownBy w' row) (hne : some b ≠ row) : BSet w' b n S := by
 obtain ⟨D,h1,h2⟩:=h
 exact ⟨D,h1.kept hg hne,h2⟩
theorem BSet.below {w w' : World} {b n : Nat} {S : Int → Bool} (h : BSet w b n S) (hb : Below w.heap.size w w') : BSet w' b n S := by
 obtain ⟨D,⟨es,clock,h1,h2⟩,h3⟩:=h
 exact ⟨D,⟨es,clock,(hb.block b (Array.getElem?_eq_some_iff.1 h1).1).trans h1,h2⟩,h3⟩
theorem BSet.congr {w : World} {b n : Nat} {S S' : Int → Bool} (h : BSet w b n S) (e : ∀ x, S x = S' x) : BSet w b n S' := by
 obtain rfl:S=S':=funext e
 exact h
set_option maxRecDepth 100000 in
theorem plainElem_bool_inv {v : Value} {z : DataW Unit × List MemPlace} (h : plainElem Try.prog 4 v = some z) : ∃ x, v = .bool x ∧ z = (.lit (.bool x), []) := by
 unfold plainElem at h
 rw [Try.underlying4] at h
 cases v <;> simp at h
 exact ⟨_,rfl,h.symm⟩
set_option maxRecDepth 100000 in
theorem BSet.look {w : World} {b n : Nat} {S : Int → Bool} (h : BSet w b n S) {x : Int} (hx : (Lit.int .i64 x).wf = true) : (Instr.lookup 56 (.map (some b)) (.int .i64 x) false).run Try.prog w = .ok (.bool (S x)) w := by
 obtain ⟨D,h1,h2⟩:=h
 obtain ⟨v,ps,hrun,hv⟩:=h1.lookup (Maps.int_keyed Try.underlying3) Try.underlying56 (Try.zeroValue4 w) (plainElem_bool Try.underlying4 false) (Maps.keyOf_int_mk Try.underlying3 hx)
 obtain ⟨y,rfl,hy⟩:=plainElem_bool_inv hv
 simp only [Prod.mk.injEq] at hy
 rw [h2 x hx] at hy
 injection hy.1 with hy
 injection hy with hy
 rw [hrun,← hy]
set_option maxRecDepth 100000 in
theorem BSet.put {w : World} {b n : Nat} {S : Int → Bool} (h : BSet w b n S) (hn : n < maxLen) {x : Int} (hx : (Lit.int .i64 x).wf = true) (v : Bool) : ∃ w', (Instr.mapUpdate 56 (.map (some b)) (.int .i64 x) (.bool v)).run Try.prog w = .ok () w' ∧ BSet w' b (n + 1) (fun y => if y = x then v else S y) ∧ w.grownBy w' (some b) := by
 obtain ⟨D,h1,h2⟩:=h
 obtain ⟨w',hrun,h3,h4⟩:=h1.update (Maps.int_keyed Try.underlying3) Try.underlying56 hn (Maps.keyOf_int_mk Try.underlying3 hx) (plainElem_bool Try.underlying4 v)
 refine ⟨w',hrun,⟨_,h3,fun y hy=>?_⟩,h4⟩
 show _=DataW.lit (Lit.bool (if y=x then v else S y))
 by_cases e:y=x
 ·subst e
  rw [if_pos rfl]
  exact Maps.atKey_put_same h1.isMap (by first | exact trivial | simp [WideAt.IsKeyLit] | constructor) _ _
 ·rw [if_neg e,← h2 y hy]
  exact Maps.atKey_put_other (fun h=>e (by injection h)) _ _
theorem BSet.alloc {w : World} {b n : Nat} {S : Int → Bool} (h : BSet w b n S) (o : Obj) : BSet (w.alloc o) b n S := h.kept (World.grownBy_alloc w o none) (by simp)
theorem BSet.of_put {w w' : World} {b n x : Nat} {D : DataW Unit} {S : Int → Bool} (h1 : w.ownsMap Try.prog 3 (plainElem Try.prog 4) b n D) (h2 : ∀ x : Int, (Lit.int .i64 x).wf = true → D.atKey (.int .i64 x) (.lit (.bool false)) = .lit (.bool (S x)))
  (h3:w'.ownsMap Try.prog 3 (plainElem Try.prog 4) b (n+1) (D.put (.int .i64 (x:Int)) (.lit (.bool true)))):BSet w' b (n+1) (fun y=>if y=(x:Int) then true else S y):=by
 refine ⟨_,h3,fun y hy=>?_⟩
 show _=DataW.lit (Lit.bool (if y=(x:Int) then true else S y))
 by_cases e:y=(x:Int)
 ·subst e
  rw [if_pos rfl]
  exact Maps.atKey_put_same h1.isMap (by first | exact trivial | simp [WideAt.IsKeyLit] | constructor) _ _
 ·rw [if_neg e,← h2 y hy]
  exact Maps.atKey_put_other (fun h=>e (by injection h)) _ _
theorem wf_nat {k : Nat} (h : k ≤ 1000000000) : (Lit.int .i64 (k : Int)).wf = true := by
 have e:wrap64 (k:Int)=k:=by unfold wrap64;omega
 have h2:=wrap64_wf (k:Int)
 rwa [e] at h2
def jmpB (k : Int) : Bool := decide (2 ≤ k) && decide (k ≤ 6)
theorem jmp_eq (a b c d : Int) : jxb.f a b c d = some (jmpB b) := by
 unfold jxb.f jE.f jmpB
 by_cases h:b≥2
 ·rw [if_pos h];simp [show 2≤b from h]
 ·rw [if_neg h];simp [show ¬ 2≤b from h]
def bjE (p : List S52) (d : Int) : Nat → Nat → Nat
 | 0,k=>k
 | n+1,k=>if (k:Int)<(p.length:Int)∧d≤(jb p (k:Int)).f0 then bjE p d n (k+1) else k
def bjR (p : List S52) (m : Nat) (y : Int) : Bool := jmpB (jb p (m : Int)).f1 && (decide ((m : Int) < y) && decide (y < ((bjE p (jb p (m : Int)).f0 (p.length - (m + 1)) (m + 1) : Nat) : Int)))
def bjN (p : List S52) : Nat → Int → Bool
 | 0,_=>false
 | i+1,y=>bjN p i y || bjR p i y
def bjS (p : List S52) : Int → Bool := bjN p p.length
def M6 : Nat := 1048576
theorem M6_lt {i : Nat} (h : i ≤ M6) : i * M6 + M6 < maxLen := by
 have h1:=Nat.mul_le_mul_right M6 h
 have h2:M6 * M6+M6<maxLen:=by decide
 omega
theorem bj_start (l : List S52) (i : Nat) (y : Int) : bjN l i y = (bjN l i y || (decide ((i : Int) < y) && decide (y < ((i + 1 : Nat) : Int)))) := by
 have e:(decide ((i:Int)<y) && decide (y<((i+1:Nat):Int)))=false:=by
  rw [Bool.and_eq_false_iff]
  by_cases h:(i:Int)<y
  ·exact .inr (dzF (by omega))
  ·exact .inl (dzF h)
 rw [e,Bool.or_false]
theorem bj_put (b : Bool) (i kk : Nat) (h : i < kk) (y : Int) : (if y = (kk : Int) then true else (b || (decide ((i : Int) < y) && decide (y < (kk : Int))))) = (b || (decide ((i : Int) < y) && decide (y < ((kk + 1 : Nat) : Int)))) := by
 by_cases e:y=(kk:Int)
 ·rw [if_pos e,dzT (p:=(i:Int)<y) (by omega),dzT (p:=y<((kk+1:Nat):Int)) (by omega)];simp
 ·rw [if_neg e]
  have:decide (y<(kk:Int))=decide (y<((kk+1:Nat):Int)):=by rw [Bool.eq_iff_iff];simp only [decide_eq_true_eq];omega
  rw [this]
set_option maxHeartbeats 8000000 in
set_option maxRecDepth 100000 in
theorem impl_behindJumps.calls (A0 : Option Addr) (c0 : Nat) (l0 : List (S52)) (w : World) (hr0 : Kd.C k52 w A0 l0.length l0) (hc0 : l0.length ≤ c0) (hlen : l0.length ≤ M6) :
  Calls Try.prog 34 #[.slice A0 l0.length c0] w fun e w'=>∃ b n,e=.returned (.map (some b))∧w.heap.size≤b∧BSet w' b n (bjS l0)∧Below w.heap.size w w':=by
 have HR:=am hr0
 have hmm:=@run_makeMap Try.prog
 have hm:l0.length≤9223372036854775807:=Kd.C_max hr0
 clear hr0
 go_enter Try.func34,Try.ntmps34
 go_wp2
 go_loopw [10] (fun v10 wr=>∃ i n:Nat,i≤l0.length∧v10=.int .i64 i∧jk (n≤i * M6)∧jk (BSet wr w.heap.size n (bjN l0 i))∧jk (Below w.heap.size w wr)) (fun v10 _=>l0.length - (intOf v10).toNat)
 case atStart=>exact ⟨0,0,Nat.zero_le _,rfl,⟨Nat.zero_le _⟩,⟨BSet.made w⟩,⟨(Below.refl _ _).alloc (Nat.le_refl _) _⟩⟩
 case round =>
  obtain ⟨i,n,hi,rfl,HN,HS,HB⟩:=hrel
  by_cases hlt:i<l0.length
  ·obtain ⟨ad,rfl,x0,x1,x2,x3⟩:=jba (Kd.jF HR.out HB.out) (i:Int) (by omega) (by omega)
   rw [Int.toNat_natCast] at x0 x1 x2 x3
   have HJ:=am (fun W=>jxb.calls _ _ _ _ _ W (jmp_eq (jb l0 (i:Int)).f0 (jb l0 (i:Int)).f1 (jb l0 (i:Int)).f2 (jb l0 (i:Int)).f3))
   cases hj:jmpB (jb l0 (i:Int)).f1 with
   | false =>
    rw [hj] at HJ
    have HS1:=am (fun (W:World) (hb:Below wr.heap.size wr W)=>(HS.out.below hb).congr (S':=bjN l0 (i+1)) (fun y=>by simp [bjN,bjR,hj]))
    clear hj
    go_wp2_with (go_at_call 61;refine (HJ.out _).mono ?_;rintro e w2 ⟨rfl,hb2⟩;have hb3:=am (show Below wr.heap.size wr w2 from ((Below.refl _ wr).alloc (Nat.le_refl _) _).trans (hb2.mono (by simp)));clear hb2)
    go_roundw
    case rel=>exact ⟨i+1,n,hlt,by go_num,⟨Nat.le_trans HN.out (Nat.mul_le_mul_right _ (Nat.le_succ i))⟩,⟨HS1.out _ hb3.out⟩,⟨HB.out.trans (hb3.out.mono HB.out.size)⟩⟩
    case measure=>simp [intOf];omega
   | true =>
    rw [hj] at HJ
    have HJJ:=am hj
    clear hj
    go_wp2_with (go_at_call 61;refine (HJ.out _).mono ?_;rintro e w2 ⟨rfl,hb2⟩;have hb3:=am (show Below wr.heap.size wr w2 from ((Below.refl _ wr).alloc (Nat.le_refl _) _).trans (hb2.mono (by simp)));have hbx:=am ((hb2.block wr.heap.size (by rw [World.size_alloc];omega)).trans (heap_alloc_new wr (.cells #[.int .i64 (jb l0 (i:Int)).f0, .int .i64 (jb l0 (i:Int)).f1, .int .i64 (jb l0 (i:Int)).f2, .int .i64 (jb l0 (i:Int)).f3] 52)));clear hb2)
    obtain ⟨W1,rfl⟩:∃ W1,W1=wr:=⟨_,rfl⟩
    have HG:=am (show w.heap.size<W1.heap.size by obtain ⟨D,hD,_⟩:=HS.out;exact hD.lt)
    go_loopw [6] (fun v6 w3=>∃ kk n2:Nat,i+1≤kk∧kk≤l0.length∧v6=.int .i64 kk∧jk (bjE l0 (jb l0 (i:Int)).f0 (l0.length - kk) kk=bjE l0 (jb l0 (i:Int)).f0 (l0.length - (i+1)) (i+1))∧jk (n2≤n+(kk - (i+1)))∧jk (BSet w3 w.heap.size n2 (fun y=>bjN l0 i y ||(decide ((i:Int)<y) && decide (y<(kk:Int)))))∧jk (w3.heap[W1.heap.size]?=some (.cells #[.int .i64 (jb l0 (i:Int)).f0, .int .i64 (jb l0 (i:Int)).f1, .int .i64 (jb l0 (i:Int)).f2, .int .i64 (jb l0 (i:Int)).f3] 52 (0,0)))∧jk (Below w.heap.size w w3)) (fun v6 _=>l0.length - (intOf v6).toNat)
    case atStart=>exact ⟨i+1,n,Nat.le_refl _,hlt,by go_num,⟨rfl⟩,⟨Nat.le_add_right _ _⟩,⟨(HS.out.below hb3.out).congr (fun y=>bj_start l0 i y)⟩,hbx,⟨HB.out.trans (hb3.out.mono HB.out.size)⟩⟩
    case round =>
     obtain ⟨kk,n2,hk1,hk2,rfl,HE,HN3,HS3,HX3,HB3⟩:=hrel
     by_cases hk:kk<l0.length
     ·obtain ⟨ad2,e2,y0,y1,y2,y3⟩:=jba (Kd.jF HR.out HB3.out) (kk:Int) (by omega) (by omega)
      obtain rfl:ad=ad2:=by injection e2
      rw [Int.toNat_natCast] at y0 y1 y2 y3
      have z0:wr.cell? ⟨W1.heap.size,0,none⟩=some (.int .i64 (jb l0 (i:Int)).f0):=(jDa HX3.out 0).trans rfl
      by_cases hd:(jb l0 (i:Int)).f0≤(jb l0 (kk:Int)).f0
      ·have hdb:=dzT hd
       have hE2:=am (show bjE l0 (jb l0 (i:Int)).f0 (l0.length - (kk+1)) (kk+1)=bjE l0 (jb l0 (i:Int)).f0 (l0.length - (i+1)) (i+1) by
        rw [← HE.out,show l0.length - kk=(l0.length - (kk+1))+1 by omega,bjE,if_pos ⟨by omega,hd⟩])
       obtain ⟨D,hD1,hD2⟩:=HS3.out
       have HD1:=am hD1
       have HD2:=am hD2
       have HNL:=am (show n2<maxLen from Nat.lt_of_le_of_lt (Nat.le_trans HN3.out (Nat.add_le_add HN.out (show kk - (i+1)≤M6 by omega))) (M6_lt (by omega)))
       have HKW:=am (show (Lit.int .i64 (kk:Int)).wf=true from wf_nat (by unfold M6 at hlen;omega))
       clear hD1 hD2 hd
       go_wp2
       repeat (go_quiet (fail);try go_wp2_with (at_mapUpdate;refine wpList_mapUpdate_own _ rfl _ _ _ 56 rfl 3 4 (Maps.int_keyed Try.underlying3) Try.underlying56 _ w.heap.size n2 D rfl HD1.out HNL.out _ _ (.int .i64 (kk:Int)) rfl rfl (Maps.keyOf_int_mk Try.underlying3 HKW.out) (.lit (.bool true)) [] (plainElem_bool Try.underlying4 true) ?_;intro w5 hown5 hgrow5;have HO5:=am hown5;have HG5:=am hgrow5;clear hown5 hgrow5))
       go_roundw
       case rel=>exact ⟨kk+1,n2+1,by omega,hk,by go_num,hE2,⟨by have:=HN3.out;omega⟩,⟨(BSet.of_put HD1.out HD2.out HO5.out).congr (fun y=>bj_put _ i kk (by omega) y)⟩,⟨(HG5.out.block W1.heap.size (by have:=(Array.getElem?_eq_some_iff.1 HX3.out).1;exact this) (by have:=HG.out;simp;omega)).trans HX3.out⟩,⟨(jg HB3.out nq).grown HG5.out HB3.out.size (fun k e=>by cases e;exact Nat.le_refl _)⟩⟩
       case measure=>simp [intOf];omega
      ·have hdb:=dzF hd
       have hex:bjE l0 (jb l0 (i:Int)).f0 (l0.length - kk) kk=kk:=by
        rw [show l0.length - kk=(l0.length - (kk+1))+1 by omega,bjE,if_neg (fun h=>hd h.2)]
       clear hd
       have HSF:=am (HS3.out.congr (S':=bjN l0 (i+1)) (fun y=>by simp only [bjN,bjR,HJJ.out,Bool.true_and,← HE.out];rw [hex]))
       have HN4:=am (show n2≤(i+1) * M6 by rw [Nat.add_mul,Nat.one_mul];exact Nat.le_trans HN3.out (Nat.add_le_add HN.out (by omega)))
       clear hex
       go_wp2
       repeat (go_quiet (fail);try go_wp2)
       go_roundw
       case rel=>exact ⟨i+1,n2,hlt,by go_num,HN4,⟨Y54⟩,⟨Y55⟩⟩
       case measure=>simp [intOf];omega
     ·have hex:bjE l0 (jb l0 (i:Int)).f0 (l0.length - kk) kk=kk:=by
       rw [show l0.length - kk=0 by omega,bjE]
      have HSF:=am (HS3.out.congr (S':=bjN l0 (i+1)) (fun y=>by simp only [bjN,bjR,HJJ.out,Bool.true_and,← HE.out];rw [hex]))
      have HN4:=am (show n2≤(i+1) * M6 by rw [Nat.add_mul,Nat.one_mul];exact Nat.le_trans HN3.out (Nat.add_le_add HN.out (by omega)))
      clear hex
      go_wp2
      repeat (go_quiet (fail);try go_wp2)
      go_roundw
      case rel=>exact ⟨i+1,n2,hlt,by go_num,HN4,⟨Y54⟩,⟨Y55⟩⟩
      case measure=>simp [intOf];omega
  ·obtain rfl:i=l0.length:=by omega
   go_wp2
   go_ret
   exact ⟨_,_,rfl,Nat.le_refl _,HS.out,HB.out⟩
end
def jY.l0 : Nat → List Int → Int → Int → Int → Option (Int)
 | 0,_,_,_,_=>none
 | k+1,x0,x1,x7,x8=>if x8<x7 then (if 0≤x8 then (if x8<(x0.length:Int) then (if x1=(rd x0 x8) then (some x8) else (jY.l0 k x0 x1 x7 (wrap64 (x8+1)))) else (none)) else (none)) else (some (-1))
def jY.f (k : Nat) (l0 : List Int) (a1 : Int) : Option (Int) := jY.l0 k l0 a1 (l0.length : Int) 0
set_option maxHeartbeats 8000000 in
set_option maxRecDepth 100000 in
theorem jY.calls (k : Nat) (A0 : Option Addr) (c0 : Nat) (l0 : List Int) (a1 : Int) (r : Int) (w : World) (hr0 : Kd.C (Kd.int .i64) w A0 l0.length l0) (hc0 : l0.length ≤ c0) (h : jY.f k l0 a1 = some r) :
  Calls Try.prog 107 #[.slice A0 l0.length c0, .int .i64 a1] w fun e w'=>e=.returned (.int .i64 r)∧jKa w w':=by
 have HR0:=am hr0
 have HC0:=am hc0
 clear hr0 hc0
 have H:(jY.l0 k l0 a1 (l0.length:Int) 0)=some r:=h
 clear h
 have H':=am H
 clear H
 go_enter Try.func107,Try.ntmps107
 go_wp2
 go_loopg [8] k (fun kq v8 w'=>∃ (x8_1:Int),v8=.int .i64 x8_1∧jk (jY.l0 kq l0 a1 (l0.length:Int) x8_1=some r)∧jk (kq≤k)∧jKa w w')
 case atStart=>exact ⟨(0),(sq),H',⟨Nat.le_refl _⟩,Y2⟩
 case round =>
  clear H'
  try clear c1
  try clear p2
  obtain ⟨x8_1,rfl,HA,HK1,⟨m1,rfl⟩⟩:=hrel
  cases gk with
  | zero=>exact absurd HA.out (by simp [jY.l0])
  | succ k1 =>
   have H:=HA.out
   clear HA
   simp only [jY.l0] at H
   by_cases c3:x8_1<(l0.length:Int)
   ·rw [if_pos c3] at H
    have c3b0:decide (x8_1<(l0.length:Int))=true:=dzT c3
    clear c3
    by_cases c4:0≤x8_1
    ·rw [if_pos c4] at H
     have c4b0:decide (0≤x8_1)=true:=dzT c4
     clear c4
     by_cases c5:x8_1<(l0.length:Int)
     ·rw [if_pos c5] at H
      have c5b0:decide (x8_1<(l0.length:Int))=true:=dzT c5
      clear c5
      by_cases c6:a1=(rd l0 x8_1)
      ·rw [if_pos c6] at H
       have c6b0:(a1 == (rd l0 x8_1))=true:=beq_iff_eq.mpr c6
       have c6b1:(a1 != (rd l0 x8_1))=false:=bne_eq_false_iff_eq.mpr c6
       clear c6
       obtain rfl:=Option.some.inj H
       have p409:0≤(x8_1:Int):=ozD (uq)
       have q409:x8_1<(l0.length:Int):=ozD (uq)
       obtain ⟨ad409,e409,hx409_0⟩:=Kd.jcb HR0.out x8_1 p409 q409
       cases e409
       replace p409:=ezT p409
       replace q409:=ezT q409
       go_wp2
       go_ret
       exact ⟨sq,Y2⟩
      ·rw [if_neg c6] at H
       have c6b0:(a1 == (rd l0 x8_1))=false:=beq_eq_false_iff_ne.mpr c6
       have c6b1:(a1 != (rd l0 x8_1))=true:=bne_iff_ne.mpr c6
       have H':=am H
       clear H
       have p409:0≤(x8_1:Int):=ozD (uq)
       have q409:x8_1<(l0.length:Int):=ozD (uq)
       obtain ⟨ad409,e409,hx409_0⟩:=Kd.jcb HR0.out x8_1 p409 q409
       cases e409
       replace p409:=ezT p409
       replace q409:=ezT q409
       go_wp2
       go_roundg k1
       case measure=>have:=HK1.out;omega
       case rel=>exact ⟨(wrap64 (x8_1+1)),(sq),H',⟨by have:=HK1.out;omega⟩,Y2⟩
     ·rw [if_neg c5] at H
      exact absurd H (by simp)
    ·rw [if_neg c4] at H
     exact absurd H (by simp)
   ·rw [if_neg c3] at H
    have c3b0:decide (x8_1<(l0.length:Int))=false:=dzF c3
    clear c3
    obtain rfl:=Option.some.inj H
    go_wp2
    go_ret
    exact ⟨sq,Y2⟩
def jFa.f (k : Nat) (l0 : List Int) (a1 : Int) : Option (Bool) := (jY.f k l0 a1).bind fun t410 => (some (decide (t410 ≥ 0)))
set_option maxHeartbeats 8000000 in
set_option maxRecDepth 100000 in
theorem jFa.calls (k : Nat) (A0 : Option Addr) (c0 : Nat) (l0 : List Int) (a1 : Int) (r : Bool) (w : World) (hr0 : Kd.C (Kd.int .i64) w A0 l0.length l0) (hc0 : l0.length ≤ c0) (h : jFa.f k l0 a1 = some r) :
  Calls Try.prog 104 #[.slice A0 l0.length c0, .int .i64 a1] w fun e w'=>e=.returned (.bool r)∧jKa w w':=by
 have HR0:=am hr0
 have HC0:=am hc0
 clear hr0 hc0
 have H:((jY.f k l0 a1).bind fun t410=>(some (decide (t410≥0))))=some r:=h
 clear h
 replace H:=bzS H
 obtain ⟨t410,A30,H⟩:=H
 replace H:(some (decide (t410≥0)))=some r:=H
 have A3:=am A30
 clear A30
 obtain rfl:=Option.some.inj H
 go_enter Try.func104,Try.ntmps104
 go_wp2_with (first |((with_reducible refine je (f:=107) rfl ?_);refine gL (some 7) Try.func107 #[.slice A0 l0.length c0, .int .i64 a1] ?_;(with_reducible refine (jY.calls k _ _ l0 a1 t410 _ ?side1 ?side2 A3.out).mono ?_);(case side1=>exact Y11);(case side2=>exact HC0.out);rintro e w' ⟨rfl,⟨nd,rfl⟩⟩;refine ⟨_,rfl,?_⟩))
 go_ret
 exact ⟨sq,Y2⟩
def jqa.l0 : Nat → Int → List Int → List (S78) → Option (List Int)
 | 0,_,_,_=>none
 | k+1,x1,x5,x412000=>if x1≥0 then (if x5.length<17592186044416 then (if 0≤x1 then (if x1<(x412000.length:Int) then (jqa.l0 k ((jK x412000 x1).f1) (x5 ++ [x1]) x412000) else (none)) else (none)) else (none)) else (some (x5))
def jqa.f (k : Nat) (l0_0 : List (S78)) (a1 : Int) : Option (List Int) := if 0 ≤ (l0_0.length : Int) then (if ((l0_0.length : Int) : Int).toNat ≤ 35184372088832 then (jqa.l0 k a1 (([] : List Int)) l0_0) else (none)) else (none)
set_option maxHeartbeats 8000000 in
set_option maxRecDepth 100000 in
theorem jqa.calls (k : Nat) (A0_0 : Option Addr) (c0_0 : Nat) (l0_0 : List (S78)) (a1 : Int) (r : List Int) (w : World) (hr0_0 : Kd.C k78 w A0_0 l0_0.length l0_0) (hc0_0 : l0_0.length ≤ c0_0) (h : jqa.f k l0_0 a1 = some r) :
  Calls Try.prog 105 #[.agg #[.slice A0_0 l0_0.length c0_0], .int .i64 a1] w fun e w'=>∃ v0_:Value,e=.returned (v0_)∧Kd.R (Kd.int .i64) 3 w' w.heap.size (fun _=>True) v0_ r∧Below w.heap.size w w':=by
 have hu32:=Try.underlying32
 have HR0_0:=am hr0_0
 have HC0_0:=am hc0_0
 clear hr0_0 hc0_0
 have HB:=am (Below.refl w.heap.size w)
 have H:(if 0≤(l0_0.length:Int) then (if ((l0_0.length:Int):Int).toNat≤35184372088832 then (jqa.l0 k a1 (([]:List Int)) l0_0) else (none)) else (none))=some r:=h
 clear h
 by_cases c3:0≤(l0_0.length:Int)
 ·rw [if_pos c3] at H
  have c3b0:=ezT c3
  have c3b1:decide (0≤(l0_0.length:Int))=true:=dzT c3
  clear c3
  by_cases c4:((l0_0.length:Int):Int).toNat≤35184372088832
  ·rw [if_pos c4] at H
   have c4b0:=ezT c4
   have c4b1:decide (((l0_0.length:Int):Int).toNat≤35184372088832)=true:=dzT c4
   clear c4
   obtain ⟨y412,hy412⟩:∃ y_:List Int,y_=(([]:List Int)):=⟨_,rfl⟩
   replace H:(jqa.l0 k a1 y412 l0_0)=some r:=by first |(rw [hy412];with_reducible exact H) |(have H2_:=(Option.bind_some _ _).symm.trans H;rw [hy412];with_reducible exact H2_) |(have H2_:=(Option.bind_some _ _).symm.trans H;with_reducible exact H2_) | with_reducible exact H |(rw [hy412];exact H) | exact H
   have Ny412:=am hy412
   clear hy412
   have H':=am H
   clear H
   go_enter Try.func105,Try.ntmps105
   go_wp2_with (first |((with_reducible refine jP (N:=2) rfl ?_);refine bE (N:=2) (cs:=#[.slice A0_0 l0_0.length c0_0]) (t:=32) ?_;intro gb411 hg w5 hbox hb;have BK411:=am (hbox);have GW411:=am ((Y1:w.heap.size≤gb411));have GE411:=am ((Y1:w.heap.size≤gb411));replace HB:=am (jd (bq) hb);clear hb hbox hg;have hcz6_0:=bc0 BK411.out;have hfz6_0:=ja BK411.out 0) |((with_reducible refine jP (N:=9) rfl ?_);refine Kd.R_mkcap (Kd.int .i64) _ 3 rfl (N:=9) rfl 40 _ _ rfl (l0_0.length:Int) rfl rfl Try.underlying40 (.int .i64 0) 8 info3 rfl (by decide) (by omega) (ok:=fun _=>True) trivial (ozD (uq)) (Nat.le_trans (Nat.mul_le_mul_right _ (ozD (uq):(l0_0.length:Int).toNat≤35184372088832)) (by omega)) (Below.refl _ _) (Nat.le_refl _) ?_;intro v413 w7 ho8 hb hg_ hnew_;clear hg_ hnew_;(first | rw [← Ny412.out] at ho8 |(simp only [Int.reduceToNat] at ho8;rw [← Ny412.out] at ho8));have HO414:=am (Kd.jRa ho8 (jH (Y17)));replace BK411:=am (jm (g:=gb411) (o:=.cells #[.slice A0_0 l0_0.length c0_0] 32 (0,0)) (kq BK411.out) hb);replace HB:=am (jd (Y17) hb);clear hb ho8))
   go_loopg [1,5] k (fun kq v1 v5 w'=>∃ (x1_1:Int) (x5_1:List Int),v1=.int .i64 x1_1∧jk (jqa.l0 kq x1_1 x5_1 l0_0=some r)∧jk (kq≤k)∧jk (Kd.R (Kd.int .i64) 3 w' w.heap.size (fun _=>True) v5 x5_1)∧jk (w'.heap[gb411]?=some (.cells #[(.slice A0_0 l0_0.length c0_0)] 32 (0,0)))∧jk (Below w.heap.size w w'))
   case atStart=>exact ⟨(a1),(y412),(sq),H',⟨Nat.le_refl _⟩,⟨rq HO414.out⟩,⟨kq BK411.out⟩,⟨Y17⟩⟩
   case round =>
    clear H'
    try clear c1
    try clear p2
    try clear c3
    try clear c3b0
    try clear c3b1
    try clear c4
    try clear c4b0
    try clear c4b1
    try clear hcz6_0
    try clear hfz6_0
    obtain ⟨x1_1,x5_1,rfl,HA,HK1,HO_5,BK411,HB⟩:=hrel
    cases gk with
    | zero=>exact absurd HA.out (by simp [jqa.l0])
    | succ k1 =>
     have H:=HA.out
     clear HA
     simp only [jqa.l0] at H
     by_cases c9:x1_1≥0
     ·rw [if_pos c9] at H
      have c9b0:decide (0≤x1_1)=true:=dzT c9
      clear c9
      by_cases c10:x5_1.length<17592186044416
      ·rw [if_pos c10] at H
       have LMc10:=am c10
       clear c10
       obtain ⟨y415,hy415⟩:∃ y_:List Int,y_=(x5_1 ++ [x1_1]):=⟨_,rfl⟩
       replace H:(if 0≤x1_1 then (if x1_1<(l0_0.length:Int) then (jqa.l0 k1 ((jK l0_0 x1_1).f1) y415 l0_0) else (none)) else (none))=some r:=by first |(rw [hy415];with_reducible exact H) |(have H2_:=(Option.bind_some _ _).symm.trans H;rw [hy415];with_reducible exact H2_) |(have H2_:=(Option.bind_some _ _).symm.trans H;with_reducible exact H2_) | with_reducible exact H |(rw [hy415];exact H) | exact H
       have Ny415:=am hy415
       clear hy415
       by_cases c11:0≤x1_1
       ·rw [if_pos c11] at H
        have c11b0:decide (0≤x1_1)=true:=dzT c11
        clear c11
        by_cases c12:x1_1<(l0_0.length:Int)
        ·rw [if_pos c12] at H
         have c12b0:decide (x1_1<(l0_0.length:Int))=true:=dzT c12
         clear c12
         have H':=am H
         clear H
         go_wp2_with (first |((with_reducible refine jPa (b:=.append) (xs:=#[.tmp 18, .tmp 20]) rfl ?_);at_builtin;refine Kd.job (Kd.int .i64) (w0:=w) w.heap.size rfl (.tmp 18) (.tmp 20) 40 3 (.int .i64 0) 8 rfl Try.underlying40 info3 rfl (by decide) (by omega) u5 x5_1 x1_1 [.int .i64 x1_1] (fun _=>True) (fun _=>False) rfl rfl ?aP (fun _ hk=>hk.elim) ?aF ?aO ?aB ?aS ?aL ?_;(case aP=>exact rfl);(case aB=>exact (Y17));(case aF=>exact (fun _ _=>trivial));(case aO=>exact (rq HO_5.out));(case aS=>exact (jH (Y17)));(case aL=>have:=LMc10.out;omega);intro v416 w13 ho hb hg hat;rw [← Ny415.out] at ho;have n0_:=am (blk_grown (g:=gb411) (o:=.cells #[.slice A0_0 l0_0.length c0_0] 32 (0,0)) (kq BK411.out) hg (Kd.R_ne HO_5.out BK411.out (by decide)));have n1_:=am (hb);have n2_:=am (ho);clear BK411 HB HO_5;have BK411:=n0_;have HB:=n1_;have HO417:=n2_;clear n0_ n1_ n2_ ho hb hg hat;have hcz14_0:=bc0 BK411.out;have hfz14_0:=ja BK411.out 0;have p418:0≤(x1_1:Int):=ozD (uq);have q418:x1_1<(l0_0.length:Int):=ozD (uq);obtain ⟨ad418,e418,hx418_0,hx418_1⟩:=at_T78 HR0_0.out x1_1 p418 q418;cases e418;replace hx418_0:=cb HB.out hx418_0;replace hx418_1:=cb HB.out hx418_1;replace p418:=ezT p418;replace q418:=ezT q418))
         go_roundg k1
         case measure=>have:=HK1.out;omega
         case rel=>exact ⟨((jK l0_0 x1_1).f1),(y415),(sq),H',⟨by have:=HK1.out;omega⟩,⟨rq HO417.out⟩,⟨kq BK411.out⟩,⟨Y17⟩⟩
        ·rw [if_neg c12] at H
         exact absurd H (by simp)
       ·rw [if_neg c11] at H
        exact absurd H (by simp)
      ·rw [if_neg c10] at H
       exact absurd H (by simp)
     ·rw [if_neg c9] at H
      have c9b0:decide (0≤x1_1)=false:=dzF c9
      clear c9
      obtain ⟨y419,hy419⟩:∃ y_:List Int,y_=(x5_1):=⟨_,rfl⟩
      replace H:(some y419)=some r:=by first |(rw [hy419];with_reducible exact H) |(have H2_:=(Option.bind_some _ _).symm.trans H;rw [hy419];with_reducible exact H2_) |(have H2_:=(Option.bind_some _ _).symm.trans H;with_reducible exact H2_) | with_reducible exact H |(rw [hy419];exact H) | exact H
      have Ny419:=am hy419
      clear hy419
      obtain rfl:=Option.some.inj H
      obtain ⟨Ao15,co15,eo15⟩:=Kd.jGa HO_5.out
      subst eo15
      obtain ⟨i016,hi016,_,hsz16,_⟩:=info_parts info3
      have hy16:y419.length=x5_1.length:=(by rw [Ny419.out])
      have hcut16:=cut_clip (P:=Try.prog) 40 3 Try.underlying40 hi016 Ao15 _ co15 _ (Kd.jA HO_5.out).2.1 hy16
      have hr16:=Kd.R_clip HO_5.out Ny419.out
      clear hy16 hi016 hsz16 HO_5
      have HO421:=am hr16
      clear hr16
      go_wp2
      go_ret
      exact ⟨_,Y0,rq HO421.out,Y17⟩
  ·rw [if_neg c4] at H
   exact absurd H (by simp)
 ·rw [if_neg c3] at H
  exact absurd H (by simp)
def jjb.f (k : Nat) (l0_0 : List (S78)) (a1 : Int) (a2 : Int) : Option (Bool) := (jqa.f k l0_0 a1).bind fun t423 => ((jFa.f k t423 a2).bind fun t426 => (some t426))
set_option maxHeartbeats 8000000 in
set_option maxRecDepth 100000 in
theorem jjb.calls (k : Nat) (A0_0 : Option Addr) (c0_0 : Nat) (l0_0 : List (S78)) (a1 : Int) (a2 : Int) (r : Bool) (w : World) (hr0_0 : Kd.C k78 w A0_0 l0_0.length l0_0) (hc0_0 : l0_0.length ≤ c0_0) (h : jjb.f k l0_0 a1 a2 = some r) :
  Calls Try.prog 95 #[.agg #[.slice A0_0 l0_0.length c0_0], .int .i64 a1, .int .i64 a2] w fun e w'=>e=.returned (.bool r)∧Below w.heap.size w w':=by
 have hu32:=Try.underlying32
 have HR0_0:=am hr0_0
 have HC0_0:=am hc0_0
 clear hr0_0 hc0_0
 have HB:=am (Below.refl w.heap.size w)
 have H:((jqa.f k l0_0 a1).bind fun t423=>((jFa.f k t423 a2).bind fun t426=>(some t426)))=some r:=h
 clear h
 replace H:=bzS H
 obtain ⟨t423,A40,H⟩:=H
 replace H:((jFa.f k t423 a2).bind fun t426=>(some t426))=some r:=H
 have A4:=am A40
 clear A40
 replace H:=bzS H
 obtain ⟨t426,A50,H⟩:=H
 replace H:(some t426)=some r:=H
 have A5:=am A50
 clear A50
 obtain rfl:=Option.some.inj H
 go_enter Try.func95,Try.ntmps95
 go_wp2_with (first |((with_reducible refine jP (N:=3) rfl ?_);refine bE (N:=3) (cs:=#[.slice A0_0 l0_0.length c0_0]) (t:=32) ?_;intro gb422 hg w6 hbox hb;have BK422:=am (hbox);have GW422:=am ((Y1:w.heap.size≤gb422));have GE422:=am ((Y1:w.heap.size≤gb422));replace HB:=am (jd (bq) hb);clear hb hbox hg;have hcz7_0:=bc0 BK422.out;have hfz7_0:=ja BK422.out 0) |((with_reducible refine je (f:=105) rfl ?_);refine gL (some 9) Try.func105 #[.agg #[.slice A0_0 l0_0.length c0_0], .int .i64 a1] ?_;(with_reducible refine (jqa.calls k _ _ l0_0 a1 t423 _ ?side1 ?side2 A4.out).mono ?_);(case side1=>exact cq (Kd.jF HR0_0.out HB.out));(case side2=>exact HC0_0.out);rintro e w8 ⟨v424,rfl,ho0,hb⟩;refine ⟨_,rfl,?_⟩;have HO425:=am (Kd.jRa ho0 (jH (Y37)));replace BK422:=am (jm (g:=gb422) (o:=.cells #[.slice A0_0 l0_0.length c0_0] 32 (0,0)) (kq BK422.out) hb);replace HB:=am (jd (Y37) hb);(try clear hb);(try clear hb2);(try clear hk);(try clear hi);(try clear ho0);obtain ⟨Ao9,co9,eo9⟩:=Kd.jGa HO425.out;subst eo9) |((with_reducible refine je (f:=104) rfl ?_);refine gL (some 11) Try.func104 #[.slice Ao9 t423.length co9, .int .i64 a2] ?_;(with_reducible refine (jFa.calls k _ _ t423 a2 t426 _ ?side1 ?side2 A5.out).mono ?_);(case side1=>exact cq (Kd.jA HO425.out).2.2);(case side2=>exact (Kd.jA HO425.out).2.1);rintro e w' ⟨rfl,⟨nd,rfl⟩⟩;refine ⟨_,rfl,?_⟩))
 go_ret
 exact ⟨Y0,Y37⟩
theorem impl_first1_calls (k : Nat) (l : List S78) (A_ : Option Addr) (c_ : Nat) (a x : Int) (b : Bool) (B0 B1 : Nat) (w : World) (hr : Kd.C k78 w A_ l.length l) (hcc : l.length ≤ c_) (hc : w.cell? ⟨B0, 0, none⟩ = some (.slice A_ l.length c_)) (ha : w.cell? ⟨B1, 0, none⟩ = some (.int .i64 a)) (h : jjb.f k l a x = some b) :
  Calls Try.prog 94 #[.int .i64 x, .pointer (some ⟨B0,0,none⟩), .pointer (some ⟨B1,0,none⟩)] w fun e w'=>e=.returned (.bool b)∧Below w.heap.size w w':=by
 have HF:=am (jjb.calls k A_ c_ l a x b w hr hcc h)
 clear h hr
 have hu32:=Try.underlying32
 go_enter Try.func94,Try.ntmps94
 go_wp2_with (go_at_call 95;refine HF.out.mono ?_;rintro e w' ⟨rfl,hb2⟩)
 go_ret
 exact ⟨rfl,hb2⟩
set_option maxHeartbeats 8000000 in
set_option maxRecDepth 100000 in
theorem impl_first_idx (A_ : Option Addr) (c_ : Nat) (l : List (Int)) (B0_ : Nat) (B1_ : Nat) (p : Int → Option Bool) (r : Int) (w : World) (hr : Kd.C (Kd.int .i64) w A_ l.length l) (h : idxFrom p l 0 = some r)
  (hp:∀ W,Below w.heap.size w W→∀ (x:Int) (b:Bool),p x=some b→Calls Try.prog 94 #[.int .i64 x, .pointer (some ⟨B0_,0,none⟩), .pointer (some ⟨B1_,0,none⟩)] W fun e w'=>e=.returned (.bool b)∧Below W.heap.size W w') :
  Calls Try.prog 72 #[.slice A_ l.length c_, .func (.func 94) #[] #[.pointer (some ⟨B0_,0,none⟩), .pointer (some ⟨B1_,0,none⟩)]] w fun e w'=>e=.returned (.int .i64 r)∧Below w.heap.size w w':=by
 have hm:l.length≤9223372036854775807:=Kd.C_max hr
 have HR:=am hr
 have HP:=am hp
 have H0:=am h
 clear hr hp h
 go_enter Try.func72,Try.ntmps72
 go_wp2
 go_loopw [5,8] (fun i5 i8 wr=>∃ k:Nat,k≤l.length∧i8=.int .i64 k∧jk (idxFrom p (l.drop k) k=some r)∧Below w.heap.size w wr) (fun _ i8 _=>l.length - (intOf i8).toNat)
 case atStart=>exact ⟨0,Nat.zero_le _,rfl,H0,Below.refl _ _⟩
 case round =>
  clear H0
  obtain ⟨k,hk,rfl,HA,hb⟩:=hrel
  by_cases hlt:k<l.length
  ·have HB:=am (idxFrom_step hlt HA.out)
   clear HA
   obtain ⟨ad,rfl,hx0⟩:=Kd.jcb HR.out (k:Int) (by omega) (by omega)
   have hrd:rd l (k:Int)=l[k]:=by simp [rd,List.getD_eq_getElem?_getD,hlt]
   replace hx0:=jZ hb hx0
   rw [hrd] at hx0
   simp only [Int.toNat_natCast] at hx0
   clear hrd
   obtain ⟨b,hb1,hb0⟩:=HB.out
   have HQ:=am hb1
   clear hb1 HB
   cases b with
   | true =>
    have HZ:=am (by simpa using hb0:(k:Int)=r)
    clear hb0
    go_wp2_with (go_at_call 94;refine (HP.out _ hb _ _ HQ.out).mono ?_;rintro e w' ⟨rfl,hb2⟩)
    go_ret
    exact ⟨by rw [← HZ.out];rfl,jV hb hb.size hb2⟩
   | false =>
    have HZ:=am (by simpa using hb0:idxFrom p (l.drop (k+1)) (k+1)=some r)
    clear hb0
    go_wp2_with (go_at_call 94;refine (HP.out _ hb _ _ HQ.out).mono ?_;rintro e w' ⟨rfl,hb2⟩)
    go_roundw
    case rel=>exact ⟨k+1,hlt,by go_num,HZ,jV hb hb.size hb2⟩
    case measure=>simp [intOf];omega
  ·have HZ:=am (idxFrom_end (by omega) HA.out)
   clear HA
   go_wp2
   go_ret
   exact ⟨by rw [HZ.out];rfl,hb⟩
def jpb.f (k : Nat) (l0_0 : List S78) (l1 : List Int) (a2 : Int) : Option Int := idxFrom (fun x => jjb.f k l0_0 a2 x) l1 0
set_option maxHeartbeats 8000000 in
set_option maxRecDepth 100000 in
theorem jpb.calls (k : Nat) (A0_0 : Option Addr) (c0_0 : Nat) (l0_0 : List (S78)) (A1 : Option Addr) (c1 : Nat) (l1 : List Int) (a2 : Int) (r : Int) (w : World) (hr0_0 : Kd.C k78 w A0_0 l0_0.length l0_0) (hc0_0 : l0_0.length ≤ c0_0) (hr1 : Kd.C (Kd.int .i64) w A1 l1.length l1) (hc1 : l1.length ≤ c1) (h : jpb.f k l0_0 l1 a2 = some r) :
  Calls Try.prog 69 #[.agg #[.slice A0_0 l0_0.length c0_0], .slice A1 l1.length c1, .int .i64 a2] w fun e w'=>e=.returned (.int .i64 r)∧Below w.heap.size w w':=by
 have hu32:=Try.underlying32
 have HF:=am (fun W (hb:Below w.heap.size w W) (B0 B1:Nat) (hc:W.cell? ⟨B0,0,none⟩=some (.slice A0_0 l0_0.length c0_0)) (ha:W.cell? ⟨B1,0,none⟩=some (.int .i64 a2))=>impl_first_idx A1 c1 l1 B0 B1 (fun x=>jjb.f k l0_0 a2 x) r W (Kd.jF hr1 hb) h (fun W' hb' x b hx =>
  impl_first1_calls k l0_0 A0_0 c0_0 a2 x b B0 B1 W' (Kd.jF (Kd.jF hr0_0 hb) hb') hc0_0 (jZ hb' hc) (jZ hb' ha) hx))
 clear h hr0_0 hr1
 go_enter Try.func69,Try.ntmps69
 go_wp2_with (go_at_call 72;refine (HF.out _ (((Below.refl _ _).alloc (Nat.le_refl _) _).alloc (by simp) _) _ _ (by simp) (by simp)).mono ?_;rintro e w' ⟨rfl,hb2⟩)
 go_ret
 exact ⟨rfl,(((Below.refl _ _).alloc (Nat.le_refl _) _).alloc (by simp) _).trans (hb2.mono (by simp;omega))⟩

section
attribute [local go_sem] jU jS jia jha jM jL jT jR jc
def dxIn (k : Nat) (t : List S78) (p : List S52) : List Int → List Int → (Int → Bool) → Option (Int → Bool)
 | [],_,S=>some S
 | e :: es,acc,S=>if 0≤e then (if e<(p.length:Int) then (if (jb p e).f1=8 then (jpb.f k t acc (jb p e).f2).bind fun f=>dxIn k t p es (acc ++ [(jb p e).f2]) (fun y=>if y=e then decide (f≥0) else S y) else dxIn k t p es acc S) else none) else none
def dxOut (k : Nat) (t : List S78) (p : List S52) : Nat → Nat → (Int → Bool) → Option (Int → Bool)
 | 0,_,S=>some S
 | n+1,i,S=>if (jb p (i:Int)).f1=7 then (jW.f k p (i:Int)).bind fun L=>if L.length≤M6 then (dxIn k t p L [] S).bind fun S2=>dxOut k t p n (i+1) S2 else none else dxOut k t p n (i+1) S
def dxF (k : Nat) (t : List S78) (p : List S52) : Option (Int → Bool) := dxOut k t p p.length 0 (fun _ => false)
theorem dxIn_step {k : Nat} {t : List S78} {p : List S52} {L acc : List Int} {S S' : Int → Bool} {m : Nat} (hm : m < L.length) (h : dxIn k t p (L.drop m) acc S = some S') :
  0≤rd L (m:Int)∧rd L (m:Int)<(p.length:Int)∧(if (jb p (rd L (m:Int))).f1=8 then (jpb.f k t acc (jb p (rd L (m:Int))).f2).bind fun f=>dxIn k t p (L.drop (m+1)) (acc ++ [(jb p (rd L (m:Int))).f2]) (fun y=>if y=rd L (m:Int) then decide (f≥0) else S y) else dxIn k t p (L.drop (m+1)) acc S)=some S':=by
 have hr:rd L (m:Int)=L[m]:=by simp [rd,List.getD_eq_getElem?_getD,hm]
 rw [List.drop_eq_getElem_cons hm,← hr] at h
 simp only [dxIn] at h
 by_cases h0:0≤rd L (m:Int)
 ·rw [if_pos h0] at h
  by_cases h1:rd L (m:Int)<(p.length:Int)
  ·rw [if_pos h1] at h;exact ⟨h0,h1,h⟩
  ·rw [if_neg h1] at h;cases h
 ·rw [if_neg h0] at h;cases h
structure DxI (w : World) (v : Value) (S : Int → Bool) (n : Nat) (W : World) : Prop where
 b:Below w.heap.size w W
 x:W.heap[w.heap.size]?=some (.cells #[v] 32 (0,0))
 s:BSet W (w.heap.size+1) n S
theorem DxI.start (w : World) (v : Value) : DxI w v (fun _ => false) 0 ((w.alloc (.cells #[v] 32)).alloc (.map #[] 0)) := by
 have h:=BSet.made (w.alloc (.cells #[v] 32))
 rw [World.size_alloc] at h
 exact ⟨((Below.refl _ _).alloc (Nat.le_refl _) _).alloc (by simp) _,((Below.refl _ _).alloc (Nat.le_refl _) _).block w.heap.size (by simp) |>.trans (heap_alloc_new w _),h⟩
theorem BSet.lt {w : World} {b n : Nat} {S : Int → Bool} (h : BSet w b n S) : b < w.heap.size := by obtain ⟨D, hD, _⟩ := h; exact hD.lt
theorem DxI.lt {w W : World} {v : Value} {S : Int → Bool} {n : Nat} (h : DxI w v S n W) : w.heap.size + 1 < W.heap.size := h.s.lt
theorem DxI.below {w W W' : World} {v : Value} {S : Int → Bool} {n : Nat} (h : DxI w v S n W) (hb : Below W.heap.size W W') : DxI w v S n W' :=
 ⟨h.b.trans (hb.mono h.b.size),(hb.block _ (by have:=h.lt;omega)).trans h.x,h.s.below hb⟩
theorem DxI.cell {w W : World} {v : Value} {S : Int → Bool} {n : Nat} (h : DxI w v S n W) : W.cell? ⟨w.heap.size, 0, none⟩ = some v := (jDa h.x 0).trans rfl
theorem DxI.grown {w W W' : World} {v : Value} {S : Int → Bool} {n : Nat} {row : Option Nat} (h : DxI w v S n W) (hg : W.grownBy W' row) (h1 : some w.heap.size ≠ row) (h2 : some (w.heap.size + 1) ≠ row) (hb : Below w.heap.size w W') : DxI w v S n W' :=
 ⟨hb,(hg.block _ (by have:=h.lt;omega) h1).trans h.x,h.s.kept hg h2⟩
theorem DxI.put {w W W' : World} {v : Value} {S S' : Int → Bool} {n n' : Nat} (h : DxI w v S n W) (hg : W.grownBy W' (some (w.heap.size + 1))) (hs : BSet W' (w.heap.size + 1) n' S') : DxI w v S' n' W' :=
 ⟨h.b.grown hg h.b.size (fun k e=>by cases e;omega),(hg.block _ (by have:=h.lt;omega) (by simp)).trans h.x,hs⟩
theorem BSet.of_putb {w w' : World} {b n : Nat} {x : Int} {D : DataW Unit} {S : Int → Bool} {v : Bool} (h1 : w.ownsMap Try.prog 3 (plainElem Try.prog 4) b n D) (h2 : ∀ x : Int, (Lit.int .i64 x).wf = true → D.atKey (.int .i64 x) (.lit (.bool false)) = .lit (.bool (S x)))
  (h3:w'.ownsMap Try.prog 3 (plainElem Try.prog 4) b (n+1) (D.put (.int .i64 x) (.lit (.bool v)))):BSet w' b (n+1) (fun y=>if y=x then v else S y):=by
 refine ⟨_,h3,fun y hy=>?_⟩
 show _=DataW.lit (Lit.bool (if y=x then v else S y))
 by_cases e:y=x
 ·subst e
  rw [if_pos rfl]
  exact Maps.atKey_put_same h1.isMap (by first | exact trivial | simp [WideAt.IsKeyLit] | constructor) _ _
 ·rw [if_neg e,← h2 y hy]
  exact Maps.atKey_put_other (fun h=>e (by injection h)) _ _
theorem own_belowX {w w' : World} {b n : Nat} {D : DataW Unit} (h : w.ownsMap Try.prog 3 (plainElem Try.prog 4) b n D) (hb : Below w.heap.size w w') : w'.ownsMap Try.prog 3 (plainElem Try.prog 4) b n D := by
 obtain ⟨es,clock,h1,h2⟩:=h
 exact ⟨es,clock,(hb.block b (Array.getElem?_eq_some_iff.1 h1).1).trans h1,h2⟩
def dxOk (w : World) (n4 n2 : Nat) : Nat → Prop := fun k => w.heap.size + 1 < k ∧ (k < n4 ∨ n2 ≤ k)
set_option maxHeartbeats 16000000 in
set_option maxRecDepth 100000 in
theorem impl_deadExcepts.calls (k : Nat) (A0_0 : Option Addr) (c0_0 : Nat) (l0_0 : List (S78)) (A1 : Option Addr) (c1 : Nat) (l1 : List (S52)) (S : Int → Bool) (w : World) (hr0_0 : Kd.C k78 w A0_0 l0_0.length l0_0) (hc0_0 : l0_0.length ≤ c0_0) (hr1 : Kd.C k52 w A1 l1.length l1) (hc1 : l1.length ≤ c1) (hlen : l1.length ≤ M6) (h : dxF k l0_0 l1 = some S) :
  Calls Try.prog 41 #[.agg #[.slice A0_0 l0_0.length c0_0], .slice A1 l1.length c1] w fun e w'=>∃ b n,e=.returned (.map (some b))∧w.heap.size≤b∧BSet w' b n S∧Below w.heap.size w w':=by
 have HR:=am hr1
 have HR0:=am hr0_0
 have hmm:=@run_makeMap Try.prog
 have hu32:=Try.underlying32
 have hm:l1.length≤9223372036854775807:=Kd.C_max hr1
 have H0:=am (show dxOut k l0_0 l1 (l1.length - 0) 0 (fun _=>false)=some S from h)
 have HST:=am (DxI.start w (.slice A0_0 l0_0.length c0_0))
 clear hr1 hr0_0 h
 go_enter Try.func41,Try.ntmps41
 go_wp2
 go_loopw [14] (fun v14 wr=>∃ (i n:Nat) (S1:Int→Bool),i≤l1.length∧v14=.int .i64 i∧jk (dxOut k l0_0 l1 (l1.length - i) i S1=some S)∧jk (n≤i * M6)∧jk (DxI w (.slice A0_0 l0_0.length c0_0) S1 n wr)) (fun v14 _=>l1.length - (intOf v14).toNat)
 case atStart=>exact ⟨0,0,_,Nat.zero_le _,rfl,H0,⟨Nat.zero_le _⟩,HST⟩
 case round =>
  obtain ⟨i,n,S1,hi,rfl,HH,HN,HD⟩:=hrel
  by_cases hlt:i<l1.length
  ·obtain ⟨ad,rfl,x0,x1,x2,x3⟩:=jba (Kd.jF HR.out HD.out.b) (i:Int) (by omega) (by omega)
   rw [Int.toNat_natCast] at x0 x1 x2 x3
   have hH:=HH.out
   rw [show l1.length - i=(l1.length - (i+1))+1 by omega] at hH
   unfold dxOut at hH
   by_cases h7:(jb l1 (i:Int)).f1=7
   ·rw [if_pos h7] at hH
    obtain ⟨L,hL,hH⟩:=bzS hH
    by_cases hLM:L.length≤M6
    case neg=>rw [if_neg hLM] at hH;cases hH
    rw [if_pos hLM] at hH
    obtain ⟨S2,hI,hO⟩:=bzS hH
    have h7b:((jb l1 (i:Int)).f1 != 7)=false:=by rw [h7];rfl
    have HT:=am (fun (W:World) (hb:Below w.heap.size w W)=>jW.calls k _ c1 l1 (i:Int) L W (Kd.jF HR.out hb) hc1 hL)
    have HI:=am hI
    have HO:=am hO
    clear hL hH hI hO h7
    obtain ⟨W1,rfl⟩:∃ W1,W1=wr:=⟨_,rfl⟩
    have HLT:=am HD.out.lt
    go_wp2_with (first |((with_reducible refine jP (N:=22) rfl ?_);refine Kd.R_lit (Kd.int .i64) _ 3 ?hg (N:=22) ?hd (xs:=([]:List Int)) (inner:=[]) (ok:=fun _=>True) (okp:=fun _=>True) ?hr ?hp (fun _ hk=>hk) trivial (Below.refl _ _) (Nat.le_refl _) (by simp) ?_;(case hd=>rfl);(case hg=>rfl);(case hr=>exact Y4);(case hp=>exact (Reps.none _ _));intro v22 w4 ho5 hb hg_ hnew_;clear hg_ hnew_;have HA4:=am ho5;have HB4:=am (show Below W1.heap.size W1 w4 from ((Below.refl _ _).alloc (Nat.le_refl _) _).trans (hb.mono (by simp)));clear ho5 hb) |(go_at_call 68;refine (HT.out _ (HD.out.b.trans (HB4.out.mono HD.out.b.size))).mono ?_;rintro e w5 ⟨vL,rfl,hRL,hb5⟩;obtain ⟨AL,cL,rfl⟩:=Kd.jGa hRL;have HRL:=am (Kd.jpc hRL);have HB5:=am hb5;clear hRL hb5))
    have HA5:jk (Kd.R (Kd.int .i64) 3 w5 w.heap.size (dxOk w w4.heap.size w5.heap.size) v22 []):=by
     have h1:=HA4.out
     rw [World.size_alloc] at h1
     have h2:=HLT.out
     exact ⟨Kd.jRa (Kd.jSa (Kd.jX (Kd.jpc h1) HB5.out) (fun k hk=>⟨by have:=hk.2.1;omega, .inl hk.2.2.1⟩)) (by omega)⟩
    have HL5:jk (Kd.R (Kd.int .i64) 3 w5 w4.heap.size (fun k=>w4.heap.size≤k∧k<w5.heap.size) (.slice AL L.length cL) L):=⟨Kd.jSa HRL.out (fun k hk=>⟨hk.2.1,hk.2.2.1⟩)⟩
    have hLM2:L.length≤1048576:=hLM
    have HD5:=am ((HD.out.below HB4.out).below HB5.out)
    clear HA4 HRL HT hH H0 HST x0 x1 x2 x3
    go_loopw [8,27] (fun v8 v27 w3=>∃ (j n2:Nat) (acc:List Int) (T:Int→Bool),j≤L.length∧v27=.int .i64 j∧jk (dxIn k l0_0 l1 (L.drop j) acc T=some S2)∧jk (acc.length≤j)∧jk (n2≤n+j)∧jk (DxI w (.slice A0_0 l0_0.length c0_0) T n2 w3)∧jk (Kd.R (Kd.int .i64) 3 w3 w.heap.size (dxOk w w4.heap.size w5.heap.size) v8 acc)∧jk (w5.heap.size≤w3.heap.size)∧jk (Kd.R (Kd.int .i64) 3 w3 w4.heap.size (fun k=>w4.heap.size≤k∧k<w5.heap.size) (.slice AL L.length cL) L)) (fun v8 v27 _=>L.length - (intOf v27).toNat)
    case atStart=>exact ⟨0,n,[],S1,Nat.zero_le _,rfl,HI,⟨Nat.le_refl _⟩,⟨Nat.le_refl _⟩,HD5,HA5,⟨Nat.le_refl _⟩,HL5⟩
    case round =>
     clear HI HA5 HL5 HD5
     obtain ⟨j,n2,acc,T,hj,rfl,HX,HAL,HN2,HD3,HA3,HS3,HL3⟩:=hrel
     obtain ⟨w3,rfl⟩:∃ w3,w3=wr:=⟨_,rfl⟩
     by_cases hlt2:j<L.length
     ·obtain ⟨q0,q1,hX⟩:=dxIn_step hlt2 HX.out
      have hC:=(Kd.jA HL3.out).2.2
      obtain ⟨adL,rfl,hcL⟩:=Kd.jcb hC (j:Int) (by omega) (by omega)
      rw [Int.toNat_natCast] at hcL
      obtain ⟨qv,hqv⟩:∃ qv,rd L (j:Int)=qv:=⟨_,rfl⟩
      rw [hqv] at q0 q1 hcL hX
      obtain ⟨ad2,e2,y0,y1,y2,y3⟩:=jba (Kd.jF HR.out HD3.out.b) qv q0 q1
      obtain rfl:ad=ad2:=by injection e2
      have HKW:=am (show (Lit.int .i64 qv).wf=true by
       obtain ⟨m,rfl⟩:=Int.eq_ofNat_of_zero_le q0
       exact wf_nat (by unfold M6 at hlen;omega))
      replace q0:=ezT q0
      replace q1:=ezT q1
      clear hC hqv e2
      by_cases k8:(jb l1 qv).f1=8
      ·rw [if_pos k8] at hX
       obtain ⟨f,hf,hX2⟩:=bzS hX
       have k8b:((jb l1 qv).f1 == 8)=true:=by simp [k8]
       have cB:=HD3.out.cell
       obtain ⟨A8,c8,rfl⟩:=Kd.jGa HA3.out
       have HF:=am (fun (W:World) (hb:Below w3.heap.size w3 W)=>jpb.calls k A0_0 c0_0 l0_0 A8 c8 acc (jb l1 qv).f2 f W (Kd.jF HR0.out (HD3.out.b.trans (hb.mono HD3.out.b.size))) hc0_0 (Kd.jF (Kd.jA HA3.out).2.2 hb) (Kd.jA HA3.out).2.1 hf)
       obtain ⟨D,hD1,hD2⟩:=HD3.out.s
       have HD1:=am hD1
       have HD2:=am hD2
       have HX2:=am hX2
       have HNL:=am (show n2<maxLen from Nat.lt_of_le_of_lt (Nat.le_trans HN2.out (Nat.add_le_add HN.out (show j≤M6 by omega))) (M6_lt (by omega)))
       clear hf hX hX2 hD1 hD2 k8 HX
       go_wp2_with (first |(go_at_call 69;refine (HF.out _ (Y14)).mono ?_;rintro e w6 ⟨rfl,hb6⟩;have HB6:=am (show Below w3.heap.size w3 w6 from Below.trans (Y14) (hb6.mono (jH (Y14))));clear hb6) |(at_mapUpdate;refine wpList_mapUpdate_own _ rfl _ _ _ 56 rfl 3 4 (Maps.int_keyed Try.underlying3) Try.underlying56 _ (w.heap.size+1) n2 D rfl (own_belowX HD1.out (Below.trans HB6.out (Y14))) HNL.out _ _ (.int .i64 qv) rfl rfl (Maps.keyOf_int_mk Try.underlying3 HKW.out) (.lit (.bool _)) [] (plainElem_bool Try.underlying4 _) ?_;intro w7 hown7 hgrow7;have HG7:=am hgrow7;have HD7:=am ((HD3.out.below (Below.trans HB6.out (Y14))).put hgrow7 (BSet.of_putb (own_belowX HD1.out (Below.trans HB6.out (Y14))) HD2.out hown7));have HA7:=am (Kd.R_grown (Kd.jX HA3.out (Below.trans HB6.out (Y14))) hgrow7 (fun k hk e=>by cases e;exact Nat.lt_irrefl _ hk.1));have HL7:=am (Kd.R_grown (Kd.jX HL3.out (Below.trans HB6.out (Y14))) hgrow7 (fun k hk e=>by cases e;have:=HB4.out.size;have:=HLT.out;have:=hk.1;omega));have HS7:=am (Nat.le_trans (Nat.le_trans HS3.out (jH (Below.trans HB6.out (Y14)))) hgrow7.size);obtain ⟨ad3,e3,z0,z1,z2,z3⟩:=jba (Kd.jF HR.out HD7.out.b) qv (of_eq_true q0) (of_eq_true q1);obtain rfl:ad=ad3:=(by injection e3);clear hown7 hgrow7 e3 HF HD1 HD2 HA3 HL3 HS3 HD3) |((with_reducible refine jPa (b:=.append) (xs:=#[.tmp 48, .tmp 54]) rfl ?_);at_builtin;refine Kd.job (Kd.int .i64) (w0:=w) w.heap.size rfl (.tmp 48) (.tmp 54) 40 3 (.int .i64 0) 8 rfl Try.underlying40 info3 rfl (by decide) (by omega) _ acc (jb l1 qv).f2 [.int .i64 (jb l1 qv).f2] (dxOk w w4.heap.size w5.heap.size) (fun _=>False) rfl rfl ?aP (fun _ hk=>hk.elim) ?aF ?aO ?aB ?aS ?aL ?_;(case aP=>exact rfl);(case aB=>exact (Y56));(case aF=>exact (fun k hk=>⟨Nat.lt_of_lt_of_le (Nat.lt_of_lt_of_le HD7.out.lt (jH (Y14))) hk, .inr (Nat.le_trans (Nat.le_trans HS7.out (jH (Y14))) hk)⟩));(case aO=>exact (rq HA7.out));(case aS=>exact (jH (Y56)));(case aL=>have:=HAL.out;unfold M6 at hLM;omega);intro v8b w9 ho hb hg hat;have HA9:=am ho;have HB9:=am hb;have HG9:=am hg;clear ho hb hg hat))
       refine wp_region_any (by kernel_rfl) ?_
       change wpAny _ _ _ _ _ _ _ (World.drew _)
       refine wpAny_take (i:=0) (v:=?_) rfl (by kernel_rfl) (by kernel_rfl) (by kernel_rfl) (fun _ _ _ h=>h) (Or.inl ⟨by rfl,?_⟩) ?_
       rotate_left
       ·exact sb
       refine wpAny_take (i:=1) (v:=?_) rfl (by kernel_rfl) (by kernel_rfl) (by kernel_rfl) (fun _ _ _ h=>h) (Or.inl ⟨by rfl,?_⟩) ?_
       rotate_left
       ·exact sb
       refine wpAny_take (i:=3) (v:=?_) rfl (by kernel_rfl) (by kernel_rfl) (by kernel_rfl) (fun _ _ _ h=>h) (Or.inl ⟨by rfl,?_⟩) ?_
       rotate_left
       ·exact sb
       refine wpAny_take (i:=4) (v:=?_) rfl (by kernel_rfl) (by kernel_rfl) (by kernel_rfl) (fun _ _ _ h=>h) (Or.inl ⟨by rfl,?_⟩) ?_
       rotate_left
       ·exact sb
       refine wpAny_take (i:=5) (v:=?_) rfl (by kernel_rfl) (by kernel_rfl) (by kernel_rfl) (fun _ _ _ h=>h) (Or.inl ⟨by rfl,?_⟩) ?_
       rotate_left
       ·exact sb
       refine wpAny_take (i:=6) (v:=?_) rfl (by kernel_rfl) (by kernel_rfl) (by kernel_rfl) (fun _ _ _ h=>h) (Or.inl ⟨by rfl,?_⟩) ?_
       rotate_left
       ·exact sb
       refine wpAny_take (i:=7) (v:=?_) rfl (by kernel_rfl) (by kernel_rfl) (by kernel_rfl) (fun _ _ _ h=>h) (Or.inl ⟨by rfl,?_⟩) ?_
       rotate_left
       ·exact sb
       refine wpAny_ready (rs:=[2,8]) (by kernel_rfl) (by simp) ?_
       refine AllReady.cons rfl (fun K hK=>?_) (AllReady.cons rfl (fun K hK=>?_) AllReady.nil)
       ·go_simp
        refine hK _ _ ?_
        clear hK K
        refine wpAny_ready (rs:=[8]) (by kernel_rfl) (by simp) ?_
        refine AllReady.cons rfl (fun K hK=>?_) AllReady.nil
        go_simp
        refine hK _ _ ?_
        clear hK K
        refine wpAny_ready (rs:=[9]) (by kernel_rfl) (by simp) ?_
        refine AllReady.cons rfl (fun K hK=>?_) AllReady.nil
        go_simp
        refine (HF.out _ (jSb (Below.refl _ _))).mono ?_
        rintro e w6 ⟨rfl,hb6⟩
        refine hK _ _ ?_
        clear hK K
        have HB6:=am (show Below w3.heap.size w3 w6 from Below.trans (jSb (Below.refl _ _)) hb6)
        clear hb6
        refine wpAny_take (i:=10) (v:=?_) rfl (by kernel_rfl) (by kernel_rfl) (by kernel_rfl) (fun _ _ _ h=>h) (Or.inl ⟨by rfl,?_⟩) ?_
        rotate_left
        ·exact sb
        have HD6:=am (HD3.out.below HB6.out)
        obtain ⟨w7,hrun7,hS7,hG7⟩:=BSet.put HD6.out.s HNL.out HKW.out (decide (f≥0))
        have HD7:=am (HD6.out.put hG7 hS7)
        have HG7:=am hG7
        clear hS7 hG7
        refine wpAny_ready (rs:=[11]) (by kernel_rfl) (by simp) ?_
        refine AllReady.cons rfl (fun K hK=>?_) AllReady.nil
        go_simp
        refine hK _ _ ?_
        clear hK K hrun7
        refine wpAny_done (by kernel_rfl) ?_ _
        have HA7:=am (Kd.R_grown (Kd.jX HA3.out HB6.out) HG7.out (fun k hk e=>by cases e;exact absurd hk.1 (Nat.lt_irrefl _)))
        have HL7:=am (Kd.R_grown (Kd.jX HL3.out HB6.out) HG7.out (fun k hk e=>by cases e;have h4:=HB4.out.size;have h3:=HLT.out;have h2:=hk.1;omega))
        have HS7:=am (Nat.le_trans (Nat.le_trans HS3.out HB6.out.size) HG7.out.size)
        obtain ⟨ad3,e3,z0,z1,z2,z3⟩:=jba (Kd.jF HR.out HD7.out.b) qv (of_eq_true q0) (of_eq_true q1)
        obtain rfl:ad=ad3:=by injection e3
        clear e3 y0 y1 y2 y3 hcL cB HF HD1 HD2 HA3 HL3 HS3 HD3 HD6 HG7
        go_wp2_with ((with_reducible refine jPa (b:=.append) (xs:=#[.tmp 48, .tmp 54]) rfl ?_);at_builtin;refine Kd.job (Kd.int .i64) (w0:=w) w.heap.size rfl (.tmp 48) (.tmp 54) 40 3 (.int .i64 0) 8 rfl Try.underlying40 info3 rfl (by decide) (by omega) _ acc (jb l1 qv).f2 [.int .i64 (jb l1 qv).f2] (dxOk w w4.heap.size w5.heap.size) (fun _=>False) rfl rfl ?aP (fun _ hk=>hk.elim) ?aF HA7.out HD7.out.b HD7.out.b.size ?aL ?_;(case aP=>exact rfl);(case aF=>exact (fun k hk=>⟨Nat.lt_of_lt_of_le HD7.out.lt hk, .inr (Nat.le_trans HS7.out hk)⟩));(case aL=>have:=HAL.out;unfold M6 at hLM;omega);intro v8b w9 ho hb hg hat;have HA9:=am ho;have HD9:=am (HD7.out.grown hg (fun e=>absurd (HA7.out.1 _ e.symm).1 (by omega)) (fun e=>absurd (HA7.out.1 _ e.symm).1 (Nat.lt_irrefl _)) hb);have HL9:=am (Kd.R_grown HL7.out hg (fun k hk e=>by have h9:=(HA7.out.1 _ e.symm).2;have h8:=hk.1;have h7:=hk.2;omega));have HS9:=am (Nat.le_trans HS7.out hg.size);clear ho hb hg hat)
        go_roundw
        case rel=>exact ⟨j+1,n2+1,acc ++ [(jb l1 qv).f2],(fun y=>if y=qv then decide (f≥0) else T y),hlt2,by go_num,HX2,⟨by have:=HAL.out;rw [List.length_append,List.length_singleton];omega⟩,⟨by have:=HN2.out;omega⟩,HD9,HA9,HS9,HL9⟩
        case measure=>simp [intOf];omega
       ·go_simp
        refine hK _ _ ?_
        clear hK K
        refine wpAny_ready (rs:=[2]) (by kernel_rfl) (by simp) ?_
        refine AllReady.cons rfl (fun K hK=>?_) AllReady.nil
        go_simp
        refine hK _ _ ?_
        clear hK K
        refine wpAny_ready (rs:=[9]) (by kernel_rfl) (by simp) ?_
        refine AllReady.cons rfl (fun K hK=>?_) AllReady.nil
        go_simp
        refine (HF.out _ (jSb (Below.refl _ _))).mono ?_
        rintro e w6 ⟨rfl,hb6⟩
        refine hK _ _ ?_
        clear hK K
        have HB6:=am (show Below w3.heap.size w3 w6 from Below.trans (jSb (Below.refl _ _)) hb6)
        clear hb6
        refine wpAny_take (i:=10) (v:=?_) rfl (by kernel_rfl) (by kernel_rfl) (by kernel_rfl) (fun _ _ _ h=>h) (Or.inl ⟨by rfl,?_⟩) ?_
        rotate_left
        ·exact sb
        have HD6:=am (HD3.out.below HB6.out)
        obtain ⟨w7,hrun7,hS7,hG7⟩:=BSet.put HD6.out.s HNL.out HKW.out (decide (f≥0))
        have HD7:=am (HD6.out.put hG7 hS7)
        have HG7:=am hG7
        clear hS7 hG7
        refine wpAny_ready (rs:=[11]) (by kernel_rfl) (by simp) ?_
        refine AllReady.cons rfl (fun K hK=>?_) AllReady.nil
        go_simp
        refine hK _ _ ?_
        clear hK K hrun7
        refine wpAny_done (by kernel_rfl) ?_ _
        have HA7:=am (Kd.R_grown (Kd.jX HA3.out HB6.out) HG7.out (fun k hk e=>by cases e;exact absurd hk.1 (Nat.lt_irrefl _)))
        have HL7:=am (Kd.R_grown (Kd.jX HL3.out HB6.out) HG7.out (fun k hk e=>by cases e;have h4:=HB4.out.size;have h3:=HLT.out;have h2:=hk.1;omega))
        have HS7:=am (Nat.le_trans (Nat.le_trans HS3.out HB6.out.size) HG7.out.size)
        obtain ⟨ad3,e3,z0,z1,z2,z3⟩:=jba (Kd.jF HR.out HD7.out.b) qv (of_eq_true q0) (of_eq_true q1)
        obtain rfl:ad=ad3:=by injection e3
        clear e3 y0 y1 y2 y3 hcL cB HF HD1 HD2 HA3 HL3 HS3 HD3 HD6 HG7
        go_wp2_with ((with_reducible refine jPa (b:=.append) (xs:=#[.tmp 48, .tmp 54]) rfl ?_);at_builtin;refine Kd.job (Kd.int .i64) (w0:=w) w.heap.size rfl (.tmp 48) (.tmp 54) 40 3 (.int .i64 0) 8 rfl Try.underlying40 info3 rfl (by decide) (by omega) _ acc (jb l1 qv).f2 [.int .i64 (jb l1 qv).f2] (dxOk w w4.heap.size w5.heap.size) (fun _=>False) rfl rfl ?aP (fun _ hk=>hk.elim) ?aF HA7.out HD7.out.b HD7.out.b.size ?aL ?_;(case aP=>exact rfl);(case aF=>exact (fun k hk=>⟨Nat.lt_of_lt_of_le HD7.out.lt hk, .inr (Nat.le_trans HS7.out hk)⟩));(case aL=>have:=HAL.out;unfold M6 at hLM;omega);intro v8b w9 ho hb hg hat;have HA9:=am ho;have HD9:=am (HD7.out.grown hg (fun e=>absurd (HA7.out.1 _ e.symm).1 (by omega)) (fun e=>absurd (HA7.out.1 _ e.symm).1 (Nat.lt_irrefl _)) hb);have HL9:=am (Kd.R_grown HL7.out hg (fun k hk e=>by have h9:=(HA7.out.1 _ e.symm).2;have h8:=hk.1;have h7:=hk.2;omega));have HS9:=am (Nat.le_trans HS7.out hg.size);clear ho hb hg hat)
        go_roundw
        case rel=>exact ⟨j+1,n2+1,acc ++ [(jb l1 qv).f2],(fun y=>if y=qv then decide (f≥0) else T y),hlt2,by go_num,HX2,⟨by have:=HAL.out;rw [List.length_append,List.length_singleton];omega⟩,⟨by have:=HN2.out;omega⟩,HD9,HA9,HS9,HL9⟩
        case measure=>simp [intOf];omega
      ·rw [if_neg k8] at hX
       have k8b:((jb l1 qv).f1 == 8)=false:=by simp [k8]
       have HX2:=am hX
       clear hX k8 HX
       go_wp2
       go_roundw
       case rel=>exact ⟨j+1,n2,acc,T,hlt2,by go_num,HX2,⟨by have:=HAL.out;omega⟩,⟨by have:=HN2.out;omega⟩,HD3,HA3,HS3,HL3⟩
       case measure=>simp [intOf];omega
     ·have hX:=HX.out
      rw [List.drop_of_length_le (by omega)] at hX
      obtain rfl:T=S2:=Option.some.inj hX
      clear hX HX
      go_wp2
      go_roundw
      case rel=>exact ⟨i+1,n2,T,hlt,by go_num,HO,⟨by rw [Nat.add_mul,Nat.one_mul];exact Nat.le_trans HN2.out (Nat.add_le_add HN.out (by omega))⟩,HD3⟩
      case measure=>simp [intOf];omega
   ·rw [if_neg h7] at hH
    have h7b:((jb l1 (i:Int)).f1 != 7)=true:=by simp [h7]
    have HO:=am hH
    clear hH h7
    go_wp2
    go_roundw
    case rel=>exact ⟨i+1,n,S1,hlt,by go_num,HO,⟨Nat.le_trans HN.out (Nat.mul_le_mul_right _ (Nat.le_succ i))⟩,⟨by first | exact HD.out | exact HD.out.below (by repeat (first |(with_reducible first | exact Below.refl _ _ | apply jv | apply jg | apply jr) | exact Below.refl _ _))⟩⟩
    case measure=>simp [intOf];omega
  ·have hH:=HH.out
   rw [show l1.length - i=0 by omega] at hH
   obtain rfl:=Option.some.inj hH
   go_wp2
   go_ret
   exact ⟨_,n,rfl,by omega,HD.out.s,HD.out.b⟩
end
def jeb.f (l0 : List Int) : Option (List Int) := some (l0)
set_option maxHeartbeats 8000000 in
set_option maxRecDepth 100000 in
theorem jeb.calls (P0_ : Nat → Prop) (u9000_ : Value) (l0 : List Int) (r : List Int) (w0 w : World) (hB : Below w0.heap.size w0 w) (ho0 : Kd.R (Kd.int .i64) 3 w w0.heap.size P0_ u9000_ l0) (h : jeb.f l0 = some r) :
  Calls Try.prog 73 #[u9000_] w fun e w'=>∃ v0_:Value,e=.returned (v0_)∧Kd.R (Kd.int .i64) 3 w' w0.heap.size (fun k_=>(P0_ k_∨w.heap.size≤k_)) v0_ r∧Below w0.heap.size w0 w'∧Kept w w' (fun k_=>P0_ k_):=by
 have HO0:=am (show Kd.R (Kd.int .i64) 3 w w0.heap.size (fun k_=>(P0_ k_∨w.heap.size≤k_)) u9000_ l0 from Kd.jSa ho0 (fun k_ hk=>(.inl hk)))
 have HK:=am (Kept.refl w (fun k_=>P0_ k_))
 have HW0:=am hB.size
 have HB:=am hB
 clear hB
 have H:(some (l0))=some r:=h
 clear h
 obtain ⟨y516,hy516⟩:∃ y_:List Int,y_=(l0):=⟨_,rfl⟩
 replace H:(some y516)=some r:=by first |(rw [hy516];with_reducible exact H) |(have H2_:=(Option.bind_some _ _).symm.trans H;rw [hy516];with_reducible exact H2_) |(have H2_:=(Option.bind_some _ _).symm.trans H;with_reducible exact H2_) | with_reducible exact H |(rw [hy516];exact H) | exact H
 have Ny516:=am hy516
 clear hy516
 obtain rfl:=Option.some.inj H
 obtain ⟨Ao2,co2,eo2⟩:=Kd.jGa HO0.out
 subst eo2
 obtain ⟨i03,hi03,_,hsz3,_⟩:=info_parts info3
 have hy3:y516.length=l0.length:=(by rw [Ny516.out])
 have hcut3:=cut_clip (P:=Try.prog) 40 3 Try.underlying40 hi03 Ao2 _ co2 _ (Kd.jA HO0.out).2.1 hy3
 have hr3:=Kd.R_clip HO0.out Ny516.out
 clear hy3 hi03 hsz3 HO0
 have HO518:=am hr3
 clear hr3
 go_enter Try.func73,Try.ntmps73
 go_wp2
 go_ret
 exact ⟨_,Y0,rq HO518.out,bq,Y7⟩
def jaa.l0 : Nat → List (S52) → Int → List Int → Int → Option (List Int)
 | 0,_,_,_,_=>none
 | k+1,x0,x1,x5,x6=>if x6≥0 then (if 0≤x6 then (if x6<(x0.length:Int) then ((jOa.f ((jb x0 x6).f0) ((jb x0 x6).f1) ((jb x0 x6).f2) ((jb x0 x6).f3)).bind fun t526=>(if t526=true then ((jda.f k x0 x6).bind fun t527=>(if t527 > x1 then (if x5.length<17592186044416 then (jaa.l0 k x0 x1 (x5 ++ [x6]) (wrap64 (x6 - 1))) else (none)) else (jaa.l0 k x0 x1 x5 (wrap64 (x6 - 1))))) else (jaa.l0 k x0 x1 x5 (wrap64 (x6 - 1))))) else (none)) else (none)) else ((jeb.f x5).bind fun t522=>(some t522))
def jaa.f (k : Nat) (l0 : List (S52)) (a1 : Int) : Option (List Int) := jaa.l0 k l0 a1 (([] : List Int)) (wrap64 (a1 - 1))
set_option maxHeartbeats 8000000 in
set_option maxRecDepth 100000 in
theorem jaa.calls (k : Nat) (A0 : Option Addr) (c0 : Nat) (l0 : List (S52)) (a1 : Int) (r : List Int) (w : World) (hr0 : Kd.C k52 w A0 l0.length l0) (hc0 : l0.length ≤ c0) (h : jaa.f k l0 a1 = some r) :
  Calls Try.prog 48 #[.slice A0 l0.length c0, .int .i64 a1] w fun e w'=>∃ v0_:Value,e=.returned (v0_)∧Kd.R (Kd.int .i64) 3 w' w.heap.size (fun _=>True) v0_ r∧Below w.heap.size w w':=by
 have hu52:=Try.underlying52
 have HR0:=am hr0
 have HC0:=am hc0
 clear hr0 hc0
 have HB:=am (Below.refl w.heap.size w)
 have H:(jaa.l0 k l0 a1 (([]:List Int)) (wrap64 (a1 - 1)))=some r:=h
 clear h
 obtain ⟨y519,hy519⟩:∃ y_:List Int,y_=(([]:List Int)):=⟨_,rfl⟩
 replace H:(jaa.l0 k l0 a1 y519 (wrap64 (a1 - 1)))=some r:=by first |(rw [hy519];with_reducible exact H) |(have H2_:=(Option.bind_some _ _).symm.trans H;rw [hy519];with_reducible exact H2_) |(have H2_:=(Option.bind_some _ _).symm.trans H;with_reducible exact H2_) | with_reducible exact H |(rw [hy519];exact H) | exact H
 have Ny519:=am hy519
 clear hy519
 have H':=am H
 clear H
 go_enter Try.func48,Try.ntmps48
 go_wp2_with (first |((with_reducible refine jP (N:=7) rfl ?_);refine Kd.R_lit (Kd.int .i64) _ 3 ?hg (N:=7) ?hd (xs:=([]:List Int)) (inner:=[]) (ok:=fun _=>True) (okp:=fun _=>True) ?hr ?hp (fun _ hk=>hk) trivial (Below.refl _ _) (Nat.le_refl _) (by simp) ?_;(case hd=>rfl);(case hg=>rfl);(case hr=>exact Y4);(case hp=>exact (Reps.none _ _));intro v520 w3 ho4 hb hg_ hnew_;clear hg_ hnew_;(first | rw [← Ny519.out] at ho4 |(simp only [Int.reduceToNat] at ho4;rw [← Ny519.out] at ho4));have HO521:=am (Kd.jRa ho4 (jH (bq)));replace HB:=am (jd (bq) hb);clear hb ho4))
 go_loopg [5,6] k (fun kq v5 v6 w'=>∃ (x5_1:List Int) (x6_1:Int),v6=.int .i64 x6_1∧jk (jaa.l0 kq l0 a1 x5_1 x6_1=some r)∧jk (kq≤k)∧jk (Kd.R (Kd.int .i64) 3 w' w.heap.size (fun _=>True) v5 x5_1)∧jk (Below w.heap.size w w'))
 case atStart=>exact ⟨(y519),(wrap64 (a1 - 1)),(sq),H',⟨Nat.le_refl _⟩,⟨rq HO521.out⟩,⟨bq⟩⟩
 case round =>
  clear H'
  try clear p2
  try clear c4
  obtain ⟨x5_1,x6_1,rfl,HA,HK1,HO_5,HB⟩:=hrel
  cases gk with
  | zero=>exact absurd HA.out (by simp [jaa.l0])
  | succ k1 =>
   have H:=HA.out
   clear HA
   simp only [jaa.l0] at H
   by_cases c5:x6_1≥0
   ·rw [if_pos c5] at H
    have c5b0:decide (0≤x6_1)=true:=dzT c5
    clear c5
    by_cases c6:0≤x6_1
    ·rw [if_pos c6] at H
     have c6b0:decide (0≤x6_1)=true:=dzT c6
     clear c6
     by_cases c7:x6_1<(l0.length:Int)
     ·rw [if_pos c7] at H
      have c7b0:decide (x6_1<(l0.length:Int))=true:=dzT c7
      clear c7
      replace H:=bzS H
      obtain ⟨t526,A80,H⟩:=H
      replace H:(if t526=true then ((jda.f k1 l0 x6_1).bind fun t527=>(if t527 > a1 then (if x5_1.length<17592186044416 then (jaa.l0 k1 l0 a1 (x5_1 ++ [x6_1]) (wrap64 (x6_1 - 1))) else (none)) else (jaa.l0 k1 l0 a1 x5_1 (wrap64 (x6_1 - 1))))) else (jaa.l0 k1 l0 a1 x5_1 (wrap64 (x6_1 - 1))))=some r:=H
      have A8:=am A80
      clear A80
      by_cases c9:t526=true
      ·subst c9
       have H1:((jda.f k1 l0 x6_1).bind fun t527=>(if t527 > a1 then (if x5_1.length<17592186044416 then (jaa.l0 k1 l0 a1 (x5_1 ++ [x6_1]) (wrap64 (x6_1 - 1))) else (none)) else (jaa.l0 k1 l0 a1 x5_1 (wrap64 (x6_1 - 1)))))=some r:=by rw [if_pos rfl] at H;exact H
       clear H
       have H:=H1
       clear H1
       replace H:=bzS H
       obtain ⟨t527,A100,H⟩:=H
       replace H:(if t527 > a1 then (if x5_1.length<17592186044416 then (jaa.l0 k1 l0 a1 (x5_1 ++ [x6_1]) (wrap64 (x6_1 - 1))) else (none)) else (jaa.l0 k1 l0 a1 x5_1 (wrap64 (x6_1 - 1))))=some r:=H
       have A10:=am A100
       clear A100
       by_cases c11:t527 > a1
       ·rw [if_pos c11] at H
        have c11b0:decide (a1<t527)=true:=dzT c11
        clear c11
        by_cases c12:x5_1.length<17592186044416
        ·rw [if_pos c12] at H
         have LMc12:=am c12
         clear c12
         obtain ⟨y528,hy528⟩:∃ y_:List Int,y_=(x5_1 ++ [x6_1]):=⟨_,rfl⟩
         replace H:(jaa.l0 k1 l0 a1 y528 (wrap64 (x6_1 - 1)))=some r:=by first |(rw [hy528];with_reducible exact H) |(have H2_:=(Option.bind_some _ _).symm.trans H;rw [hy528];with_reducible exact H2_) |(have H2_:=(Option.bind_some _ _).symm.trans H;with_reducible exact H2_) | with_reducible exact H |(rw [hy528];exact H) | exact H
         have Ny528:=am hy528
         clear hy528
         have H':=am H
         clear H
         have p525:0≤(x6_1:Int):=ozD (uq)
         have q525:x6_1<(l0.length:Int):=ozD (uq)
         obtain ⟨ad525,e525,hx525_0,hx525_1,hx525_2,hx525_3⟩:=jba HR0.out x6_1 p525 q525
         cases e525
         replace hx525_0:=cb HB.out hx525_0
         replace hx525_1:=cb HB.out hx525_1
         replace hx525_2:=cb HB.out hx525_2
         replace hx525_3:=cb HB.out hx525_3
         replace p525:=ezT p525
         replace q525:=ezT q525
         go_wp2_with (first |((with_reducible refine je (f:=54) rfl ?_);refine gL (some 18) Try.func54 #[.agg #[.int .i64 ((jb l0 x6_1).f0), .int .i64 ((jb l0 x6_1).f1), .int .i64 ((jb l0 x6_1).f2), .int .i64 ((jb l0 x6_1).f3)]] ?_;(with_reducible refine (jOa.calls ((jb l0 x6_1).f0) ((jb l0 x6_1).f1) ((jb l0 x6_1).f2) ((jb l0 x6_1).f3) true _ A8.out).mono ?_);rintro e w13 ⟨rfl,hb⟩;refine ⟨_,rfl,?_⟩;replace HO_5:=am (Kd.jX (rq HO_5.out) hb);replace HB:=am (jd (bq) hb);(try clear hb);(try clear hb2);(try clear hk);(try clear hi)) |(go_at_call 62;(with_reducible refine (jda.calls k1 _ _ l0 x6_1 t527 _ ?side1 ?side2 A10.out).mono ?_);(case side1=>exact cq (Kd.jF HR0.out HB.out));(case side2=>exact HC0.out);rintro e w' ⟨rfl,⟨nd,rfl⟩⟩) |((with_reducible refine jPa (b:=.append) (xs:=#[.tmp 26, .tmp 28]) rfl ?_);at_builtin;refine Kd.job (Kd.int .i64) (w0:=w) w.heap.size rfl (.tmp 26) (.tmp 28) 40 3 (.int .i64 0) 8 rfl Try.underlying40 info3 rfl (by decide) (by omega) u5 x5_1 x6_1 [.int .i64 x6_1] (fun _=>True) (fun _=>False) rfl rfl ?aP (fun _ hk=>hk.elim) ?aF ?aO ?aB ?aS ?aL ?_;(case aP=>exact rfl);(case aB=>exact (bq));(case aF=>exact (fun _ _=>trivial));(case aO=>exact (rq HO_5.out));(case aS=>exact (jH (bq)));(case aL=>have:=LMc12.out;omega);intro v529 w14 ho hb hg hat;rw [← Ny528.out] at ho;have n0_:=am (hb);have n1_:=am (ho);clear HB HO_5;have HB:=n0_;have HO530:=n1_;clear n0_ n1_ ho hb hg hat))
         go_roundg k1
         case measure=>have:=HK1.out;omega
         case rel=>exact ⟨(y528),(wrap64 (x6_1 - 1)),(sq),H',⟨by have:=HK1.out;omega⟩,⟨rq HO530.out⟩,⟨bq⟩⟩
        ·rw [if_neg c12] at H
         exact absurd H (by simp)
       ·rw [if_neg c11] at H
        have c11b0:decide (a1<t527)=false:=dzF c11
        clear c11
        have H':=am H
        clear H
        have p525:0≤(x6_1:Int):=ozD (uq)
        have q525:x6_1<(l0.length:Int):=ozD (uq)
        obtain ⟨ad525,e525,hx525_0,hx525_1,hx525_2,hx525_3⟩:=jba HR0.out x6_1 p525 q525
        cases e525
        replace hx525_0:=cb HB.out hx525_0
        replace hx525_1:=cb HB.out hx525_1
        replace hx525_2:=cb HB.out hx525_2
        replace hx525_3:=cb HB.out hx525_3
        replace p525:=ezT p525
        replace q525:=ezT q525
        go_wp2_with (first |((with_reducible refine je (f:=54) rfl ?_);refine gL (some 18) Try.func54 #[.agg #[.int .i64 ((jb l0 x6_1).f0), .int .i64 ((jb l0 x6_1).f1), .int .i64 ((jb l0 x6_1).f2), .int .i64 ((jb l0 x6_1).f3)]] ?_;(with_reducible refine (jOa.calls ((jb l0 x6_1).f0) ((jb l0 x6_1).f1) ((jb l0 x6_1).f2) ((jb l0 x6_1).f3) true _ A8.out).mono ?_);rintro e w15 ⟨rfl,hb⟩;refine ⟨_,rfl,?_⟩;replace HO_5:=am (Kd.jX (rq HO_5.out) hb);replace HB:=am (jd (bq) hb);(try clear hb);(try clear hb2);(try clear hk);(try clear hi)) |(go_at_call 62;(with_reducible refine (jda.calls k1 _ _ l0 x6_1 t527 _ ?side1 ?side2 A10.out).mono ?_);(case side1=>exact cq (Kd.jF HR0.out HB.out));(case side2=>exact HC0.out);rintro e w' ⟨rfl,⟨nd,rfl⟩⟩))
        go_roundg k1
        case measure=>have:=HK1.out;omega
        case rel=>exact ⟨(x5_1),(wrap64 (x6_1 - 1)),(sq),H',⟨by have:=HK1.out;omega⟩,⟨rq HO_5.out⟩,⟨bq⟩⟩
      ·replace c9:=Bool.eq_false_iff.mpr c9
       subst c9
       have H1:(jaa.l0 k1 l0 a1 x5_1 (wrap64 (x6_1 - 1)))=some r:=by rw [if_neg (show ¬ (false=true) by decide)] at H;exact H
       clear H
       have H:=H1
       clear H1
       have H':=am H
       clear H
       have p525:0≤(x6_1:Int):=ozD (uq)
       have q525:x6_1<(l0.length:Int):=ozD (uq)
       obtain ⟨ad525,e525,hx525_0,hx525_1,hx525_2,hx525_3⟩:=jba HR0.out x6_1 p525 q525
       cases e525
       replace hx525_0:=cb HB.out hx525_0
       replace hx525_1:=cb HB.out hx525_1
       replace hx525_2:=cb HB.out hx525_2
       replace hx525_3:=cb HB.out hx525_3
       replace p525:=ezT p525
       replace q525:=ezT q525
       go_wp2_with (first |((with_reducible refine je (f:=54) rfl ?_);refine gL (some 18) Try.func54 #[.agg #[.int .i64 ((jb l0 x6_1).f0), .int .i64 ((jb l0 x6_1).f1), .int .i64 ((jb l0 x6_1).f2), .int .i64 ((jb l0 x6_1).f3)]] ?_;(with_reducible refine (jOa.calls ((jb l0 x6_1).f0) ((jb l0 x6_1).f1) ((jb l0 x6_1).f2) ((jb l0 x6_1).f3) false _ A8.out).mono ?_);rintro e w16 ⟨rfl,hb⟩;refine ⟨_,rfl,?_⟩;replace HO_5:=am (Kd.jX (rq HO_5.out) hb);replace HB:=am (jd (bq) hb);(try clear hb);(try clear hb2);(try clear hk);(try clear hi)))
       go_roundg k1
       case measure=>have:=HK1.out;omega
       case rel=>exact ⟨(x5_1),(wrap64 (x6_1 - 1)),(sq),H',⟨by have:=HK1.out;omega⟩,⟨rq HO_5.out⟩,⟨bq⟩⟩
     ·rw [if_neg c7] at H
      exact absurd H (by simp)
    ·rw [if_neg c6] at H
     exact absurd H (by simp)
   ·rw [if_neg c5] at H
    have c5b0:decide (0≤x6_1)=false:=dzF c5
    clear c5
    replace H:=bzS H
    obtain ⟨t522,A170,H⟩:=H
    replace H:(some t522)=some r:=H
    have A17:=am A170
    clear A170
    obtain rfl:=Option.some.inj H
    obtain ⟨Ao18,co18,eo18⟩:=Kd.jGa HO_5.out
    subst eo18
    go_wp2_with (first |((with_reducible refine je (f:=73) rfl ?_);refine gL (some 31) Try.func73 #[.slice Ao18 x5_1.length co18] ?_;(with_reducible refine (jeb.calls (fun k_=>some k_=(.slice Ao18 x5_1.length co18:Value).ownBlock) (.slice Ao18 x5_1.length co18) x5_1 t522 w _ ?side1 ?side2 A17.out).mono ?_);(case side1=>repeat (first |(with_reducible first | exact HB.out | apply jv | apply jg | apply jr) | exact HB.out));(case side2=>exact Kd.R_tight rfl HO_5.out);rintro e w19 ⟨v523,rfl,ho0,hb,hkp⟩;refine ⟨_,rfl,?_⟩;have n0_:=am (Kd.jSa (ok':=fun k_=>True) ho0 (fun k_ hk_=>trivial));have n1_:=am (hb);clear HB HO_5;have HO524:=n0_;have HB:=n1_;clear n0_ n1_;(try clear hb);(try clear hkp);(try clear ho0)))
    go_ret
    exact ⟨_,Y0,rq HO524.out,bq⟩
end Go.Proofs.Ytkhiiiddbmgiaaa.P
end
