/- One part of the proofs on this program: functions of the program as plain functions, that the code comes to them, and facts on them. -/
import Derived.Test.YtbbmgiloikkpiaaYAll1
import Derived.Test.YtbbmgiloikkpiaaYAll3
import Derived.Test.YtbbmgiloikkpiaaYAll5
import Derived.Test.YtbbmgiloikkpiaaYAll6
import Derived.Test.YtbbmgiloikkpiaaYWAuto
section
namespace Go.Proofs.Ytbbmgiloikkpiaa.P
open Go.RowKit Go.Proofs.YtbbmgiloikkpiaaW.PrintWords Go.Proofs.YtbbmgiloikkpiaaW.PrintLast Go.Proofs.YtbbmgiloikkpiaaW.PrintMore
attribute [local go_sem] jaa jY joa jna jR jQ jZ jX jh
set_option linter.unusedVariables false
set_option linter.unusedSimpArgs false
def jta.l0 : Nat → List (S51) → Int → Int → Option (Int)
 | 0,_,_,_=>none
 | k+1,x0,x1,x5=>if x5<(x0.length:Int) then (if 0≤x5 then (if ((jd x0 x5).f0)=x1 then (if ((jd x0 x5).f1)=(wrap64 (x1+1)) then (if ((jd x0 x5).f2)=(wrap64 ((wrap64 (x1+1))+1)) then (if ((jd x0 x5).f3)=(wrap64 ((wrap64 ((wrap64 (x1+1))+1))+1)) then (jta.l0 k x0 (wrap64 ((wrap64 ((wrap64 ((wrap64 (x1+1))+1))+1))+1)) (wrap64 (x5+1))) else (some (-1))) else (some (-1))) else (some (-1))) else (some (-1))) else (none)) else (some x1)
def jta.f (k : Nat) (l0 : List (S51)) (a1 : Int) : Option (Int) := jta.l0 k l0 a1 0
set_option maxHeartbeats 8000000 in
set_option maxRecDepth 100000 in
theorem jta.calls (k : Nat) (A0 : Option Addr) (c0 : Nat) (l0 : List (S51)) (a1 : Int) (r : Int) (w : World) (hr0 : Kd.C k51 w A0 l0.length l0) (hc0 : l0.length ≤ c0) (h : jta.f k l0 a1 = some r) :
  Calls Try.prog 17 #[.slice A0 l0.length c0, .int .i64 a1] w fun e w'=>e=.returned (.int .i64 r)∧jZa w w':=by
 have HR0:=am hr0
 have HC0:=am hc0
 clear hr0 hc0
 have H:(jta.l0 k l0 a1 0)=some r:=h
 clear h
 have H':=am H
 clear H
 go_enter Try.func17,Try.ntmps17
 go_wp2
 go_loopg [1,5] k (fun kq v1 v5 w'=>∃ (x1_1:Int) (x5_1:Int),v1=.int .i64 x1_1∧v5=.int .i64 x5_1∧jq (jta.l0 kq l0 x1_1 x5_1=some r)∧jq (kq≤k)∧jZa w w')
 case atStart=>exact ⟨(a1),(0),(sq),(sq),H',⟨Nat.le_refl _⟩,Y2⟩
 case round =>
  clear H'
  try clear c1
  try clear p2
  obtain ⟨x1_1,x5_1,rfl,rfl,HA,HK1,⟨m1,rfl⟩⟩:=hrel
  cases gk with
  | zero=>exact absurd HA.out (by simp [jta.l0])
  | succ k1 =>
   have H:=HA.out
   clear HA
   simp only [jta.l0] at H
   by_cases c3:x5_1<(l0.length:Int)
   ·rw [if_pos c3] at H
    have c3b0:decide (x5_1<(l0.length:Int))=true:=dzT c3
    clear c3
    by_cases c4:0≤x5_1
    ·rw [if_pos c4] at H
     have c4b0:decide (0≤x5_1)=true:=dzT c4
     clear c4
     by_cases c5:((jd l0 x5_1).f0)=x1_1
     ·rw [if_pos c5] at H
      have c5b0:(((jd l0 x5_1).f0) == x1_1)=true:=beq_iff_eq.mpr c5
      have c5b1:(((jd l0 x5_1).f0) != x1_1)=false:=bne_eq_false_iff_eq.mpr c5
      clear c5
      by_cases c6:((jd l0 x5_1).f1)=(wrap64 (x1_1+1))
      ·rw [if_pos c6] at H
       have c6b0:(((jd l0 x5_1).f1) == (wrap64 (x1_1+1)))=true:=beq_iff_eq.mpr c6
       have c6b1:(((jd l0 x5_1).f1) != (wrap64 (x1_1+1)))=false:=bne_eq_false_iff_eq.mpr c6
       clear c6
       by_cases c7:((jd l0 x5_1).f2)=(wrap64 ((wrap64 (x1_1+1))+1))
       ·rw [if_pos c7] at H
        have c7b0:(((jd l0 x5_1).f2) == (wrap64 ((wrap64 (x1_1+1))+1)))=true:=beq_iff_eq.mpr c7
        have c7b1:(((jd l0 x5_1).f2) != (wrap64 ((wrap64 (x1_1+1))+1)))=false:=bne_eq_false_iff_eq.mpr c7
        clear c7
        by_cases c8:((jd l0 x5_1).f3)=(wrap64 ((wrap64 ((wrap64 (x1_1+1))+1))+1))
        ·rw [if_pos c8] at H
         have c8b0:(((jd l0 x5_1).f3) == (wrap64 ((wrap64 ((wrap64 (x1_1+1))+1))+1)))=true:=beq_iff_eq.mpr c8
         have c8b1:(((jd l0 x5_1).f3) != (wrap64 ((wrap64 ((wrap64 (x1_1+1))+1))+1)))=false:=bne_eq_false_iff_eq.mpr c8
         clear c8
         have H':=am H
         clear H
         have p417:0≤(x5_1:Int):=ozD (uq)
         have q417:x5_1<(l0.length:Int):=ozD (uq)
         obtain ⟨ad417,e417,hx417_0,hx417_1,hx417_2,hx417_3⟩:=jAa HR0.out x5_1 p417 q417
         cases e417
         replace p417:=ezT p417
         replace q417:=ezT q417
         have p418:0≤(x5_1:Int):=ozD (uq)
         have q418:x5_1<(l0.length:Int):=ozD (uq)
         obtain ⟨ad418,e418,hx418_0,hx418_1,hx418_2,hx418_3⟩:=jAa HR0.out x5_1 p418 q418
         obtain rfl:ad417=ad418:=(by injection e418)
         replace p418:=ezT p418
         replace q418:=ezT q418
         have p419:0≤(x5_1:Int):=ozD (uq)
         have q419:x5_1<(l0.length:Int):=ozD (uq)
         obtain ⟨ad419,e419,hx419_0,hx419_1,hx419_2,hx419_3⟩:=jAa HR0.out x5_1 p419 q419
         obtain rfl:ad417=ad419:=(by injection e419)
         replace p419:=ezT p419
         replace q419:=ezT q419
         have p420:0≤(x5_1:Int):=ozD (uq)
         have q420:x5_1<(l0.length:Int):=ozD (uq)
         obtain ⟨ad420,e420,hx420_0,hx420_1,hx420_2,hx420_3⟩:=jAa HR0.out x5_1 p420 q420
         obtain rfl:ad417=ad420:=(by injection e420)
         replace p420:=ezT p420
         replace q420:=ezT q420
         go_wp2
         go_roundg k1
         case measure=>have:=HK1.out;omega
         case rel=>exact ⟨(wrap64 ((wrap64 ((wrap64 ((wrap64 (x1_1+1))+1))+1))+1)),(wrap64 (x5_1+1)),(sq),(sq),H',⟨by have:=HK1.out;omega⟩,Y2⟩
        ·rw [if_neg c8] at H
         have c8b0:(((jd l0 x5_1).f3) == (wrap64 ((wrap64 ((wrap64 (x1_1+1))+1))+1)))=false:=beq_eq_false_iff_ne.mpr c8
         have c8b1:(((jd l0 x5_1).f3) != (wrap64 ((wrap64 ((wrap64 (x1_1+1))+1))+1)))=true:=bne_iff_ne.mpr c8
         obtain rfl:=Option.some.inj H
         have p417:0≤(x5_1:Int):=ozD (uq)
         have q417:x5_1<(l0.length:Int):=ozD (uq)
         obtain ⟨ad417,e417,hx417_0,hx417_1,hx417_2,hx417_3⟩:=jAa HR0.out x5_1 p417 q417
         cases e417
         replace p417:=ezT p417
         replace q417:=ezT q417
         have p418:0≤(x5_1:Int):=ozD (uq)
         have q418:x5_1<(l0.length:Int):=ozD (uq)
         obtain ⟨ad418,e418,hx418_0,hx418_1,hx418_2,hx418_3⟩:=jAa HR0.out x5_1 p418 q418
         obtain rfl:ad417=ad418:=(by injection e418)
         replace p418:=ezT p418
         replace q418:=ezT q418
         have p419:0≤(x5_1:Int):=ozD (uq)
         have q419:x5_1<(l0.length:Int):=ozD (uq)
         obtain ⟨ad419,e419,hx419_0,hx419_1,hx419_2,hx419_3⟩:=jAa HR0.out x5_1 p419 q419
         obtain rfl:ad417=ad419:=(by injection e419)
         replace p419:=ezT p419
         replace q419:=ezT q419
         have p420:0≤(x5_1:Int):=ozD (uq)
         have q420:x5_1<(l0.length:Int):=ozD (uq)
         obtain ⟨ad420,e420,hx420_0,hx420_1,hx420_2,hx420_3⟩:=jAa HR0.out x5_1 p420 q420
         obtain rfl:ad417=ad420:=(by injection e420)
         replace p420:=ezT p420
         replace q420:=ezT q420
         go_wp2
         go_ret
         exact ⟨sq,Y2⟩
       ·rw [if_neg c7] at H
        have c7b0:(((jd l0 x5_1).f2) == (wrap64 ((wrap64 (x1_1+1))+1)))=false:=beq_eq_false_iff_ne.mpr c7
        have c7b1:(((jd l0 x5_1).f2) != (wrap64 ((wrap64 (x1_1+1))+1)))=true:=bne_iff_ne.mpr c7
        obtain rfl:=Option.some.inj H
        have p417:0≤(x5_1:Int):=ozD (uq)
        have q417:x5_1<(l0.length:Int):=ozD (uq)
        obtain ⟨ad417,e417,hx417_0,hx417_1,hx417_2,hx417_3⟩:=jAa HR0.out x5_1 p417 q417
        cases e417
        replace p417:=ezT p417
        replace q417:=ezT q417
        have p418:0≤(x5_1:Int):=ozD (uq)
        have q418:x5_1<(l0.length:Int):=ozD (uq)
        obtain ⟨ad418,e418,hx418_0,hx418_1,hx418_2,hx418_3⟩:=jAa HR0.out x5_1 p418 q418
        obtain rfl:ad417=ad418:=(by injection e418)
        replace p418:=ezT p418
        replace q418:=ezT q418
        have p419:0≤(x5_1:Int):=ozD (uq)
        have q419:x5_1<(l0.length:Int):=ozD (uq)
        obtain ⟨ad419,e419,hx419_0,hx419_1,hx419_2,hx419_3⟩:=jAa HR0.out x5_1 p419 q419
        obtain rfl:ad417=ad419:=(by injection e419)
        replace p419:=ezT p419
        replace q419:=ezT q419
        go_wp2
        go_ret
        exact ⟨sq,Y2⟩
      ·rw [if_neg c6] at H
       have c6b0:(((jd l0 x5_1).f1) == (wrap64 (x1_1+1)))=false:=beq_eq_false_iff_ne.mpr c6
       have c6b1:(((jd l0 x5_1).f1) != (wrap64 (x1_1+1)))=true:=bne_iff_ne.mpr c6
       obtain rfl:=Option.some.inj H
       have p417:0≤(x5_1:Int):=ozD (uq)
       have q417:x5_1<(l0.length:Int):=ozD (uq)
       obtain ⟨ad417,e417,hx417_0,hx417_1,hx417_2,hx417_3⟩:=jAa HR0.out x5_1 p417 q417
       cases e417
       replace p417:=ezT p417
       replace q417:=ezT q417
       have p418:0≤(x5_1:Int):=ozD (uq)
       have q418:x5_1<(l0.length:Int):=ozD (uq)
       obtain ⟨ad418,e418,hx418_0,hx418_1,hx418_2,hx418_3⟩:=jAa HR0.out x5_1 p418 q418
       obtain rfl:ad417=ad418:=(by injection e418)
       replace p418:=ezT p418
       replace q418:=ezT q418
       go_wp2
       go_ret
       exact ⟨sq,Y2⟩
     ·rw [if_neg c5] at H
      have c5b0:(((jd l0 x5_1).f0) == x1_1)=false:=beq_eq_false_iff_ne.mpr c5
      have c5b1:(((jd l0 x5_1).f0) != x1_1)=true:=bne_iff_ne.mpr c5
      obtain rfl:=Option.some.inj H
      have p417:0≤(x5_1:Int):=ozD (uq)
      have q417:x5_1<(l0.length:Int):=ozD (uq)
      obtain ⟨ad417,e417,hx417_0,hx417_1,hx417_2,hx417_3⟩:=jAa HR0.out x5_1 p417 q417
      cases e417
      replace p417:=ezT p417
      replace q417:=ezT q417
      go_wp2
      go_ret
      exact ⟨sq,Y2⟩
    ·rw [if_neg c4] at H
     exact absurd H (by simp)
   ·rw [if_neg c3] at H
    have c3b0:decide (x5_1<(l0.length:Int))=false:=dzF c3
    clear c3
    obtain rfl:=Option.some.inj H
    go_wp2
    go_ret
    exact ⟨sq,Y2⟩
mutual
def jb.j0 : Nat → List (S58) → List (S51) → Bool → List (S54) → List (S51) → Bool → Bool → List (S71) → Bool → Int → Int → List (S75) → Option (Bool)
 | 0,_,_,_,_,_,_,_,_,_,_,_,_=>none
 | k+1,x1,x8,x9,x11,x12,x13,x59,x422000,x423000,x423001,x423002,x442000=>if x59=true then (some false) else ((jFa.f k x422000).bind fun t453=>((jJb.f k x442000 t453).bind fun t456=>(if t456=true then ((jK.f k x1).bind fun t457=>((jba.f k x11 t457).bind fun t460=>(if t460=true then ((jXa.f k x442000 1).bind fun bt461=>((jW.f k x11 bt461.1).bind fun bt463=>(if bt463.1<0 then (jb.j1 k x1 x8 x9 x12 true x422000 x423000 x423001 x423002) else ((jD.f k x12 x8).bind fun t465=>(if t465=true then (jb.j1 k x1 x8 x9 x12 (x13 != x9) x422000 x423000 x423001 x423002) else (jb.j1 k x1 x8 x9 x12 true x422000 x423000 x423001 x423002)))))) else (some false)))) else (some false))))
def jb.j1 : Nat → List (S58) → List (S51) → Bool → List (S51) → Bool → List (S71) → Bool → Int → Int → Option (Bool)
 | 0,_,_,_,_,_,_,_,_,_=>none
 | k+1,x1,x8,x9,x12,x88,x422000,x423000,x423001,x423002=>if x88=true then (some false) else ((jsa.f k x12 1).bind fun bt466=>((jta.f k bt466.2 1).bind fun t468=>(if t468<0 then (some false) else (if t468=bt466.1 then ((jFa.f k x422000).bind fun t469=>((jK.f k x1).bind fun t472=>((jia.f x423000 x423001 x423002).bind fun bt475=>((jea.f k t469 t472 bt475.1 bt475.2.1 bt475.2.2).bind fun bt478=>((jD.f k bt478.1 x8).bind fun t482=>(if t482=true then (jb.j2 k bt466.2 bt466.1 (bt478.2 != x9)) else (jb.j2 k bt466.2 bt466.1 true))))))) else (some false)))))
def jb.j2 : Nat → List (S51) → Int → Bool → Option (Bool)
 | 0,_,_,_=>none
 | k+1,x12,x15,x118=>if x118=true then (some false) else ((jta.f k x12 1).bind fun t483=>(if t483<0 then (some false) else (if t483=x15 then (some true) else (some false))))
end
def jb.f (k : Nat) (l0_0 : List (S71)) (l1 : List (S58)) (a2_0 : Bool) (a2_1 : Int) (a2_2 : Int) : Option (Bool) := (jAb.f k l0_0 1048576).bind fun t423 => (if t423 < 0 then (some true) else ((jqb.f l1 t423).bind fun t424 => (if t424 < 0 then (some true) else ((jFa.f k l0_0).bind fun t425 => ((jK.f k l1).bind fun t428 => ((jia.f a2_0 a2_1 a2_2).bind fun bt431 => ((jJ.f k t425 t428 bt431.1 bt431.2.1 bt431.2.2).bind fun bt434 => ((jFa.f k l0_0).bind fun t438 => ((jK.f k l1).bind fun t442 => ((jia.f a2_0 a2_1 a2_2).bind fun bt445 => ((jea.f k t438 t442 bt445.1 bt445.2.1 bt445.2.2).bind fun bt448 => ((jD.f k bt448.1 bt434.1).bind fun t452 => (if t452 = true then (jb.j0 k l1 bt434.1 bt434.2 t442 bt448.1 bt448.2 (bt448.2 != bt434.2) l0_0 a2_0 a2_1 a2_2 t438) else (jb.j0 k l1 bt434.1 bt434.2 t442 bt448.1 bt448.2 true l0_0 a2_0 a2_1 a2_2 t438))))))))))))))
def jb.T8 : Bool × List (List Nat × List Nat) := (true, [([], []), ([0], [0]), ([], []), ([2, 1], [2]), ([], []), ([4, 3], [4]), ([1, 3, 5, 5], [1, 3, 5]), ([6], [6]), ([7], [7]), ([7], [7]), ([8, 6, 0, 1, 2, 3, 4, 5, 6, 7, 8], [8]), ([9, 10, 0, 1, 2, 3, 4, 5, 6, 7, 8, 9, 10], [9])])
def jb.B8 : List Nat := [0, 1, 0, 7, 0, 31, 63, 127, 255, 255, 511, 2047]
theorem jb.tab8 : rtab .any (opsOf Try.f3 8) = jb.T8 := by kernel_rfl
theorem jb.bits8 : jDc jb.T8.2 jb.B8 = true := by kernel_rfl
def jb.T11 : Bool × List (List Nat × List Nat) := (true, [([], []), ([], []), ([], []), ([2], [2]), ([0, 1, 3, 3], [0, 1, 3]), ([4], [4]), ([5], [5]), ([5], [5]), ([6, 4, 0, 1, 2, 3, 4, 5, 6], [6]), ([7, 8, 0, 1, 2, 3, 4, 5, 6, 7, 8], [7])])
def jb.B11 : List Nat := [0, 0, 0, 4, 15, 31, 63, 63, 127, 511]
theorem jb.tab11 : rtab .any (opsOf Try.f3 11) = jb.T11 := by kernel_rfl
theorem jb.bits11 : jDc jb.T11.2 jb.B11 = true := by kernel_rfl
def jb.T31 : Bool × List (List Nat × List Nat) := (true, [([], []), ([0], [0]), ([], []), ([2, 1], [2]), ([], []), ([4, 3], [4]), ([1, 3, 5, 5], [1, 3, 5]), ([6], [6]), ([7], [7]), ([7], [7]), ([8, 6, 0, 1, 2, 3, 4, 5, 6, 7, 8], [8]), ([9, 10, 0, 1, 2, 3, 4, 5, 6, 7, 8, 9, 10], [9])])
def jb.B31 : List Nat := [0, 1, 0, 7, 0, 31, 63, 127, 255, 255, 511, 2047]
theorem jb.tab31 : rtab .any (opsOf Try.f3 31) = jb.T31 := by kernel_rfl
theorem jb.bits31 : jDc jb.T31.2 jb.B31 = true := by kernel_rfl
set_option maxHeartbeats 8000000 in
set_option maxRecDepth 100000 in
theorem jb.calls (k : Nat) (A0_0 : Option Addr) (c0_0 : Nat) (l0_0 : List (S71)) (A1 : Option Addr) (c1 : Nat) (l1 : List (S58)) (a2_0 : Bool) (a2_1 : Int) (a2_2 : Int) (r : Bool) (w : World) (hr0_0 : Kd.C k71 w A0_0 l0_0.length l0_0) (hc0_0 : l0_0.length ≤ c0_0) (hr1 : Kd.C k58 w A1 l1.length l1) (hc1 : l1.length ≤ c1) (hT : r = true) (h : jb.f k l0_0 l1 a2_0 a2_1 a2_2 = some r) :
  Calls Try.prog 3 #[.agg #[.slice A0_0 l0_0.length c0_0], .slice A1 l1.length c1, .agg #[.bool a2_0, .int .i64 a2_1, .int .i64 a2_2]] w fun e w'=>e=.returned (.bool r)∧Below w.heap.size w w':=by
 have hu24:=Try.underlying24
 have hu27:=Try.underlying27
 have hu35:=Try.underlying35
 have HR0_0:=am hr0_0
 have HC0_0:=am hc0_0
 clear hr0_0 hc0_0
 have HR1:=am hr1
 have HC1:=am hc1
 clear hr1 hc1
 have HB:=am (Below.refl w.heap.size w)
 have H:((jAb.f k l0_0 1048576).bind fun t423=>(if t423<0 then (some true) else ((jqb.f l1 t423).bind fun t424=>(if t424<0 then (some true) else ((jFa.f k l0_0).bind fun t425=>((jK.f k l1).bind fun t428=>((jia.f a2_0 a2_1 a2_2).bind fun bt431=>((jJ.f k t425 t428 bt431.1 bt431.2.1 bt431.2.2).bind fun bt434=>((jFa.f k l0_0).bind fun t438=>((jK.f k l1).bind fun t442=>((jia.f a2_0 a2_1 a2_2).bind fun bt445=>((jea.f k t438 t442 bt445.1 bt445.2.1 bt445.2.2).bind fun bt448=>((jD.f k bt448.1 bt434.1).bind fun t452=>(if t452=true then (jb.j0 k l1 bt434.1 bt434.2 t442 bt448.1 bt448.2 (bt448.2 != bt434.2) l0_0 a2_0 a2_1 a2_2 t438) else (jb.j0 k l1 bt434.1 bt434.2 t442 bt448.1 bt448.2 true l0_0 a2_0 a2_1 a2_2 t438)))))))))))))))=some r:=h
 clear h
 replace H:=bzS H
 obtain ⟨t423,A40,H⟩:=H
 replace H:(if t423<0 then (some true) else ((jqb.f l1 t423).bind fun t424=>(if t424<0 then (some true) else ((jFa.f k l0_0).bind fun t425=>((jK.f k l1).bind fun t428=>((jia.f a2_0 a2_1 a2_2).bind fun bt431=>((jJ.f k t425 t428 bt431.1 bt431.2.1 bt431.2.2).bind fun bt434=>((jFa.f k l0_0).bind fun t438=>((jK.f k l1).bind fun t442=>((jia.f a2_0 a2_1 a2_2).bind fun bt445=>((jea.f k t438 t442 bt445.1 bt445.2.1 bt445.2.2).bind fun bt448=>((jD.f k bt448.1 bt434.1).bind fun t452=>(if t452=true then (jb.j0 k l1 bt434.1 bt434.2 t442 bt448.1 bt448.2 (bt448.2 != bt434.2) l0_0 a2_0 a2_1 a2_2 t438) else (jb.j0 k l1 bt434.1 bt434.2 t442 bt448.1 bt448.2 true l0_0 a2_0 a2_1 a2_2 t438))))))))))))))=some r:=H
 have A4:=am A40
 clear A40
 by_cases c5:t423<0
 ·rw [if_pos c5] at H
  have c5b0:decide (t423<0)=true:=dzT c5
  clear c5
  obtain rfl:=Option.some.inj H
  go_enter Try.func3,Try.ntmps3
  go_wp2_with (first |((with_reducible refine jB (N:=3) rfl ?_);refine bE (N:=3) (cs:=#[.slice A0_0 l0_0.length c0_0]) (t:=24) ?_;intro gb421 hg w6 hbox hb;have BK421:=am (hbox);have GW421:=am ((Y1:w.heap.size≤gb421));have GE421:=am ((Y1:w.heap.size≤gb421));replace HB:=am (jc (bq) hb);clear hb hbox hg) |((with_reducible refine jB (N:=5) rfl ?_);refine bE (N:=5) (cs:=#[.bool a2_0, .int .i64 a2_1, .int .i64 a2_2]) (t:=27) ?_;intro gb422 hg w7 hbox hb;have BK422:=am (hbox);have GW422:=am ((Y29:w.heap.size≤gb422));have GE422:=am ((Y29:w.heap.size≤gb422));have NB421_422:=am ((Y53:gb421≠gb422));have NB422_421:=am ((Y54:gb422≠gb421));replace BK421:=am (je (g:=gb421) (o:=.cells #[.slice A0_0 l0_0.length c0_0] 24 (0,0)) (kq BK421.out) hb);replace HB:=am (jc (Y66) hb);clear hb hbox hg;have hnb8:=NB421_422.out;have hnc8:=NB422_421.out;have hcz9_0:=bc0 BK421.out;have hfz9_0:=ja BK421.out 0) |((with_reducible refine jg (f:=4) rfl ?_);refine gL (some 21) Try.func4 #[.agg #[.slice A0_0 l0_0.length c0_0], .int .i64 1048576] ?_;(with_reducible refine (jAb.calls k _ _ l0_0 1048576 t423 _ ?side1 ?side2 A4.out).mono ?_);(case side1=>exact cq (Kd.jF HR0_0.out HB.out));(case side2=>exact HC0_0.out);rintro e w10 ⟨rfl,hb⟩;refine ⟨_,rfl,?_⟩;replace BK421:=am (je (g:=gb421) (o:=.cells #[.slice A0_0 l0_0.length c0_0] 24 (0,0)) (kq BK421.out) hb);replace BK422:=am (je (g:=gb422) (o:=.cells #[.bool a2_0, .int .i64 a2_1, .int .i64 a2_2] 27 (0,0)) (kq BK422.out) hb);replace HB:=am (jc (Y12) hb);(try clear hb);(try clear hb2);(try clear hk);(try clear hi)))
  go_ret
  exact ⟨Y0,Y12⟩
 ·rw [if_neg c5] at H
  have c5b0:decide (t423<0)=false:=dzF c5
  clear c5
  replace H:=bzS H
  obtain ⟨t424,A110,H⟩:=H
  replace H:(if t424<0 then (some true) else ((jFa.f k l0_0).bind fun t425=>((jK.f k l1).bind fun t428=>((jia.f a2_0 a2_1 a2_2).bind fun bt431=>((jJ.f k t425 t428 bt431.1 bt431.2.1 bt431.2.2).bind fun bt434=>((jFa.f k l0_0).bind fun t438=>((jK.f k l1).bind fun t442=>((jia.f a2_0 a2_1 a2_2).bind fun bt445=>((jea.f k t438 t442 bt445.1 bt445.2.1 bt445.2.2).bind fun bt448=>((jD.f k bt448.1 bt434.1).bind fun t452=>(if t452=true then (jb.j0 k l1 bt434.1 bt434.2 t442 bt448.1 bt448.2 (bt448.2 != bt434.2) l0_0 a2_0 a2_1 a2_2 t438) else (jb.j0 k l1 bt434.1 bt434.2 t442 bt448.1 bt448.2 true l0_0 a2_0 a2_1 a2_2 t438))))))))))))=some r:=H
  have A11:=am A110
  clear A110
  by_cases c12:t424<0
  ·rw [if_pos c12] at H
   have c12b0:decide (t424<0)=true:=dzT c12
   clear c12
   obtain rfl:=Option.some.inj H
   go_enter Try.func3,Try.ntmps3
   go_wp2_with (first |((with_reducible refine jB (N:=3) rfl ?_);refine bE (N:=3) (cs:=#[.slice A0_0 l0_0.length c0_0]) (t:=24) ?_;intro gb421 hg w13 hbox hb;have BK421:=am (hbox);have GW421:=am ((Y1:w.heap.size≤gb421));have GE421:=am ((Y1:w.heap.size≤gb421));replace HB:=am (jc (bq) hb);clear hb hbox hg) |((with_reducible refine jB (N:=5) rfl ?_);refine bE (N:=5) (cs:=#[.bool a2_0, .int .i64 a2_1, .int .i64 a2_2]) (t:=27) ?_;intro gb422 hg w14 hbox hb;have BK422:=am (hbox);have GW422:=am ((Y29:w.heap.size≤gb422));have GE422:=am ((Y29:w.heap.size≤gb422));have NB421_422:=am ((Y53:gb421≠gb422));have NB422_421:=am ((Y54:gb422≠gb421));replace BK421:=am (je (g:=gb421) (o:=.cells #[.slice A0_0 l0_0.length c0_0] 24 (0,0)) (kq BK421.out) hb);replace HB:=am (jc (Y66) hb);clear hb hbox hg;have hnb15:=NB421_422.out;have hnc15:=NB422_421.out;have hcz16_0:=bc0 BK421.out;have hfz16_0:=ja BK421.out 0) |((with_reducible refine jg (f:=4) rfl ?_);refine gL (some 21) Try.func4 #[.agg #[.slice A0_0 l0_0.length c0_0], .int .i64 1048576] ?_;(with_reducible refine (jAb.calls k _ _ l0_0 1048576 t423 _ ?side1 ?side2 A4.out).mono ?_);(case side1=>exact cq (Kd.jF HR0_0.out HB.out));(case side2=>exact HC0_0.out);rintro e w17 ⟨rfl,hb⟩;refine ⟨_,rfl,?_⟩;replace BK421:=am (je (g:=gb421) (o:=.cells #[.slice A0_0 l0_0.length c0_0] 24 (0,0)) (kq BK421.out) hb);replace BK422:=am (je (g:=gb422) (o:=.cells #[.bool a2_0, .int .i64 a2_1, .int .i64 a2_2] 27 (0,0)) (kq BK422.out) hb);replace HB:=am (jc (Y12) hb);(try clear hb);(try clear hb2);(try clear hk);(try clear hi)) |((with_reducible refine jg (f:=5) rfl ?_);refine gL (some 26) Try.func5 #[.slice A1 l1.length c1, .int .i64 t423] ?_;(with_reducible refine (jqb.calls _ _ l1 t423 t424 _ ?side1 ?side2 A11.out).mono ?_);(case side1=>exact cq (Kd.jF HR1.out HB.out));(case side2=>exact HC1.out);rintro e w' ⟨rfl,⟨nd,rfl⟩⟩;refine ⟨_,rfl,?_⟩))
   go_ret
   exact ⟨Y0,Y12⟩
  ·rw [if_neg c12] at H
   have c12b0:decide (t424<0)=false:=dzF c12
   clear c12
   replace H:=bzS H
   obtain ⟨t425,A180,H⟩:=H
   replace H:((jK.f k l1).bind fun t428=>((jia.f a2_0 a2_1 a2_2).bind fun bt431=>((jJ.f k t425 t428 bt431.1 bt431.2.1 bt431.2.2).bind fun bt434=>((jFa.f k l0_0).bind fun t438=>((jK.f k l1).bind fun t442=>((jia.f a2_0 a2_1 a2_2).bind fun bt445=>((jea.f k t438 t442 bt445.1 bt445.2.1 bt445.2.2).bind fun bt448=>((jD.f k bt448.1 bt434.1).bind fun t452=>(if t452=true then (jb.j0 k l1 bt434.1 bt434.2 t442 bt448.1 bt448.2 (bt448.2 != bt434.2) l0_0 a2_0 a2_1 a2_2 t438) else (jb.j0 k l1 bt434.1 bt434.2 t442 bt448.1 bt448.2 true l0_0 a2_0 a2_1 a2_2 t438))))))))))=some r:=H
   have A18:=am A180
   clear A180
   replace H:=bzS H
   obtain ⟨t428,A190,H⟩:=H
   replace H:((jia.f a2_0 a2_1 a2_2).bind fun bt431=>((jJ.f k t425 t428 bt431.1 bt431.2.1 bt431.2.2).bind fun bt434=>((jFa.f k l0_0).bind fun t438=>((jK.f k l1).bind fun t442=>((jia.f a2_0 a2_1 a2_2).bind fun bt445=>((jea.f k t438 t442 bt445.1 bt445.2.1 bt445.2.2).bind fun bt448=>((jD.f k bt448.1 bt434.1).bind fun t452=>(if t452=true then (jb.j0 k l1 bt434.1 bt434.2 t442 bt448.1 bt448.2 (bt448.2 != bt434.2) l0_0 a2_0 a2_1 a2_2 t438) else (jb.j0 k l1 bt434.1 bt434.2 t442 bt448.1 bt448.2 true l0_0 a2_0 a2_1 a2_2 t438)))))))))=some r:=H
   have A19:=am A190
   clear A190
   replace H:=bzS H
   obtain ⟨⟨t431,t432,t433⟩,A200,H⟩:=H
   replace H:((jJ.f k t425 t428 t431 t432 t433).bind fun bt434=>((jFa.f k l0_0).bind fun t438=>((jK.f k l1).bind fun t442=>((jia.f a2_0 a2_1 a2_2).bind fun bt445=>((jea.f k t438 t442 bt445.1 bt445.2.1 bt445.2.2).bind fun bt448=>((jD.f k bt448.1 bt434.1).bind fun t452=>(if t452=true then (jb.j0 k l1 bt434.1 bt434.2 t442 bt448.1 bt448.2 (bt448.2 != bt434.2) l0_0 a2_0 a2_1 a2_2 t438) else (jb.j0 k l1 bt434.1 bt434.2 t442 bt448.1 bt448.2 true l0_0 a2_0 a2_1 a2_2 t438))))))))=some r:=H
   have A20:=am A200
   clear A200
   replace H:=bzS H
   obtain ⟨⟨t434,t437⟩,A210,H⟩:=H
   replace H:((jFa.f k l0_0).bind fun t438=>((jK.f k l1).bind fun t442=>((jia.f a2_0 a2_1 a2_2).bind fun bt445=>((jea.f k t438 t442 bt445.1 bt445.2.1 bt445.2.2).bind fun bt448=>((jD.f k bt448.1 t434).bind fun t452=>(if t452=true then (jb.j0 k l1 t434 t437 t442 bt448.1 bt448.2 (bt448.2 != t437) l0_0 a2_0 a2_1 a2_2 t438) else (jb.j0 k l1 t434 t437 t442 bt448.1 bt448.2 true l0_0 a2_0 a2_1 a2_2 t438)))))))=some r:=H
   have A21:=am A210
   clear A210
   replace H:=bzS H
   obtain ⟨t438,A220,H⟩:=H
   replace H:((jK.f k l1).bind fun t442=>((jia.f a2_0 a2_1 a2_2).bind fun bt445=>((jea.f k t438 t442 bt445.1 bt445.2.1 bt445.2.2).bind fun bt448=>((jD.f k bt448.1 t434).bind fun t452=>(if t452=true then (jb.j0 k l1 t434 t437 t442 bt448.1 bt448.2 (bt448.2 != t437) l0_0 a2_0 a2_1 a2_2 t438) else (jb.j0 k l1 t434 t437 t442 bt448.1 bt448.2 true l0_0 a2_0 a2_1 a2_2 t438))))))=some r:=H
   have A22:=am A220
   clear A220
   replace H:=bzS H
   obtain ⟨t442,A230,H⟩:=H
   replace H:((jia.f a2_0 a2_1 a2_2).bind fun bt445=>((jea.f k t438 t442 bt445.1 bt445.2.1 bt445.2.2).bind fun bt448=>((jD.f k bt448.1 t434).bind fun t452=>(if t452=true then (jb.j0 k l1 t434 t437 t442 bt448.1 bt448.2 (bt448.2 != t437) l0_0 a2_0 a2_1 a2_2 t438) else (jb.j0 k l1 t434 t437 t442 bt448.1 bt448.2 true l0_0 a2_0 a2_1 a2_2 t438)))))=some r:=H
   have A23:=am A230
   clear A230
   replace H:=bzS H
   obtain ⟨⟨t445,t446,t447⟩,A240,H⟩:=H
   replace H:((jea.f k t438 t442 t445 t446 t447).bind fun bt448=>((jD.f k bt448.1 t434).bind fun t452=>(if t452=true then (jb.j0 k l1 t434 t437 t442 bt448.1 bt448.2 (bt448.2 != t437) l0_0 a2_0 a2_1 a2_2 t438) else (jb.j0 k l1 t434 t437 t442 bt448.1 bt448.2 true l0_0 a2_0 a2_1 a2_2 t438))))=some r:=H
   have A24:=am A240
   clear A240
   replace H:=bzS H
   obtain ⟨⟨t448,t451⟩,A250,H⟩:=H
   replace H:((jD.f k t448 t434).bind fun t452=>(if t452=true then (jb.j0 k l1 t434 t437 t442 t448 t451 (t451 != t437) l0_0 a2_0 a2_1 a2_2 t438) else (jb.j0 k l1 t434 t437 t442 t448 t451 true l0_0 a2_0 a2_1 a2_2 t438)))=some r:=H
   have A25:=am A250
   clear A250
   have HC26:=am H
   clear H
   go_enter Try.func3,Try.ntmps3
   try go_wp2_with (first |((with_reducible refine jB (N:=3) rfl ?_);refine bE (N:=3) (cs:=#[.slice A0_0 l0_0.length c0_0]) (t:=24) ?_;intro gb421 hg w27 hbox hb;have BK421:=am (hbox);have GW421:=am ((Y1:w.heap.size≤gb421));have GE421:=am ((Y1:w.heap.size≤gb421));replace HB:=am (jc (bq) hb);clear hb hbox hg) |((with_reducible refine jB (N:=5) rfl ?_);refine bE (N:=5) (cs:=#[.bool a2_0, .int .i64 a2_1, .int .i64 a2_2]) (t:=27) ?_;intro gb422 hg w28 hbox hb;have BK422:=am (hbox);have GW422:=am ((Y29:w.heap.size≤gb422));have GE422:=am ((Y29:w.heap.size≤gb422));have NB421_422:=am ((Y53:gb421≠gb422));have NB422_421:=am ((Y54:gb422≠gb421));replace BK421:=am (je (g:=gb421) (o:=.cells #[.slice A0_0 l0_0.length c0_0] 24 (0,0)) (kq BK421.out) hb);replace HB:=am (jc (Y66) hb);clear hb hbox hg;have hnb29:=NB421_422.out;have hnc29:=NB422_421.out;have hcz30_0:=bc0 BK421.out;have hfz30_0:=ja BK421.out 0) |((with_reducible refine jg (f:=4) rfl ?_);refine gL (some 21) Try.func4 #[.agg #[.slice A0_0 l0_0.length c0_0], .int .i64 1048576] ?_;(with_reducible refine (jAb.calls k _ _ l0_0 1048576 t423 _ ?side1 ?side2 A4.out).mono ?_);(case side1=>exact cq (Kd.jF HR0_0.out HB.out));(case side2=>exact HC0_0.out);rintro e w31 ⟨rfl,hb⟩;refine ⟨_,rfl,?_⟩;replace BK421:=am (je (g:=gb421) (o:=.cells #[.slice A0_0 l0_0.length c0_0] 24 (0,0)) (kq BK421.out) hb);replace BK422:=am (je (g:=gb422) (o:=.cells #[.bool a2_0, .int .i64 a2_1, .int .i64 a2_2] 27 (0,0)) (kq BK422.out) hb);replace HB:=am (jc (Y12) hb);(try clear hb);(try clear hb2);(try clear hk);(try clear hi)) |((with_reducible refine jg (f:=5) rfl ?_);refine gL (some 26) Try.func5 #[.slice A1 l1.length c1, .int .i64 t423] ?_;(with_reducible refine (jqb.calls _ _ l1 t423 t424 _ ?side1 ?side2 A11.out).mono ?_);(case side1=>exact cq (Kd.jF HR1.out HB.out));(case side2=>exact HC1.out);rintro e w' ⟨rfl,⟨nd,rfl⟩⟩;refine ⟨_,rfl,?_⟩;(try (rw [drewN_self w31];generalize hq_:World.drewN w31 _=w31;have n0_:jq (w31.heap[gb421]?=some (.cells #[.slice A0_0 l0_0.length c0_0] 24 (0,0))):=⟨by rw [← hq_];exact (kq BK421.out)⟩;have n1_:jq (w31.heap[gb422]?=some (.cells #[.bool a2_0, .int .i64 a2_1, .int .i64 a2_2] 27 (0,0))):=⟨by rw [← hq_];exact (kq BK422.out)⟩;have n2_:jq (Below w.heap.size w w31):=⟨by rw [← hq_];exact (Y12)⟩;clear BK421 BK422 HB hq_;have BK421:=n0_;have BK422:=n1_;have HB:=n2_;clear n0_ n1_ n2_))))
   replace BK421:=am (jS BK421.out)
   replace BK422:=am (jS BK422.out)
   replace HB:=am (jm HB.out)
   refine jxc (n:=12) (S:=fun w'=>w'.cell? ⟨gb421,0,none⟩=some (.slice A0_0 l0_0.length c0_0)∧w'.cell? ⟨gb422,0,none⟩=some (.bool a2_0)∧w'.cell? ⟨gb422,1,none⟩=some (.int .i64 a2_1)∧w'.cell? ⟨gb422,2,none⟩=some (.int .i64 a2_2)) (ds:=[]) #[false,false,false,false,false,false,false,false,false,false,false,false] (by kernel_rfl) rfl rfl ⟨(jr BK421.out 0).trans rfl,(jr BK422.out 0).trans rfl,(jr BK422.out 1).trans rfl,(jr BK422.out 2).trans rfl⟩ (fun hHeld=>?_);refine jWb jb.tab8 jb.bits8 (fun HT_ HW_=>?_)
   generalize w31.drew=w32 at BK421 BK422 HB hHeld ⊢
   refine pq (i:=2) (N:=some 32) #[false,false,true,false,false,false,false,false,false,false,false,false] ?_
   refine jcc (i:=0) (N:=some 30) (v:=?_) (a':=?_) #[true,false,true,false,false,false,false,false,false,false,false,false] rfl rfl (jnb HT_.out HW_.out (by kernel_rfl)) (fun _ _ _ h=>h) (Or.inl ⟨by rfl,?_⟩) hHeld ?_ ?_
   rotate_left
   ·rintro w' ⟨s0,s1,s2,s3⟩
    go_simp
    with_reducible rfl
   rotate_left
   ·exact sa
   refine jcc (i:=4) (N:=some 34) (v:=?_) (a':=?_) #[true,false,true,false,true,false,false,false,false,false,false,false] rfl rfl (jnb HT_.out HW_.out (by kernel_rfl)) (fun _ _ _ h=>h) (Or.inl ⟨by rfl,?_⟩) hHeld ?_ ?_
   rotate_left
   ·rintro w' ⟨s0,s1,s2,s3⟩
    go_simp
    with_reducible rfl
   rotate_left
   ·exact sa
   refine one_ (i:=1) (N:=some 31) #[true,true,true,false,true,false,false,false,false,false,false,false] rfl rfl (joc HT_.out (by kernel_rfl)) (by decide) (fun K hK=>?_)
   refine jqc Try.func7 (by kernel_rfl) rfl #[.agg #[.slice A0_0 l0_0.length c0_0]] (by rfl) rfl rfl (aq) ?_
   with_reducible refine (jFa.calls k _ _ l0_0 t425 _ ?side1 ?side2 A18.out).mono ?_
   (case side1=>exact cq (Kd.jF HR0_0.out HB.out))
   (case side2=>exact HC0_0.out)
   rintro e w33 ⟨v426,rfl,ho0,hb⟩
   refine ⟨_,rfl,?_⟩
   have HO427:=am (Kd.jra ho0 (jv (Y12)))
   replace BK421:=am (je (g:=gb421) (o:=.cells #[.slice A0_0 l0_0.length c0_0] 24 (0,0)) (kq BK421.out) hb)
   replace BK422:=am (je (g:=gb422) (o:=.cells #[.bool a2_0, .int .i64 a2_1, .int .i64 a2_2] 27 (0,0)) (kq BK422.out) hb)
   replace HB:=am (jc (Y12) hb)
   (try clear hb)
   (try clear hb2)
   (try clear hk)
   (try clear hi)
   (try clear ho0)
   refine hK.out _ _ ⟨(jr BK421.out 0).trans rfl,(jr BK422.out 0).trans rfl,(jr BK422.out 1).trans rfl,(jr BK422.out 2).trans rfl⟩ (fun hHeld=>?_)
   clear hK K
   refine jGb (a':=?_) ?_ ?_
   rotate_left
   ·show Act.put _ (some 31) _=_
    simp only [Act.put,List.setIfInBounds_toArray,List.set_cons_zero,List.set_cons_succ,jcb,jdb]
    rfl
   refine one_ (i:=3) (N:=some 33) #[true,true,true,true,true,false,false,false,false,false,false,false] rfl rfl (joc HT_.out (by kernel_rfl)) (by decide) (fun K hK=>?_)
   refine jqc Try.func8 (by kernel_rfl) rfl #[.slice A1 l1.length c1] (by rfl) rfl rfl (aq) ?_
   with_reducible refine (jK.calls k _ _ l1 t428 _ ?side1 ?side2 A19.out).mono ?_
   (case side1=>exact cq (Kd.jF HR1.out HB.out))
   (case side2=>exact HC1.out)
   rintro e w34 ⟨v429,rfl,ho0,hb⟩
   refine ⟨_,rfl,?_⟩
   have HO430:=am (Kd.jra ho0 (jv (Y12)))
   replace HO427:=am (Kd.jH (rq HO427.out) hb)
   replace BK421:=am (je (g:=gb421) (o:=.cells #[.slice A0_0 l0_0.length c0_0] 24 (0,0)) (kq BK421.out) hb)
   replace BK422:=am (je (g:=gb422) (o:=.cells #[.bool a2_0, .int .i64 a2_1, .int .i64 a2_2] 27 (0,0)) (kq BK422.out) hb)
   replace HB:=am (jc (Y12) hb)
   (try clear hb)
   (try clear hb2)
   (try clear hk)
   (try clear hi)
   (try clear ho0)
   refine hK.out _ _ ⟨(jr BK421.out 0).trans rfl,(jr BK422.out 0).trans rfl,(jr BK422.out 1).trans rfl,(jr BK422.out 2).trans rfl⟩ (fun hHeld=>?_)
   clear hK K
   refine jGb (a':=?_) ?_ ?_
   rotate_left
   ·show Act.put _ (some 33) _=_
    simp only [Act.put,List.setIfInBounds_toArray,List.set_cons_zero,List.set_cons_succ,jcb,jdb]
    rfl
   refine one_ (i:=5) (N:=some 35) #[true,true,true,true,true,true,false,false,false,false,false,false] rfl rfl (joc HT_.out (by kernel_rfl)) (by decide) (fun K hK=>?_)
   refine jqc Try.func9 (by kernel_rfl) rfl #[.agg #[.bool a2_0, .int .i64 a2_1, .int .i64 a2_2]] (by rfl) rfl rfl (aq) ?_
   with_reducible refine (jia.calls a2_0 a2_1 a2_2 t431 t432 t433 _ A20.out).mono ?_
   rintro e w35 ⟨rfl,hb⟩
   refine ⟨_,rfl,?_⟩
   replace HO427:=am (Kd.jH (rq HO427.out) hb)
   replace HO430:=am (Kd.jH (rq HO430.out) hb)
   replace BK421:=am (je (g:=gb421) (o:=.cells #[.slice A0_0 l0_0.length c0_0] 24 (0,0)) (kq BK421.out) hb)
   replace BK422:=am (je (g:=gb422) (o:=.cells #[.bool a2_0, .int .i64 a2_1, .int .i64 a2_2] 27 (0,0)) (kq BK422.out) hb)
   replace HB:=am (jc (Y12) hb)
   (try clear hb)
   (try clear hb2)
   (try clear hk)
   (try clear hi)
   obtain ⟨Ao36,co36,eo36⟩:=Kd.jga HO427.out
   (first | subst eo36 |(injection eo36 with f1_ f2_ f3_;have f4_:=f1_.symm;have f5_:=f3_.symm;clear f1_ f2_ f3_;subst f4_;subst f5_))
   obtain ⟨Ao37,co37,eo37⟩:=Kd.jga HO430.out
   (first | subst eo37 |(injection eo37 with f1_ f2_ f3_;have f4_:=f1_.symm;have f5_:=f3_.symm;clear f1_ f2_ f3_;subst f4_;subst f5_))
   refine hK.out _ _ ⟨(jr BK421.out 0).trans rfl,(jr BK422.out 0).trans rfl,(jr BK422.out 1).trans rfl,(jr BK422.out 2).trans rfl⟩ (fun hHeld=>?_)
   clear hK K
   refine jGb (a':=?_) ?_ ?_
   rotate_left
   ·show Act.put _ (some 35) _=_
    simp only [Act.put,List.setIfInBounds_toArray,List.set_cons_zero,List.set_cons_succ,jcb,jdb]
    rfl
   refine one_ (i:=6) (N:=some 36) #[true,true,true,true,true,true,true,false,false,false,false,false] rfl rfl (joc HT_.out (by kernel_rfl)) (by decide) (fun K hK=>?_)
   refine jqc Try.func6 (by kernel_rfl) rfl #[.agg #[.slice Ao36 t425.length co36], .slice Ao37 t428.length co37, .agg #[.bool t431, .int .i64 t432, .int .i64 t433]] (by rfl) rfl rfl (aq) ?_
   with_reducible refine (jJ.calls k _ _ t425 _ _ t428 t431 t432 t433 t434 t437 _ ?side1 ?side2 ?side3 ?side4 A21.out).mono ?_
   (case side1=>exact cq (Kd.jw HO427.out).2.2)
   (case side2=>exact (Kd.jw HO427.out).2.1)
   (case side3=>exact cq (Kd.jw HO430.out).2.2)
   (case side4=>exact (Kd.jw HO430.out).2.1)
   rintro e w38 ⟨v435,rfl,ho0,hb⟩
   refine ⟨_,rfl,?_⟩
   have HO436:=am (Kd.jra ho0 (jv (Y12)))
   replace HO427:=am (Kd.jH (rq HO427.out) hb)
   replace HO430:=am (Kd.jH (rq HO430.out) hb)
   replace BK421:=am (je (g:=gb421) (o:=.cells #[.slice A0_0 l0_0.length c0_0] 24 (0,0)) (kq BK421.out) hb)
   replace BK422:=am (je (g:=gb422) (o:=.cells #[.bool a2_0, .int .i64 a2_1, .int .i64 a2_2] 27 (0,0)) (kq BK422.out) hb)
   replace HB:=am (jc (Y12) hb)
   (try clear hb)
   (try clear hb2)
   (try clear hk)
   (try clear hi)
   (try clear ho0)
   refine hK.out _ _ ⟨(jr BK421.out 0).trans rfl,(jr BK422.out 0).trans rfl,(jr BK422.out 1).trans rfl,(jr BK422.out 2).trans rfl⟩ (fun hHeld=>?_)
   clear hK K
   refine jGb (a':=?_) ?_ ?_
   rotate_left
   ·show Act.put _ (some 36) _=_
    simp only [Act.put,List.setIfInBounds_toArray,List.set_cons_zero,List.set_cons_succ,jcb,jdb]
    rfl
   refine pq (i:=7) (N:=some 29) #[true,true,true,true,true,true,true,true,false,false,false,false] ?_
   refine pq (i:=8) (N:=some 37) #[true,true,true,true,true,true,true,true,true,false,false,false] ?_
   refine pq (i:=9) (N:=some 38) #[true,true,true,true,true,true,true,true,true,true,false,false] ?_
   refine pq (i:=10) (N:=some 8) #[true,true,true,true,true,true,true,true,true,true,true,false] ?_
   refine pq (i:=11) (N:=some 9) #[true,true,true,true,true,true,true,true,true,true,true,true] ?_
   refine done_ (jKc HT_.out (by kernel_rfl)) ?_
   have hcz39_0:=bc0 BK421.out
   have hfz39_0:=ja BK421.out 0
   try go_wp2_with (first |((with_reducible refine jg (f:=7) rfl ?_);refine gL (some 40) Try.func7 #[.agg #[.slice A0_0 l0_0.length c0_0]] ?_;(with_reducible refine (jFa.calls k _ _ l0_0 t438 _ ?side1 ?side2 A22.out).mono ?_);(case side1=>exact cq (Kd.jF HR0_0.out HB.out));(case side2=>exact HC0_0.out);rintro e w40 ⟨v439,rfl,ho0,hb⟩;refine ⟨_,rfl,?_⟩;have HO440:=am (Kd.jra (Kd.jBb ho0 (Kd.R_lt (rq HO427.out))) (jv (Y12)));replace HO427:=am (Kd.jYa (rq HO427.out) (Kd.jlb ho0) hb);replace HO430:=am (Kd.jH (rq HO430.out) hb);replace HO436:=am (Kd.jH (rq HO436.out) hb);replace BK421:=am (je (g:=gb421) (o:=.cells #[.slice A0_0 l0_0.length c0_0] 24 (0,0)) (kq BK421.out) hb);replace BK422:=am (je (g:=gb422) (o:=.cells #[.bool a2_0, .int .i64 a2_1, .int .i64 a2_2] 27 (0,0)) (kq BK422.out) hb);replace HB:=am (jc (Y12) hb);(try clear hb);(try clear hb2);(try clear hk);(try clear hi);(try clear ho0)) |((with_reducible refine jB (N:=10) rfl ?_);refine bE (N:=10) (cs:=#[.slice none 0 0]) (t:=35) ?_;intro gb441 hg w41 hbox hb;have BK441:=am (hbox);have GW441:=am ((Y94:w.heap.size≤gb441));have GE441:=am ((Y94:w.heap.size≤gb441));have NB421_441:=am ((Y53:gb421≠gb441));have NB441_421:=am ((Y54:gb441≠gb421));have NB422_441:=am ((by rw [hg];exact Nat.ne_of_lt (jza (g:=gb422) (o:=.cells #[.bool a2_0, .int .i64 a2_1, .int .i64 a2_2] 27 (0,0)) (kq BK422.out)):gb422≠gb441));have NB441_422:=am ((by rw [hg];exact Nat.ne_of_gt (jza (g:=gb422) (o:=.cells #[.bool a2_0, .int .i64 a2_1, .int .i64 a2_2] 27 (0,0)) (kq BK422.out)):gb441≠gb422));replace HO427:=am (Kd.jH (rq HO427.out) hb);replace HO430:=am (Kd.jH (rq HO430.out) hb);replace HO436:=am (Kd.jH (rq HO436.out) hb);replace HO440:=am (Kd.jH (rq HO440.out) hb);replace BK421:=am (je (g:=gb421) (o:=.cells #[.slice A0_0 l0_0.length c0_0] 24 (0,0)) (kq BK421.out) hb);replace BK422:=am (je (g:=gb422) (o:=.cells #[.bool a2_0, .int .i64 a2_1, .int .i64 a2_2] 27 (0,0)) (kq BK422.out) hb);replace HB:=am (jc (Y12) hb);clear hb hbox hg;obtain ⟨Ao42,co42,eo42⟩:=Kd.jga HO440.out;subst eo42;have hnb43:=NB441_421.out;have hnc43:=NB421_441.out;have hnb44:=NB441_422.out;have hnc44:=NB422_441.out;have hcz45_0:=bc0 BK441.out;have hfz45_0:=ja BK441.out 0) |((with_reducible refine jg (f:=8) rfl ?_);refine gL (some 42) Try.func8 #[.slice A1 l1.length c1] ?_;(with_reducible refine (jK.calls k _ _ l1 t442 _ ?side1 ?side2 A23.out).mono ?_);(case side1=>exact Kd.jF HR1.out (Y3));(case side2=>exact HC1.out);rintro e w46 ⟨v443,rfl,ho0,hb⟩;refine ⟨_,rfl,?_⟩;have HO444:=am (Kd.jra (Kd.jBb ho0 (Kd.R_lt (Y95))) (jv (Y3)));replace HO427:=am (Kd.jH (by (with_reducible repeat (first | apply Kd.jGa | apply Kd.jKa | apply Kd.jLa));exact (Kd.jca (Kd.R_far (p:=⟨gb441,0,none⟩) (Kd.R_types HO427.out BK441.out (by decide)) (fun _ hk=>hk.2) (.slice Ao42 t438.length co42)) (fun _ h_=>h_.1))) hb);replace HO430:=am (Kd.jYa (Y95) (Kd.jlb ho0) hb);replace HO436:=am (Kd.jH (by (with_reducible repeat (first | apply Kd.jGa | apply Kd.jKa | apply Kd.jLa));exact (Kd.jca (Kd.R_far (p:=⟨gb441,0,none⟩) (Kd.R_types HO436.out BK441.out (by decide)) (fun _ hk=>hk.2) (.slice Ao42 t438.length co42)) (fun _ h_=>h_.1))) hb);replace HO440:=am (Kd.jH (by (with_reducible repeat (first | apply Kd.jGa | apply Kd.jKa | apply Kd.jLa));exact (Kd.jca (Kd.R_far (p:=⟨gb441,0,none⟩) (Kd.R_types HO440.out BK441.out (by decide)) (fun _ hk=>hk.2) (.slice Ao42 t438.length co42)) (fun _ h_=>h_.1))) hb);replace BK421:=am (je (g:=gb421) (o:=.cells #[.slice A0_0 l0_0.length c0_0] 24 (0,0)) (by (with_reducible repeat (first | refine jL ?_ _ | refine jS ?_ | refine jT ?_ _));refine jKb ?_ NB421_441.out _;(with_reducible repeat (first | refine jL ?_ _ | refine jS ?_ | refine jT ?_ _));exact BK421.out) hb);replace BK422:=am (je (g:=gb422) (o:=.cells #[.bool a2_0, .int .i64 a2_1, .int .i64 a2_2] 27 (0,0)) (by (with_reducible repeat (first | refine jL ?_ _ | refine jS ?_ | refine jT ?_ _));refine jKb ?_ NB422_441.out _;(with_reducible repeat (first | refine jL ?_ _ | refine jS ?_ | refine jT ?_ _));exact BK422.out) hb);replace BK441:=am (je (g:=gb441) (o:=.cells #[.slice Ao42 t438.length co42] 35 (0,0)) (by (with_reducible repeat (first | refine jL ?_ _ | refine jS ?_ | refine jT ?_ _));refine jub (cs:=#[.slice none 0 0]) ?_ 0 _ rfl;(with_reducible repeat (first | refine jL ?_ _ | refine jS ?_ | refine jT ?_ _));exact BK441.out) hb);replace HB:=am (jc (Y3) hb);(try clear hb);(try clear hb2);(try clear hk);(try clear hi);(try clear ho0)))
   replace HO427:=am (Kd.jLa HO427.out)
   replace HO430:=am (Kd.jLa HO430.out)
   replace HO436:=am (Kd.jLa HO436.out)
   replace HO440:=am (Kd.jLa HO440.out)
   replace HO444:=am (Kd.jLa HO444.out)
   replace BK421:=am (jS BK421.out)
   replace BK422:=am (jS BK422.out)
   replace BK441:=am (jS BK441.out)
   replace HB:=am (jm HB.out)
   refine jxc (n:=10) (S:=fun w'=>w'.cell? ⟨gb441,0,none⟩=some (.slice Ao42 t438.length co42)∧w'.cell? ⟨gb422,0,none⟩=some (.bool a2_0)∧w'.cell? ⟨gb422,1,none⟩=some (.int .i64 a2_1)∧w'.cell? ⟨gb422,2,none⟩=some (.int .i64 a2_2)) (ds:=[]) #[false,false,false,false,false,false,false,false,false,false] (by kernel_rfl) rfl rfl ⟨(jr BK441.out 0).trans rfl,(jr BK422.out 0).trans rfl,(jr BK422.out 1).trans rfl,(jr BK422.out 2).trans rfl⟩ (fun hHeld=>?_);refine jWb jb.tab11 jb.bits11 (fun HT_ HW_=>?_)
   generalize w46.drew=w47 at HO427 HO430 HO436 HO440 HO444 BK421 BK422 BK441 HB hHeld ⊢
   refine pq (i:=1) (N:=some 45) #[false,true,false,false,false,false,false,false,false,false] ?_
   refine jcc (i:=0) (N:=some 44) (v:=?_) (a':=?_) #[true,true,false,false,false,false,false,false,false,false] rfl rfl (jnb HT_.out HW_.out (by kernel_rfl)) (fun _ _ _ h=>h) (Or.inl ⟨by rfl,?_⟩) hHeld ?_ ?_
   rotate_left
   ·rintro w' ⟨s0,s1,s2,s3⟩
    go_simp
    with_reducible rfl
   rotate_left
   ·exact sa
   refine jcc (i:=2) (N:=some 46) (v:=?_) (a':=?_) #[true,true,true,false,false,false,false,false,false,false] rfl rfl (jnb HT_.out HW_.out (by kernel_rfl)) (fun _ _ _ h=>h) (Or.inl ⟨by rfl,?_⟩) hHeld ?_ ?_
   rotate_left
   ·rintro w' ⟨s0,s1,s2,s3⟩
    go_simp
    with_reducible rfl
   rotate_left
   ·exact sa
   refine one_ (i:=3) (N:=some 47) #[true,true,true,true,false,false,false,false,false,false] rfl rfl (joc HT_.out (by kernel_rfl)) (by decide) (fun K hK=>?_)
   refine jqc Try.func9 (by kernel_rfl) rfl #[.agg #[.bool a2_0, .int .i64 a2_1, .int .i64 a2_2]] (by rfl) rfl rfl (aq) ?_
   with_reducible refine (jia.calls a2_0 a2_1 a2_2 t445 t446 t447 _ A24.out).mono ?_
   rintro e w48 ⟨rfl,hb⟩
   refine ⟨_,rfl,?_⟩
   replace HO427:=am (Kd.jH (rq HO427.out) hb)
   replace HO430:=am (Kd.jH (rq HO430.out) hb)
   replace HO436:=am (Kd.jH (rq HO436.out) hb)
   replace HO440:=am (Kd.jH (rq HO440.out) hb)
   replace HO444:=am (Kd.jH (rq HO444.out) hb)
   replace BK421:=am (je (g:=gb421) (o:=.cells #[.slice A0_0 l0_0.length c0_0] 24 (0,0)) (kq BK421.out) hb)
   replace BK422:=am (je (g:=gb422) (o:=.cells #[.bool a2_0, .int .i64 a2_1, .int .i64 a2_2] 27 (0,0)) (kq BK422.out) hb)
   replace BK441:=am (je (g:=gb441) (o:=.cells #[.slice Ao42 t438.length co42] 35 (0,0)) (kq BK441.out) hb)
   replace HB:=am (jc (Y3) hb)
   (try clear hb)
   (try clear hb2)
   (try clear hk)
   (try clear hi)
   obtain ⟨Ao49,co49,eo49⟩:=Kd.jga HO444.out
   (first | subst eo49 |(injection eo49 with f1_ f2_ f3_;have f4_:=f1_.symm;have f5_:=f3_.symm;clear f1_ f2_ f3_;subst f4_;subst f5_))
   refine hK.out _ _ ⟨(jr BK441.out 0).trans rfl,(jr BK422.out 0).trans rfl,(jr BK422.out 1).trans rfl,(jr BK422.out 2).trans rfl⟩ (fun hHeld=>?_)
   clear hK K
   refine jGb (a':=?_) ?_ ?_
   rotate_left
   ·show Act.put _ (some 47) _=_
    simp only [Act.put,List.setIfInBounds_toArray,List.set_cons_zero,List.set_cons_succ,jcb,jdb]
    rfl
   refine one_ (i:=4) (N:=some 48) #[true,true,true,true,true,false,false,false,false,false] rfl rfl (joc HT_.out (by kernel_rfl)) (by decide) (fun K hK=>?_)
   refine jqc Try.func10 (by kernel_rfl) rfl #[.agg #[.slice Ao42 t438.length co42], .slice Ao49 t442.length co49, .agg #[.bool t445, .int .i64 t446, .int .i64 t447]] (by rfl) rfl rfl (aq) ?_
   with_reducible refine (jea.calls k _ _ t438 _ _ t442 t445 t446 t447 t448 t451 _ ?side1 ?side2 ?side3 ?side4 A25.out).mono ?_
   (case side1=>exact cq (Kd.jw HO440.out).2.2)
   (case side2=>exact (Kd.jw HO440.out).2.1)
   (case side3=>exact cq (Kd.jw HO444.out).2.2)
   (case side4=>exact (Kd.jw HO444.out).2.1)
   rintro e w50 ⟨v449,rfl,ho0,hb⟩
   refine ⟨_,rfl,?_⟩
   have HO450:=am (Kd.jra (Kd.jBb ho0 (Kd.R_lt (rq HO436.out))) (jv (Y3)))
   replace HO427:=am (Kd.jH (rq HO427.out) hb)
   replace HO430:=am (Kd.jH (rq HO430.out) hb)
   replace HO436:=am (Kd.jYa (rq HO436.out) (Kd.jlb ho0) hb)
   replace HO440:=am (Kd.jH (rq HO440.out) hb)
   replace HO444:=am (Kd.jH (rq HO444.out) hb)
   replace BK421:=am (je (g:=gb421) (o:=.cells #[.slice A0_0 l0_0.length c0_0] 24 (0,0)) (kq BK421.out) hb)
   replace BK422:=am (je (g:=gb422) (o:=.cells #[.bool a2_0, .int .i64 a2_1, .int .i64 a2_2] 27 (0,0)) (kq BK422.out) hb)
   replace BK441:=am (je (g:=gb441) (o:=.cells #[.slice Ao42 t438.length co42] 35 (0,0)) (kq BK441.out) hb)
   replace HB:=am (jc (Y3) hb)
   (try clear hb)
   (try clear hb2)
   (try clear hk)
   (try clear hi)
   (try clear ho0)
   refine hK.out _ _ ⟨(jr BK441.out 0).trans rfl,(jr BK422.out 0).trans rfl,(jr BK422.out 1).trans rfl,(jr BK422.out 2).trans rfl⟩ (fun hHeld=>?_)
   clear hK K
   refine jGb (a':=?_) ?_ ?_
   rotate_left
   ·show Act.put _ (some 48) _=_
    simp only [Act.put,List.setIfInBounds_toArray,List.set_cons_zero,List.set_cons_succ,jcb,jdb]
    rfl
   refine pq (i:=5) (N:=some 43) #[true,true,true,true,true,true,false,false,false,false] ?_
   refine pq (i:=6) (N:=some 49) #[true,true,true,true,true,true,true,false,false,false] ?_
   refine pq (i:=7) (N:=some 50) #[true,true,true,true,true,true,true,true,false,false] ?_
   refine pq (i:=8) (N:=some 12) #[true,true,true,true,true,true,true,true,true,false] ?_
   refine pq (i:=9) (N:=some 13) #[true,true,true,true,true,true,true,true,true,true] ?_
   refine done_ (jKc HT_.out (by kernel_rfl)) ?_
   go_upto_region 12 with (fail)
   go_cut [59] (fun v59 wc=>∃ (kq:Nat) (x59_25:Bool),v59=.bool x59_25∧jq (jb.j0 kq l1 t434 t437 t442 t448 t451 x59_25 l0_0 a2_0 a2_1 a2_2 t438=some r)∧jq (kq≤k)∧jq (Kd.R k51 51 wc w.heap.size (fun k_=>some k_≠(v449:Value).ownBlock) v435 t434)∧jq (Kd.R k54 54 wc w.heap.size (fun _=>True) (.slice Ao49 t442.length co49) t442)∧jq (Kd.R k51 51 wc w.heap.size (fun k_=>some k_≠(v435:Value).ownBlock) v449 t448)∧jq (Kd.R k75 75 wc w.heap.size (fun _=>True) (.slice Ao42 t438.length co42) t438)∧jq (wc.heap[gb421]?=some (.cells #[(.slice A0_0 l0_0.length c0_0)] 24 (0,0)))∧jq (wc.heap[gb422]?=some (.cells #[.bool a2_0, .int .i64 a2_1, .int .i64 a2_2] 27 (0,0)))∧jq (wc.heap[gb441]?=some (.cells #[(.slice Ao42 t438.length co42)] 35 (0,0)))∧jq (Below w.heap.size w wc))
   case first =>
    have H:=HC26.out
    clear HC26
    replace H:=bzS H
    obtain ⟨t452,A510,H⟩:=H
    replace H:(if t452=true then (jb.j0 k l1 t434 t437 t442 t448 t451 (t451 != t437) l0_0 a2_0 a2_1 a2_2 t438) else (jb.j0 k l1 t434 t437 t442 t448 t451 true l0_0 a2_0 a2_1 a2_2 t438))=some r:=H
    have A51:=am A510
    clear A510
    by_cases c52:t452=true
    ·subst c52
     have H1:(jb.j0 k l1 t434 t437 t442 t448 t451 (t451 != t437) l0_0 a2_0 a2_1 a2_2 t438)=some r:=by rw [if_pos rfl] at H;exact H
     clear H
     have H:=H1
     clear H1
     have H':=am H
     clear H
     obtain ⟨Ao53,co53,eo53⟩:=Kd.jga HO450.out
     subst eo53
     obtain ⟨Ao54,co54,eo54⟩:=Kd.jga HO436.out
     subst eo54
     go_wp2_with (first |((with_reducible refine jg (f:=11) rfl ?_);refine gL (some 53) Try.func11 #[.slice Ao53 t448.length co53, .slice Ao54 t434.length co54] ?_;(with_reducible refine (jD.calls k _ _ t448 _ _ t434 true _ ?side1 ?side2 ?side3 ?side4 A51.out).mono ?_);(case side1=>exact cq (Kd.jw HO450.out).2.2);(case side2=>exact (Kd.jw HO450.out).2.1);(case side3=>exact cq (Kd.jw HO436.out).2.2);(case side4=>exact (Kd.jw HO436.out).2.1);rintro e w55 ⟨rfl,hb⟩;refine ⟨_,rfl,?_⟩;replace HO427:=am (Kd.jH (rq HO427.out) hb);replace HO430:=am (Kd.jH (rq HO430.out) hb);replace HO436:=am (Kd.jH (rq HO436.out) hb);replace HO440:=am (Kd.jH (rq HO440.out) hb);replace HO444:=am (Kd.jH (rq HO444.out) hb);replace HO450:=am (Kd.jH (rq HO450.out) hb);replace BK421:=am (je (g:=gb421) (o:=.cells #[.slice A0_0 l0_0.length c0_0] 24 (0,0)) (kq BK421.out) hb);replace BK422:=am (je (g:=gb422) (o:=.cells #[.bool a2_0, .int .i64 a2_1, .int .i64 a2_2] 27 (0,0)) (kq BK422.out) hb);replace BK441:=am (je (g:=gb441) (o:=.cells #[.slice Ao42 t438.length co42] 35 (0,0)) (kq BK441.out) hb);replace HB:=am (jc (Y3) hb);(try clear hb);(try clear hb2);(try clear hk);(try clear hi)))
     go_meet
     case rel=>exact ⟨_,((t451 != t437)),(sq),H',⟨Y15⟩,⟨by (with_reducible repeat (first | apply Kd.jGa | apply Kd.jKa | apply Kd.jLa));exact Kd.jca HO436.out (fun _ hk=>hk.2)⟩,⟨by (with_reducible repeat (first | apply Kd.jGa | apply Kd.jKa | apply Kd.jLa));exact Kd.jca HO444.out (fun _ hk=>trivial)⟩,⟨by (with_reducible repeat (first | apply Kd.jGa | apply Kd.jKa | apply Kd.jLa));exact Kd.jca HO450.out (fun _ hk=>hk.2)⟩,⟨by (with_reducible repeat (first | apply Kd.jGa | apply Kd.jKa | apply Kd.jLa));exact Kd.jca HO440.out (fun _ hk=>trivial)⟩,⟨kq BK421.out⟩,⟨kq BK422.out⟩,⟨kq BK441.out⟩,⟨Y3⟩⟩
    ·replace c52:=Bool.eq_false_iff.mpr c52
     subst c52
     have H1:(jb.j0 k l1 t434 t437 t442 t448 t451 true l0_0 a2_0 a2_1 a2_2 t438)=some r:=by rw [if_neg (show ¬ (false=true) by decide)] at H;exact H
     clear H
     have H:=H1
     clear H1
     have H':=am H
     clear H
     obtain ⟨Ao56,co56,eo56⟩:=Kd.jga HO450.out
     subst eo56
     obtain ⟨Ao57,co57,eo57⟩:=Kd.jga HO436.out
     subst eo57
     go_wp2_with (first |((with_reducible refine jg (f:=11) rfl ?_);refine gL (some 53) Try.func11 #[.slice Ao56 t448.length co56, .slice Ao57 t434.length co57] ?_;(with_reducible refine (jD.calls k _ _ t448 _ _ t434 false _ ?side1 ?side2 ?side3 ?side4 A51.out).mono ?_);(case side1=>exact cq (Kd.jw HO450.out).2.2);(case side2=>exact (Kd.jw HO450.out).2.1);(case side3=>exact cq (Kd.jw HO436.out).2.2);(case side4=>exact (Kd.jw HO436.out).2.1);rintro e w58 ⟨rfl,hb⟩;refine ⟨_,rfl,?_⟩;replace HO427:=am (Kd.jH (rq HO427.out) hb);replace HO430:=am (Kd.jH (rq HO430.out) hb);replace HO436:=am (Kd.jH (rq HO436.out) hb);replace HO440:=am (Kd.jH (rq HO440.out) hb);replace HO444:=am (Kd.jH (rq HO444.out) hb);replace HO450:=am (Kd.jH (rq HO450.out) hb);replace BK421:=am (je (g:=gb421) (o:=.cells #[.slice A0_0 l0_0.length c0_0] 24 (0,0)) (kq BK421.out) hb);replace BK422:=am (je (g:=gb422) (o:=.cells #[.bool a2_0, .int .i64 a2_1, .int .i64 a2_2] 27 (0,0)) (kq BK422.out) hb);replace BK441:=am (je (g:=gb441) (o:=.cells #[.slice Ao42 t438.length co42] 35 (0,0)) (kq BK441.out) hb);replace HB:=am (jc (Y3) hb);(try clear hb);(try clear hb2);(try clear hk);(try clear hi)))
     go_meet
     case rel=>exact ⟨_,(true),(sq),H',⟨Y15⟩,⟨by (with_reducible repeat (first | apply Kd.jGa | apply Kd.jKa | apply Kd.jLa));exact Kd.jca HO436.out (fun _ hk=>hk.2)⟩,⟨by (with_reducible repeat (first | apply Kd.jGa | apply Kd.jKa | apply Kd.jLa));exact Kd.jca HO444.out (fun _ hk=>trivial)⟩,⟨by (with_reducible repeat (first | apply Kd.jGa | apply Kd.jKa | apply Kd.jLa));exact Kd.jca HO450.out (fun _ hk=>hk.2)⟩,⟨by (with_reducible repeat (first | apply Kd.jGa | apply Kd.jKa | apply Kd.jLa));exact Kd.jca HO440.out (fun _ hk=>trivial)⟩,⟨kq BK421.out⟩,⟨kq BK422.out⟩,⟨kq BK441.out⟩,⟨Y3⟩⟩
   case rest =>
    clear HC26
    try clear c1
    try clear c2
    try clear p2
    try clear c3
    try clear c4
    try clear c5
    try clear c5b0
    try clear c6
    try clear c7
    try clear c8
    try clear c9
    try clear c10
    try clear c11
    try clear c12
    try clear c12b0
    try clear c15
    try clear c29
    try clear c43
    try clear c44
    try clear c52
    try clear hcz16_0
    try clear hcz30_0
    try clear hcz39_0
    try clear hcz45_0
    try clear hcz9_0
    try clear hfz16_0
    try clear hfz30_0
    try clear hfz39_0
    try clear hfz45_0
    try clear hfz9_0
    obtain ⟨kq,x59_25,rfl,HA,HJ25,HO_8,HO_11,HO_12,HO_442000,BK421,BK422,BK441,HB⟩:=hcut
    cases kq with
    | zero=>exact absurd HA.out (by simp [jb.j0])
    | succ kj25 =>
     have H:=HA.out
     clear HA
     simp only [jb.j0] at H
     by_cases c59:x59_25=true
     ·subst c59
      have H1:(some false)=some r:=by rw [if_pos rfl] at H;exact H
      clear H
      have H:=H1
      clear H1
      exact absurd ((Option.some.inj H).trans hT) Bool.false_ne_true
     ·replace c59:=Bool.eq_false_iff.mpr c59
      subst c59
      have H1:((jFa.f kj25 l0_0).bind fun t453=>((jJb.f kj25 t438 t453).bind fun t456=>(if t456=true then ((jK.f kj25 l1).bind fun t457=>((jba.f kj25 t442 t457).bind fun t460=>(if t460=true then ((jXa.f kj25 t438 1).bind fun bt461=>((jW.f kj25 t442 bt461.1).bind fun bt463=>(if bt463.1<0 then (jb.j1 kj25 l1 t434 t437 t448 true l0_0 a2_0 a2_1 a2_2) else ((jD.f kj25 t448 t434).bind fun t465=>(if t465=true then (jb.j1 kj25 l1 t434 t437 t448 (t451 != t437) l0_0 a2_0 a2_1 a2_2) else (jb.j1 kj25 l1 t434 t437 t448 true l0_0 a2_0 a2_1 a2_2)))))) else (some false)))) else (some false))))=some r:=by rw [if_neg (show ¬ (false=true) by decide)] at H;exact H
      clear H
      have H:=H1
      clear H1
      replace H:=bzS H
      obtain ⟨t453,A600,H⟩:=H
      replace H:((jJb.f kj25 t438 t453).bind fun t456=>(if t456=true then ((jK.f kj25 l1).bind fun t457=>((jba.f kj25 t442 t457).bind fun t460=>(if t460=true then ((jXa.f kj25 t438 1).bind fun bt461=>((jW.f kj25 t442 bt461.1).bind fun bt463=>(if bt463.1<0 then (jb.j1 kj25 l1 t434 t437 t448 true l0_0 a2_0 a2_1 a2_2) else ((jD.f kj25 t448 t434).bind fun t465=>(if t465=true then (jb.j1 kj25 l1 t434 t437 t448 (t451 != t437) l0_0 a2_0 a2_1 a2_2) else (jb.j1 kj25 l1 t434 t437 t448 true l0_0 a2_0 a2_1 a2_2)))))) else (some false)))) else (some false)))=some r:=H
      have A60:=am A600
      clear A600
      replace H:=bzS H
      obtain ⟨t456,A610,H⟩:=H
      replace H:(if t456=true then ((jK.f kj25 l1).bind fun t457=>((jba.f kj25 t442 t457).bind fun t460=>(if t460=true then ((jXa.f kj25 t438 1).bind fun bt461=>((jW.f kj25 t442 bt461.1).bind fun bt463=>(if bt463.1<0 then (jb.j1 kj25 l1 t434 t437 t448 true l0_0 a2_0 a2_1 a2_2) else ((jD.f kj25 t448 t434).bind fun t465=>(if t465=true then (jb.j1 kj25 l1 t434 t437 t448 (t451 != t437) l0_0 a2_0 a2_1 a2_2) else (jb.j1 kj25 l1 t434 t437 t448 true l0_0 a2_0 a2_1 a2_2)))))) else (some false)))) else (some false))=some r:=H
      have A61:=am A610
      clear A610
      by_cases c62:t456=true
      ·subst c62
       have H1:((jK.f kj25 l1).bind fun t457=>((jba.f kj25 t442 t457).bind fun t460=>(if t460=true then ((jXa.f kj25 t438 1).bind fun bt461=>((jW.f kj25 t442 bt461.1).bind fun bt463=>(if bt463.1<0 then (jb.j1 kj25 l1 t434 t437 t448 true l0_0 a2_0 a2_1 a2_2) else ((jD.f kj25 t448 t434).bind fun t465=>(if t465=true then (jb.j1 kj25 l1 t434 t437 t448 (t451 != t437) l0_0 a2_0 a2_1 a2_2) else (jb.j1 kj25 l1 t434 t437 t448 true l0_0 a2_0 a2_1 a2_2)))))) else (some false))))=some r:=by rw [if_pos rfl] at H;exact H
       clear H
       have H:=H1
       clear H1
       replace H:=bzS H
       obtain ⟨t457,A630,H⟩:=H
       replace H:((jba.f kj25 t442 t457).bind fun t460=>(if t460=true then ((jXa.f kj25 t438 1).bind fun bt461=>((jW.f kj25 t442 bt461.1).bind fun bt463=>(if bt463.1<0 then (jb.j1 kj25 l1 t434 t437 t448 true l0_0 a2_0 a2_1 a2_2) else ((jD.f kj25 t448 t434).bind fun t465=>(if t465=true then (jb.j1 kj25 l1 t434 t437 t448 (t451 != t437) l0_0 a2_0 a2_1 a2_2) else (jb.j1 kj25 l1 t434 t437 t448 true l0_0 a2_0 a2_1 a2_2)))))) else (some false)))=some r:=H
       have A63:=am A630
       clear A630
       replace H:=bzS H
       obtain ⟨t460,A640,H⟩:=H
       replace H:(if t460=true then ((jXa.f kj25 t438 1).bind fun bt461=>((jW.f kj25 t442 bt461.1).bind fun bt463=>(if bt463.1<0 then (jb.j1 kj25 l1 t434 t437 t448 true l0_0 a2_0 a2_1 a2_2) else ((jD.f kj25 t448 t434).bind fun t465=>(if t465=true then (jb.j1 kj25 l1 t434 t437 t448 (t451 != t437) l0_0 a2_0 a2_1 a2_2) else (jb.j1 kj25 l1 t434 t437 t448 true l0_0 a2_0 a2_1 a2_2)))))) else (some false))=some r:=H
       have A64:=am A640
       clear A640
       by_cases c65:t460=true
       ·subst c65
        have H1:((jXa.f kj25 t438 1).bind fun bt461=>((jW.f kj25 t442 bt461.1).bind fun bt463=>(if bt463.1<0 then (jb.j1 kj25 l1 t434 t437 t448 true l0_0 a2_0 a2_1 a2_2) else ((jD.f kj25 t448 t434).bind fun t465=>(if t465=true then (jb.j1 kj25 l1 t434 t437 t448 (t451 != t437) l0_0 a2_0 a2_1 a2_2) else (jb.j1 kj25 l1 t434 t437 t448 true l0_0 a2_0 a2_1 a2_2))))))=some r:=by rw [if_pos rfl] at H;exact H
        clear H
        have H:=H1
        clear H1
        replace H:=bzS H
        obtain ⟨⟨t461,t462⟩,A660,H⟩:=H
        replace H:((jW.f kj25 t442 t461).bind fun bt463=>(if bt463.1<0 then (jb.j1 kj25 l1 t434 t437 t448 true l0_0 a2_0 a2_1 a2_2) else ((jD.f kj25 t448 t434).bind fun t465=>(if t465=true then (jb.j1 kj25 l1 t434 t437 t448 (t451 != t437) l0_0 a2_0 a2_1 a2_2) else (jb.j1 kj25 l1 t434 t437 t448 true l0_0 a2_0 a2_1 a2_2)))))=some r:=H
        have A66:=am A660
        clear A660
        replace H:=bzS H
        obtain ⟨⟨t463,t464⟩,A670,H⟩:=H
        replace H:(if t463<0 then (jb.j1 kj25 l1 t434 t437 t448 true l0_0 a2_0 a2_1 a2_2) else ((jD.f kj25 t448 t434).bind fun t465=>(if t465=true then (jb.j1 kj25 l1 t434 t437 t448 (t451 != t437) l0_0 a2_0 a2_1 a2_2) else (jb.j1 kj25 l1 t434 t437 t448 true l0_0 a2_0 a2_1 a2_2))))=some r:=H
        have A67:=am A670
        clear A670
        have HC68:=am H
        clear H
        try go_wp2
        replace HO_8:=am (Kd.jLa HO_8.out)
        replace HO_11:=am (Kd.jLa HO_11.out)
        replace HO_12:=am (Kd.jLa HO_12.out)
        replace HO_442000:=am (Kd.jLa HO_442000.out)
        replace BK421:=am (jS BK421.out)
        replace BK422:=am (jS BK422.out)
        replace BK441:=am (jS BK441.out)
        replace HB:=am (jm HB.out)
        refine jxc (n:=5) (S:=fun w'=>w'.cell? ⟨gb441,0,none⟩=some (.slice Ao42 t438.length co42)∧w'.cell? ⟨gb421,0,none⟩=some (.slice A0_0 l0_0.length c0_0)) (ds:=[]) #[false,false,false,false,false] (by kernel_rfl) rfl rfl ⟨(jr BK441.out 0).trans rfl,(jr BK421.out 0).trans rfl⟩ (fun hHeld=>?_)
        generalize wc.drew=w69 at HO_8 HO_11 HO_12 HO_442000 BK421 BK422 BK441 HB hHeld ⊢
        refine jcc (i:=0) (N:=some 60) (v:=?_) (a':=?_) #[true,false,false,false,false] rfl rfl (by kernel_rfl) (fun _ _ _ h=>h) (Or.inl ⟨by rfl,?_⟩) hHeld ?_ ?_
        rotate_left
        ·rintro w' ⟨s0,s1⟩
         go_simp
         with_reducible rfl
        rotate_left
        ·exact sa
        refine jcc (i:=1) (N:=some 61) (v:=?_) (a':=?_) #[true,true,false,false,false] rfl rfl (by kernel_rfl) (fun _ _ _ h=>h) (Or.inl ⟨by rfl,?_⟩) hHeld ?_ ?_
        rotate_left
        ·rintro w' ⟨s0,s1⟩
         go_simp
         with_reducible rfl
        rotate_left
        ·exact sa
        refine one_ (i:=2) (N:=some 62) #[true,true,true,false,false] rfl rfl (by kernel_rfl) (by decide) (fun K hK=>?_)
        refine jqc Try.func7 (by kernel_rfl) rfl #[.agg #[.slice A0_0 l0_0.length c0_0]] (by rfl) rfl rfl (aq) ?_
        with_reducible refine (jFa.calls kj25 _ _ l0_0 t453 _ ?side1 ?side2 A60.out).mono ?_
        (case side1=>exact cq (Kd.jF HR0_0.out HB.out))
        (case side2=>exact HC0_0.out)
        rintro e w70 ⟨v454,rfl,ho0,hb⟩
        refine ⟨_,rfl,?_⟩
        have HO455:=am (Kd.jra (Kd.jBb ho0 (Kd.R_lt (rq HO_442000.out))) (jv (Y3)))
        replace HO_8:=am (Kd.jH (rq HO_8.out) hb)
        replace HO_11:=am (Kd.jH (rq HO_11.out) hb)
        replace HO_12:=am (Kd.jH (rq HO_12.out) hb)
        replace HO_442000:=am (Kd.jYa (rq HO_442000.out) (Kd.jlb ho0) hb)
        replace BK421:=am (je (g:=gb421) (o:=.cells #[.slice A0_0 l0_0.length c0_0] 24 (0,0)) (kq BK421.out) hb)
        replace BK422:=am (je (g:=gb422) (o:=.cells #[.bool a2_0, .int .i64 a2_1, .int .i64 a2_2] 27 (0,0)) (kq BK422.out) hb)
        replace BK441:=am (je (g:=gb441) (o:=.cells #[.slice Ao42 t438.length co42] 35 (0,0)) (kq BK441.out) hb)
        replace HB:=am (jc (Y3) hb)
        (try clear hb)
        (try clear hb2)
        (try clear hk)
        (try clear hi)
        (try clear ho0)
        obtain ⟨Ao71,co71,eo71⟩:=Kd.jga HO455.out
        (first | subst eo71 |(injection eo71 with f1_ f2_ f3_;have f4_:=f1_.symm;have f5_:=f3_.symm;clear f1_ f2_ f3_;subst f4_;subst f5_))
        refine hK.out _ _ ⟨(jr BK441.out 0).trans rfl,(jr BK421.out 0).trans rfl⟩ (fun hHeld=>?_)
        clear hK K
        refine jGb (a':=?_) ?_ ?_
        rotate_left
        ·show Act.put _ (some 62) _=_
         simp only [Act.put,List.setIfInBounds_toArray,List.set_cons_zero,List.set_cons_succ,jcb,jdb]
         rfl
        refine one_ (i:=3) (N:=some 63) #[true,true,true,true,false] rfl rfl (by kernel_rfl) (by decide) (fun K hK=>?_)
        refine jqc Try.func12 (by kernel_rfl) rfl #[.agg #[.slice Ao42 t438.length co42], .agg #[.slice Ao71 t453.length co71]] (by rfl) rfl rfl (aq) ?_
        with_reducible refine (jJb.calls kj25 _ _ t438 _ _ t453 true _ ?side1 ?side2 ?side3 ?side4 A61.out).mono ?_
        (case side1=>exact cq (Kd.jw HO_442000.out).2.2)
        (case side2=>exact (Kd.jw HO_442000.out).2.1)
        (case side3=>exact cq (Kd.jw HO455.out).2.2)
        (case side4=>exact (Kd.jw HO455.out).2.1)
        rintro e w72 ⟨rfl,hb⟩
        refine ⟨_,rfl,?_⟩
        replace HO_8:=am (Kd.jH (rq HO_8.out) hb)
        replace HO_11:=am (Kd.jH (rq HO_11.out) hb)
        replace HO_12:=am (Kd.jH (rq HO_12.out) hb)
        replace HO_442000:=am (Kd.jH (rq HO_442000.out) hb)
        replace HO455:=am (Kd.jH (rq HO455.out) hb)
        replace BK421:=am (je (g:=gb421) (o:=.cells #[.slice A0_0 l0_0.length c0_0] 24 (0,0)) (kq BK421.out) hb)
        replace BK422:=am (je (g:=gb422) (o:=.cells #[.bool a2_0, .int .i64 a2_1, .int .i64 a2_2] 27 (0,0)) (kq BK422.out) hb)
        replace BK441:=am (je (g:=gb441) (o:=.cells #[.slice Ao42 t438.length co42] 35 (0,0)) (kq BK441.out) hb)
        replace HB:=am (jc (Y3) hb)
        (try clear hb)
        (try clear hb2)
        (try clear hk)
        (try clear hi)
        refine hK.out _ _ ⟨(jr BK441.out 0).trans rfl,(jr BK421.out 0).trans rfl⟩ (fun hHeld=>?_)
        clear hK K
        refine jGb (a':=?_) ?_ ?_
        rotate_left
        ·show Act.put _ (some 63) _=_
         simp only [Act.put,List.setIfInBounds_toArray,List.set_cons_zero,List.set_cons_succ,jcb,jdb]
         rfl
        refine pure_ (i:=4) (N:=some 64) (v:=?_) (a':=?_) #[true,true,true,true,true] rfl rfl (by kernel_rfl) (fun _ _ _ h=>h) (Or.inl ⟨by rfl,?_⟩) ?_ ?_
        rotate_left
        ·exact sb
        rotate_left
        ·exact sa
        refine done_ (by kernel_rfl) ?_
        go_upto_region 21 with (first |((with_reducible refine jg (f:=8) rfl ?_);refine gL (some 67) Try.func8 #[.slice A1 l1.length c1] ?_;(with_reducible refine (jK.calls kj25 _ _ l1 t457 _ ?side1 ?side2 A63.out).mono ?_);(case side1=>exact cq (Kd.jF HR1.out HB.out));(case side2=>exact HC1.out);rintro e w73 ⟨v458,rfl,ho0,hb⟩;refine ⟨_,rfl,?_⟩;have HO459:=am (Kd.jra (Kd.jBb ho0 (Kd.R_lt (rq HO_11.out))) (jv (Y3)));replace HO_8:=am (Kd.jH (rq HO_8.out) hb);replace HO_11:=am (Kd.jYa (rq HO_11.out) (Kd.jlb ho0) hb);replace HO_12:=am (Kd.jH (rq HO_12.out) hb);replace HO_442000:=am (Kd.jH (rq HO_442000.out) hb);replace HO455:=am (Kd.jH (rq HO455.out) hb);replace BK421:=am (je (g:=gb421) (o:=.cells #[.slice A0_0 l0_0.length c0_0] 24 (0,0)) (kq BK421.out) hb);replace BK422:=am (je (g:=gb422) (o:=.cells #[.bool a2_0, .int .i64 a2_1, .int .i64 a2_2] 27 (0,0)) (kq BK422.out) hb);replace BK441:=am (je (g:=gb441) (o:=.cells #[.slice Ao42 t438.length co42] 35 (0,0)) (kq BK441.out) hb);replace HB:=am (jc (Y3) hb);(try clear hb);(try clear hb2);(try clear hk);(try clear hi);(try clear ho0);obtain ⟨Ao74,co74,eo74⟩:=Kd.jga HO459.out;subst eo74) |((with_reducible refine jg (f:=13) rfl ?_);refine gL (some 68) Try.func13 #[.slice Ao49 t442.length co49, .slice Ao74 t457.length co74] ?_;(with_reducible refine (jba.calls kj25 _ _ t442 _ _ t457 true _ ?side1 ?side2 ?side3 ?side4 A64.out).mono ?_);(case side1=>exact cq (Kd.jw HO_11.out).2.2);(case side2=>exact (Kd.jw HO_11.out).2.1);(case side3=>exact cq (Kd.jw HO459.out).2.2);(case side4=>exact (Kd.jw HO459.out).2.1);rintro e w75 ⟨rfl,hb⟩;refine ⟨_,rfl,?_⟩;replace HO_8:=am (Kd.jH (rq HO_8.out) hb);replace HO_11:=am (Kd.jH (rq HO_11.out) hb);replace HO_12:=am (Kd.jH (rq HO_12.out) hb);replace HO_442000:=am (Kd.jH (rq HO_442000.out) hb);replace HO455:=am (Kd.jH (rq HO455.out) hb);replace HO459:=am (Kd.jH (rq HO459.out) hb);replace BK421:=am (je (g:=gb421) (o:=.cells #[.slice A0_0 l0_0.length c0_0] 24 (0,0)) (kq BK421.out) hb);replace BK422:=am (je (g:=gb422) (o:=.cells #[.bool a2_0, .int .i64 a2_1, .int .i64 a2_2] 27 (0,0)) (kq BK422.out) hb);replace BK441:=am (je (g:=gb441) (o:=.cells #[.slice Ao42 t438.length co42] 35 (0,0)) (kq BK441.out) hb);replace HB:=am (jc (Y3) hb);(try clear hb);(try clear hb2);(try clear hk);(try clear hi);have hnb76:=NB441_421.out;have hnc76:=NB421_441.out;have hnb77:=NB441_422.out;have hnc77:=NB422_441.out;have hcz78_0:=bc0 BK441.out;have hfz78_0:=ja BK441.out 0) |((with_reducible refine jg (f:=14) rfl ?_);refine gL (some 72) Try.func14 #[.agg #[.slice Ao42 t438.length co42], .int .i64 1] ?_;(with_reducible refine (jXa.calls kj25 (fun k_=>some k_=(.slice Ao42 t438.length co42:Value).ownBlock) (.slice Ao42 t438.length co42) t438 1 t461 t462 w _ ?side1 ?side2 A66.out).mono ?_);(case side1=>exact Y3);(case side2=>exact Kd.R_tight rfl HO_442000.out);rintro e w79 ⟨rfl,hy0,hb,hkp⟩;refine ⟨_,rfl,?_⟩;replace HO_8:=am (Kd.jca (ok':=fun k_=>some k_≠(v449:Value).ownBlock) (Kd.jnc ((Kd.jtc HO_8.out (Kd.jLc HO_442000.out) (by decide))) hkp (fun k_ hk_ hs_=>(hk_.2) hs_)) (fun k_ hk_=>hk_.1.1));replace HO_11:=am (Kd.jca (ok':=fun k_=>some k_≠(.slice Ao74 t457.length co74:Value).ownBlock) (Kd.jnc ((Kd.jtc HO_11.out (Kd.jLc HO_442000.out) (by decide))) hkp (fun k_ hk_ hs_=>(hk_.2) hs_)) (fun k_ hk_=>hk_.1.1.2));replace HO_12:=am (Kd.jca (ok':=fun k_=>some k_≠(v435:Value).ownBlock) (Kd.jnc ((Kd.jtc HO_12.out (Kd.jLc HO_442000.out) (by decide))) hkp (fun k_ hk_ hs_=>(hk_.2) hs_)) (fun k_ hk_=>hk_.1.1));replace BK421:=am (jOb (kq BK421.out) hkp (fun hs_=>(fun e_=>(Kd.R_ne HO_442000.out BK421.out (by decide)) e_) hs_));replace BK422:=am (jOb (kq BK422.out) hkp (fun hs_=>(fun e_=>(Kd.R_ne HO_442000.out BK422.out (by decide)) e_) hs_));replace BK441:=am (jOb (kq BK441.out) hkp (fun hs_=>(fun e_=>(Kd.R_ne HO_442000.out BK441.out (by decide)) e_) hs_));replace HO455:=am (Kd.jca (ok':=fun k_=>some k_≠(.slice Ao42 t438.length co42:Value).ownBlock) (Kd.jnc (HO455.out) hkp (fun k_ hk_ hs_=>(hk_.2) hs_)) (fun k_ hk_=>hk_.1.2));replace HO459:=am (Kd.jca (ok':=fun k_=>some k_≠(.slice Ao49 t442.length co49:Value).ownBlock) (Kd.jnc ((Kd.jtc HO459.out (Kd.jLc HO_442000.out) (by decide))) hkp (fun k_ hk_ hs_=>(hk_.2) hs_)) (fun k_ hk_=>hk_.1.1.2));replace HO_442000:=am (Kd.R_reok rfl hy0 (fun k_ e_=>HO_442000.out.1 k_ e_));replace HB:=am (hb);(try clear hb);(try clear hkp);(try clear hy0)) |((with_reducible refine jg (f:=15) rfl ?_);refine gL (some 75) Try.func15 #[.slice Ao49 t442.length co49, .int .i64 t461] ?_;(with_reducible refine (jW.calls kj25 (fun k_=>some k_=(.slice Ao49 t442.length co49:Value).ownBlock) (.slice Ao49 t442.length co49) t442 t461 t463 t464 w _ ?side1 ?side2 A67.out).mono ?_);(case side1=>exact Y3);(case side2=>exact Kd.R_tight rfl HO_11.out);rintro e w80 ⟨rfl,hy0,hb,hkp⟩;refine ⟨_,rfl,?_⟩;replace HO_8:=am (Kd.jca (ok':=fun k_=>some k_≠(v449:Value).ownBlock) (Kd.jnc ((Kd.jtc HO_8.out (Kd.jLc HO_11.out) (by decide))) hkp (fun k_ hk_ hs_=>(hk_.2) hs_)) (fun k_ hk_=>hk_.1.1));replace HO_12:=am (Kd.jca (ok':=fun k_=>some k_≠(v435:Value).ownBlock) (Kd.jnc ((Kd.jtc HO_12.out (Kd.jLc HO_11.out) (by decide))) hkp (fun k_ hk_ hs_=>(hk_.2) hs_)) (fun k_ hk_=>hk_.1.1));replace HO_442000:=am (Kd.jca (ok':=fun k_=>some k_≠(.slice Ao71 t453.length co71:Value).ownBlock) (Kd.jnc ((Kd.jtc HO_442000.out (Kd.jLc HO_11.out) (by decide))) hkp (fun k_ hk_ hs_=>(hk_.2) hs_)) (fun k_ hk_=>hk_.1.1.2));replace BK421:=am (jOb (kq BK421.out) hkp (fun hs_=>(fun e_=>(Kd.R_ne HO_11.out BK421.out (by decide)) e_) hs_));replace BK422:=am (jOb (kq BK422.out) hkp (fun hs_=>(fun e_=>(Kd.R_ne HO_11.out BK422.out (by decide)) e_) hs_));replace BK441:=am (jOb (kq BK441.out) hkp (fun hs_=>(fun e_=>(Kd.R_ne HO_11.out BK441.out (by decide)) e_) hs_));replace HO455:=am (Kd.jca (ok':=fun k_=>some k_≠(.slice Ao42 t438.length co42:Value).ownBlock) (Kd.jnc ((Kd.jtc HO455.out (Kd.jLc HO_11.out) (by decide))) hkp (fun k_ hk_ hs_=>(hk_.2) hs_)) (fun k_ hk_=>hk_.1.1));replace HO_11:=am (Kd.R_reok rfl hy0 (fun k_ e_=>HO_11.out.1 k_ e_));replace HO459:=am (Kd.jca (ok':=fun k_=>some k_≠(.slice Ao49 t442.length co49:Value).ownBlock) (Kd.jnc (HO459.out) hkp (fun k_ hk_ hs_=>(hk_) hs_)) (fun k_ hk_=>hk_.1));replace HB:=am (hb);(try clear hb);(try clear hkp);(try clear hy0)))
        (try simp only [Act.put,List.setIfInBounds_toArray,List.set_cons_zero,List.set_cons_succ])
        go_cut [88] (fun v88 wc=>∃ (kq:Nat) (x88_67:Bool),v88=.bool x88_67∧jq (jb.j1 kq l1 t434 t437 t448 x88_67 l0_0 a2_0 a2_1 a2_2=some r)∧jq (kq≤kj25)∧jq (Kd.R k51 51 wc w.heap.size (fun k_=>some k_≠(v449:Value).ownBlock) v435 t434)∧jq (Kd.R k51 51 wc w.heap.size (fun k_=>some k_≠(v435:Value).ownBlock) v449 t448)∧jq (Kd.R k75 75 wc w.heap.size (fun _=>True) (.slice Ao42 t438.length co42) t462)∧jq (wc.heap[gb421]?=some (.cells #[(.slice A0_0 l0_0.length c0_0)] 24 (0,0)))∧jq (wc.heap[gb422]?=some (.cells #[.bool a2_0, .int .i64 a2_1, .int .i64 a2_2] 27 (0,0)))∧jq (wc.heap[gb441]?=some (.cells #[(.slice Ao42 t438.length co42)] 35 (0,0)))∧jq (Below w.heap.size w wc))
        case first =>
         have H:=HC68.out
         clear HC68
         by_cases c81:t463<0
         ·rw [if_pos c81] at H
          have c81b0:decide (t463<0)=true:=dzT c81
          clear c81
          (first | rw [c81b0] |(simp only [jcb,jdb];rw [c81b0]) | skip)
          have H':=am H
          clear H
          go_wp2
          go_meet
          case rel=>exact ⟨_,(true),(sq),H',⟨by have:=HJ25.out;first | omega | exact Nat.le_refl _⟩,⟨rq HO_8.out⟩,⟨rq HO_12.out⟩,⟨by (with_reducible repeat (first | apply Kd.jGa | apply Kd.jKa | apply Kd.jLa));exact Kd.jca HO_442000.out (fun _ hk=>trivial)⟩,⟨kq BK421.out⟩,⟨kq BK422.out⟩,⟨kq BK441.out⟩,⟨Y3⟩⟩
         ·rw [if_neg c81] at H
          have c81b0:decide (t463<0)=false:=dzF c81
          clear c81
          (first | rw [c81b0] |(simp only [jcb,jdb];rw [c81b0]) | skip)
          replace H:=bzS H
          obtain ⟨t465,A820,H⟩:=H
          replace H:(if t465=true then (jb.j1 kj25 l1 t434 t437 t448 (t451 != t437) l0_0 a2_0 a2_1 a2_2) else (jb.j1 kj25 l1 t434 t437 t448 true l0_0 a2_0 a2_1 a2_2))=some r:=H
          have A82:=am A820
          clear A820
          by_cases c83:t465=true
          ·subst c83
           have H1:(jb.j1 kj25 l1 t434 t437 t448 (t451 != t437) l0_0 a2_0 a2_1 a2_2)=some r:=by rw [if_pos rfl] at H;exact H
           clear H
           have H:=H1
           clear H1
           have H':=am H
           clear H
           obtain ⟨Ao84,co84,eo84⟩:=Kd.jga HO_12.out
           subst eo84
           obtain ⟨Ao85,co85,eo85⟩:=Kd.jga HO_8.out
           subst eo85
           go_wp2_with (first |(go_at_call 11;(with_reducible refine (jD.calls kj25 _ _ t448 _ _ t434 true _ ?side1 ?side2 ?side3 ?side4 A82.out).mono ?_);(case side1=>exact cq (Kd.jw HO_12.out).2.2);(case side2=>exact (Kd.jw HO_12.out).2.1);(case side3=>exact cq (Kd.jw HO_8.out).2.2);(case side4=>exact (Kd.jw HO_8.out).2.1);rintro e w86 ⟨rfl,hb⟩;replace HO_8:=am (Kd.jH (rq HO_8.out) hb);replace HO_11:=am (Kd.jH (rq HO_11.out) hb);replace HO_12:=am (Kd.jH (rq HO_12.out) hb);replace HO_442000:=am (Kd.jH (rq HO_442000.out) hb);replace HO455:=am (Kd.jH (rq HO455.out) hb);replace HO459:=am (Kd.jH (rq HO459.out) hb);replace BK421:=am (je (g:=gb421) (o:=.cells #[.slice A0_0 l0_0.length c0_0] 24 (0,0)) (kq BK421.out) hb);replace BK422:=am (je (g:=gb422) (o:=.cells #[.bool a2_0, .int .i64 a2_1, .int .i64 a2_2] 27 (0,0)) (kq BK422.out) hb);replace BK441:=am (je (g:=gb441) (o:=.cells #[.slice Ao42 t438.length co42] 35 (0,0)) (kq BK441.out) hb);replace HB:=am (jc (Y3) hb);(try clear hb);(try clear hb2);(try clear hk);(try clear hi)))
           go_meet
           case rel=>exact ⟨_,((t451 != t437)),(sq),H',⟨by have:=HJ25.out;first | omega | exact Nat.le_refl _⟩,⟨rq HO_8.out⟩,⟨rq HO_12.out⟩,⟨by (with_reducible repeat (first | apply Kd.jGa | apply Kd.jKa | apply Kd.jLa));exact Kd.jca HO_442000.out (fun _ hk=>trivial)⟩,⟨kq BK421.out⟩,⟨kq BK422.out⟩,⟨kq BK441.out⟩,⟨Y3⟩⟩
          ·replace c83:=Bool.eq_false_iff.mpr c83
           subst c83
           have H1:(jb.j1 kj25 l1 t434 t437 t448 true l0_0 a2_0 a2_1 a2_2)=some r:=by rw [if_neg (show ¬ (false=true) by decide)] at H;exact H
           clear H
           have H:=H1
           clear H1
           have H':=am H
           clear H
           obtain ⟨Ao87,co87,eo87⟩:=Kd.jga HO_12.out
           subst eo87
           obtain ⟨Ao88,co88,eo88⟩:=Kd.jga HO_8.out
           subst eo88
           go_wp2_with (first |(go_at_call 11;(with_reducible refine (jD.calls kj25 _ _ t448 _ _ t434 false _ ?side1 ?side2 ?side3 ?side4 A82.out).mono ?_);(case side1=>exact cq (Kd.jw HO_12.out).2.2);(case side2=>exact (Kd.jw HO_12.out).2.1);(case side3=>exact cq (Kd.jw HO_8.out).2.2);(case side4=>exact (Kd.jw HO_8.out).2.1);rintro e w89 ⟨rfl,hb⟩;replace HO_8:=am (Kd.jH (rq HO_8.out) hb);replace HO_11:=am (Kd.jH (rq HO_11.out) hb);replace HO_12:=am (Kd.jH (rq HO_12.out) hb);replace HO_442000:=am (Kd.jH (rq HO_442000.out) hb);replace HO455:=am (Kd.jH (rq HO455.out) hb);replace HO459:=am (Kd.jH (rq HO459.out) hb);replace BK421:=am (je (g:=gb421) (o:=.cells #[.slice A0_0 l0_0.length c0_0] 24 (0,0)) (kq BK421.out) hb);replace BK422:=am (je (g:=gb422) (o:=.cells #[.bool a2_0, .int .i64 a2_1, .int .i64 a2_2] 27 (0,0)) (kq BK422.out) hb);replace BK441:=am (je (g:=gb441) (o:=.cells #[.slice Ao42 t438.length co42] 35 (0,0)) (kq BK441.out) hb);replace HB:=am (jc (Y3) hb);(try clear hb);(try clear hb2);(try clear hk);(try clear hi)))
           go_meet
           case rel=>exact ⟨_,(true),(sq),H',⟨by have:=HJ25.out;first | omega | exact Nat.le_refl _⟩,⟨rq HO_8.out⟩,⟨rq HO_12.out⟩,⟨by (with_reducible repeat (first | apply Kd.jGa | apply Kd.jKa | apply Kd.jLa));exact Kd.jca HO_442000.out (fun _ hk=>trivial)⟩,⟨kq BK421.out⟩,⟨kq BK422.out⟩,⟨kq BK441.out⟩,⟨Y3⟩⟩
        case rest =>
         clear HC68
         try clear c1
         try clear c2
         try clear p2
         try clear c3
         try clear c4
         try clear c5
         try clear c5b0
         try clear c6
         try clear c7
         try clear c8
         try clear c9
         try clear c10
         try clear c11
         try clear c12
         try clear c12b0
         try clear c13
         try clear c14
         try clear c15
         try clear c29
         try clear c43
         try clear c44
         try clear c52
         try clear c59
         try clear c62
         try clear c65
         try clear c76
         try clear c77
         try clear c81
         try clear c81b0
         try clear c83
         try clear hcz16_0
         try clear hcz30_0
         try clear hcz39_0
         try clear hcz45_0
         try clear hcz78_0
         try clear hcz9_0
         try clear hfz16_0
         try clear hfz30_0
         try clear hfz39_0
         try clear hfz45_0
         try clear hfz78_0
         try clear hfz9_0
         try clear p2
         obtain ⟨kq,x88_67,rfl,HA,HJ67,HO_8,HO_12,HO_442000,BK421,BK422,BK441,HB⟩:=hcut
         have hl442000_67:=(Kd.jw HO_442000.out).1
         rw [hl442000_67] at HO_442000
         (try simp only [hl442000_67])
         (try simp only [hl442000_67] at BK421)
         (try simp only [hl442000_67] at BK422)
         (try simp only [hl442000_67] at BK441)
         (try simp only [hl442000_67] at HO_8)
         (try simp only [hl442000_67] at HO_12)
         cases kq with
         | zero=>exact absurd HA.out (by simp [jb.j1])
         | succ kj67 =>
          have H:=HA.out
          clear HA
          simp only [jb.j1] at H
          by_cases c90:x88_67=true
          ·subst c90
           have H1:(some false)=some r:=by rw [if_pos rfl] at H;exact H
           clear H
           have H:=H1
           clear H1
           exact absurd ((Option.some.inj H).trans hT) Bool.false_ne_true
          ·replace c90:=Bool.eq_false_iff.mpr c90
           subst c90
           have H1:((jsa.f kj67 t448 1).bind fun bt466=>((jta.f kj67 bt466.2 1).bind fun t468=>(if t468<0 then (some false) else (if t468=bt466.1 then ((jFa.f kj67 l0_0).bind fun t469=>((jK.f kj67 l1).bind fun t472=>((jia.f a2_0 a2_1 a2_2).bind fun bt475=>((jea.f kj67 t469 t472 bt475.1 bt475.2.1 bt475.2.2).bind fun bt478=>((jD.f kj67 bt478.1 t434).bind fun t482=>(if t482=true then (jb.j2 kj67 bt466.2 bt466.1 (bt478.2 != t437)) else (jb.j2 kj67 bt466.2 bt466.1 true))))))) else (some false)))))=some r:=by rw [if_neg (show ¬ (false=true) by decide)] at H;exact H
           clear H
           have H:=H1
           clear H1
           replace H:=bzS H
           obtain ⟨⟨t466,t467⟩,A910,H⟩:=H
           replace H:((jta.f kj67 t467 1).bind fun t468=>(if t468<0 then (some false) else (if t468=t466 then ((jFa.f kj67 l0_0).bind fun t469=>((jK.f kj67 l1).bind fun t472=>((jia.f a2_0 a2_1 a2_2).bind fun bt475=>((jea.f kj67 t469 t472 bt475.1 bt475.2.1 bt475.2.2).bind fun bt478=>((jD.f kj67 bt478.1 t434).bind fun t482=>(if t482=true then (jb.j2 kj67 t467 t466 (bt478.2 != t437)) else (jb.j2 kj67 t467 t466 true))))))) else (some false))))=some r:=H
           have A91:=am A910
           clear A910
           replace H:=bzS H
           obtain ⟨t468,A920,H⟩:=H
           replace H:(if t468<0 then (some false) else (if t468=t466 then ((jFa.f kj67 l0_0).bind fun t469=>((jK.f kj67 l1).bind fun t472=>((jia.f a2_0 a2_1 a2_2).bind fun bt475=>((jea.f kj67 t469 t472 bt475.1 bt475.2.1 bt475.2.2).bind fun bt478=>((jD.f kj67 bt478.1 t434).bind fun t482=>(if t482=true then (jb.j2 kj67 t467 t466 (bt478.2 != t437)) else (jb.j2 kj67 t467 t466 true))))))) else (some false)))=some r:=H
           have A92:=am A920
           clear A920
           by_cases c93:t468<0
           ·rw [if_pos c93] at H
            have c93b0:decide (t468<0)=true:=dzT c93
            clear c93
            exact absurd ((Option.some.inj H).trans hT) Bool.false_ne_true
           ·rw [if_neg c93] at H
            have c93b0:decide (t468<0)=false:=dzF c93
            clear c93
            by_cases c94:t468=t466
            ·rw [if_pos c94] at H
             have c94b0:(t468 == t466)=true:=beq_iff_eq.mpr c94
             have c94b1:(t468 != t466)=false:=bne_eq_false_iff_eq.mpr c94
             clear c94
             replace H:=bzS H
             obtain ⟨t469,A950,H⟩:=H
             replace H:((jK.f kj67 l1).bind fun t472=>((jia.f a2_0 a2_1 a2_2).bind fun bt475=>((jea.f kj67 t469 t472 bt475.1 bt475.2.1 bt475.2.2).bind fun bt478=>((jD.f kj67 bt478.1 t434).bind fun t482=>(if t482=true then (jb.j2 kj67 t467 t466 (bt478.2 != t437)) else (jb.j2 kj67 t467 t466 true))))))=some r:=H
             have A95:=am A950
             clear A950
             replace H:=bzS H
             obtain ⟨t472,A960,H⟩:=H
             replace H:((jia.f a2_0 a2_1 a2_2).bind fun bt475=>((jea.f kj67 t469 t472 bt475.1 bt475.2.1 bt475.2.2).bind fun bt478=>((jD.f kj67 bt478.1 t434).bind fun t482=>(if t482=true then (jb.j2 kj67 t467 t466 (bt478.2 != t437)) else (jb.j2 kj67 t467 t466 true)))))=some r:=H
             have A96:=am A960
             clear A960
             replace H:=bzS H
             obtain ⟨⟨t475,t476,t477⟩,A970,H⟩:=H
             replace H:((jea.f kj67 t469 t472 t475 t476 t477).bind fun bt478=>((jD.f kj67 bt478.1 t434).bind fun t482=>(if t482=true then (jb.j2 kj67 t467 t466 (bt478.2 != t437)) else (jb.j2 kj67 t467 t466 true))))=some r:=H
             have A97:=am A970
             clear A970
             replace H:=bzS H
             obtain ⟨⟨t478,t481⟩,A980,H⟩:=H
             replace H:((jD.f kj67 t478 t434).bind fun t482=>(if t482=true then (jb.j2 kj67 t467 t466 (t481 != t437)) else (jb.j2 kj67 t467 t466 true)))=some r:=H
             have A98:=am A980
             clear A980
             have HC99:=am H
             clear H
             obtain ⟨Ao100,co100,eo100⟩:=Kd.jga HO_12.out
             subst eo100
             try go_wp2_with (first |((with_reducible refine jg (f:=16) rfl ?_);refine gL (some 91) Try.func16 #[.slice Ao100 t448.length co100, .int .i64 1] ?_;(with_reducible refine (jsa.calls kj67 (fun k_=>some k_=(.slice Ao100 t448.length co100:Value).ownBlock) (.slice Ao100 t448.length co100) t448 1 t466 t467 w _ ?side1 ?side2 A91.out).mono ?_);(case side1=>exact Y3);(case side2=>exact Kd.R_tight rfl HO_12.out);rintro e w101 ⟨rfl,hy0,hb,hkp⟩;refine ⟨_,rfl,?_⟩;replace HO_8:=am (Kd.jca (ok':=fun k_=>some k_≠(.slice Ao100 t448.length co100:Value).ownBlock) (Kd.jnc (HO_8.out) hkp (fun k_ hk_ hs_=>(hk_) hs_)) (fun k_ hk_=>hk_.1));replace HO_442000:=am (Kd.jca (ok':=fun k_=>True) (Kd.jnc ((Kd.jtc HO_442000.out (Kd.jLc HO_12.out) (by decide))) hkp (fun k_ hk_ hs_=>(hk_.2) hs_)) (fun k_ hk_=>trivial));replace BK421:=am (jOb (kq BK421.out) hkp (fun hs_=>(fun e_=>(Kd.R_ne HO_12.out BK421.out (by decide)) e_) hs_));replace BK422:=am (jOb (kq BK422.out) hkp (fun hs_=>(fun e_=>(Kd.R_ne HO_12.out BK422.out (by decide)) e_) hs_));replace BK441:=am (jOb (kq BK441.out) hkp (fun hs_=>(fun e_=>(Kd.R_ne HO_12.out BK441.out (by decide)) e_) hs_));replace HO_12:=am (Kd.R_reok rfl hy0 (fun k_ e_=>HO_12.out.1 k_ e_));replace HB:=am (hb);(try clear hb);(try clear hkp);(try clear hy0)) |((with_reducible refine jg (f:=17) rfl ?_);refine goesL_ (some 94) rfl rfl Try.func17 (by kernel_rfl) rfl #[.slice Ao100 t467.length co100, .int .i64 1] rfl (by (try simp only [List.map_toArray,List.map_cons,List.map_nil]);first | done |(rw [show t467.length=t448.length from (Kd.jw HO_12.out).1.symm] <;> rfl) | rfl |(simp only [List.length_drop,List.length_take];rfl)) ?_;(with_reducible refine (jta.calls kj67 _ _ t467 1 t468 _ ?side1 ?side2 A92.out).mono ?_);(case side1=>exact cq (Kd.jw HO_12.out).2.2);(case side2=>rw [show t467.length=t448.length from (Kd.jw HO_12.out).1.symm];exact (Kd.jw HO_12.out).2.1);rintro e w' ⟨rfl,⟨nd,rfl⟩⟩;refine ⟨_,rfl,?_⟩))
             (try (rw [drewN_self w101];generalize hq_:World.drewN w101 _=w101;have n0_:jq (Kd.R k51 51 w101 w.heap.size (fun k_=>some k_≠(v435:Value).ownBlock) (.slice Ao100 t448.length co100) t467):=⟨by rw [← hq_];exact (rq HO_12.out)⟩;have n1_:jq (Kd.R k75 75 w101 w.heap.size (fun _=>True) (.slice Ao42 t462.length co42) t462):=⟨by rw [← hq_];exact (rq HO_442000.out)⟩;have n2_:jq (Kd.R k51 51 w101 w.heap.size (fun k_=>some k_≠(.slice Ao100 t448.length co100:Value).ownBlock) v435 t434):=⟨by rw [← hq_];exact (rq HO_8.out)⟩;have n3_:jq (w101.heap[gb421]?=some (.cells #[.slice A0_0 l0_0.length c0_0] 24 (0,0))):=⟨by rw [← hq_];exact (kq BK421.out)⟩;have n4_:jq (w101.heap[gb422]?=some (.cells #[.bool a2_0, .int .i64 a2_1, .int .i64 a2_2] 27 (0,0))):=⟨by rw [← hq_];exact (kq BK422.out)⟩;have n5_:jq (w101.heap[gb441]?=some (.cells #[.slice Ao42 t462.length co42] 35 (0,0))):=⟨by rw [← hq_];exact (kq BK441.out)⟩;have n6_:jq (Below w.heap.size w w101):=⟨by rw [← hq_];exact (Y3)⟩;clear HO_12 HO_442000 HO_8 BK421 BK422 BK441 HB hq_;have HO_12:=n0_;have HO_442000:=n1_;have HO_8:=n2_;have BK421:=n3_;have BK422:=n4_;have BK441:=n5_;have HB:=n6_;clear n0_ n1_ n2_ n3_ n4_ n5_ n6_))
             replace HO_8:=am (Kd.jLa HO_8.out)
             replace HO_12:=am (Kd.jLa HO_12.out)
             replace HO_442000:=am (Kd.jLa HO_442000.out)
             replace BK421:=am (jS BK421.out)
             replace BK422:=am (jS BK422.out)
             replace BK441:=am (jS BK441.out)
             replace HB:=am (jm HB.out)
             refine jxc (n:=12) (S:=fun w'=>w'.cell? ⟨gb421,0,none⟩=some (.slice A0_0 l0_0.length c0_0)∧w'.cell? ⟨gb422,0,none⟩=some (.bool a2_0)∧w'.cell? ⟨gb422,1,none⟩=some (.int .i64 a2_1)∧w'.cell? ⟨gb422,2,none⟩=some (.int .i64 a2_2)) (ds:=[]) #[false,false,false,false,false,false,false,false,false,false,false,false] (by kernel_rfl) rfl rfl ⟨(jr BK421.out 0).trans rfl,(jr BK422.out 0).trans rfl,(jr BK422.out 1).trans rfl,(jr BK422.out 2).trans rfl⟩ (fun hHeld=>?_);refine jWb jb.tab31 jb.bits31 (fun HT_ HW_=>?_)
             generalize w101.drew=w102 at HO_8 HO_12 HO_442000 BK421 BK422 BK441 HB hHeld ⊢
             refine pq (i:=2) (N:=some 103) #[false,false,true,false,false,false,false,false,false,false,false,false] ?_
             refine jcc (i:=0) (N:=some 101) (v:=?_) (a':=?_) #[true,false,true,false,false,false,false,false,false,false,false,false] rfl rfl (jnb HT_.out HW_.out (by kernel_rfl)) (fun _ _ _ h=>h) (Or.inl ⟨by rfl,?_⟩) hHeld ?_ ?_
             rotate_left
             ·rintro w' ⟨s0,s1,s2,s3⟩
              go_simp
              with_reducible rfl
             rotate_left
             ·exact sa
             refine jcc (i:=4) (N:=some 105) (v:=?_) (a':=?_) #[true,false,true,false,true,false,false,false,false,false,false,false] rfl rfl (jnb HT_.out HW_.out (by kernel_rfl)) (fun _ _ _ h=>h) (Or.inl ⟨by rfl,?_⟩) hHeld ?_ ?_
             rotate_left
             ·rintro w' ⟨s0,s1,s2,s3⟩
              go_simp
              with_reducible rfl
             rotate_left
             ·exact sa
             refine one_ (i:=1) (N:=some 102) #[true,true,true,false,true,false,false,false,false,false,false,false] rfl rfl (joc HT_.out (by kernel_rfl)) (by decide) (fun K hK=>?_)
             refine jqc Try.func7 (by kernel_rfl) rfl #[.agg #[.slice A0_0 l0_0.length c0_0]] (by rfl) rfl rfl (aq) ?_
             with_reducible refine (jFa.calls kj67 _ _ l0_0 t469 _ ?side1 ?side2 A95.out).mono ?_
             (case side1=>exact cq (Kd.jF HR0_0.out HB.out))
             (case side2=>exact HC0_0.out)
             rintro e w103 ⟨v470,rfl,ho0,hb⟩
             refine ⟨_,rfl,?_⟩
             have HO471:=am (Kd.jra (Kd.jBb ho0 (Kd.R_lt (rq HO_442000.out))) (jv (Y3)))
             replace HO_8:=am (Kd.jH (rq HO_8.out) hb)
             replace HO_12:=am (Kd.jH (rq HO_12.out) hb)
             replace HO_442000:=am (Kd.jYa (rq HO_442000.out) (Kd.jlb ho0) hb)
             replace BK421:=am (je (g:=gb421) (o:=.cells #[.slice A0_0 l0_0.length c0_0] 24 (0,0)) (kq BK421.out) hb)
             replace BK422:=am (je (g:=gb422) (o:=.cells #[.bool a2_0, .int .i64 a2_1, .int .i64 a2_2] 27 (0,0)) (kq BK422.out) hb)
             replace BK441:=am (je (g:=gb441) (o:=.cells #[.slice Ao42 t462.length co42] 35 (0,0)) (kq BK441.out) hb)
             replace HB:=am (jc (Y3) hb)
             (try clear hb)
             (try clear hb2)
             (try clear hk)
             (try clear hi)
             (try clear ho0)
             refine hK.out _ _ ⟨(jr BK421.out 0).trans rfl,(jr BK422.out 0).trans rfl,(jr BK422.out 1).trans rfl,(jr BK422.out 2).trans rfl⟩ (fun hHeld=>?_)
             clear hK K
             refine jGb (a':=?_) ?_ ?_
             rotate_left
             ·show Act.put _ (some 102) _=_
              simp only [Act.put,List.setIfInBounds_toArray,List.set_cons_zero,List.set_cons_succ,jcb,jdb]
              rfl
             refine one_ (i:=3) (N:=some 104) #[true,true,true,true,true,false,false,false,false,false,false,false] rfl rfl (joc HT_.out (by kernel_rfl)) (by decide) (fun K hK=>?_)
             refine jqc Try.func8 (by kernel_rfl) rfl #[.slice A1 l1.length c1] (by rfl) rfl rfl (aq) ?_
             with_reducible refine (jK.calls kj67 _ _ l1 t472 _ ?side1 ?side2 A96.out).mono ?_
             (case side1=>exact cq (Kd.jF HR1.out HB.out))
             (case side2=>exact HC1.out)
             rintro e w104 ⟨v473,rfl,ho0,hb⟩
             refine ⟨_,rfl,?_⟩
             have HO474:=am (Kd.jra ho0 (jv (Y3)))
             replace HO_8:=am (Kd.jH (rq HO_8.out) hb)
             replace HO_12:=am (Kd.jH (rq HO_12.out) hb)
             replace HO_442000:=am (Kd.jH (rq HO_442000.out) hb)
             replace HO471:=am (Kd.jH (rq HO471.out) hb)
             replace BK421:=am (je (g:=gb421) (o:=.cells #[.slice A0_0 l0_0.length c0_0] 24 (0,0)) (kq BK421.out) hb)
             replace BK422:=am (je (g:=gb422) (o:=.cells #[.bool a2_0, .int .i64 a2_1, .int .i64 a2_2] 27 (0,0)) (kq BK422.out) hb)
             replace BK441:=am (je (g:=gb441) (o:=.cells #[.slice Ao42 t462.length co42] 35 (0,0)) (kq BK441.out) hb)
             replace HB:=am (jc (Y3) hb)
             (try clear hb)
             (try clear hb2)
             (try clear hk)
             (try clear hi)
             (try clear ho0)
             refine hK.out _ _ ⟨(jr BK421.out 0).trans rfl,(jr BK422.out 0).trans rfl,(jr BK422.out 1).trans rfl,(jr BK422.out 2).trans rfl⟩ (fun hHeld=>?_)
             clear hK K
             refine jGb (a':=?_) ?_ ?_
             rotate_left
             ·show Act.put _ (some 104) _=_
              simp only [Act.put,List.setIfInBounds_toArray,List.set_cons_zero,List.set_cons_succ,jcb,jdb]
              rfl
             refine one_ (i:=5) (N:=some 106) #[true,true,true,true,true,true,false,false,false,false,false,false] rfl rfl (joc HT_.out (by kernel_rfl)) (by decide) (fun K hK=>?_)
             refine jqc Try.func9 (by kernel_rfl) rfl #[.agg #[.bool a2_0, .int .i64 a2_1, .int .i64 a2_2]] (by rfl) rfl rfl (aq) ?_
             with_reducible refine (jia.calls a2_0 a2_1 a2_2 t475 t476 t477 _ A97.out).mono ?_
             rintro e w105 ⟨rfl,hb⟩
             refine ⟨_,rfl,?_⟩
             replace HO_8:=am (Kd.jH (rq HO_8.out) hb)
             replace HO_12:=am (Kd.jH (rq HO_12.out) hb)
             replace HO_442000:=am (Kd.jH (rq HO_442000.out) hb)
             replace HO471:=am (Kd.jH (rq HO471.out) hb)
             replace HO474:=am (Kd.jH (rq HO474.out) hb)
             replace BK421:=am (je (g:=gb421) (o:=.cells #[.slice A0_0 l0_0.length c0_0] 24 (0,0)) (kq BK421.out) hb)
             replace BK422:=am (je (g:=gb422) (o:=.cells #[.bool a2_0, .int .i64 a2_1, .int .i64 a2_2] 27 (0,0)) (kq BK422.out) hb)
             replace BK441:=am (je (g:=gb441) (o:=.cells #[.slice Ao42 t462.length co42] 35 (0,0)) (kq BK441.out) hb)
             replace HB:=am (jc (Y3) hb)
             (try clear hb)
             (try clear hb2)
             (try clear hk)
             (try clear hi)
             obtain ⟨Ao106,co106,eo106⟩:=Kd.jga HO471.out
             (first | subst eo106 |(injection eo106 with f1_ f2_ f3_;have f4_:=f1_.symm;have f5_:=f3_.symm;clear f1_ f2_ f3_;subst f4_;subst f5_))
             obtain ⟨Ao107,co107,eo107⟩:=Kd.jga HO474.out
             (first | subst eo107 |(injection eo107 with f1_ f2_ f3_;have f4_:=f1_.symm;have f5_:=f3_.symm;clear f1_ f2_ f3_;subst f4_;subst f5_))
             refine hK.out _ _ ⟨(jr BK421.out 0).trans rfl,(jr BK422.out 0).trans rfl,(jr BK422.out 1).trans rfl,(jr BK422.out 2).trans rfl⟩ (fun hHeld=>?_)
             clear hK K
             refine jGb (a':=?_) ?_ ?_
             rotate_left
             ·show Act.put _ (some 106) _=_
              simp only [Act.put,List.setIfInBounds_toArray,List.set_cons_zero,List.set_cons_succ,jcb,jdb]
              rfl
             refine one_ (i:=6) (N:=some 107) #[true,true,true,true,true,true,true,false,false,false,false,false] rfl rfl (joc HT_.out (by kernel_rfl)) (by decide) (fun K hK=>?_)
             refine jqc Try.func10 (by kernel_rfl) rfl #[.agg #[.slice Ao106 t469.length co106], .slice Ao107 t472.length co107, .agg #[.bool t475, .int .i64 t476, .int .i64 t477]] (by rfl) rfl rfl (aq) ?_
             with_reducible refine (jea.calls kj67 _ _ t469 _ _ t472 t475 t476 t477 t478 t481 _ ?side1 ?side2 ?side3 ?side4 A98.out).mono ?_
             (case side1=>exact cq (Kd.jw HO471.out).2.2)
             (case side2=>exact (Kd.jw HO471.out).2.1)
             (case side3=>exact cq (Kd.jw HO474.out).2.2)
             (case side4=>exact (Kd.jw HO474.out).2.1)
             rintro e w108 ⟨v479,rfl,ho0,hb⟩
             refine ⟨_,rfl,?_⟩
             have HO480:=am (Kd.jra (Kd.jBb (Kd.jBb ho0 (Kd.R_lt (rq HO_8.out))) (Kd.R_lt (rq HO_12.out))) (jv (Y3)))
             replace HO_8:=am (Kd.jYa (rq HO_8.out) (Kd.jlb ho0) hb)
             replace HO_12:=am (Kd.jYa (rq HO_12.out) (Kd.jlb ho0) hb)
             replace HO_442000:=am (Kd.jH (rq HO_442000.out) hb)
             replace HO471:=am (Kd.jH (rq HO471.out) hb)
             replace HO474:=am (Kd.jH (rq HO474.out) hb)
             replace BK421:=am (je (g:=gb421) (o:=.cells #[.slice A0_0 l0_0.length c0_0] 24 (0,0)) (kq BK421.out) hb)
             replace BK422:=am (je (g:=gb422) (o:=.cells #[.bool a2_0, .int .i64 a2_1, .int .i64 a2_2] 27 (0,0)) (kq BK422.out) hb)
             replace BK441:=am (je (g:=gb441) (o:=.cells #[.slice Ao42 t462.length co42] 35 (0,0)) (kq BK441.out) hb)
             replace HB:=am (jc (Y3) hb)
             (try clear hb)
             (try clear hb2)
             (try clear hk)
             (try clear hi)
             (try clear ho0)
             refine hK.out _ _ ⟨(jr BK421.out 0).trans rfl,(jr BK422.out 0).trans rfl,(jr BK422.out 1).trans rfl,(jr BK422.out 2).trans rfl⟩ (fun hHeld=>?_)
             clear hK K
             refine jGb (a':=?_) ?_ ?_
             rotate_left
             ·show Act.put _ (some 107) _=_
              simp only [Act.put,List.setIfInBounds_toArray,List.set_cons_zero,List.set_cons_succ,jcb,jdb]
              rfl
             refine pq (i:=7) (N:=some 100) #[true,true,true,true,true,true,true,true,false,false,false,false] ?_
             refine pq (i:=8) (N:=some 108) #[true,true,true,true,true,true,true,true,true,false,false,false] ?_
             refine pq (i:=9) (N:=some 109) #[true,true,true,true,true,true,true,true,true,true,false,false] ?_
             refine pq (i:=10) (N:=some 17) #[true,true,true,true,true,true,true,true,true,true,true,false] ?_
             refine pq (i:=11) (N:=some 18) #[true,true,true,true,true,true,true,true,true,true,true,true] ?_
             refine done_ (jKc HT_.out (by kernel_rfl)) ?_
             go_upto_region 32 with (fail)
             go_cut [118] (fun v118 wc=>∃ (kq:Nat) (x118_98:Bool),v118=.bool x118_98∧jq (jb.j2 kq t467 t466 x118_98=some r)∧jq (kq≤kj67)∧jq (Kd.R k51 51 wc w.heap.size (fun _=>True) (.slice Ao100 t448.length co100) t467)∧jq (Kd.R k75 75 wc w.heap.size (fun _=>True) (.slice Ao42 t462.length co42) t462)∧jq (wc.heap[gb421]?=some (.cells #[(.slice A0_0 l0_0.length c0_0)] 24 (0,0)))∧jq (wc.heap[gb422]?=some (.cells #[.bool a2_0, .int .i64 a2_1, .int .i64 a2_2] 27 (0,0)))∧jq (wc.heap[gb441]?=some (.cells #[(.slice Ao42 t462.length co42)] 35 (0,0)))∧jq (Below w.heap.size w wc))
             case first =>
              have H:=HC99.out
              clear HC99
              replace H:=bzS H
              obtain ⟨t482,A1090,H⟩:=H
              replace H:(if t482=true then (jb.j2 kj67 t467 t466 (t481 != t437)) else (jb.j2 kj67 t467 t466 true))=some r:=H
              have A109:=am A1090
              clear A1090
              by_cases c110:t482=true
              ·subst c110
               have H1:(jb.j2 kj67 t467 t466 (t481 != t437))=some r:=by rw [if_pos rfl] at H;exact H
               clear H
               have H:=H1
               clear H1
               have H':=am H
               clear H
               obtain ⟨Ao111,co111,eo111⟩:=Kd.jga HO480.out
               subst eo111
               obtain ⟨Ao112,co112,eo112⟩:=Kd.jga HO_8.out
               subst eo112
               go_wp2_with (first |((with_reducible refine jg (f:=11) rfl ?_);refine gL (some 112) Try.func11 #[.slice Ao111 t478.length co111, .slice Ao112 t434.length co112] ?_;(with_reducible refine (jD.calls kj67 _ _ t478 _ _ t434 true _ ?side1 ?side2 ?side3 ?side4 A109.out).mono ?_);(case side1=>exact cq (Kd.jw HO480.out).2.2);(case side2=>exact (Kd.jw HO480.out).2.1);(case side3=>exact cq (Kd.jw HO_8.out).2.2);(case side4=>exact (Kd.jw HO_8.out).2.1);rintro e w113 ⟨rfl,hb⟩;refine ⟨_,rfl,?_⟩;replace HO_8:=am (Kd.jH (rq HO_8.out) hb);replace HO_12:=am (Kd.jH (rq HO_12.out) hb);replace HO_442000:=am (Kd.jH (rq HO_442000.out) hb);replace HO471:=am (Kd.jH (rq HO471.out) hb);replace HO474:=am (Kd.jH (rq HO474.out) hb);replace HO480:=am (Kd.jH (rq HO480.out) hb);replace BK421:=am (je (g:=gb421) (o:=.cells #[.slice A0_0 l0_0.length c0_0] 24 (0,0)) (kq BK421.out) hb);replace BK422:=am (je (g:=gb422) (o:=.cells #[.bool a2_0, .int .i64 a2_1, .int .i64 a2_2] 27 (0,0)) (kq BK422.out) hb);replace BK441:=am (je (g:=gb441) (o:=.cells #[.slice Ao42 t462.length co42] 35 (0,0)) (kq BK441.out) hb);replace HB:=am (jc (Y3) hb);(try clear hb);(try clear hb2);(try clear hk);(try clear hi)))
               go_meet
               case rel=>exact ⟨_,((t481 != t437)),(sq),H',⟨by have:=HJ25.out;have:=HJ67.out;first | omega | exact Nat.le_refl _⟩,⟨by (try simp only [hl442000_67]);(with_reducible repeat (first | apply Kd.jGa | apply Kd.jKa | apply Kd.jLa));exact Kd.jca HO_12.out (fun _ hk=>trivial)⟩,⟨by (try simp only [hl442000_67]);(with_reducible repeat (first | apply Kd.jGa | apply Kd.jKa | apply Kd.jLa));exact Kd.jca HO_442000.out (fun _ hk=>trivial)⟩,⟨by (try simp only [hl442000_67]);(with_reducible repeat (first | refine jL ?_ _ | refine jS ?_ | refine jT ?_ _));exact BK421.out⟩,⟨by (try simp only [hl442000_67]);(with_reducible repeat (first | refine jL ?_ _ | refine jS ?_ | refine jT ?_ _));exact BK422.out⟩,⟨by (try simp only [hl442000_67]);(with_reducible repeat (first | refine jL ?_ _ | refine jS ?_ | refine jT ?_ _));exact BK441.out⟩,⟨Y3⟩⟩
              ·replace c110:=Bool.eq_false_iff.mpr c110
               subst c110
               have H1:(jb.j2 kj67 t467 t466 true)=some r:=by rw [if_neg (show ¬ (false=true) by decide)] at H;exact H
               clear H
               have H:=H1
               clear H1
               have H':=am H
               clear H
               obtain ⟨Ao114,co114,eo114⟩:=Kd.jga HO480.out
               subst eo114
               obtain ⟨Ao115,co115,eo115⟩:=Kd.jga HO_8.out
               subst eo115
               go_wp2_with (first |((with_reducible refine jg (f:=11) rfl ?_);refine gL (some 112) Try.func11 #[.slice Ao114 t478.length co114, .slice Ao115 t434.length co115] ?_;(with_reducible refine (jD.calls kj67 _ _ t478 _ _ t434 false _ ?side1 ?side2 ?side3 ?side4 A109.out).mono ?_);(case side1=>exact cq (Kd.jw HO480.out).2.2);(case side2=>exact (Kd.jw HO480.out).2.1);(case side3=>exact cq (Kd.jw HO_8.out).2.2);(case side4=>exact (Kd.jw HO_8.out).2.1);rintro e w116 ⟨rfl,hb⟩;refine ⟨_,rfl,?_⟩;replace HO_8:=am (Kd.jH (rq HO_8.out) hb);replace HO_12:=am (Kd.jH (rq HO_12.out) hb);replace HO_442000:=am (Kd.jH (rq HO_442000.out) hb);replace HO471:=am (Kd.jH (rq HO471.out) hb);replace HO474:=am (Kd.jH (rq HO474.out) hb);replace HO480:=am (Kd.jH (rq HO480.out) hb);replace BK421:=am (je (g:=gb421) (o:=.cells #[.slice A0_0 l0_0.length c0_0] 24 (0,0)) (kq BK421.out) hb);replace BK422:=am (je (g:=gb422) (o:=.cells #[.bool a2_0, .int .i64 a2_1, .int .i64 a2_2] 27 (0,0)) (kq BK422.out) hb);replace BK441:=am (je (g:=gb441) (o:=.cells #[.slice Ao42 t462.length co42] 35 (0,0)) (kq BK441.out) hb);replace HB:=am (jc (Y3) hb);(try clear hb);(try clear hb2);(try clear hk);(try clear hi)))
               go_meet
               case rel=>exact ⟨_,(true),(sq),H',⟨by have:=HJ25.out;have:=HJ67.out;first | omega | exact Nat.le_refl _⟩,⟨by (try simp only [hl442000_67]);(with_reducible repeat (first | apply Kd.jGa | apply Kd.jKa | apply Kd.jLa));exact Kd.jca HO_12.out (fun _ hk=>trivial)⟩,⟨by (try simp only [hl442000_67]);(with_reducible repeat (first | apply Kd.jGa | apply Kd.jKa | apply Kd.jLa));exact Kd.jca HO_442000.out (fun _ hk=>trivial)⟩,⟨by (try simp only [hl442000_67]);(with_reducible repeat (first | refine jL ?_ _ | refine jS ?_ | refine jT ?_ _));exact BK421.out⟩,⟨by (try simp only [hl442000_67]);(with_reducible repeat (first | refine jL ?_ _ | refine jS ?_ | refine jT ?_ _));exact BK422.out⟩,⟨by (try simp only [hl442000_67]);(with_reducible repeat (first | refine jL ?_ _ | refine jS ?_ | refine jT ?_ _));exact BK441.out⟩,⟨Y3⟩⟩
             case rest =>
              clear HC99
              try clear c1
              try clear c2
              try clear p2
              try clear c3
              try clear c4
              try clear c5
              try clear c5b0
              try clear c6
              try clear c7
              try clear c8
              try clear c9
              try clear c10
              try clear c11
              try clear c12
              try clear c12b0
              try clear c13
              try clear c14
              try clear c15
              try clear c16
              try clear c17
              try clear c29
              try clear c43
              try clear c44
              try clear c52
              try clear c59
              try clear c62
              try clear c65
              try clear c76
              try clear c77
              try clear c81
              try clear c81b0
              try clear c83
              try clear c90
              try clear c93
              try clear c93b0
              try clear c94
              try clear c94b0
              try clear c94b1
              try clear c110
              try clear hcz16_0
              try clear hcz30_0
              try clear hcz39_0
              try clear hcz45_0
              try clear hcz78_0
              try clear hcz9_0
              try clear hfz16_0
              try clear hfz30_0
              try clear hfz39_0
              try clear hfz45_0
              try clear hfz78_0
              try clear hfz9_0
              try clear p2
              obtain ⟨kq,x118_98,rfl,HA,HJ98,HO_12,HO_442000,BK421,BK422,BK441,HB⟩:=hcut
              have hl12_98:=(Kd.jw HO_12.out).1
              rw [hl12_98] at HO_12
              (try simp only [hl12_98])
              (try simp only [hl12_98] at BK421)
              (try simp only [hl12_98] at BK422)
              (try simp only [hl12_98] at BK441)
              (try simp only [hl12_98] at HO_442000)
              cases kq with
              | zero=>exact absurd HA.out (by simp [jb.j2])
              | succ kj98 =>
               have H:=HA.out
               clear HA
               simp only [jb.j2] at H
               by_cases c117:x118_98=true
               ·subst c117
                have H1:(some false)=some r:=by rw [if_pos rfl] at H;exact H
                clear H
                have H:=H1
                clear H1
                exact absurd ((Option.some.inj H).trans hT) Bool.false_ne_true
               ·replace c117:=Bool.eq_false_iff.mpr c117
                subst c117
                have H1:((jta.f kj98 t467 1).bind fun t483=>(if t483<0 then (some false) else (if t483=t466 then (some true) else (some false))))=some r:=by rw [if_neg (show ¬ (false=true) by decide)] at H;exact H
                clear H
                have H:=H1
                clear H1
                replace H:=bzS H
                obtain ⟨t483,A1180,H⟩:=H
                replace H:(if t483<0 then (some false) else (if t483=t466 then (some true) else (some false)))=some r:=H
                have A118:=am A1180
                clear A1180
                by_cases c119:t483<0
                ·rw [if_pos c119] at H
                 have c119b0:decide (t483<0)=true:=dzT c119
                 clear c119
                 exact absurd ((Option.some.inj H).trans hT) Bool.false_ne_true
                ·rw [if_neg c119] at H
                 have c119b0:decide (t483<0)=false:=dzF c119
                 clear c119
                 by_cases c120:t483=t466
                 ·rw [if_pos c120] at H
                  have c120b0:(t483 == t466)=true:=beq_iff_eq.mpr c120
                  have c120b1:(t483 != t466)=false:=bne_eq_false_iff_eq.mpr c120
                  clear c120
                  obtain rfl:=Option.some.inj H
                  go_wp2_with (first |((with_reducible refine jg (f:=17) rfl ?_);refine gL (some 121) Try.func17 #[.slice Ao100 t467.length co100, .int .i64 1] ?_;(with_reducible refine (jta.calls kj98 _ _ t467 1 t483 _ ?side1 ?side2 A118.out).mono ?_);(case side1=>exact cq (Kd.jw HO_12.out).2.2);(case side2=>exact (Kd.jw HO_12.out).2.1);rintro e w' ⟨rfl,⟨nd,rfl⟩⟩;refine ⟨_,rfl,?_⟩))
                  go_ret
                  exact ⟨Y0,Y3⟩
                 ·rw [if_neg c120] at H
                  have c120b0:(t483 == t466)=false:=beq_eq_false_iff_ne.mpr c120
                  have c120b1:(t483 != t466)=true:=bne_iff_ne.mpr c120
                  exact absurd ((Option.some.inj H).trans hT) Bool.false_ne_true
            ·rw [if_neg c94] at H
             have c94b0:(t468 == t466)=false:=beq_eq_false_iff_ne.mpr c94
             have c94b1:(t468 != t466)=true:=bne_iff_ne.mpr c94
             exact absurd ((Option.some.inj H).trans hT) Bool.false_ne_true
       ·replace c65:=Bool.eq_false_iff.mpr c65
        subst c65
        have H1:(some false)=some r:=by rw [if_neg (show ¬ (false=true) by decide)] at H;exact H
        clear H
        have H:=H1
        clear H1
        exact absurd ((Option.some.inj H).trans hT) Bool.false_ne_true
      ·replace c62:=Bool.eq_false_iff.mpr c62
       subst c62
       have H1:(some false)=some r:=by rw [if_neg (show ¬ (false=true) by decide)] at H;exact H
       clear H
       have H:=H1
       clear H1
       exact absurd ((Option.some.inj H).trans hT) Bool.false_ne_true
end Go.Proofs.Ytbbmgiloikkpiaa.P
end
