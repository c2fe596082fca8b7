/- One part of the proofs on this program: functions of the program as plain functions, that the code comes to them, and facts on them. -/
import Derived.Test.YtkedkinojeoeaaaYAll1
import Derived.Test.YtkedkinojeoeaaaYAll5
import Derived.Test.YtkedkinojeoeaaaYAll6
import Derived.Test.YtkedkinojeoeaaaYWAuto
section
namespace Go.Proofs.Ytkedkinojeoeaaa.P
open Go.RowKit Go.Proofs.YtkedkinojeoeaaaW.PrintWords Go.Proofs.YtkedkinojeoeaaaW.PrintLast Go.Proofs.YtkedkinojeoeaaaW.PrintMore
attribute [local go_sem] jta jra jBa jAa jca jba jsa jqa jl
set_option linter.unusedVariables false
set_option linter.unusedSimpArgs false
def jZa.l0 : Nat → List (S36) → Int → Int → Option (Bool)
 | 0,_,_,_=>none
 | k+1,x0,x5,x6=>if x6≥0 then (if 0≤x6 then (if x6<(x0.length:Int) then (if ((jc x0 x6).f0)<x5 then (if ((jc x0 x6).f1)=12 then (some true) else (jZa.l0 k x0 ((jc x0 x6).f0) (wrap64 (x6 - 1)))) else (jZa.l0 k x0 x5 (wrap64 (x6 - 1)))) else (none)) else (none)) else (some false)
def jZa.f (k : Nat) (l0 : List (S36)) (a1 : Int) : Option (Bool) := if 0 ≤ a1 then (if a1 < (l0.length : Int) then (jZa.l0 k l0 ((jc l0 a1).f0) (wrap64 (a1 - 1))) else (none)) else (none)
set_option maxHeartbeats 8000000 in
set_option maxRecDepth 100000 in
theorem jZa.calls (k : Nat) (A0 : Option Addr) (c0 : Nat) (l0 : List (S36)) (a1 : Int) (r : Bool) (w : World) (hr0 : Kd.C k36 w A0 l0.length l0) (hc0 : l0.length ≤ c0) (h : jZa.f k l0 a1 = some r) :
  Calls Try.prog 96 #[.slice A0 l0.length c0, .int .i64 a1] w fun e w'=>e=.returned (.bool r)∧jsb w w':=by
 have HR0:=am hr0
 have HC0:=am hc0
 clear hr0 hc0
 have H:(if 0≤a1 then (if a1<(l0.length:Int) then (jZa.l0 k l0 ((jc l0 a1).f0) (wrap64 (a1 - 1))) else (none)) else (none))=some r:=h
 clear h
 by_cases c3:0≤a1
 ·rw [if_pos c3] at H
  have c3b0:decide (0≤a1)=true:=dzT c3
  clear c3
  by_cases c4:a1<(l0.length:Int)
  ·rw [if_pos c4] at H
   have c4b0:decide (a1<(l0.length:Int))=true:=dzT c4
   clear c4
   have H':=am H
   clear H
   have p569:0≤(a1:Int):=ozD (uq)
   have q569:a1<(l0.length:Int):=ozD (uq)
   obtain ⟨ad569,e569,hx569_0,hx569_1,hx569_2,hx569_3⟩:=jna HR0.out a1 p569 q569
   cases e569
   replace p569:=ezT p569
   replace q569:=ezT q569
   go_enter Try.func96,Try.ntmps96
   go_wp2
   go_loopg [5,6] k (fun kq v5 v6 w'=>∃ (x5_1:Int) (x6_1:Int),v5=.int .i64 x5_1∧v6=.int .i64 x6_1∧jq (jZa.l0 kq l0 x5_1 x6_1=some r)∧jq (kq≤k)∧jsb w w')
   case atStart=>exact ⟨((jc l0 a1).f0),(wrap64 (a1 - 1)),(sq),(sq),H',⟨Nat.le_refl _⟩,Y7⟩
   case round =>
    clear H'
    try clear p2
    try clear c3
    try clear c3b0
    try clear c4
    try clear c4b0
    try clear hx569_0
    try clear hx569_1
    try clear hx569_2
    try clear hx569_3
    try clear p569
    try clear q569
    obtain ⟨x5_1,x6_1,rfl,rfl,HA,HK1,⟨m1,rfl⟩⟩:=hrel
    cases gk with
    | zero=>exact absurd HA.out (by simp [jZa.l0])
    | succ k1 =>
     have H:=HA.out
     clear HA
     simp only [jZa.l0] at H
     by_cases c5:x6_1≥0
     ·rw [if_pos c5] at H
      have c5b0:decide (0≤x6_1)=true:=dzT c5
      clear c5
      by_cases c6:0≤x6_1
      ·rw [if_pos c6] at H
       have c6b0:decide (0≤x6_1)=true:=dzT c6
       clear c6
       by_cases c7:x6_1<(l0.length:Int)
       ·rw [if_pos c7] at H
        have c7b0:decide (x6_1<(l0.length:Int))=true:=dzT c7
        clear c7
        by_cases c8:((jc l0 x6_1).f0)<x5_1
        ·rw [if_pos c8] at H
         have c8b0:decide (((jc l0 x6_1).f0)<x5_1)=true:=dzT c8
         clear c8
         by_cases c9:((jc l0 x6_1).f1)=12
         ·rw [if_pos c9] at H
          have c9b0:(((jc l0 x6_1).f1) == 12)=true:=beq_iff_eq.mpr c9
          have c9b1:(((jc l0 x6_1).f1) != 12)=false:=bne_eq_false_iff_eq.mpr c9
          clear c9
          obtain rfl:=Option.some.inj H
          have p570:0≤(x6_1:Int):=ozD (uq)
          have q570:x6_1<(l0.length:Int):=ozD (uq)
          obtain ⟨ad570,e570,hx570_0,hx570_1,hx570_2,hx570_3⟩:=jna HR0.out x6_1 p570 q570
          obtain rfl:ad569=ad570:=(by injection e570)
          replace p570:=ezT p570
          replace q570:=ezT q570
          have p571:0≤(x6_1:Int):=ozD (uq)
          have q571:x6_1<(l0.length:Int):=ozD (uq)
          obtain ⟨ad571,e571,hx571_0,hx571_1,hx571_2,hx571_3⟩:=jna HR0.out x6_1 p571 q571
          obtain rfl:ad569=ad571:=(by injection e571)
          replace p571:=ezT p571
          replace q571:=ezT q571
          have p572:0≤(x6_1:Int):=ozD (uq)
          have q572:x6_1<(l0.length:Int):=ozD (uq)
          obtain ⟨ad572,e572,hx572_0,hx572_1,hx572_2,hx572_3⟩:=jna HR0.out x6_1 p572 q572
          obtain rfl:ad569=ad572:=(by injection e572)
          replace p572:=ezT p572
          replace q572:=ezT q572
          go_wp2
          go_ret
          exact ⟨sq,Y7⟩
         ·rw [if_neg c9] at H
          have c9b0:(((jc l0 x6_1).f1) == 12)=false:=beq_eq_false_iff_ne.mpr c9
          have c9b1:(((jc l0 x6_1).f1) != 12)=true:=bne_iff_ne.mpr c9
          have H':=am H
          clear H
          have p570:0≤(x6_1:Int):=ozD (uq)
          have q570:x6_1<(l0.length:Int):=ozD (uq)
          obtain ⟨ad570,e570,hx570_0,hx570_1,hx570_2,hx570_3⟩:=jna HR0.out x6_1 p570 q570
          obtain rfl:ad569=ad570:=(by injection e570)
          replace p570:=ezT p570
          replace q570:=ezT q570
          have p571:0≤(x6_1:Int):=ozD (uq)
          have q571:x6_1<(l0.length:Int):=ozD (uq)
          obtain ⟨ad571,e571,hx571_0,hx571_1,hx571_2,hx571_3⟩:=jna HR0.out x6_1 p571 q571
          obtain rfl:ad569=ad571:=(by injection e571)
          replace p571:=ezT p571
          replace q571:=ezT q571
          have p572:0≤(x6_1:Int):=ozD (uq)
          have q572:x6_1<(l0.length:Int):=ozD (uq)
          obtain ⟨ad572,e572,hx572_0,hx572_1,hx572_2,hx572_3⟩:=jna HR0.out x6_1 p572 q572
          obtain rfl:ad569=ad572:=(by injection e572)
          replace p572:=ezT p572
          replace q572:=ezT q572
          go_wp2
          go_roundg k1
          case measure=>have:=HK1.out;omega
          case rel=>exact ⟨((jc l0 x6_1).f0),(wrap64 (x6_1 - 1)),(sq),(sq),H',⟨by have:=HK1.out;omega⟩,Y7⟩
        ·rw [if_neg c8] at H
         have c8b0:decide (((jc l0 x6_1).f0)<x5_1)=false:=dzF c8
         clear c8
         have H':=am H
         clear H
         have p570:0≤(x6_1:Int):=ozD (uq)
         have q570:x6_1<(l0.length:Int):=ozD (uq)
         obtain ⟨ad570,e570,hx570_0,hx570_1,hx570_2,hx570_3⟩:=jna HR0.out x6_1 p570 q570
         obtain rfl:ad569=ad570:=(by injection e570)
         replace p570:=ezT p570
         replace q570:=ezT q570
         go_wp2
         go_roundg k1
         case measure=>have:=HK1.out;omega
         case rel=>exact ⟨(x5_1),(wrap64 (x6_1 - 1)),(sq),(sq),H',⟨by have:=HK1.out;omega⟩,Y7⟩
       ·rw [if_neg c7] at H
        exact absurd H (by simp)
      ·rw [if_neg c6] at H
       exact absurd H (by simp)
     ·rw [if_neg c5] at H
      have c5b0:decide (0≤x6_1)=false:=dzF c5
      clear c5
      obtain rfl:=Option.some.inj H
      go_wp2
      go_ret
      exact ⟨sq,Y7⟩
  ·rw [if_neg c4] at H
   exact absurd H (by simp)
 ·rw [if_neg c3] at H
  exact absurd H (by simp)
def jib.l0 : Nat → List (S36) → Int → Int → Option (Int)
 | 0,_,_,_=>none
 | k+1,x0,x1,x5=>if x5≥0 then (if 0≤x5 then (if x5<(x0.length:Int) then (if 0≤x1 then (if x1<(x0.length:Int) then (if ((jc x0 x5).f0)<((jc x0 x1).f0) then (some (-1)) else (if ((jc x0 x5).f0)=((jc x0 x1).f0) then (some x5) else (jib.l0 k x0 x1 (wrap64 (x5 - 1))))) else (none)) else (none)) else (none)) else (none)) else (some (-1))
def jib.f (k : Nat) (l0 : List (S36)) (a1 : Int) : Option (Int) := jib.l0 k l0 a1 (wrap64 (a1 - 1))
set_option maxHeartbeats 8000000 in
set_option maxRecDepth 100000 in
theorem jib.calls (k : Nat) (A0 : Option Addr) (c0 : Nat) (l0 : List (S36)) (a1 : Int) (r : Int) (w : World) (hr0 : Kd.C k36 w A0 l0.length l0) (hc0 : l0.length ≤ c0) (h : jib.f k l0 a1 = some r) :
  Calls Try.prog 97 #[.slice A0 l0.length c0, .int .i64 a1] w fun e w'=>e=.returned (.int .i64 r)∧jsb w w':=by
 have HR0:=am hr0
 have HC0:=am hc0
 clear hr0 hc0
 have H:(jib.l0 k l0 a1 (wrap64 (a1 - 1)))=some r:=h
 clear h
 have H':=am H
 clear H
 go_enter Try.func97,Try.ntmps97
 go_wp2
 repeat (go_quiet (fail);try go_wp2)
 go_loopg [5] k (fun kq v5 w'=>∃ (x5_1:Int),v5=.int .i64 x5_1∧jq (jib.l0 kq l0 a1 x5_1=some r)∧jq (kq≤k)∧jsb w w')
 case atStart=>exact ⟨(wrap64 (a1 - 1)),(sq),H',⟨Nat.le_refl _⟩,Y7⟩
 case round =>
  clear H'
  try clear p2
  obtain ⟨x5_1,rfl,HA,HK1,⟨m1,rfl⟩⟩:=hrel
  cases gk with
  | zero=>exact absurd HA.out (by simp [jib.l0])
  | succ k1 =>
   have H:=HA.out
   clear HA
   simp only [jib.l0] at H
   by_cases c3:x5_1≥0
   ·rw [if_pos c3] at H
    have c3b0:decide (0≤x5_1)=true:=dzT c3
    clear c3
    by_cases c4:0≤x5_1
    ·rw [if_pos c4] at H
     have c4b0:decide (0≤x5_1)=true:=dzT c4
     clear c4
     by_cases c5:x5_1<(l0.length:Int)
     ·rw [if_pos c5] at H
      have c5b0:decide (x5_1<(l0.length:Int))=true:=dzT c5
      clear c5
      by_cases c6:0≤a1
      ·rw [if_pos c6] at H
       have c6b0:decide (0≤a1)=true:=dzT c6
       clear c6
       by_cases c7:a1<(l0.length:Int)
       ·rw [if_pos c7] at H
        have c7b0:decide (a1<(l0.length:Int))=true:=dzT c7
        clear c7
        by_cases c8:((jc l0 x5_1).f0)<((jc l0 a1).f0)
        ·rw [if_pos c8] at H
         have c8b0:decide (((jc l0 x5_1).f0)<((jc l0 a1).f0))=true:=dzT c8
         clear c8
         obtain rfl:=Option.some.inj H
         have p573:0≤(x5_1:Int):=ozD (uq)
         have q573:x5_1<(l0.length:Int):=ozD (uq)
         obtain ⟨ad573,e573,hx573_0,hx573_1,hx573_2,hx573_3⟩:=jna HR0.out x5_1 p573 q573
         cases e573
         replace p573:=ezT p573
         replace q573:=ezT q573
         have p574:0≤(a1:Int):=ozD (uq)
         have q574:a1<(l0.length:Int):=ozD (uq)
         obtain ⟨ad574,e574,hx574_0,hx574_1,hx574_2,hx574_3⟩:=jna HR0.out a1 p574 q574
         obtain rfl:ad573=ad574:=(by injection e574)
         replace p574:=ezT p574
         replace q574:=ezT q574
         go_wp2
         repeat (go_quiet (fail);try go_wp2)
         go_ret
         exact ⟨sq,Y7⟩
        ·rw [if_neg c8] at H
         have c8b0:decide (((jc l0 x5_1).f0)<((jc l0 a1).f0))=false:=dzF c8
         clear c8
         by_cases c9:((jc l0 x5_1).f0)=((jc l0 a1).f0)
         ·rw [if_pos c9] at H
          have c9b0:(((jc l0 x5_1).f0) == ((jc l0 a1).f0))=true:=beq_iff_eq.mpr c9
          have c9b1:(((jc l0 x5_1).f0) != ((jc l0 a1).f0))=false:=bne_eq_false_iff_eq.mpr c9
          clear c9
          obtain rfl:=Option.some.inj H
          have p573:0≤(x5_1:Int):=ozD (uq)
          have q573:x5_1<(l0.length:Int):=ozD (uq)
          obtain ⟨ad573,e573,hx573_0,hx573_1,hx573_2,hx573_3⟩:=jna HR0.out x5_1 p573 q573
          cases e573
          replace p573:=ezT p573
          replace q573:=ezT q573
          have p574:0≤(a1:Int):=ozD (uq)
          have q574:a1<(l0.length:Int):=ozD (uq)
          obtain ⟨ad574,e574,hx574_0,hx574_1,hx574_2,hx574_3⟩:=jna HR0.out a1 p574 q574
          obtain rfl:ad573=ad574:=(by injection e574)
          replace p574:=ezT p574
          replace q574:=ezT q574
          have p575:0≤(x5_1:Int):=ozD (uq)
          have q575:x5_1<(l0.length:Int):=ozD (uq)
          obtain ⟨ad575,e575,hx575_0,hx575_1,hx575_2,hx575_3⟩:=jna HR0.out x5_1 p575 q575
          obtain rfl:ad573=ad575:=(by injection e575)
          replace p575:=ezT p575
          replace q575:=ezT q575
          have p576:0≤(a1:Int):=ozD (uq)
          have q576:a1<(l0.length:Int):=ozD (uq)
          obtain ⟨ad576,e576,hx576_0,hx576_1,hx576_2,hx576_3⟩:=jna HR0.out a1 p576 q576
          obtain rfl:ad573=ad576:=(by injection e576)
          replace p576:=ezT p576
          replace q576:=ezT q576
          go_wp2
          repeat (go_quiet (fail);try go_wp2)
          go_ret
          exact ⟨sq,Y7⟩
         ·rw [if_neg c9] at H
          have c9b0:(((jc l0 x5_1).f0) == ((jc l0 a1).f0))=false:=beq_eq_false_iff_ne.mpr c9
          have c9b1:(((jc l0 x5_1).f0) != ((jc l0 a1).f0))=true:=bne_iff_ne.mpr c9
          have H':=am H
          clear H
          have p573:0≤(x5_1:Int):=ozD (uq)
          have q573:x5_1<(l0.length:Int):=ozD (uq)
          obtain ⟨ad573,e573,hx573_0,hx573_1,hx573_2,hx573_3⟩:=jna HR0.out x5_1 p573 q573
          cases e573
          replace p573:=ezT p573
          replace q573:=ezT q573
          have p574:0≤(a1:Int):=ozD (uq)
          have q574:a1<(l0.length:Int):=ozD (uq)
          obtain ⟨ad574,e574,hx574_0,hx574_1,hx574_2,hx574_3⟩:=jna HR0.out a1 p574 q574
          obtain rfl:ad573=ad574:=(by injection e574)
          replace p574:=ezT p574
          replace q574:=ezT q574
          have p575:0≤(x5_1:Int):=ozD (uq)
          have q575:x5_1<(l0.length:Int):=ozD (uq)
          obtain ⟨ad575,e575,hx575_0,hx575_1,hx575_2,hx575_3⟩:=jna HR0.out x5_1 p575 q575
          obtain rfl:ad573=ad575:=(by injection e575)
          replace p575:=ezT p575
          replace q575:=ezT q575
          have p576:0≤(a1:Int):=ozD (uq)
          have q576:a1<(l0.length:Int):=ozD (uq)
          obtain ⟨ad576,e576,hx576_0,hx576_1,hx576_2,hx576_3⟩:=jna HR0.out a1 p576 q576
          obtain rfl:ad573=ad576:=(by injection e576)
          replace p576:=ezT p576
          replace q576:=ezT q576
          go_wp2
          repeat (go_quiet (fail);try go_wp2)
          go_roundg k1
          case measure=>have:=HK1.out;omega
          case rel=>exact ⟨(wrap64 (x5_1 - 1)),(sq),H',⟨by have:=HK1.out;omega⟩,Y7⟩
       ·rw [if_neg c7] at H
        exact absurd H (by simp)
      ·rw [if_neg c6] at H
       exact absurd H (by simp)
     ·rw [if_neg c5] at H
      exact absurd H (by simp)
    ·rw [if_neg c4] at H
     exact absurd H (by simp)
   ·rw [if_neg c3] at H
    have c3b0:decide (0≤x5_1)=false:=dzF c3
    clear c3
    obtain rfl:=Option.some.inj H
    go_wp2
    repeat (go_quiet (fail);try go_wp2)
    go_ret
    exact ⟨sq,Y7⟩
def jv.inB (a lo hi : Int) : Bool := decide (lo ≤ a) && decide (a ≤ hi)
theorem jqc (a lo hi : Int) : jM.f a lo hi = some (jv.inB a lo hi) := by
 unfold jM.f jv.inB
 by_cases h:lo≤a
 ·rw [if_pos h];simp [h]
 ·rw [if_neg h];simp [h]
theorem spec_opens_eq (a : Int) : jSc.f a = some (jv.inB a 7 12) := by
 unfold jSc.f
 rw [jqc];rfl
theorem spec_follows_eq (a : Int) : jJb.f a = some (jv.inB a 8 10) := by
 unfold jJb.f
 rw [jqc];rfl
def jv.off (p : List S36) (i : Int) (x : S36) : Bool :=
 if (if i=0 then decide (x.f0≠0) else if (wrap64 ((jc p (i - 1)).f0+1))<x.f0 then true else (jv.inB (jc p (i - 1)).f1 7 12 != (x.f0 == wrap64 ((jc p (i - 1)).f0+1)))) then true
 else decide (i+1=(p.length:Int)) && jv.inB x.f1 7 12
def jv.f (k : Nat) (l0_0 : List S75) (l1 : List S36) (a2 : Int) : Option Bool :=
 if 0≤a2 then if a2<(l1.length:Int) then
  (jza.f k l0_0 (jc l1 a2).f0 (jc l1 a2).f1 (jc l1 a2).f2 (jc l1 a2).f3).bind fun v =>
  if v=false then some false else if jv.inB (jc l1 a2).f0 0 5=false then some false else
  if jv.off l1 a2 (jc l1 a2) then some false else
  (if (jc l1 a2).f1=7 then jH.f k l1 a2 else some true).bind fun c1=>if c1=false then some false else
  (if (jc l1 a2).f1=5∨(jc l1 a2).f1=6 then jZa.f k l1 a2 else some true).bind fun c2=>if c2=false then some false else
  if jv.inB (jc l1 a2).f1 8 10=false then some true else
  (jib.f k l1 a2).bind fun h=>if 0≤h then if h<(l1.length:Int) then some ((jc l1 h).f1 == 7 || jv.inB (jc l1 h).f1 8 10) else none else some false
 else none else none
def VX (W : World) (BX : Nat) (x : S36) : Prop := W.heap[BX]? = some (.cells #[.int .i64 x.f0, .int .i64 x.f1, .int .i64 x.f2, .int .i64 x.f3] 36 (0, 0))
theorem VX.below {W W' : World} {BX : Nat} {x : S36} (h : VX W BX x) (hb : Below W.heap.size W W') : VX W' BX x := (hb.block _ (jDb h)).trans h
theorem VX.cells {W : World} {BX : Nat} {x : S36} (h : VX W BX x) : W.cell? ⟨BX, 0, none⟩ = some (.int .i64 x.f0) ∧ W.cell? ⟨BX, 1, none⟩ = some (.int .i64 x.f1) ∧ W.cell? ⟨BX, 2, none⟩ = some (.int .i64 x.f2) ∧ W.cell? ⟨BX, 3, none⟩ = some (.int .i64 x.f3) :=
 ⟨(jF h 0).trans rfl,(jF h 1).trans rfl,(jF h 2).trans rfl,(jF h 3).trans rfl⟩
set_option maxHeartbeats 8000000 in
set_option maxRecDepth 100000 in
theorem jv.calls (k : Nat) (A0_0 : Option Addr) (c0_0 : Nat) (l0_0 : List S75) (A1 : Option Addr) (c1 : Nat) (l1 : List S36) (a2 : Int) (r : Bool) (w : World) (hr0_0 : Kd.C k75 w A0_0 l0_0.length l0_0) (hc0_0 : l0_0.length ≤ c0_0) (hr1 : Kd.C k36 w A1 l1.length l1) (hc1 : l1.length ≤ c1) (h : jv.f k l0_0 l1 a2 = some r) :
  Calls Try.prog 79 #[.agg #[.slice A0_0 l0_0.length c0_0], .slice A1 l1.length c1, .int .i64 a2] w fun e w'=>e=.returned (.bool r)∧Below w.heap.size w w':=by
 have hu25:=Try.underlying25
 have hu36:=Try.underlying36
 have hm:l1.length≤9223372036854775807:=Kd.C_max hr1
 unfold jv.f at h
 by_cases h0:0≤a2
 ·rw [if_pos h0] at h
  by_cases h1:a2<(l1.length:Int)
  ·rw [if_pos h1] at h
   obtain ⟨v,hv,h⟩:=bzS h
   have HN:=am (fun W (hb:Below w.heap.size w W)=>jza.calls k A0_0 c0_0 l0_0 _ _ _ _ v W (Kd.jT hr0_0 hb) hc0_0 hv)
   clear hv
   obtain ⟨ad,rfl,hx0,hx1,hx2,hx3⟩:=jna hr1 a2 h0 h1
   have HR1:=am hr1
   clear hr0_0 hr1
   generalize hgx:jc l1 a2=x at h HN hx0 hx1 hx2 hx3
   clear hgx
   have X1:=am (show VX ((w.alloc (.cells #[.slice A0_0 l0_0.length c0_0] 25)).alloc (.cells #[.int .i64 x.f0, .int .i64 x.f1, .int .i64 x.f2, .int .i64 x.f3] 36)) (w.heap.size+1) x by have:=heap_alloc_new (w.alloc (.cells #[.slice A0_0 l0_0.length c0_0] 25)) (.cells #[.int .i64 x.f0, .int .i64 x.f1, .int .i64 x.f2, .int .i64 x.f3] 36);simpa [VX] using this)
   have HB1:=am (((Below.refl w.heap.size w).alloc (Nat.le_refl _) (.cells #[.slice A0_0 l0_0.length c0_0] 25)).alloc (by simp) (.cells #[.int .i64 x.f0, .int .i64 x.f1, .int .i64 x.f2, .int .i64 x.f3] 36))
   have hbt:=(Below.refl w.heap.size w).alloc (Nat.le_refl _) (.cells #[.slice A0_0 l0_0.length c0_0] 25)
   replace hx0:=jia hbt hx0
   replace hx1:=jia hbt hx1
   replace hx2:=jia hbt hx2
   replace hx3:=jia hbt hx3
   clear hbt
   have p0:=ezT h0
   have p1:=ezT h1
   cases v with
   | false =>
    obtain rfl:false=r:=by simpa using h
    clear h
    go_enter Try.func79,Try.ntmps79
    go_wp2_with (first |(go_at_call 93;refine (HN.out _ HB1.out).mono ?_;rintro e w2 ⟨rfl,hb2⟩;have X2:=am (VX.below X1.out hb2);have HB2:=am (jda HB1.out HB1.out.size hb2);clear hb2;obtain ⟨e0,e1,e2,e3⟩:=VX.cells X2.out))
    go_ret
    exact ⟨rfl,HB2.out⟩
   | true =>
    simp only [Bool.true_eq_false,if_false] at h
    cases h5:jv.inB x.f0 0 5 with
    | false =>
     have H5:=am h5
     rw [h5,if_pos rfl] at h
     obtain rfl:false=r:=by simpa using h
     clear h h5
     go_enter Try.func79,Try.ntmps79
     go_wp2_with (first |(go_at_call 93;refine (HN.out _ HB1.out).mono ?_;rintro e w2 ⟨rfl,hb2⟩;have X2:=am (VX.below X1.out hb2);have HB2:=am (jda HB1.out HB1.out.size hb2);clear hb2;obtain ⟨e0,e1,e2,e3⟩:=VX.cells X2.out) |(go_at_call 61;refine (jM.calls _ _ _ _ _ (jqc _ _ _)).mono ?_;rintro e w3 ⟨rfl,hd3⟩;have hb3:=hd3.below;clear hd3;have X3:=am (VX.below X2.out hb3);have HB3:=am (jda HB2.out HB2.out.size hb3);clear hb3 e0 e1 e2 e3;obtain ⟨e0,e1,e2,e3⟩:=VX.cells X3.out;rw [H5.out]))
     go_ret
     exact ⟨rfl,HB3.out⟩
    | true =>
     have H5:=am h5
     rw [h5] at h
     simp only [Bool.true_eq_false,if_false] at h
     clear h5
     have HH:=am h
     clear h
     go_enter Try.func79,Try.ntmps79
     go_upto_region 4 with (first |(go_at_call 93;refine (HN.out _ HB1.out).mono ?_;rintro e w2 ⟨rfl,hb2⟩;have X2:=am (VX.below X1.out hb2);have HB2:=am (jda HB1.out HB1.out.size hb2);clear hb2;obtain ⟨e0,e1,e2,e3⟩:=VX.cells X2.out) |(go_at_call 61;refine (jM.calls _ _ _ _ _ (jqc _ _ _)).mono ?_;rintro e w3 ⟨rfl,hd3⟩;have hb3:=hd3.below;clear hd3;have X3:=am (VX.below X2.out hb3);have HB3:=am (jda HB2.out HB2.out.size hb3);clear hb3 e0 e1 e2 e3;obtain ⟨e0,e1,e2,e3⟩:=VX.cells X3.out;rw [H5.out]))
     go_cut [77] (fun v77 wc=>v77=.bool (jv.off l1 a2 x)∧jq (VX wc (w.heap.size+1) x)∧jq (Below w.heap.size w wc))
     case first =>
      clear HH
      have HO:=am (fun (a:Int) (b:Bool) (hb:jv.inB a 7 12=b) W=>(jSc.calls a b W (by rw [spec_opens_eq,hb])).mono fun e w' h=>(⟨h.1,h.2.out⟩:e=.returned (.bool b)∧∃ m,w'=W.drewN m))
      have hw2:IntKind.i64.wrap (a2+1)=a2+1:=IntWalk.i64_in _ (by omega)
      by_cases z0:a2=0
      ·have b0:(a2 == 0)=true:=beq_iff_eq.2 z0
       have b0':decide (0<a2)=false:=dzF (by omega)
       by_cases zx:x.f0=0
       ·have b1:(x.f0 != 0)=false:=by simpa using zx
        have HE:=am (by unfold jv.off;rw [if_pos z0];simp [zx]:jv.off l1 a2 x=(decide (a2+1=(l1.length:Int)) && jv.inB x.f1 7 12))
        clear z0
        clear zx
        by_cases zl:a2+1=(l1.length:Int)
        ·have b3:(a2+1 == (l1.length:Int))=true:=by rw [beq_iff_eq];omega
         cases hx:jv.inB x.f1 7 12 with
         | true =>
          have HX:=am hx
          have HF:=am (by rw [HE.out,hx,dzT zl];rfl:jv.off l1 a2 x=true)
          clear zl hx HE
          go_big_quiet ((go_at_call 94;exact Calls.quiet_of (HO.out x.f1 _ HX.out _)))
          go_wp2
          go_meet
          case rel=>exact ⟨by rw [HF.out],X3,⟨jm HB3.out _⟩⟩
         | false =>
          have HX:=am hx
          have HF:=am (by rw [HE.out,hx];simp:jv.off l1 a2 x=false)
          clear zl hx HE
          go_big_quiet ((go_at_call 94;exact Calls.quiet_of (HO.out x.f1 _ HX.out _)))
          go_wp2
          go_meet
          case rel=>exact ⟨by rw [HF.out],X3,⟨jm HB3.out _⟩⟩
        ·have b3:(a2+1 == (l1.length:Int))=false:=by rw [beq_eq_false_iff_ne];omega
         have HF:=am (by rw [HE.out,dzF zl];rfl:jv.off l1 a2 x=false)
         clear zl HE
         go_big_quiet (fail)
         go_wp2
         go_meet
         case rel=>exact ⟨by rw [HF.out],X3,⟨jm HB3.out _⟩⟩
       ·have b1:(x.f0 != 0)=true:=by simpa using zx
        have HF:=am (by unfold jv.off;rw [if_pos z0];simp [zx]:jv.off l1 a2 x=true)
        clear zx z0
        go_big_quiet (fail)
        go_wp2
        go_meet
        case rel=>exact ⟨by rw [HF.out],X3,⟨jm HB3.out _⟩⟩
      ·have b0:(a2 == 0)=false:=beq_eq_false_iff_ne.2 z0
       have b0':decide (0<a2)=true:=dzT (by omega)
       have q0:0≤a2 - 1:=by omega
       have q1:a2 - 1<(l1.length:Int):=by omega
       obtain ⟨j,hj⟩:∃ j,a2 - 1=j:=⟨_,rfl⟩
       rw [hj] at q0 q1
       obtain ⟨ad',he,y0,y1,y2,y3⟩:=jna HR1.out j q0 q1
       cases he
       replace y0:=jia HB3.out y0
       replace y1:=jia HB3.out y1
       clear y2 y3
       replace q0:=ezT q0
       replace q1:=ezT q1
       have HD:=am (by unfold jv.off;rw [if_neg z0]:jv.off l1 a2 x=if (if (wrap64 ((jc l1 (a2 - 1)).f0+1))<x.f0 then true else (jv.inB (jc l1 (a2 - 1)).f1 7 12 != (x.f0 == wrap64 ((jc l1 (a2 - 1)).f0+1)))) then true else decide (a2+1=(l1.length:Int)) && jv.inB x.f1 7 12)
       clear z0
       rw [hj] at HD
       generalize jc l1 j=y at HD y0 y1
       generalize hz:wrap64 (y.f0+1)=z at HD
       have HZ:=am hz
       by_cases zt:z<x.f0
       ·have b4:decide (z<x.f0)=true:=dzT zt
        have HF:=am (by rw [HD.out];simp [zt]:jv.off l1 a2 x=true)
        clear zt HD
        go_big_quiet (fail)
        go_wp2
        go_meet
        case rel=>exact ⟨by rw [HF.out],X3,⟨jm HB3.out _⟩⟩
       ·have b4:decide (z<x.f0)=false:=dzF zt
        cases hy:jv.inB y.f1 7 12 with
        | true =>
         have HY:=am hy
         by_cases ze:x.f0=z
         ·have b5:(x.f0 == z)=true:=beq_iff_eq.2 ze
          have HE:=am (by rw [HD.out,hy,b5];simp [zt]:jv.off l1 a2 x=(decide (a2+1=(l1.length:Int)) && jv.inB x.f1 7 12))
          clear zt HD hy ze
          by_cases zl:a2+1=(l1.length:Int)
          ·have b3:(a2+1 == (l1.length:Int))=true:=by rw [beq_iff_eq];omega
           cases hx:jv.inB x.f1 7 12 with
           | true =>
            have HX:=am hx
            have HF:=am (by rw [HE.out,hx,dzT zl];rfl:jv.off l1 a2 x=true)
            clear zl hx HE
            go_big_quiet (first |(go_at_call 94;exact Calls.quiet_of (HO.out y.f1 _ HY.out _)) |(go_at_call 94;exact Calls.quiet_of (HO.out x.f1 _ HX.out _)))
            go_wp2
            go_meet
            case rel=>exact ⟨by rw [HF.out],X3,⟨jm HB3.out _⟩⟩
           | false =>
            have HX:=am hx
            have HF:=am (by rw [HE.out,hx];simp:jv.off l1 a2 x=false)
            clear zl hx HE
            go_big_quiet (first |(go_at_call 94;exact Calls.quiet_of (HO.out y.f1 _ HY.out _)) |(go_at_call 94;exact Calls.quiet_of (HO.out x.f1 _ HX.out _)))
            go_wp2
            go_meet
            case rel=>exact ⟨by rw [HF.out],X3,⟨jm HB3.out _⟩⟩
          ·have b3:(a2+1 == (l1.length:Int))=false:=by rw [beq_eq_false_iff_ne];omega
           have HF:=am (by rw [HE.out,dzF zl];rfl:jv.off l1 a2 x=false)
           clear zl HE
           go_big_quiet ((go_at_call 94;exact Calls.quiet_of (HO.out y.f1 _ HY.out _)))
           go_wp2
           go_meet
           case rel=>exact ⟨by rw [HF.out],X3,⟨jm HB3.out _⟩⟩
         ·have b5:(x.f0 == z)=false:=beq_eq_false_iff_ne.2 ze
          have HF:=am (by rw [HD.out,hy,b5];simp:jv.off l1 a2 x=true)
          clear zt HD hy ze
          go_big_quiet ((go_at_call 94;exact Calls.quiet_of (HO.out y.f1 _ HY.out _)))
          go_wp2
          go_meet
          case rel=>exact ⟨by rw [HF.out],X3,⟨jm HB3.out _⟩⟩
        | false =>
         have HY:=am hy
         by_cases ze:x.f0=z
         ·have b5:(x.f0 == z)=true:=beq_iff_eq.2 ze
          have HF:=am (by rw [HD.out,hy,b5];simp:jv.off l1 a2 x=true)
          clear zt HD hy ze
          go_big_quiet ((go_at_call 94;exact Calls.quiet_of (HO.out y.f1 _ HY.out _)))
          go_wp2
          go_meet
          case rel=>exact ⟨by rw [HF.out],X3,⟨jm HB3.out _⟩⟩
         ·have b5:(x.f0 == z)=false:=beq_eq_false_iff_ne.2 ze
          have HE:=am (by rw [HD.out,hy,b5];simp [zt]:jv.off l1 a2 x=(decide (a2+1=(l1.length:Int)) && jv.inB x.f1 7 12))
          clear zt HD hy ze
          by_cases zl:a2+1=(l1.length:Int)
          ·have b3:(a2+1 == (l1.length:Int))=true:=by rw [beq_iff_eq];omega
           cases hx:jv.inB x.f1 7 12 with
           | true =>
            have HX:=am hx
            have HF:=am (by rw [HE.out,hx,dzT zl];rfl:jv.off l1 a2 x=true)
            clear zl hx HE
            go_big_quiet (first |(go_at_call 94;exact Calls.quiet_of (HO.out y.f1 _ HY.out _)) |(go_at_call 94;exact Calls.quiet_of (HO.out x.f1 _ HX.out _)))
            go_wp2
            go_meet
            case rel=>exact ⟨by rw [HF.out],X3,⟨jm HB3.out _⟩⟩
           | false =>
            have HX:=am hx
            have HF:=am (by rw [HE.out,hx];simp:jv.off l1 a2 x=false)
            clear zl hx HE
            go_big_quiet (first |(go_at_call 94;exact Calls.quiet_of (HO.out y.f1 _ HY.out _)) |(go_at_call 94;exact Calls.quiet_of (HO.out x.f1 _ HX.out _)))
            go_wp2
            go_meet
            case rel=>exact ⟨by rw [HF.out],X3,⟨jm HB3.out _⟩⟩
          ·have b3:(a2+1 == (l1.length:Int))=false:=by rw [beq_eq_false_iff_ne];omega
           have HF:=am (by rw [HE.out,dzF zl];rfl:jv.off l1 a2 x=false)
           clear zl HE
           go_big_quiet ((go_at_call 94;exact Calls.quiet_of (HO.out y.f1 _ HY.out _)))
           go_wp2
           go_meet
           case rel=>exact ⟨by rw [HF.out],X3,⟨jm HB3.out _⟩⟩
     case rest =>
      obtain ⟨rfl,X4,HB4⟩:=hcut
      clear X1 HB1
      have h:=HH.out
      clear HH
      obtain ⟨e0,e1,e2,e3⟩:=VX.cells X4.out
      have tok:True:=trivial
      have HO:=am (fun (a:Int) (b:Bool) (hb:jv.inB a 8 10=b) W=>jJb.calls a b W (by rw [spec_follows_eq,hb]))
      cases ho:jv.off l1 a2 x with
      | true =>
       rw [ho,if_pos rfl] at h
       obtain rfl:false=r:=by simpa using h
       clear h ho
       go_wp2
       go_ret
       exact ⟨rfl,HB4.out⟩
      | false =>
       rw [ho] at h
       simp only [Bool.false_eq_true,if_false] at h
       clear ho
       obtain ⟨c,hc,h⟩:=bzS h
       by_cases z7:x.f1=7
       ·rw [if_pos z7] at hc
        have HC:=am (fun W (hb:Below w.heap.size w W)=>jH.calls k _ c1 l1 a2 c W (Kd.jT HR1.out hb) hc1 hc)
        have b7:(x.f1 == 7)=true:=beq_iff_eq.2 z7
        have b5:(x.f1 == 5)=false:=beq_eq_false_iff_ne.2 (by omega)
        have b6:(x.f1 == 6)=false:=beq_eq_false_iff_ne.2 (by omega)
        cases c with
        | false =>
         obtain rfl:false=r:=by simpa using h
         clear h hc z7
         go_wp2_with (first |(go_at_call 95;refine (HC.out _ HB4.out).mono ?_;rintro e w5 ⟨rfl,hb5⟩;have X5:=am (VX.below X4.out hb5);have HB5:=am (jda HB4.out HB4.out.size hb5);clear hb5 e0 e1 e2 e3;obtain ⟨e0,e1,e2,e3⟩:=VX.cells X5.out))
         go_ret
         exact ⟨rfl,HB5.out⟩
        | true =>
         have hx:jv.inB x.f1 8 10=false:=by unfold jv.inB;rw [z7];rfl
         have HX:=am hx
         obtain rfl:true=r:=by simpa [z7,show jv.inB 7 8 10=false from rfl] using h
         clear h hc z7 hx
         go_wp2_with (first |(go_at_call 95;refine (HC.out _ HB4.out).mono ?_;rintro e w5 ⟨rfl,hb5⟩;have X5:=am (VX.below X4.out hb5);have HB5:=am (jda HB4.out HB4.out.size hb5);clear hb5 e0 e1 e2 e3;obtain ⟨e0,e1,e2,e3⟩:=VX.cells X5.out) |(go_at_call 85;have tk:=tok;clear tok;refine (HO.out x.f1 _ HX.out _).mono ?_;rintro e w6 ⟨rfl,hd6⟩;have hb6:=hd6.below;clear hd6;have X6:=am (VX.below X5.out hb6);have HB6:=am (jda HB5.out HB5.out.size hb6);clear hb6 e0 e1 e2 e3;obtain ⟨e0,e1,e2,e3⟩:=VX.cells X6.out))
         go_ret
         exact ⟨rfl,HB6.out⟩
       ·rw [if_neg z7] at hc
        obtain rfl:true=c:=by simpa using hc
        clear hc
        have b7:(x.f1 == 7)=false:=beq_eq_false_iff_ne.2 z7
        simp only [Bool.true_eq_false,if_false] at h
        obtain ⟨c,hc,h⟩:=bzS h
        by_cases z56:x.f1=5∨x.f1=6
        ·rw [if_pos z56] at hc
         have HC:=am (fun W (hb:Below w.heap.size w W)=>jZa.calls k _ c1 l1 a2 c W (Kd.jT HR1.out hb) hc1 hc)
         have hx:jv.inB x.f1 8 10=false:=by rcases z56 with z | z <;> (unfold jv.inB;rw [z];rfl)
         have HX:=am hx
         cases c with
         | false =>
          obtain rfl:false=r:=by simpa using h
          clear h hc hx
          rcases z56 with z | z
          ·have b5:(x.f1 == 5)=true:=beq_iff_eq.2 z
           clear z z7
           go_wp2_with (first |(go_at_call 96;refine (HC.out _ HB4.out).mono ?_;rintro e w5 ⟨rfl,hd5⟩;have hb5:=hd5.below;clear hd5;have X5:=am (VX.below X4.out hb5);have HB5:=am (jda HB4.out HB4.out.size hb5);clear hb5 e0 e1 e2 e3;obtain ⟨e0,e1,e2,e3⟩:=VX.cells X5.out))
           go_ret
           exact ⟨rfl,HB5.out⟩
          ·have b5:(x.f1 == 5)=false:=beq_eq_false_iff_ne.2 (by omega)
           have b6:(x.f1 == 6)=true:=beq_iff_eq.2 z
           clear z z7
           go_wp2_with (first |(go_at_call 96;refine (HC.out _ HB4.out).mono ?_;rintro e w5 ⟨rfl,hd5⟩;have hb5:=hd5.below;clear hd5;have X5:=am (VX.below X4.out hb5);have HB5:=am (jda HB4.out HB4.out.size hb5);clear hb5 e0 e1 e2 e3;obtain ⟨e0,e1,e2,e3⟩:=VX.cells X5.out))
           go_ret
           exact ⟨rfl,HB5.out⟩
         | true =>
          obtain rfl:true=r:=by simpa [hx] using h
          clear h hc hx
          rcases z56 with z | z
          ·have b5:(x.f1 == 5)=true:=beq_iff_eq.2 z
           clear z z7
           go_wp2_with (first |(go_at_call 96;refine (HC.out _ HB4.out).mono ?_;rintro e w5 ⟨rfl,hd5⟩;have hb5:=hd5.below;clear hd5;have X5:=am (VX.below X4.out hb5);have HB5:=am (jda HB4.out HB4.out.size hb5);clear hb5 e0 e1 e2 e3;obtain ⟨e0,e1,e2,e3⟩:=VX.cells X5.out) |(go_at_call 85;have tk:=tok;clear tok;refine (HO.out x.f1 _ HX.out _).mono ?_;rintro e w6 ⟨rfl,hd6⟩;have hb6:=hd6.below;clear hd6;have X6:=am (VX.below X5.out hb6);have HB6:=am (jda HB5.out HB5.out.size hb6);clear hb6 e0 e1 e2 e3;obtain ⟨e0,e1,e2,e3⟩:=VX.cells X6.out))
           go_ret
           exact ⟨rfl,HB6.out⟩
          ·have b5:(x.f1 == 5)=false:=beq_eq_false_iff_ne.2 (by omega)
           have b6:(x.f1 == 6)=true:=beq_iff_eq.2 z
           clear z z7
           go_wp2_with (first |(go_at_call 96;refine (HC.out _ HB4.out).mono ?_;rintro e w5 ⟨rfl,hd5⟩;have hb5:=hd5.below;clear hd5;have X5:=am (VX.below X4.out hb5);have HB5:=am (jda HB4.out HB4.out.size hb5);clear hb5 e0 e1 e2 e3;obtain ⟨e0,e1,e2,e3⟩:=VX.cells X5.out) |(go_at_call 85;have tk:=tok;clear tok;refine (HO.out x.f1 _ HX.out _).mono ?_;rintro e w6 ⟨rfl,hd6⟩;have hb6:=hd6.below;clear hd6;have X6:=am (VX.below X5.out hb6);have HB6:=am (jda HB5.out HB5.out.size hb6);clear hb6 e0 e1 e2 e3;obtain ⟨e0,e1,e2,e3⟩:=VX.cells X6.out))
           go_ret
           exact ⟨rfl,HB6.out⟩
        ·rw [if_neg z56] at hc
         obtain rfl:true=c:=by simpa using hc
         clear hc
         have b5:(x.f1 == 5)=false:=beq_eq_false_iff_ne.2 (fun z=>z56 (.inl z))
         have b6:(x.f1 == 6)=false:=beq_eq_false_iff_ne.2 (fun z=>z56 (.inr z))
         simp only [Bool.true_eq_false,if_false] at h
         clear z7 z56
         cases hx:jv.inB x.f1 8 10 with
         | false =>
          have HX:=am hx
          rw [hx,if_pos rfl] at h
          obtain rfl:true=r:=by simpa using h
          clear h hx
          go_wp2_with (first |(go_at_call 85;have tk:=tok;clear tok;refine (HO.out x.f1 _ HX.out _).mono ?_;rintro e w6 ⟨rfl,hd6⟩;have hb6:=hd6.below;clear hd6;have X6:=am (VX.below X4.out hb6);have HB6:=am (jda HB4.out HB4.out.size hb6);clear hb6 e0 e1 e2 e3;obtain ⟨e0,e1,e2,e3⟩:=VX.cells X6.out))
          go_ret
          exact ⟨rfl,HB6.out⟩
         | true =>
          have HX:=am hx
          rw [hx] at h
          simp only [Bool.true_eq_false,if_false] at h
          clear hx
          obtain ⟨q,hq,h⟩:=bzS h
          have HQ:=am (fun W (hb:Below w.heap.size w W)=>jib.calls k _ c1 l1 a2 q W (Kd.jT HR1.out hb) hc1 hq)
          clear hq
          by_cases q0:0≤q
          ·rw [if_pos q0] at h
           have q0b:=dzT q0
           by_cases q1:q<(l1.length:Int)
           ·rw [if_pos q1] at h
            obtain ⟨ad',he,y0,y1,y2,y3⟩:=jna HR1.out q q0 q1
            cases he
            generalize jc l1 q=y at h y0 y1
            have HK:=am y1
            clear y0 y1 y2 y3
            have q0:=ezT q0
            have q1:=ezT q1
            by_cases zy:y.f1=7
            ·have by7:(y.f1 == 7)=true:=beq_iff_eq.2 zy
             obtain rfl:true=r:=by simpa [zy] using h
             clear h zy
             go_wp2_with (first |(go_at_call 85;have tk:=tok;clear tok;refine (HO.out x.f1 _ HX.out _).mono ?_;rintro e w6 ⟨rfl,hd6⟩;have hb6:=hd6.below;clear hd6;have X6:=am (VX.below X4.out hb6);have HB6:=am (jda HB4.out HB4.out.size hb6);clear hb6 e0 e1 e2 e3;obtain ⟨e0,e1,e2,e3⟩:=VX.cells X6.out) |(go_at_call 97;refine (HQ.out _ HB6.out).mono ?_;rintro e w7 ⟨rfl,hd7⟩;have hb7:=hd7.below;clear hd7;have X7:=am (VX.below X6.out hb7);have HB7:=am (jda HB6.out HB6.out.size hb7);clear hb7 e0 e1 e2 e3;obtain ⟨e0,e1,e2,e3⟩:=VX.cells X7.out;have y1:=jia HB7.out HK.out))
             go_ret
             exact ⟨rfl,HB7.out⟩
            ·have by7:(y.f1 == 7)=false:=beq_eq_false_iff_ne.2 zy
             cases hy:jv.inB y.f1 8 10 with
             | true =>
              have HY:=am hy
              obtain rfl:true=r:=by rw [hy,by7] at h;simpa using h
              clear h hy zy
              go_wp2_with (first |(go_at_call 85;have tk:=tok;clear tok;refine (HO.out x.f1 _ HX.out _).mono ?_;rintro e w6 ⟨rfl,hd6⟩;have hb6:=hd6.below;clear hd6;have X6:=am (VX.below X4.out hb6);have HB6:=am (jda HB4.out HB4.out.size hb6);clear hb6 e0 e1 e2 e3;obtain ⟨e0,e1,e2,e3⟩:=VX.cells X6.out) |(go_at_call 97;refine (HQ.out _ HB6.out).mono ?_;rintro e w7 ⟨rfl,hd7⟩;have hb7:=hd7.below;clear hd7;have X7:=am (VX.below X6.out hb7);have HB7:=am (jda HB6.out HB6.out.size hb7);clear hb7 e0 e1 e2 e3;obtain ⟨e0,e1,e2,e3⟩:=VX.cells X7.out;have y1:=jia HB7.out HK.out) |(go_at_call 85;refine (HO.out y.f1 _ HY.out _).mono ?_;rintro e w8 ⟨rfl,hd8⟩;have hb8:=hd8.below;clear hd8;have X8:=am (VX.below X7.out hb8);have HB8:=am (jda HB7.out HB7.out.size hb8);clear hb8 e0 e1 e2 e3;obtain ⟨e0,e1,e2,e3⟩:=VX.cells X8.out))
              go_ret
              exact ⟨rfl,HB8.out⟩
             | false =>
              have HY:=am hy
              obtain rfl:false=r:=by rw [hy,by7] at h;simpa using h
              clear h hy zy
              go_wp2_with (first |(go_at_call 85;have tk:=tok;clear tok;refine (HO.out x.f1 _ HX.out _).mono ?_;rintro e w6 ⟨rfl,hd6⟩;have hb6:=hd6.below;clear hd6;have X6:=am (VX.below X4.out hb6);have HB6:=am (jda HB4.out HB4.out.size hb6);clear hb6 e0 e1 e2 e3;obtain ⟨e0,e1,e2,e3⟩:=VX.cells X6.out) |(go_at_call 97;refine (HQ.out _ HB6.out).mono ?_;rintro e w7 ⟨rfl,hd7⟩;have hb7:=hd7.below;clear hd7;have X7:=am (VX.below X6.out hb7);have HB7:=am (jda HB6.out HB6.out.size hb7);clear hb7 e0 e1 e2 e3;obtain ⟨e0,e1,e2,e3⟩:=VX.cells X7.out;have y1:=jia HB7.out HK.out) |(go_at_call 85;refine (HO.out y.f1 _ HY.out _).mono ?_;rintro e w8 ⟨rfl,hd8⟩;have hb8:=hd8.below;clear hd8;have X8:=am (VX.below X7.out hb8);have HB8:=am (jda HB7.out HB7.out.size hb8);clear hb8 e0 e1 e2 e3;obtain ⟨e0,e1,e2,e3⟩:=VX.cells X8.out))
              go_ret
              exact ⟨rfl,HB8.out⟩
           ·rw [if_neg q1] at h
            cases h
          ·rw [if_neg q0] at h
           have q0b:=dzF q0
           obtain rfl:false=r:=by simpa using h
           clear h q0
           go_wp2_with (first |(go_at_call 85;have tk:=tok;clear tok;refine (HO.out x.f1 _ HX.out _).mono ?_;rintro e w6 ⟨rfl,hd6⟩;have hb6:=hd6.below;clear hd6;have X6:=am (VX.below X4.out hb6);have HB6:=am (jda HB4.out HB4.out.size hb6);clear hb6 e0 e1 e2 e3;obtain ⟨e0,e1,e2,e3⟩:=VX.cells X6.out) |(go_at_call 97;refine (HQ.out _ HB6.out).mono ?_;rintro e w7 ⟨rfl,hd7⟩;have hb7:=hd7.below;clear hd7;have X7:=am (VX.below X6.out hb7);have HB7:=am (jda HB6.out HB6.out.size hb7);clear hb7 e0 e1 e2 e3;obtain ⟨e0,e1,e2,e3⟩:=VX.cells X7.out))
           go_ret
           exact ⟨rfl,HB7.out⟩
  ·rw [if_neg h1] at h
   cases h
 ·rw [if_neg h0] at h
  cases h
def jRa.l0 : Nat → ByteArray → Int → Option (Bool)
 | 0,_,_=>none
 | k+1,x0,x3=>if x3<(x0.size:Int) then (if 0≤x3 then (if (bt x0 x3)<97 then (some false) else (if (bt x0 x3) > 122 then (some false) else (jRa.l0 k x0 (wrap64 (x3+1))))) else (none)) else ((jM.f (x0.size:Int) 1 6).bind fun t577=>(some t577))
def jRa.f (k : Nat) (a0 : ByteArray) : Option (Bool) := jRa.l0 k a0 0
set_option maxHeartbeats 8000000 in
set_option maxRecDepth 100000 in
theorem jRa.calls (k : Nat) (a0 : ByteArray) (r : Bool) (w : World) (h : jRa.f k a0 = some r) :
  Calls Try.prog 98 #[.string a0] w fun e w'=>e=.returned (.bool r)∧jsb w w':=by
 have H:(jRa.l0 k a0 0)=some r:=h
 clear h
 have H':=am H
 clear H
 go_enter Try.func98,Try.ntmps98
 go_wp2
 go_loopg [3] k (fun kq v3 w'=>∃ (x3_1:Int),v3=.int .i64 x3_1∧jq (jRa.l0 kq a0 x3_1=some r)∧jq (kq≤k)∧jsb w w')
 case atStart=>exact ⟨(0),(sq),H',⟨Nat.le_refl _⟩,Y7⟩
 case round =>
  clear H'
  obtain ⟨x3_1,rfl,HA,HK1,⟨m1,rfl⟩⟩:=hrel
  cases gk with
  | zero=>exact absurd HA.out (by simp [jRa.l0])
  | succ k1 =>
   have H:=HA.out
   clear HA
   simp only [jRa.l0] at H
   by_cases c2:x3_1<(a0.size:Int)
   ·rw [if_pos c2] at H
    have c2b0:decide (x3_1<(a0.size:Int))=true:=dzT c2
    clear c2
    by_cases c3:0≤x3_1
    ·rw [if_pos c3] at H
     have c3b0:decide (0≤x3_1)=true:=dzT c3
     clear c3
     by_cases c5:(bt a0 x3_1)<97
     ·rw [if_pos c5] at H
      have c5b0:decide ((bt a0 x3_1)<97)=true:=dzT c5
      clear c5
      obtain rfl:=Option.some.inj H
      have p4:0≤(x3_1:Int):=ozD (uq)
      have q4:x3_1<(a0.size:Int):=ozD (uq)
      have hx4:=bt_at a0 x3_1
      replace p4:=ezT p4
      replace q4:=ezT q4
      go_wp2
      go_ret
      exact ⟨sq,Y7⟩
     ·rw [if_neg c5] at H
      have c5b0:decide ((bt a0 x3_1)<97)=false:=dzF c5
      clear c5
      by_cases c7:(bt a0 x3_1) > 122
      ·rw [if_pos c7] at H
       have c7b0:decide (122<(bt a0 x3_1))=true:=dzT c7
       clear c7
       obtain rfl:=Option.some.inj H
       have p4:0≤(x3_1:Int):=ozD (uq)
       have q4:x3_1<(a0.size:Int):=ozD (uq)
       have hx4:=bt_at a0 x3_1
       replace p4:=ezT p4
       replace q4:=ezT q4
       have p6:0≤(x3_1:Int):=ozD (uq)
       have q6:x3_1<(a0.size:Int):=ozD (uq)
       have hx6:=bt_at a0 x3_1
       replace p6:=ezT p6
       replace q6:=ezT q6
       go_wp2
       go_ret
       exact ⟨sq,Y7⟩
      ·rw [if_neg c7] at H
       have c7b0:decide (122<(bt a0 x3_1))=false:=dzF c7
       clear c7
       have H':=am H
       clear H
       have p4:0≤(x3_1:Int):=ozD (uq)
       have q4:x3_1<(a0.size:Int):=ozD (uq)
       have hx4:=bt_at a0 x3_1
       replace p4:=ezT p4
       replace q4:=ezT q4
       have p6:0≤(x3_1:Int):=ozD (uq)
       have q6:x3_1<(a0.size:Int):=ozD (uq)
       have hx6:=bt_at a0 x3_1
       replace p6:=ezT p6
       replace q6:=ezT q6
       go_wp2
       go_roundg k1
       case measure=>have:=HK1.out;omega
       case rel=>exact ⟨(wrap64 (x3_1+1)),(sq),H',⟨by have:=HK1.out;omega⟩,Y7⟩
    ·rw [if_neg c3] at H
     exact absurd H (by simp)
   ·rw [if_neg c2] at H
    have c2b0:decide (x3_1<(a0.size:Int))=false:=dzF c2
    clear c2
    replace H:=bzS H
    obtain ⟨t577,A80,H⟩:=H
    replace H:(some t577)=some r:=H
    have A8:=am A80
    clear A80
    obtain rfl:=Option.some.inj H
    go_wp2_with (first |((with_reducible refine jd (f:=61) rfl ?_);refine gL (some 22) Try.func61 #[.int .i64 (a0.size:Int), .int .i64 1, .int .i64 6] ?_;(with_reducible refine (jM.calls (a0.size:Int) 1 6 t577 _ A8.out).mono ?_);rintro e w' ⟨rfl,⟨nd,rfl⟩⟩;refine ⟨_,rfl,?_⟩))
    go_ret
    exact ⟨sq,Y7⟩
def jLa.l0 : Nat → List (S75) → ByteArray → Int → Option (Int)
 | 0,_,_,_=>none
 | k+1,x0,x1,x5=>if x5<(x0.length:Int) then (if 0≤x5 then (if ((jY x0 x5).f0).toList=x1.toList then (some x5) else (jLa.l0 k x0 x1 (wrap64 (x5+1)))) else (none)) else (some (-1))
def jLa.f (k : Nat) (l0 : List (S75)) (a1 : ByteArray) : Option (Int) := jLa.l0 k l0 a1 0
set_option maxHeartbeats 8000000 in
set_option maxRecDepth 100000 in
theorem jLa.calls (k : Nat) (A0 : Option Addr) (c0 : Nat) (l0 : List (S75)) (a1 : ByteArray) (r : Int) (w : World) (hr0 : Kd.C k75 w A0 l0.length l0) (hc0 : l0.length ≤ c0) (h : jLa.f k l0 a1 = some r) :
  Calls Try.prog 99 #[.slice A0 l0.length c0, .string a1] w fun e w'=>e=.returned (.int .i64 r)∧jsb w w':=by
 have HR0:=am hr0
 have HC0:=am hc0
 clear hr0 hc0
 have H:(jLa.l0 k l0 a1 0)=some r:=h
 clear h
 have H':=am H
 clear H
 go_enter Try.func99,Try.ntmps99
 go_wp2
 go_loopg [5] k (fun kq v5 w'=>∃ (x5_1:Int),v5=.int .i64 x5_1∧jq (jLa.l0 kq l0 a1 x5_1=some r)∧jq (kq≤k)∧jsb w w')
 case atStart=>exact ⟨(0),(sq),H',⟨Nat.le_refl _⟩,Y7⟩
 case round =>
  clear H'
  try clear p2
  obtain ⟨x5_1,rfl,HA,HK1,⟨m1,rfl⟩⟩:=hrel
  cases gk with
  | zero=>exact absurd HA.out (by simp [jLa.l0])
  | succ k1 =>
   have H:=HA.out
   clear HA
   simp only [jLa.l0] at H
   by_cases c3:x5_1<(l0.length:Int)
   ·rw [if_pos c3] at H
    have c3b0:decide (x5_1<(l0.length:Int))=true:=dzT c3
    clear c3
    by_cases c4:0≤x5_1
    ·rw [if_pos c4] at H
     have c4b0:decide (0≤x5_1)=true:=dzT c4
     clear c4
     by_cases c5:((jY l0 x5_1).f0).toList=a1.toList
     ·rw [if_pos c5] at H
      have c5b0:(((jY l0 x5_1).f0).toList == a1.toList)=true:=beq_iff_eq.mpr c5
      have c5b1:(((jY l0 x5_1).f0).toList != a1.toList)=false:=bne_eq_false_iff_eq.mpr c5
      clear c5
      obtain rfl:=Option.some.inj H
      have p578:0≤(x5_1:Int):=ozD (uq)
      have q578:x5_1<(l0.length:Int):=ozD (uq)
      obtain ⟨ad578,e578,hx578_0,hx578_1⟩:=at_T75 HR0.out x5_1 p578 q578
      cases e578
      replace p578:=ezT p578
      replace q578:=ezT q578
      go_wp2
      go_ret
      exact ⟨sq,Y7⟩
     ·rw [if_neg c5] at H
      have c5b0:(((jY l0 x5_1).f0).toList == a1.toList)=false:=beq_eq_false_iff_ne.mpr c5
      have c5b1:(((jY l0 x5_1).f0).toList != a1.toList)=true:=bne_iff_ne.mpr c5
      have H':=am H
      clear H
      have p578:0≤(x5_1:Int):=ozD (uq)
      have q578:x5_1<(l0.length:Int):=ozD (uq)
      obtain ⟨ad578,e578,hx578_0,hx578_1⟩:=at_T75 HR0.out x5_1 p578 q578
      cases e578
      replace p578:=ezT p578
      replace q578:=ezT q578
      go_wp2
      go_roundg k1
      case measure=>have:=HK1.out;omega
      case rel=>exact ⟨(wrap64 (x5_1+1)),(sq),H',⟨by have:=HK1.out;omega⟩,Y7⟩
    ·rw [if_neg c4] at H
     exact absurd H (by simp)
   ·rw [if_neg c3] at H
    have c3b0:decide (x5_1<(l0.length:Int))=false:=dzF c3
    clear c3
    obtain rfl:=Option.some.inj H
    go_wp2
    go_ret
    exact ⟨sq,Y7⟩
mutual
def jR.l0 : Nat → Int → List (S75) → Option (Bool)
 | 0,_,_=>none
 | k+1,x3,x155000=>if x3<(x155000.length:Int) then (if 0≤x3 then ((jRa.f k ((jY x155000 x3).f0)).bind fun t158=>(if t158=true then (if x3≤(x155000.length:Int) then ((jLa.f k (x155000.take (x3:Int).toNat) ((jY x155000 x3).f0)).bind fun t163=>(if t163≥0 then (jR.j1 k x3 true x155000) else (if x3=0 then (if ((jY x155000 x3).f1)=(-1) then (if x3 > 0 then ((jM.f ((jY x155000 x3).f1) 0 (wrap64 (x3 - 1))).bind fun t164=>(jR.j1 k x3 (!t164) x155000)) else (jR.j1 k x3 false x155000)) else (jR.j1 k x3 true x155000)) else (if x3 > 0 then ((jM.f ((jY x155000 x3).f1) 0 (wrap64 (x3 - 1))).bind fun t165=>(jR.j1 k x3 (!t165) x155000)) else (jR.j1 k x3 false x155000))))) else (none)) else (jR.j1 k x3 true x155000))) else (none)) else ((jM.f (x155000.length:Int) 1 8).bind fun t155=>(some t155))
def jR.j1 : Nat → Int → Bool → List (S75) → Option (Bool)
 | 0,_,_,_=>none
 | k+1,x3,x51,x155000=>if x51=true then (some false) else (jR.l0 k (wrap64 (x3+1)) x155000)
end
def jR.f (k : Nat) (l0_0 : List (S75)) : Option (Bool) := jR.l0 k 0 l0_0
set_option maxHeartbeats 8000000 in
set_option maxRecDepth 100000 in
theorem jR.calls (k : Nat) (A0_0 : Option Addr) (c0_0 : Nat) (l0_0 : List (S75)) (r : Bool) (w : World) (hr0_0 : Kd.C k75 w A0_0 l0_0.length l0_0) (hc0_0 : l0_0.length ≤ c0_0) (h : jR.f k l0_0 = some r) :
  Calls Try.prog 80 #[.agg #[.slice A0_0 l0_0.length c0_0]] w fun e w'=>e=.returned (.bool r)∧Below w.heap.size w w':=by
 have hu25:=Try.underlying25
 have hu75:=Try.underlying75
 have HR0_0:=am hr0_0
 have HC0_0:=am hc0_0
 clear hr0_0 hc0_0
 have HB:=am (Below.refl w.heap.size w)
 have H:(jR.l0 k 0 l0_0)=some r:=h
 clear h
 have H':=am H
 clear H
 go_enter Try.func80,Try.ntmps80
 go_wp2_with (first |((with_reducible refine jJ (N:=1) rfl ?_);refine bE (N:=1) (cs:=#[.slice A0_0 l0_0.length c0_0]) (t:=25) ?_;intro gb154 hg w2 hbox hb;have BK154:=am (hbox);have GW154:=am ((Y3:w.heap.size≤gb154));have GE154:=am ((Y3:w.heap.size≤gb154));replace HB:=am (je (bq) hb);clear hb hbox hg))
 go_loopg [3] k (fun kq v3 w'=>∃ (x3_1:Int),v3=.int .i64 x3_1∧jq (jR.l0 kq x3_1 l0_0=some r)∧jq (kq≤k)∧jq (w'.heap[gb154]?=some (.cells #[(.slice A0_0 l0_0.length c0_0)] 25 (0,0)))∧jq (Below w.heap.size w w'))
 case atStart=>exact ⟨(0),(sq),H',⟨Nat.le_refl _⟩,⟨kq BK154.out⟩,⟨Y106⟩⟩
 case round =>
  clear H'
  try clear c1
  try clear p2
  obtain ⟨x3_1,rfl,HA,HK1,BK154,HB⟩:=hrel
  cases gk with
  | zero=>exact absurd HA.out (by simp [jR.l0])
  | succ k1 =>
   have H:=HA.out
   clear HA
   simp only [jR.l0] at H
   by_cases c3:x3_1<(l0_0.length:Int)
   ·rw [if_pos c3] at H
    have c3b0:decide (x3_1<(l0_0.length:Int))=true:=dzT c3
    clear c3
    by_cases c4:0≤x3_1
    ·rw [if_pos c4] at H
     have c4b0:decide (0≤x3_1)=true:=dzT c4
     clear c4
     have HC5:=am H
     clear H
     have hcz6_0:=bc0 BK154.out
     have hfz6_0:=ja BK154.out 0
     have p156:0≤(x3_1:Int):=ozD (uq)
     have q156:x3_1<(l0_0.length:Int):=ozD (uq)
     obtain ⟨ad156,e156,hx156_0,hx156_1⟩:=at_T75 HR0_0.out x3_1 p156 q156
     cases e156
     replace hx156_0:=cb HB.out hx156_0
     replace hx156_1:=cb HB.out hx156_1
     replace p156:=ezT p156
     replace q156:=ezT q156
     go_upto_region 5 with (first |((with_reducible refine jJ (N:=4) rfl ?_);refine bE (N:=4) (cs:=#[.string (⟨#[]⟩:ByteArray), .int .i64 0]) (t:=75) ?_;intro gb157 hg w7 hbox hb;have BK157:=am (hbox);have GW157:=am ((Y130:w.heap.size≤gb157));have GE157:=am ((Y130:w.heap.size≤gb157));have NB154_157:=am ((by rw [hg];exact Nat.ne_of_lt (jDb (g:=gb154) (o:=.cells #[.slice (some ad156) l0_0.length c0_0] 25 (0,0)) (kq BK154.out)):gb154≠gb157));have NB157_154:=am ((by rw [hg];exact Nat.ne_of_gt (jDb (g:=gb154) (o:=.cells #[.slice (some ad156) l0_0.length c0_0] 25 (0,0)) (kq BK154.out)):gb157≠gb154));replace BK154:=am (jk (g:=gb154) (o:=.cells #[.slice (some ad156) l0_0.length c0_0] 25 (0,0)) (kq BK154.out) hb);replace HB:=am (je (Y106) hb);clear hb hbox hg;have hnb8:=NB157_154.out;have hnc8:=NB154_157.out;have hcz9_0:=bc0 BK157.out;have hcz9_1:=bc1 BK157.out;have hfz9_0:=ja BK157.out 0;have hfz9_1:=ja BK157.out 1))
     (try simp only [Act.put,List.setIfInBounds_toArray,List.set_cons_zero,List.set_cons_succ])
     go_cut [51] (fun v51 wc=>∃ (kq:Nat) (x51_4:Bool),v51=.bool x51_4∧jq (jR.j1 kq x3_1 x51_4 l0_0=some r)∧jq (kq≤k1)∧jq (wc.heap[gb154]?=some (.cells #[(.slice (some ad156) l0_0.length c0_0)] 25 (0,0)))∧jq (wc.heap[gb157]?=some (.cells #[.string ((jY l0_0 x3_1).f0), .int .i64 ((jY l0_0 x3_1).f1)] 75 (0,0)))∧jq (Below w.heap.size w wc))
     case first =>
      have n0_:jq (((w7.setCell ⟨gb157,0,none⟩ (.string ((jY l0_0 x3_1).f0))).setCell ⟨gb157,1,none⟩ (.int .i64 ((jY l0_0 x3_1).f1))).heap[gb154]?=some (.cells #[.slice (some ad156) l0_0.length c0_0] 25 (0,0))):=⟨by (with_reducible repeat (first | refine jr ?_ _ | refine jw ?_ | refine jA ?_ _));refine jnb ?_ NB154_157.out _;(with_reducible repeat (first | refine jr ?_ _ | refine jw ?_ | refine jA ?_ _));refine jnb ?_ NB154_157.out _;(with_reducible repeat (first | refine jr ?_ _ | refine jw ?_ | refine jA ?_ _));exact BK154.out⟩
      have n1_:jq (((w7.setCell ⟨gb157,0,none⟩ (.string ((jY l0_0 x3_1).f0))).setCell ⟨gb157,1,none⟩ (.int .i64 ((jY l0_0 x3_1).f1))).heap[gb157]?=some (.cells #[.string ((jY l0_0 x3_1).f0), .int .i64 ((jY l0_0 x3_1).f1)] 75 (0,0))):=⟨by (with_reducible repeat (first | refine jr ?_ _ | refine jw ?_ | refine jA ?_ _));refine jab (cs:=#[.string ((jY l0_0 x3_1).f0), .int .i64 0]) ?_ 1 _ rfl;(with_reducible repeat (first | refine jr ?_ _ | refine jw ?_ | refine jA ?_ _));refine jab (cs:=#[.string (⟨#[]⟩:ByteArray), .int .i64 0]) ?_ 0 _ rfl;(with_reducible repeat (first | refine jr ?_ _ | refine jw ?_ | refine jA ?_ _));exact BK157.out⟩
      have n2_:jq (Below w.heap.size w ((w7.setCell ⟨gb157,0,none⟩ (.string ((jY l0_0 x3_1).f0))).setCell ⟨gb157,1,none⟩ (.int .i64 ((jY l0_0 x3_1).f1)))):=⟨Y107⟩
      clear BK154 BK157 HB hcz9_0 hcz9_1 hfz9_0 hfz9_1
      generalize ((w7.setCell ⟨gb157,0,none⟩ (.string ((jY l0_0 x3_1).f0))).setCell ⟨gb157,1,none⟩ (.int .i64 ((jY l0_0 x3_1).f1)))=w16 at n0_ n1_ n2_ ⊢
      have BK154:=n0_
      have BK157:=n1_
      have HB:=n2_
      clear n0_ n1_ n2_
      have HRW:=am (Kd.jT HR0_0.out HB.out)
      have e0:w16.cell? ⟨gb157,0,none⟩=some (.string ((jY l0_0 x3_1).f0)):=(jF BK157.out 0).trans rfl
      have e1:w16.cell? ⟨gb157,1,none⟩=some (.int .i64 ((jY l0_0 x3_1).f1)):=(jF BK157.out 1).trans rfl
      have e2:w16.cell? ⟨gb154,0,none⟩=some (.slice (some ad156) l0_0.length c0_0):=(jF BK154.out 0).trans rfl
      have H:=HC5.out
      clear HC5
      obtain ⟨v,hv,H⟩:=bzS H
      have HN:=am (fun W=>(jRa.calls k1 _ v W hv).mono fun e w' h=>(⟨h.1,h.2.out⟩:e=.returned (.bool v)∧∃ m,w'=W.drewN m))
      clear hv hx156_0 hx156_1
      generalize hgx:jY l0_0 x3_1=x at H e0 e1 HN BK157
      have HGX:=am hgx
      clear hgx
      cases v with
      | false =>
       have H':=am (show jR.j1 k1 x3_1 true l0_0=some r from H)
       clear H
       go_big_quiet ((go_at_call 98;exact Calls.quiet_of (HN.out _)))
       go_wp2
       go_meet
       case rel=>exact ⟨_,_,rfl,H',⟨by have:=HK1.out;omega⟩,⟨jr BK154.out _⟩,⟨by rw [HGX.out];exact jr BK157.out _⟩,⟨jm HB.out _⟩⟩
      | true =>
       replace H:(if x3_1≤(l0_0.length:Int) then ((jLa.f k1 (l0_0.take (x3_1:Int).toNat) x.f0).bind fun t163=>(if t163≥0 then (jR.j1 k1 x3_1 true l0_0) else (if x3_1=0 then (if x.f1=(-1) then (if x3_1 > 0 then ((jM.f x.f1 0 (wrap64 (x3_1 - 1))).bind fun t164=>(jR.j1 k1 x3_1 (!t164) l0_0)) else (jR.j1 k1 x3_1 false l0_0)) else (jR.j1 k1 x3_1 true l0_0)) else (if x3_1 > 0 then ((jM.f x.f1 0 (wrap64 (x3_1 - 1))).bind fun t165=>(jR.j1 k1 x3_1 (!t165) l0_0)) else (jR.j1 k1 x3_1 false l0_0))))) else (none))=some r:=H
       have hle:x3_1≤(l0_0.length:Int):=by have:=ozD c3b0;omega
       have h0:0≤x3_1:=ozD c4b0
       rw [if_pos hle] at H
       obtain ⟨c,hc,H⟩:=bzS H
       obtain ⟨i0,hi0,_,_,_⟩:=info_parts info75
       have hcut:=cut_to (P:=Try.prog) 23 75 .i64 Try.underlying23 hi0 (some ad156) l0_0.length c0_0 x3_1 h0 hle HC0_0.out
       have hr18:=Kd.C_take (m:=(x3_1:Int).toNat) HRW.out (by omega)
       obtain ⟨y,hy⟩:∃ y:List S75,y=l0_0.take (x3_1:Int).toNat:=⟨_,rfl⟩
       have hyl:y.length=(x3_1:Int).toNat:=by rw [hy,List.length_take];omega
       have hyc:y.length≤c0_0:=by have:=HC0_0.out;omega
       rw [← hy] at hr18
       rw [← hyl] at hcut
       rw [← hy] at hc
       have HCN:=am (fun m=>(jLa.calls k1 _ _ y x.f0 c (w16.drewN m) (Kd.jxc hr18 m) hyc hc).mono fun e w' h=>(⟨h.1,h.2.out⟩:e=.returned (.int .i64 c)∧∃ m',w'=(w16.drewN m).drewN m'))
       clear hr18 hc hy hyl hyc
       have b0:=ezT h0
       have b1:=ezT hle
       by_cases hc0:c≥0
       ·rw [if_pos hc0] at H
        have b2:decide (0≤c)=true:=dzT hc0
        have H':=am H
        clear H hc0 h0 hle
        go_big_quiet (first |(go_at_call 98;exact Calls.quiet_of (HN.out _)) |(go_at_call 99;exact Calls.quiet_of (HCN.out _)))
        go_wp2
        go_meet
        case rel=>exact ⟨_,_,rfl,H',⟨by have:=HK1.out;omega⟩,⟨jr BK154.out _⟩,⟨by rw [HGX.out];exact jr BK157.out _⟩,⟨jm HB.out _⟩⟩
       ·rw [if_neg hc0] at H
        have b2:decide (0≤c)=false:=dzF hc0
        clear hc0
        by_cases hz:x3_1=0
        ·rw [if_pos hz] at H
         have b3:(x3_1 == 0)=true:=beq_iff_eq.2 hz
         have b4:decide (0<x3_1)=false:=dzF (by omega)
         by_cases hf:x.f1 = -1
         ·rw [if_pos hf,if_neg (by omega)] at H
          have b5:(x.f1 != -1)=false:=by simpa using hf
          have H':=am H
          clear H hf h0 hle hz
          go_big_quiet (first |(go_at_call 98;exact Calls.quiet_of (HN.out _)) |(go_at_call 99;exact Calls.quiet_of (HCN.out _)))
          go_wp2
          go_meet
          case rel=>exact ⟨_,_,rfl,H',⟨by have:=HK1.out;omega⟩,⟨jr BK154.out _⟩,⟨by rw [HGX.out];exact jr BK157.out _⟩,⟨jm HB.out _⟩⟩
         ·rw [if_neg hf] at H
          have b5:(x.f1 != -1)=true:=by simpa using hf
          have H':=am H
          clear H hf h0 hle hz
          go_big_quiet (first |(go_at_call 98;exact Calls.quiet_of (HN.out _)) |(go_at_call 99;exact Calls.quiet_of (HCN.out _)))
          go_wp2
          go_meet
          case rel=>exact ⟨_,_,rfl,H',⟨by have:=HK1.out;omega⟩,⟨jr BK154.out _⟩,⟨by rw [HGX.out];exact jr BK157.out _⟩,⟨jm HB.out _⟩⟩
        ·rw [if_neg hz,if_pos (by omega)] at H
         have b3:(x3_1 == 0)=false:=beq_eq_false_iff_ne.2 hz
         have b4:decide (0<x3_1)=true:=dzT (by omega)
         obtain ⟨t,ht,H⟩:=bzS H
         have H':=am H
         have HI:=am (fun W=>(jM.calls _ _ _ t W ht).mono fun e w' h=>(⟨h.1,h.2.out⟩:e=.returned (.bool t)∧∃ m,w'=W.drewN m))
         clear H ht h0 hle hz
         go_big_quiet (first |(go_at_call 98;exact Calls.quiet_of (HN.out _)) |(go_at_call 99;exact Calls.quiet_of (HCN.out _)) |(go_at_call 61;exact Calls.quiet_of (HI.out _)))
         go_wp2
         go_meet
         case rel=>exact ⟨_,_,rfl,H',⟨by have:=HK1.out;omega⟩,⟨jr BK154.out _⟩,⟨by rw [HGX.out];exact jr BK157.out _⟩,⟨jm HB.out _⟩⟩
     case rest =>
      clear HC5
      try clear c1
      try clear c2
      try clear p2
      try clear c3
      try clear q3
      try clear p6
      try clear c11
      try clear c12
      try clear c13
      try clear c21
      try clear c32
      try clear c32b0
      try clear q39
      try clear q39
      obtain ⟨kq,x51_4,rfl,HA,HJ4,BK154,BK157,HB⟩:=hcut
      cases kq with
      | zero=>exact absurd HA.out (by simp [jR.j1])
      | succ kj4 =>
       have H:=HA.out
       clear HA
       simp only [jR.j1] at H
       by_cases c42:x51_4=true
       ·subst c42
        have H1:(some false)=some r:=by rw [if_pos rfl] at H;exact H
        clear H
        have H:=H1
        clear H1
        obtain rfl:=Option.some.inj H
        go_wp2
        go_ret
        exact ⟨Y0,Y107⟩
       ·replace c42:=Bool.eq_false_iff.mpr c42
        subst c42
        have H1:(jR.l0 kj4 (wrap64 (x3_1+1)) l0_0)=some r:=by rw [if_neg (show ¬ (false=true) by decide)] at H;exact H
        clear H
        have H:=H1
        clear H1
        have H':=am H
        clear H
        go_wp2
        go_roundg kj4
        case measure=>have:=HK1.out;have:=HJ4.out;omega
        case rel=>exact ⟨(wrap64 (x3_1+1)),(sq),H',⟨by have:=HK1.out;have:=HJ4.out;omega⟩,⟨kq BK154.out⟩,⟨Y107⟩⟩
    ·rw [if_neg c4] at H
     exact absurd H (by simp)
   ·rw [if_neg c3] at H
    have c3b0:decide (x3_1<(l0_0.length:Int))=false:=dzF c3
    clear c3
    replace H:=bzS H
    obtain ⟨t155,A430,H⟩:=H
    replace H:(some t155)=some r:=H
    have A43:=am A430
    clear A430
    obtain rfl:=Option.some.inj H
    have hcz44_0:=bc0 BK154.out
    have hfz44_0:=ja BK154.out 0
    go_wp2_with (first |((with_reducible refine jd (f:=61) rfl ?_);refine gL (some 55) Try.func61 #[.int .i64 (l0_0.length:Int), .int .i64 1, .int .i64 8] ?_;(with_reducible refine (jM.calls (l0_0.length:Int) 1 8 t155 _ A43.out).mono ?_);rintro e w' ⟨rfl,⟨nd,rfl⟩⟩;refine ⟨_,rfl,?_⟩))
    go_ret
    exact ⟨Y0,Y106⟩
def jX.l0 : Nat → List (S36) → Int → List (S75) → Option (Bool)
 | 0,_,_,_=>none
 | k+1,x1,x5,x580000=>if x5<(x1.length:Int) then ((jv.f k x580000 x1 x5).bind fun t581=>(if t581=true then (jX.l0 k x1 (wrap64 (x5+1)) x580000) else (some false))) else ((jR.f k x580000).bind fun t580=>(if t580=true then (some (decide ((x1.length:Int)≤24))) else (some false)))
def jX.f (k : Nat) (l0_0 : List (S75)) (l1 : List (S36)) : Option (Bool) := jX.l0 k l1 0 l0_0
set_option maxHeartbeats 8000000 in
set_option maxRecDepth 100000 in
theorem jX.calls (k : Nat) (A0_0 : Option Addr) (c0_0 : Nat) (l0_0 : List (S75)) (A1 : Option Addr) (c1 : Nat) (l1 : List (S36)) (r : Bool) (w : World) (hr0_0 : Kd.C k75 w A0_0 l0_0.length l0_0) (hc0_0 : l0_0.length ≤ c0_0) (hr1 : Kd.C k36 w A1 l1.length l1) (hc1 : l1.length ≤ c1) (h : jX.f k l0_0 l1 = some r) :
  Calls Try.prog 60 #[.agg #[.slice A0_0 l0_0.length c0_0], .slice A1 l1.length c1] w fun e w'=>e=.returned (.bool r)∧Below w.heap.size w w':=by
 have hu25:=Try.underlying25
 have HR0_0:=am hr0_0
 have HC0_0:=am hc0_0
 clear hr0_0 hc0_0
 have HR1:=am hr1
 have HC1:=am hc1
 clear hr1 hc1
 have HB:=am (Below.refl w.heap.size w)
 have H:(jX.l0 k l1 0 l0_0)=some r:=h
 clear h
 have H':=am H
 clear H
 go_enter Try.func60,Try.ntmps60
 go_wp2_with (first |((with_reducible refine jJ (N:=2) rfl ?_);(try (refine joc (by rfl) ?_;dsimp only));refine jsc ?hg (N:=2) ?hd (cs:=#[.slice A0_0 l0_0.length c0_0]) (t:=25) ?hr ?_;(case hd=>rfl);(case hg=>rfl);(case hr=>exact Y5);intro gb579 hg w3 hbox hb;have BK579:=am (hbox);have GW579:=am ((Y3:w.heap.size≤gb579));have GE579:=am ((Y3:w.heap.size≤gb579));replace HB:=am (je (bq) hb);clear hb hbox hg))
 go_loopg [5] k (fun kq v5 w'=>∃ (x5_1:Int),v5=.int .i64 x5_1∧jq (jX.l0 kq l1 x5_1 l0_0=some r)∧jq (kq≤k)∧jq (w'.heap[gb579]?=some (.cells #[(.slice A0_0 l0_0.length c0_0)] 25 (0,0)))∧jq (Below w.heap.size w w'))
 case atStart=>exact ⟨(0),(sq),H',⟨Nat.le_refl _⟩,⟨kq BK579.out⟩,⟨Y48⟩⟩
 case round =>
  clear H'
  try clear c1
  try clear p2
  obtain ⟨x5_1,rfl,HA,HK1,BK579,HB⟩:=hrel
  cases gk with
  | zero=>exact absurd HA.out (by simp [jX.l0])
  | succ k1 =>
   have H:=HA.out
   clear HA
   simp only [jX.l0] at H
   by_cases c4:x5_1<(l1.length:Int)
   ·rw [if_pos c4] at H
    have c4b0:decide (x5_1<(l1.length:Int))=true:=dzT c4
    clear c4
    replace H:=bzS H
    obtain ⟨t581,A50,H⟩:=H
    replace H:(if t581=true then (jX.l0 k1 l1 (wrap64 (x5_1+1)) l0_0) else (some false))=some r:=H
    have A5:=am A50
    clear A50
    by_cases c6:t581=true
    ·subst c6
     have H1:(jX.l0 k1 l1 (wrap64 (x5_1+1)) l0_0)=some r:=by rw [if_pos rfl] at H;exact H
     clear H
     have H:=H1
     clear H1
     have H':=am H
     clear H
     have hcz7_0:=bc0 BK579.out
     have hfz7_0:=ja BK579.out 0
     go_wp2_with (first |((with_reducible refine jd (f:=79) rfl ?_);refine gL (some 15) Try.func79 #[.agg #[.slice A0_0 l0_0.length c0_0], .slice A1 l1.length c1, .int .i64 x5_1] ?_;(with_reducible refine (jv.calls k1 _ _ l0_0 _ _ l1 x5_1 true _ ?side1 ?side2 ?side3 ?side4 A5.out).mono ?_);(case side1=>exact cq (Kd.jT HR0_0.out HB.out));(case side2=>exact HC0_0.out);(case side3=>exact cq (Kd.jT HR1.out HB.out));(case side4=>exact HC1.out);rintro e w8 ⟨rfl,hb⟩;refine ⟨_,rfl,?_⟩;replace BK579:=am (jk (g:=gb579) (o:=.cells #[.slice A0_0 l0_0.length c0_0] 25 (0,0)) (kq BK579.out) hb);replace HB:=am (je (Y48) hb);(try clear hb);(try clear hb2);(try clear hk);(try clear hi)))
     go_roundg k1
     case measure=>have:=HK1.out;omega
     case rel=>exact ⟨(wrap64 (x5_1+1)),(sq),H',⟨by have:=HK1.out;omega⟩,⟨kq BK579.out⟩,⟨Y48⟩⟩
    ·replace c6:=Bool.eq_false_iff.mpr c6
     subst c6
     have H1:(some false)=some r:=by rw [if_neg (show ¬ (false=true) by decide)] at H;exact H
     clear H
     have H:=H1
     clear H1
     obtain rfl:=Option.some.inj H
     have hcz9_0:=bc0 BK579.out
     have hfz9_0:=ja BK579.out 0
     go_wp2_with (first |((with_reducible refine jd (f:=79) rfl ?_);refine gL (some 15) Try.func79 #[.agg #[.slice A0_0 l0_0.length c0_0], .slice A1 l1.length c1, .int .i64 x5_1] ?_;(with_reducible refine (jv.calls k1 _ _ l0_0 _ _ l1 x5_1 false _ ?side1 ?side2 ?side3 ?side4 A5.out).mono ?_);(case side1=>exact cq (Kd.jT HR0_0.out HB.out));(case side2=>exact HC0_0.out);(case side3=>exact cq (Kd.jT HR1.out HB.out));(case side4=>exact HC1.out);rintro e w10 ⟨rfl,hb⟩;refine ⟨_,rfl,?_⟩;replace BK579:=am (jk (g:=gb579) (o:=.cells #[.slice A0_0 l0_0.length c0_0] 25 (0,0)) (kq BK579.out) hb);replace HB:=am (je (Y48) hb);(try clear hb);(try clear hb2);(try clear hk);(try clear hi)))
     go_ret
     exact ⟨Y0,Y48⟩
   ·rw [if_neg c4] at H
    have c4b0:decide (x5_1<(l1.length:Int))=false:=dzF c4
    clear c4
    replace H:=bzS H
    obtain ⟨t580,A110,H⟩:=H
    replace H:(if t580=true then (some (decide ((l1.length:Int)≤24))) else (some false))=some r:=H
    have A11:=am A110
    clear A110
    by_cases c12:t580=true
    ·subst c12
     have H1:(some (decide ((l1.length:Int)≤24)))=some r:=by rw [if_pos rfl] at H;exact H
     clear H
     have H:=H1
     clear H1
     obtain rfl:=Option.some.inj H
     have hcz13_0:=bc0 BK579.out
     have hfz13_0:=ja BK579.out 0
     go_wp2_with (first |((with_reducible refine jd (f:=80) rfl ?_);refine gL (some 18) Try.func80 #[.agg #[.slice A0_0 l0_0.length c0_0]] ?_;(with_reducible refine (jR.calls k1 _ _ l0_0 true _ ?side1 ?side2 A11.out).mono ?_);(case side1=>exact cq (Kd.jT HR0_0.out HB.out));(case side2=>exact HC0_0.out);rintro e w14 ⟨rfl,hb⟩;refine ⟨_,rfl,?_⟩;replace BK579:=am (jk (g:=gb579) (o:=.cells #[.slice A0_0 l0_0.length c0_0] 25 (0,0)) (kq BK579.out) hb);replace HB:=am (je (Y48) hb);(try clear hb);(try clear hb2);(try clear hk);(try clear hi)))
     go_ret
     exact ⟨Y0,Y48⟩
    ·replace c12:=Bool.eq_false_iff.mpr c12
     subst c12
     have H1:(some false)=some r:=by rw [if_neg (show ¬ (false=true) by decide)] at H;exact H
     clear H
     have H:=H1
     clear H1
     obtain rfl:=Option.some.inj H
     have hcz15_0:=bc0 BK579.out
     have hfz15_0:=ja BK579.out 0
     go_wp2_with (first |((with_reducible refine jd (f:=80) rfl ?_);refine gL (some 18) Try.func80 #[.agg #[.slice A0_0 l0_0.length c0_0]] ?_;(with_reducible refine (jR.calls k1 _ _ l0_0 false _ ?side1 ?side2 A11.out).mono ?_);(case side1=>exact cq (Kd.jT HR0_0.out HB.out));(case side2=>exact HC0_0.out);rintro e w16 ⟨rfl,hb⟩;refine ⟨_,rfl,?_⟩;replace BK579:=am (jk (g:=gb579) (o:=.cells #[.slice A0_0 l0_0.length c0_0] 25 (0,0)) (kq BK579.out) hb);replace HB:=am (je (Y48) hb);(try clear hb);(try clear hb2);(try clear hk);(try clear hi)))
     go_ret
     exact ⟨Y0,Y48⟩
def jGb.f (k : Nat) (l0_0 : List (S75)) (l1 : List (S36)) (a2 : Int) : Option (Bool) := (jX.f k l0_0 l1).bind fun t583 => (if t583 = true then ((jM.f a2 0 (wrap64 ((l1.length : Int) - 1))).bind fun t584 => (some t584)) else (some false))
set_option maxHeartbeats 8000000 in
set_option maxRecDepth 100000 in
theorem jGb.calls (k : Nat) (A0_0 : Option Addr) (c0_0 : Nat) (l0_0 : List (S75)) (A1 : Option Addr) (c1 : Nat) (l1 : List (S36)) (a2 : Int) (r : Bool) (w : World) (hr0_0 : Kd.C k75 w A0_0 l0_0.length l0_0) (hc0_0 : l0_0.length ≤ c0_0) (hr1 : Kd.C k36 w A1 l1.length l1) (hc1 : l1.length ≤ c1) (h : jGb.f k l0_0 l1 a2 = some r) :
  Calls Try.prog 33 #[.agg #[.slice A0_0 l0_0.length c0_0], .slice A1 l1.length c1, .int .i64 a2] w fun e w'=>e=.returned (.bool r)∧Below w.heap.size w w':=by
 have hu25:=Try.underlying25
 have HR0_0:=am hr0_0
 have HC0_0:=am hc0_0
 clear hr0_0 hc0_0
 have HR1:=am hr1
 have HC1:=am hc1
 clear hr1 hc1
 have HB:=am (Below.refl w.heap.size w)
 have H:((jX.f k l0_0 l1).bind fun t583=>(if t583=true then ((jM.f a2 0 (wrap64 ((l1.length:Int) - 1))).bind fun t584=>(some t584)) else (some false)))=some r:=h
 clear h
 replace H:=bzS H
 obtain ⟨t583,A40,H⟩:=H
 replace H:(if t583=true then ((jM.f a2 0 (wrap64 ((l1.length:Int) - 1))).bind fun t584=>(some t584)) else (some false))=some r:=H
 have A4:=am A40
 clear A40
 by_cases c5:t583=true
 ·subst c5
  have H1:((jM.f a2 0 (wrap64 ((l1.length:Int) - 1))).bind fun t584=>(some t584))=some r:=by rw [if_pos rfl] at H;exact H
  clear H
  have H:=H1
  clear H1
  replace H:=bzS H
  obtain ⟨t584,A60,H⟩:=H
  replace H:(some t584)=some r:=H
  have A6:=am A60
  clear A60
  obtain rfl:=Option.some.inj H
  go_enter Try.func33,Try.ntmps33
  go_wp2_with (first |((with_reducible refine jJ (N:=3) rfl ?_);(try (refine joc (by rfl) ?_;dsimp only));refine jsc ?hg (N:=3) ?hd (cs:=#[.slice A0_0 l0_0.length c0_0]) (t:=25) ?hr ?_;(case hd=>rfl);(case hg=>rfl);(case hr=>exact Y5);intro gb582 hg w7 hbox hb;have BK582:=am (hbox);have GW582:=am ((Y3:w.heap.size≤gb582));have GE582:=am ((Y3:w.heap.size≤gb582));replace HB:=am (je (bq) hb);clear hb hbox hg;have hcz8_0:=bc0 BK582.out;have hfz8_0:=ja BK582.out 0) |((with_reducible refine jd (f:=60) rfl ?_);refine gL (some 9) Try.func60 #[.agg #[.slice A0_0 l0_0.length c0_0], .slice A1 l1.length c1] ?_;(with_reducible refine (jX.calls k _ _ l0_0 _ _ l1 true _ ?side1 ?side2 ?side3 ?side4 A4.out).mono ?_);(case side1=>exact cq (Kd.jT HR0_0.out HB.out));(case side2=>exact HC0_0.out);(case side3=>exact cq (Kd.jT HR1.out HB.out));(case side4=>exact HC1.out);rintro e w9 ⟨rfl,hb⟩;refine ⟨_,rfl,?_⟩;replace BK582:=am (jk (g:=gb582) (o:=.cells #[.slice A0_0 l0_0.length c0_0] 25 (0,0)) (kq BK582.out) hb);replace HB:=am (je (Y100) hb);(try clear hb);(try clear hb2);(try clear hk);(try clear hi)) |(go_at_call 61;(with_reducible refine (jM.calls a2 0 (wrap64 ((l1.length:Int) - 1)) t584 _ A6.out).mono ?_);rintro e w' ⟨rfl,⟨nd,rfl⟩⟩))
  go_ret
  exact ⟨Y0,Y100⟩
 ·replace c5:=Bool.eq_false_iff.mpr c5
  subst c5
  have H1:(some false)=some r:=by rw [if_neg (show ¬ (false=true) by decide)] at H;exact H
  clear H
  have H:=H1
  clear H1
  obtain rfl:=Option.some.inj H
  go_enter Try.func33,Try.ntmps33
  go_wp2_with (first |((with_reducible refine jJ (N:=3) rfl ?_);(try (refine joc (by rfl) ?_;dsimp only));refine jsc ?hg (N:=3) ?hd (cs:=#[.slice A0_0 l0_0.length c0_0]) (t:=25) ?hr ?_;(case hd=>rfl);(case hg=>rfl);(case hr=>exact Y5);intro gb582 hg w10 hbox hb;have BK582:=am (hbox);have GW582:=am ((Y3:w.heap.size≤gb582));have GE582:=am ((Y3:w.heap.size≤gb582));replace HB:=am (je (bq) hb);clear hb hbox hg;have hcz11_0:=bc0 BK582.out;have hfz11_0:=ja BK582.out 0) |((with_reducible refine jd (f:=60) rfl ?_);refine gL (some 9) Try.func60 #[.agg #[.slice A0_0 l0_0.length c0_0], .slice A1 l1.length c1] ?_;(with_reducible refine (jX.calls k _ _ l0_0 _ _ l1 false _ ?side1 ?side2 ?side3 ?side4 A4.out).mono ?_);(case side1=>exact cq (Kd.jT HR0_0.out HB.out));(case side2=>exact HC0_0.out);(case side3=>exact cq (Kd.jT HR1.out HB.out));(case side4=>exact HC1.out);rintro e w12 ⟨rfl,hb⟩;refine ⟨_,rfl,?_⟩;replace BK582:=am (jk (g:=gb582) (o:=.cells #[.slice A0_0 l0_0.length c0_0] 25 (0,0)) (kq BK582.out) hb);replace HB:=am (je (Y100) hb);(try clear hb);(try clear hb2);(try clear hk);(try clear hi)))
  go_ret
  exact ⟨Y0,Y100⟩
def jja.l0 : Nat → List (S36) → Int → List Int → Int → Option (List Int)
 | 0,_,_,_,_=>none
 | k+1,x0,x1,x5,x6=>if x6≥0 then (if 0≤x6 then (if x6<(x0.length:Int) then ((jdb.f ((jc x0 x6).f0) ((jc x0 x6).f1) ((jc x0 x6).f2) ((jc x0 x6).f3)).bind fun t485=>(if t485=true then ((jpa.f k x0 x6).bind fun t486=>(if t486 > x1 then (if x5.length<17592186044416 then (jja.l0 k x0 x1 (x5 ++ [x6]) (wrap64 (x6 - 1))) else (none)) else (jja.l0 k x0 x1 x5 (wrap64 (x6 - 1))))) else (jja.l0 k x0 x1 x5 (wrap64 (x6 - 1))))) else (none)) else (none)) else ((jMb.f x5).bind fun t481=>(some t481))
def jja.f (k : Nat) (l0 : List (S36)) (a1 : Int) : Option (List Int) := jja.l0 k l0 a1 (([] : List Int)) (wrap64 (a1 - 1))
set_option maxHeartbeats 8000000 in
set_option maxRecDepth 100000 in
theorem jja.calls (k : Nat) (A0 : Option Addr) (c0 : Nat) (l0 : List (S36)) (a1 : Int) (r : List Int) (w : World) (hr0 : Kd.C k36 w A0 l0.length l0) (hc0 : l0.length ≤ c0) (h : jja.f k l0 a1 = some r) :
  Calls Try.prog 41 #[.slice A0 l0.length c0, .int .i64 a1] w fun e w'=>∃ v0_:Value,e=.returned (v0_)∧Kd.R (Kd.int .i64) 3 w' w.heap.size (fun _=>True) v0_ r∧Below w.heap.size w w':=by
 have hu36:=Try.underlying36
 have HR0:=am hr0
 have HC0:=am hc0
 clear hr0 hc0
 have HB:=am (Below.refl w.heap.size w)
 have H:(jja.l0 k l0 a1 (([]:List Int)) (wrap64 (a1 - 1)))=some r:=h
 clear h
 obtain ⟨y478,hy478⟩:∃ y_:List Int,y_=(([]:List Int)):=⟨_,rfl⟩
 replace H:(jja.l0 k l0 a1 y478 (wrap64 (a1 - 1)))=some r:=by first |(rw [hy478];with_reducible exact H) |(have H2_:=(Option.bind_some _ _).symm.trans H;rw [hy478];with_reducible exact H2_) |(have H2_:=(Option.bind_some _ _).symm.trans H;with_reducible exact H2_) | with_reducible exact H |(rw [hy478];exact H) | exact H
 have Ny478:=am hy478
 clear hy478
 have H':=am H
 clear H
 go_enter Try.func41,Try.ntmps41
 go_wp2_with (first |((with_reducible refine jJ (N:=7) rfl ?_);refine Kd.jfc (Kd.int .i64) _ 3 ?hg (N:=7) ?hd (xs:=([]:List Int)) (inner:=[]) (ok:=fun _=>True) (okp:=fun _=>True) ?hr ?hp (fun _ hk=>hk) trivial (Below.refl _ _) (Nat.le_refl _) (by simp) ?_;(case hd=>rfl);(case hg=>rfl);(case hr=>exact Y5);(case hp=>exact (Reps.none _ _));intro v479 w3 ho4 hb hg_ hnew_;clear hg_ hnew_;(first | rw [← Ny478.out] at ho4 |(simp only [Int.reduceToNat] at ho4;rw [← Ny478.out] at ho4));have HO480:=am (Kd.jaa ho4 (jma (bq)));replace HB:=am (je (bq) hb);clear hb ho4))
 go_loopg [5,6] k (fun kq v5 v6 w'=>∃ (x5_1:List Int) (x6_1:Int),v6=.int .i64 x6_1∧jq (jja.l0 kq l0 a1 x5_1 x6_1=some r)∧jq (kq≤k)∧jq (Kd.R (Kd.int .i64) 3 w' w.heap.size (fun _=>True) v5 x5_1)∧jq (Below w.heap.size w w'))
 case atStart=>exact ⟨(y478),(wrap64 (a1 - 1)),(sq),H',⟨Nat.le_refl _⟩,⟨rq HO480.out⟩,⟨bq⟩⟩
 case round =>
  clear H'
  try clear p2
  try clear c4
  obtain ⟨x5_1,x6_1,rfl,HA,HK1,HO_5,HB⟩:=hrel
  cases gk with
  | zero=>exact absurd HA.out (by simp [jja.l0])
  | succ k1 =>
   have H:=HA.out
   clear HA
   simp only [jja.l0] at H
   by_cases c5:x6_1≥0
   ·rw [if_pos c5] at H
    have c5b0:decide (0≤x6_1)=true:=dzT c5
    clear c5
    by_cases c6:0≤x6_1
    ·rw [if_pos c6] at H
     have c6b0:decide (0≤x6_1)=true:=dzT c6
     clear c6
     by_cases c7:x6_1<(l0.length:Int)
     ·rw [if_pos c7] at H
      have c7b0:decide (x6_1<(l0.length:Int))=true:=dzT c7
      clear c7
      replace H:=bzS H
      obtain ⟨t485,A80,H⟩:=H
      replace H:(if t485=true then ((jpa.f k1 l0 x6_1).bind fun t486=>(if t486 > a1 then (if x5_1.length<17592186044416 then (jja.l0 k1 l0 a1 (x5_1 ++ [x6_1]) (wrap64 (x6_1 - 1))) else (none)) else (jja.l0 k1 l0 a1 x5_1 (wrap64 (x6_1 - 1))))) else (jja.l0 k1 l0 a1 x5_1 (wrap64 (x6_1 - 1))))=some r:=H
      have A8:=am A80
      clear A80
      by_cases c9:t485=true
      ·subst c9
       have H1:((jpa.f k1 l0 x6_1).bind fun t486=>(if t486 > a1 then (if x5_1.length<17592186044416 then (jja.l0 k1 l0 a1 (x5_1 ++ [x6_1]) (wrap64 (x6_1 - 1))) else (none)) else (jja.l0 k1 l0 a1 x5_1 (wrap64 (x6_1 - 1)))))=some r:=by rw [if_pos rfl] at H;exact H
       clear H
       have H:=H1
       clear H1
       replace H:=bzS H
       obtain ⟨t486,A100,H⟩:=H
       replace H:(if t486 > a1 then (if x5_1.length<17592186044416 then (jja.l0 k1 l0 a1 (x5_1 ++ [x6_1]) (wrap64 (x6_1 - 1))) else (none)) else (jja.l0 k1 l0 a1 x5_1 (wrap64 (x6_1 - 1))))=some r:=H
       have A10:=am A100
       clear A100
       by_cases c11:t486 > a1
       ·rw [if_pos c11] at H
        have c11b0:decide (a1<t486)=true:=dzT c11
        clear c11
        by_cases c12:x5_1.length<17592186044416
        ·rw [if_pos c12] at H
         have LMc12:=am c12
         clear c12
         obtain ⟨y487,hy487⟩:∃ y_:List Int,y_=(x5_1 ++ [x6_1]):=⟨_,rfl⟩
         replace H:(jja.l0 k1 l0 a1 y487 (wrap64 (x6_1 - 1)))=some r:=by first |(rw [hy487];with_reducible exact H) |(have H2_:=(Option.bind_some _ _).symm.trans H;rw [hy487];with_reducible exact H2_) |(have H2_:=(Option.bind_some _ _).symm.trans H;with_reducible exact H2_) | with_reducible exact H |(rw [hy487];exact H) | exact H
         have Ny487:=am hy487
         clear hy487
         have H':=am H
         clear H
         have p484:0≤(x6_1:Int):=ozD (uq)
         have q484:x6_1<(l0.length:Int):=ozD (uq)
         obtain ⟨ad484,e484,hx484_0,hx484_1,hx484_2,hx484_3⟩:=jna HR0.out x6_1 p484 q484
         cases e484
         replace hx484_0:=cb HB.out hx484_0
         replace hx484_1:=cb HB.out hx484_1
         replace hx484_2:=cb HB.out hx484_2
         replace hx484_3:=cb HB.out hx484_3
         replace p484:=ezT p484
         replace q484:=ezT q484
         go_wp2_with (first |((with_reducible refine jd (f:=39) rfl ?_);refine gL (some 18) Try.func39 #[.agg #[.int .i64 ((jc l0 x6_1).f0), .int .i64 ((jc l0 x6_1).f1), .int .i64 ((jc l0 x6_1).f2), .int .i64 ((jc l0 x6_1).f3)]] ?_;(with_reducible refine (jdb.calls ((jc l0 x6_1).f0) ((jc l0 x6_1).f1) ((jc l0 x6_1).f2) ((jc l0 x6_1).f3) true _ A8.out).mono ?_);rintro e w13 ⟨rfl,hb⟩;refine ⟨_,rfl,?_⟩;replace HO_5:=am (Kd.jZ (rq HO_5.out) hb);replace HB:=am (je (bq) hb);(try clear hb);(try clear hb2);(try clear hk);(try clear hi)) |(go_at_call 69;(with_reducible refine (jpa.calls k1 _ _ l0 x6_1 t486 _ ?side1 ?side2 A10.out).mono ?_);(case side1=>exact cq (Kd.jT HR0.out HB.out));(case side2=>exact HC0.out);rintro e w' ⟨rfl,⟨nd,rfl⟩⟩) |((with_reducible refine jMa (b:=.append) (xs:=#[.tmp 26, .tmp 28]) rfl ?_);at_builtin;refine Kd.jcc (Kd.int .i64) (w0:=w) w.heap.size rfl (.tmp 26) (.tmp 28) 29 3 (.int .i64 0) 8 rfl Try.underlying29 info3 rfl (by decide) (by omega) u5 x5_1 x6_1 [.int .i64 x6_1] (fun _=>True) (fun _=>False) rfl rfl ?aP (fun _ hk=>hk.elim) ?aF ?aO ?aB ?aS ?aL ?_;(case aP=>exact rfl);(case aB=>exact (bq));(case aF=>exact (fun _ _=>trivial));(case aO=>exact (rq HO_5.out));(case aS=>exact (jma (bq)));(case aL=>have:=LMc12.out;omega);intro v488 w14 ho hb hg hat;rw [← Ny487.out] at ho;have n0_:=am (hb);have n1_:=am (ho);clear HB HO_5;have HB:=n0_;have HO489:=n1_;clear n0_ n1_ ho hb hg hat))
         go_roundg k1
         case measure=>have:=HK1.out;omega
         case rel=>exact ⟨(y487),(wrap64 (x6_1 - 1)),(sq),H',⟨by have:=HK1.out;omega⟩,⟨rq HO489.out⟩,⟨bq⟩⟩
        ·rw [if_neg c12] at H
         exact absurd H (by simp)
       ·rw [if_neg c11] at H
        have c11b0:decide (a1<t486)=false:=dzF c11
        clear c11
        have H':=am H
        clear H
        have p484:0≤(x6_1:Int):=ozD (uq)
        have q484:x6_1<(l0.length:Int):=ozD (uq)
        obtain ⟨ad484,e484,hx484_0,hx484_1,hx484_2,hx484_3⟩:=jna HR0.out x6_1 p484 q484
        cases e484
        replace hx484_0:=cb HB.out hx484_0
        replace hx484_1:=cb HB.out hx484_1
        replace hx484_2:=cb HB.out hx484_2
        replace hx484_3:=cb HB.out hx484_3
        replace p484:=ezT p484
        replace q484:=ezT q484
        go_wp2_with (first |((with_reducible refine jd (f:=39) rfl ?_);refine gL (some 18) Try.func39 #[.agg #[.int .i64 ((jc l0 x6_1).f0), .int .i64 ((jc l0 x6_1).f1), .int .i64 ((jc l0 x6_1).f2), .int .i64 ((jc l0 x6_1).f3)]] ?_;(with_reducible refine (jdb.calls ((jc l0 x6_1).f0) ((jc l0 x6_1).f1) ((jc l0 x6_1).f2) ((jc l0 x6_1).f3) true _ A8.out).mono ?_);rintro e w15 ⟨rfl,hb⟩;refine ⟨_,rfl,?_⟩;replace HO_5:=am (Kd.jZ (rq HO_5.out) hb);replace HB:=am (je (bq) hb);(try clear hb);(try clear hb2);(try clear hk);(try clear hi)) |(go_at_call 69;(with_reducible refine (jpa.calls k1 _ _ l0 x6_1 t486 _ ?side1 ?side2 A10.out).mono ?_);(case side1=>exact cq (Kd.jT HR0.out HB.out));(case side2=>exact HC0.out);rintro e w' ⟨rfl,⟨nd,rfl⟩⟩))
        go_roundg k1
        case measure=>have:=HK1.out;omega
        case rel=>exact ⟨(x5_1),(wrap64 (x6_1 - 1)),(sq),H',⟨by have:=HK1.out;omega⟩,⟨rq HO_5.out⟩,⟨bq⟩⟩
      ·replace c9:=Bool.eq_false_iff.mpr c9
       subst c9
       have H1:(jja.l0 k1 l0 a1 x5_1 (wrap64 (x6_1 - 1)))=some r:=by rw [if_neg (show ¬ (false=true) by decide)] at H;exact H
       clear H
       have H:=H1
       clear H1
       have H':=am H
       clear H
       have p484:0≤(x6_1:Int):=ozD (uq)
       have q484:x6_1<(l0.length:Int):=ozD (uq)
       obtain ⟨ad484,e484,hx484_0,hx484_1,hx484_2,hx484_3⟩:=jna HR0.out x6_1 p484 q484
       cases e484
       replace hx484_0:=cb HB.out hx484_0
       replace hx484_1:=cb HB.out hx484_1
       replace hx484_2:=cb HB.out hx484_2
       replace hx484_3:=cb HB.out hx484_3
       replace p484:=ezT p484
       replace q484:=ezT q484
       go_wp2_with (first |((with_reducible refine jd (f:=39) rfl ?_);refine gL (some 18) Try.func39 #[.agg #[.int .i64 ((jc l0 x6_1).f0), .int .i64 ((jc l0 x6_1).f1), .int .i64 ((jc l0 x6_1).f2), .int .i64 ((jc l0 x6_1).f3)]] ?_;(with_reducible refine (jdb.calls ((jc l0 x6_1).f0) ((jc l0 x6_1).f1) ((jc l0 x6_1).f2) ((jc l0 x6_1).f3) false _ A8.out).mono ?_);rintro e w16 ⟨rfl,hb⟩;refine ⟨_,rfl,?_⟩;replace HO_5:=am (Kd.jZ (rq HO_5.out) hb);replace HB:=am (je (bq) hb);(try clear hb);(try clear hb2);(try clear hk);(try clear hi)))
       go_roundg k1
       case measure=>have:=HK1.out;omega
       case rel=>exact ⟨(x5_1),(wrap64 (x6_1 - 1)),(sq),H',⟨by have:=HK1.out;omega⟩,⟨rq HO_5.out⟩,⟨bq⟩⟩
     ·rw [if_neg c7] at H
      exact absurd H (by simp)
    ·rw [if_neg c6] at H
     exact absurd H (by simp)
   ·rw [if_neg c5] at H
    have c5b0:decide (0≤x6_1)=false:=dzF c5
    clear c5
    replace H:=bzS H
    obtain ⟨t481,A170,H⟩:=H
    replace H:(some t481)=some r:=H
    have A17:=am A170
    clear A170
    obtain rfl:=Option.some.inj H
    obtain ⟨Ao18,co18,eo18⟩:=Kd.jka HO_5.out
    subst eo18
    go_wp2_with (first |((with_reducible refine jd (f:=59) rfl ?_);refine gL (some 31) Try.func59 #[.slice Ao18 x5_1.length co18] ?_;(with_reducible refine (jMb.calls (fun k_=>some k_=(.slice Ao18 x5_1.length co18:Value).ownBlock) (.slice Ao18 x5_1.length co18) x5_1 t481 w _ ?side1 ?side2 A17.out).mono ?_);(case side1=>repeat (first |(with_reducible first | exact HB.out | apply jL | apply jm | apply jE) | exact HB.out));(case side2=>exact Kd.R_tight rfl HO_5.out);rintro e w19 ⟨v482,rfl,ho0,hb,hkp⟩;refine ⟨_,rfl,?_⟩;have n0_:=am (Kd.jI (ok':=fun k_=>True) ho0 (fun k_ hk_=>trivial));have n1_:=am (hb);clear HB HO_5;have HO483:=n0_;have HB:=n1_;clear n0_ n1_;(try clear hb);(try clear hkp);(try clear ho0)))
    go_ret
    exact ⟨_,Y0,rq HO483.out,bq⟩
def jla.l0 : Nat → List Int → Int → Int → Int → Option (Int)
 | 0,_,_,_,_=>none
 | k+1,x0,x1,x7,x8=>if x8<x7 then (if 0≤x8 then (if x8<(x0.length:Int) then (if x1=(rd x0 x8) then (some x8) else (jla.l0 k x0 x1 x7 (wrap64 (x8+1)))) else (none)) else (none)) else (some (-1))
def jla.f (k : Nat) (l0 : List Int) (a1 : Int) : Option (Int) := jla.l0 k l0 a1 (l0.length : Int) 0
set_option maxHeartbeats 8000000 in
set_option maxRecDepth 100000 in
theorem jla.calls (k : Nat) (A0 : Option Addr) (c0 : Nat) (l0 : List Int) (a1 : Int) (r : Int) (w : World) (hr0 : Kd.C (Kd.int .i64) w A0 l0.length l0) (hc0 : l0.length ≤ c0) (h : jla.f k l0 a1 = some r) :
  Calls Try.prog 89 #[.slice A0 l0.length c0, .int .i64 a1] w fun e w'=>e=.returned (.int .i64 r)∧jsb w w':=by
 have HR0:=am hr0
 have HC0:=am hc0
 clear hr0 hc0
 have H:(jla.l0 k l0 a1 (l0.length:Int) 0)=some r:=h
 clear h
 have H':=am H
 clear H
 go_enter Try.func89,Try.ntmps89
 go_wp2
 go_loopg [8] k (fun kq v8 w'=>∃ (x8_1:Int),v8=.int .i64 x8_1∧jq (jla.l0 kq l0 a1 (l0.length:Int) x8_1=some r)∧jq (kq≤k)∧jsb w w')
 case atStart=>exact ⟨(0),(sq),H',⟨Nat.le_refl _⟩,Y7⟩
 case round =>
  clear H'
  try clear p2
  obtain ⟨x8_1,rfl,HA,HK1,⟨m1,rfl⟩⟩:=hrel
  cases gk with
  | zero=>exact absurd HA.out (by simp [jla.l0])
  | succ k1 =>
   have H:=HA.out
   clear HA
   simp only [jla.l0] at H
   by_cases c3:x8_1<(l0.length:Int)
   ·rw [if_pos c3] at H
    have c3b0:decide (x8_1<(l0.length:Int))=true:=dzT c3
    clear c3
    by_cases c4:0≤x8_1
    ·rw [if_pos c4] at H
     have c4b0:decide (0≤x8_1)=true:=dzT c4
     clear c4
     by_cases c5:x8_1<(l0.length:Int)
     ·rw [if_pos c5] at H
      have c5b0:decide (x8_1<(l0.length:Int))=true:=dzT c5
      clear c5
      by_cases c6:a1=(rd l0 x8_1)
      ·rw [if_pos c6] at H
       have c6b0:(a1 == (rd l0 x8_1))=true:=beq_iff_eq.mpr c6
       have c6b1:(a1 != (rd l0 x8_1))=false:=bne_eq_false_iff_eq.mpr c6
       clear c6
       obtain rfl:=Option.some.inj H
       have p783:0≤(x8_1:Int):=ozD (uq)
       have q783:x8_1<(l0.length:Int):=ozD (uq)
       obtain ⟨ad783,e783,hx783_0⟩:=Kd.jtb HR0.out x8_1 p783 q783
       cases e783
       replace p783:=ezT p783
       replace q783:=ezT q783
       go_wp2
       go_ret
       exact ⟨sq,Y7⟩
      ·rw [if_neg c6] at H
       have c6b0:(a1 == (rd l0 x8_1))=false:=beq_eq_false_iff_ne.mpr c6
       have c6b1:(a1 != (rd l0 x8_1))=true:=bne_iff_ne.mpr c6
       have H':=am H
       clear H
       have p783:0≤(x8_1:Int):=ozD (uq)
       have q783:x8_1<(l0.length:Int):=ozD (uq)
       obtain ⟨ad783,e783,hx783_0⟩:=Kd.jtb HR0.out x8_1 p783 q783
       cases e783
       replace p783:=ezT p783
       replace q783:=ezT q783
       go_wp2
       go_roundg k1
       case measure=>have:=HK1.out;omega
       case rel=>exact ⟨(wrap64 (x8_1+1)),(sq),H',⟨by have:=HK1.out;omega⟩,Y7⟩
     ·rw [if_neg c5] at H
      exact absurd H (by simp)
    ·rw [if_neg c4] at H
     exact absurd H (by simp)
   ·rw [if_neg c3] at H
    have c3b0:decide (x8_1<(l0.length:Int))=false:=dzF c3
    clear c3
    obtain rfl:=Option.some.inj H
    go_wp2
    go_ret
    exact ⟨sq,Y7⟩
def jPa.f (k : Nat) (l0 : List Int) (a1 : Int) : Option (Bool) := (jla.f k l0 a1).bind fun t784 => (some (decide (t784 ≥ 0)))
set_option maxHeartbeats 8000000 in
set_option maxRecDepth 100000 in
theorem jPa.calls (k : Nat) (A0 : Option Addr) (c0 : Nat) (l0 : List Int) (a1 : Int) (r : Bool) (w : World) (hr0 : Kd.C (Kd.int .i64) w A0 l0.length l0) (hc0 : l0.length ≤ c0) (h : jPa.f k l0 a1 = some r) :
  Calls Try.prog 75 #[.slice A0 l0.length c0, .int .i64 a1] w fun e w'=>e=.returned (.bool r)∧jsb w w':=by
 have HR0:=am hr0
 have HC0:=am hc0
 clear hr0 hc0
 have H:((jla.f k l0 a1).bind fun t784=>(some (decide (t784≥0))))=some r:=h
 clear h
 replace H:=bzS H
 obtain ⟨t784,A30,H⟩:=H
 replace H:(some (decide (t784≥0)))=some r:=H
 have A3:=am A30
 clear A30
 obtain rfl:=Option.some.inj H
 go_enter Try.func75,Try.ntmps75
 go_wp2_with (first |((with_reducible refine jd (f:=89) rfl ?_);refine gL (some 7) Try.func89 #[.slice A0 l0.length c0, .int .i64 a1] ?_;(with_reducible refine (jla.calls k _ _ l0 a1 t784 _ ?side1 ?side2 A3.out).mono ?_);(case side1=>exact Y35);(case side2=>exact HC0.out);rintro e w' ⟨rfl,⟨nd,rfl⟩⟩;refine ⟨_,rfl,?_⟩))
 go_ret
 exact ⟨sq,Y7⟩
def jEa.l0 : Nat → Int → List Int → List (S75) → Option (List Int)
 | 0,_,_,_=>none
 | k+1,x1,x5,x786000=>if x1≥0 then (if x5.length<17592186044416 then (if 0≤x1 then (if x1<(x786000.length:Int) then (jEa.l0 k ((jY x786000 x1).f1) (x5 ++ [x1]) x786000) else (none)) else (none)) else (none)) else (some (x5))
def jEa.f (k : Nat) (l0_0 : List (S75)) (a1 : Int) : Option (List Int) := if 0 ≤ (l0_0.length : Int) then (if ((l0_0.length : Int) : Int).toNat ≤ 35184372088832 then (jEa.l0 k a1 (([] : List Int)) l0_0) else (none)) else (none)
set_option maxHeartbeats 8000000 in
set_option maxRecDepth 100000 in
theorem jEa.calls (k : Nat) (A0_0 : Option Addr) (c0_0 : Nat) (l0_0 : List (S75)) (a1 : Int) (r : List Int) (w : World) (hr0_0 : Kd.C k75 w A0_0 l0_0.length l0_0) (hc0_0 : l0_0.length ≤ c0_0) (h : jEa.f k l0_0 a1 = some r) :
  Calls Try.prog 76 #[.agg #[.slice A0_0 l0_0.length c0_0], .int .i64 a1] w fun e w'=>∃ v0_:Value,e=.returned (v0_)∧Kd.R (Kd.int .i64) 3 w' w.heap.size (fun _=>True) v0_ r∧Below w.heap.size w w':=by
 have hu25:=Try.underlying25
 have HR0_0:=am hr0_0
 have HC0_0:=am hc0_0
 clear hr0_0 hc0_0
 have HB:=am (Below.refl w.heap.size w)
 have H:(if 0≤(l0_0.length:Int) then (if ((l0_0.length:Int):Int).toNat≤35184372088832 then (jEa.l0 k a1 (([]:List Int)) l0_0) else (none)) else (none))=some r:=h
 clear h
 by_cases c3:0≤(l0_0.length:Int)
 ·rw [if_pos c3] at H
  have c3b0:=ezT c3
  have c3b1:decide (0≤(l0_0.length:Int))=true:=dzT c3
  clear c3
  by_cases c4:((l0_0.length:Int):Int).toNat≤35184372088832
  ·rw [if_pos c4] at H
   have c4b0:=ezT c4
   have c4b1:decide (((l0_0.length:Int):Int).toNat≤35184372088832)=true:=dzT c4
   clear c4
   obtain ⟨y786,hy786⟩:∃ y_:List Int,y_=(([]:List Int)):=⟨_,rfl⟩
   replace H:(jEa.l0 k a1 y786 l0_0)=some r:=by first |(rw [hy786];with_reducible exact H) |(have H2_:=(Option.bind_some _ _).symm.trans H;rw [hy786];with_reducible exact H2_) |(have H2_:=(Option.bind_some _ _).symm.trans H;with_reducible exact H2_) | with_reducible exact H |(rw [hy786];exact H) | exact H
   have Ny786:=am hy786
   clear hy786
   have H':=am H
   clear H
   go_enter Try.func76,Try.ntmps76
   go_wp2_with (first |((with_reducible refine jJ (N:=2) rfl ?_);refine bE (N:=2) (cs:=#[.slice A0_0 l0_0.length c0_0]) (t:=25) ?_;intro gb785 hg w5 hbox hb;have BK785:=am (hbox);have GW785:=am ((Y3:w.heap.size≤gb785));have GE785:=am ((Y3:w.heap.size≤gb785));replace HB:=am (je (bq) hb);clear hb hbox hg;have hcz6_0:=bc0 BK785.out;have hfz6_0:=ja BK785.out 0) |((with_reducible refine jJ (N:=9) rfl ?_);refine Kd.R_mkcap (Kd.int .i64) _ 3 rfl (N:=9) rfl 29 _ _ rfl (l0_0.length:Int) rfl rfl Try.underlying29 (.int .i64 0) 8 info3 rfl (by decide) (by omega) (ok:=fun _=>True) trivial (ozD (uq)) (Nat.le_trans (Nat.mul_le_mul_right _ (ozD (uq):(l0_0.length:Int).toNat≤35184372088832)) (by omega)) (Below.refl _ _) (Nat.le_refl _) ?_;intro v787 w7 ho8 hb hg_ hnew_;clear hg_ hnew_;(first | rw [← Ny786.out] at ho8 |(simp only [Int.reduceToNat] at ho8;rw [← Ny786.out] at ho8));have HO788:=am (Kd.jaa ho8 (jma (Y66)));replace BK785:=am (jk (g:=gb785) (o:=.cells #[.slice A0_0 l0_0.length c0_0] 25 (0,0)) (kq BK785.out) hb);replace HB:=am (je (Y66) hb);clear hb ho8))
   go_loopg [1,5] k (fun kq v1 v5 w'=>∃ (x1_1:Int) (x5_1:List Int),v1=.int .i64 x1_1∧jq (jEa.l0 kq x1_1 x5_1 l0_0=some r)∧jq (kq≤k)∧jq (Kd.R (Kd.int .i64) 3 w' w.heap.size (fun _=>True) v5 x5_1)∧jq (w'.heap[gb785]?=some (.cells #[(.slice A0_0 l0_0.length c0_0)] 25 (0,0)))∧jq (Below w.heap.size w w'))
   case atStart=>exact ⟨(a1),(y786),(sq),H',⟨Nat.le_refl _⟩,⟨rq HO788.out⟩,⟨kq BK785.out⟩,⟨Y66⟩⟩
   case round =>
    clear H'
    try clear p2
    try clear c3
    try clear c3b0
    try clear c3b1
    try clear c4
    try clear c4b0
    try clear c4b1
    try clear c7
    try clear hcz6_0
    try clear hfz6_0
    obtain ⟨x1_1,x5_1,rfl,HA,HK1,HO_5,BK785,HB⟩:=hrel
    cases gk with
    | zero=>exact absurd HA.out (by simp [jEa.l0])
    | succ k1 =>
     have H:=HA.out
     clear HA
     simp only [jEa.l0] at H
     by_cases c9:x1_1≥0
     ·rw [if_pos c9] at H
      have c9b0:decide (0≤x1_1)=true:=dzT c9
      clear c9
      by_cases c10:x5_1.length<17592186044416
      ·rw [if_pos c10] at H
       have LMc10:=am c10
       clear c10
       obtain ⟨y789,hy789⟩:∃ y_:List Int,y_=(x5_1 ++ [x1_1]):=⟨_,rfl⟩
       replace H:(if 0≤x1_1 then (if x1_1<(l0_0.length:Int) then (jEa.l0 k1 ((jY l0_0 x1_1).f1) y789 l0_0) else (none)) else (none))=some r:=by first |(rw [hy789];with_reducible exact H) |(have H2_:=(Option.bind_some _ _).symm.trans H;rw [hy789];with_reducible exact H2_) |(have H2_:=(Option.bind_some _ _).symm.trans H;with_reducible exact H2_) | with_reducible exact H |(rw [hy789];exact H) | exact H
       have Ny789:=am hy789
       clear hy789
       by_cases c11:0≤x1_1
       ·rw [if_pos c11] at H
        have c11b0:decide (0≤x1_1)=true:=dzT c11
        clear c11
        by_cases c12:x1_1<(l0_0.length:Int)
        ·rw [if_pos c12] at H
         have c12b0:decide (x1_1<(l0_0.length:Int))=true:=dzT c12
         clear c12
         have H':=am H
         clear H
         go_wp2_with (first |((with_reducible refine jMa (b:=.append) (xs:=#[.tmp 18, .tmp 20]) rfl ?_);at_builtin;refine Kd.jcc (Kd.int .i64) (w0:=w) w.heap.size rfl (.tmp 18) (.tmp 20) 29 3 (.int .i64 0) 8 rfl Try.underlying29 info3 rfl (by decide) (by omega) u5 x5_1 x1_1 [.int .i64 x1_1] (fun _=>True) (fun _=>False) rfl rfl ?aP (fun _ hk=>hk.elim) ?aF ?aO ?aB ?aS ?aL ?_;(case aP=>exact rfl);(case aB=>exact (Y66));(case aF=>exact (fun _ _=>trivial));(case aO=>exact (rq HO_5.out));(case aS=>exact (jma (Y66)));(case aL=>have:=LMc10.out;omega);intro v790 w13 ho hb hg hat;rw [← Ny789.out] at ho;have n0_:=am (jXa (g:=gb785) (o:=.cells #[.slice A0_0 l0_0.length c0_0] 25 (0,0)) (kq BK785.out) hg (Kd.R_ne HO_5.out BK785.out (by decide)));have n1_:=am (hb);have n2_:=am (ho);clear BK785 HB HO_5;have BK785:=n0_;have HB:=n1_;have HO791:=n2_;clear n0_ n1_ n2_ ho hb hg hat;have hcz14_0:=bc0 BK785.out;have hfz14_0:=ja BK785.out 0;have p792:0≤(x1_1:Int):=ozD (uq);have q792:x1_1<(l0_0.length:Int):=ozD (uq);obtain ⟨ad792,e792,hx792_0,hx792_1⟩:=at_T75 HR0_0.out x1_1 p792 q792;cases e792;replace hx792_0:=cb HB.out hx792_0;replace hx792_1:=cb HB.out hx792_1;replace p792:=ezT p792;replace q792:=ezT q792))
         go_roundg k1
         case measure=>have:=HK1.out;omega
         case rel=>exact ⟨((jY l0_0 x1_1).f1),(y789),(sq),H',⟨by have:=HK1.out;omega⟩,⟨rq HO791.out⟩,⟨kq BK785.out⟩,⟨Y66⟩⟩
        ·rw [if_neg c12] at H
         exact absurd H (by simp)
       ·rw [if_neg c11] at H
        exact absurd H (by simp)
      ·rw [if_neg c10] at H
       exact absurd H (by simp)
     ·rw [if_neg c9] at H
      have c9b0:decide (0≤x1_1)=false:=dzF c9
      clear c9
      obtain ⟨y793,hy793⟩:∃ y_:List Int,y_=(x5_1):=⟨_,rfl⟩
      replace H:(some y793)=some r:=by first |(rw [hy793];with_reducible exact H) |(have H2_:=(Option.bind_some _ _).symm.trans H;rw [hy793];with_reducible exact H2_) |(have H2_:=(Option.bind_some _ _).symm.trans H;with_reducible exact H2_) | with_reducible exact H |(rw [hy793];exact H) | exact H
      have Ny793:=am hy793
      clear hy793
      obtain rfl:=Option.some.inj H
      obtain ⟨Ao15,co15,eo15⟩:=Kd.jka HO_5.out
      subst eo15
      obtain ⟨i016,hi016,_,hsz16,_⟩:=info_parts info3
      have hy16:y793.length=x5_1.length:=(by rw [Ny793.out])
      have hcut16:=cut_clip (P:=Try.prog) 29 3 Try.underlying29 hi016 Ao15 _ co15 _ (Kd.jy HO_5.out).2.1 hy16
      have hr16:=Kd.R_clip HO_5.out Ny793.out
      clear hy16 hi016 hsz16 HO_5
      have HO795:=am hr16
      clear hr16
      go_wp2
      go_ret
      exact ⟨_,Y0,rq HO795.out,Y66⟩
  ·rw [if_neg c4] at H
   exact absurd H (by simp)
 ·rw [if_neg c3] at H
  exact absurd H (by simp)
def jUa.f (k : Nat) (l0_0 : List (S75)) (a1 : Int) (a2 : Int) : Option (Bool) := (jEa.f k l0_0 a1).bind fun t797 => ((jPa.f k t797 a2).bind fun t800 => (some t800))
set_option maxHeartbeats 8000000 in
set_option maxRecDepth 100000 in
theorem jUa.calls (k : Nat) (A0_0 : Option Addr) (c0_0 : Nat) (l0_0 : List (S75)) (a1 : Int) (a2 : Int) (r : Bool) (w : World) (hr0_0 : Kd.C k75 w A0_0 l0_0.length l0_0) (hc0_0 : l0_0.length ≤ c0_0) (h : jUa.f k l0_0 a1 a2 = some r) :
  Calls Try.prog 55 #[.agg #[.slice A0_0 l0_0.length c0_0], .int .i64 a1, .int .i64 a2] w fun e w'=>e=.returned (.bool r)∧Below w.heap.size w w':=by
 have hu25:=Try.underlying25
 have HR0_0:=am hr0_0
 have HC0_0:=am hc0_0
 clear hr0_0 hc0_0
 have HB:=am (Below.refl w.heap.size w)
 have H:((jEa.f k l0_0 a1).bind fun t797=>((jPa.f k t797 a2).bind fun t800=>(some t800)))=some r:=h
 clear h
 replace H:=bzS H
 obtain ⟨t797,A40,H⟩:=H
 replace H:((jPa.f k t797 a2).bind fun t800=>(some t800))=some r:=H
 have A4:=am A40
 clear A40
 replace H:=bzS H
 obtain ⟨t800,A50,H⟩:=H
 replace H:(some t800)=some r:=H
 have A5:=am A50
 clear A50
 obtain rfl:=Option.some.inj H
 go_enter Try.func55,Try.ntmps55
 go_wp2_with (first |((with_reducible refine jJ (N:=3) rfl ?_);refine bE (N:=3) (cs:=#[.slice A0_0 l0_0.length c0_0]) (t:=25) ?_;intro gb796 hg w6 hbox hb;have BK796:=am (hbox);have GW796:=am ((Y3:w.heap.size≤gb796));have GE796:=am ((Y3:w.heap.size≤gb796));replace HB:=am (je (bq) hb);clear hb hbox hg;have hcz7_0:=bc0 BK796.out;have hfz7_0:=ja BK796.out 0) |((with_reducible refine jd (f:=76) rfl ?_);refine gL (some 9) Try.func76 #[.agg #[.slice A0_0 l0_0.length c0_0], .int .i64 a1] ?_;(with_reducible refine (jEa.calls k _ _ l0_0 a1 t797 _ ?side1 ?side2 A4.out).mono ?_);(case side1=>exact cq (Kd.jT HR0_0.out HB.out));(case side2=>exact HC0_0.out);rintro e w8 ⟨v798,rfl,ho0,hb⟩;refine ⟨_,rfl,?_⟩;have HO799:=am (Kd.jaa ho0 (jma (Y108)));replace BK796:=am (jk (g:=gb796) (o:=.cells #[.slice A0_0 l0_0.length c0_0] 25 (0,0)) (kq BK796.out) hb);replace HB:=am (je (Y108) hb);(try clear hb);(try clear hb2);(try clear hk);(try clear hi);(try clear ho0);obtain ⟨Ao9,co9,eo9⟩:=Kd.jka HO799.out;subst eo9) |((with_reducible refine jd (f:=75) rfl ?_);refine gL (some 11) Try.func75 #[.slice Ao9 t797.length co9, .int .i64 a2] ?_;(with_reducible refine (jPa.calls k _ _ t797 a2 t800 _ ?side1 ?side2 A5.out).mono ?_);(case side1=>exact cq (Kd.jy HO799.out).2.2);(case side2=>exact (Kd.jy HO799.out).2.1);rintro e w' ⟨rfl,⟨nd,rfl⟩⟩;refine ⟨_,rfl,?_⟩))
 go_ret
 exact ⟨Y0,Y108⟩
end Go.Proofs.Ytkedkinojeoeaaa.P
end
