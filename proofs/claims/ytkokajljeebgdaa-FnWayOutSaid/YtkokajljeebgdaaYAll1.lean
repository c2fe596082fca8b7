/- One part of the proofs on this program: functions of the program as plain functions, that the code comes to them, and facts on them. -/
import Derived.ArgAppend
import Derived.Below
import Derived.BigQuiet
import Derived.Deep.AppendLies
import Derived.Deep.CutBlock
import Derived.Deep.DeepCutAuto
import Derived.Deep.Draws
import Derived.Deep.LoopGhost
import Derived.Deep.OwnRows
import Derived.Deep.QuietTactic
import Derived.Deep.RegionHeld3
import Derived.KernelRfl
import Derived.Laws.BitsLemmas
import Derived.Laws.BytesArg
import Derived.Laws.IdiomCopy
import Derived.Laws.MakeOwn
import Derived.Laws.OwnMore
import Derived.Laws.Rows
import Derived.Laws.Slices
import Derived.Laws.StructEq
import Derived.Lib.AppendStr
import Derived.Lib.ConvBytes
import Derived.LoopTactic
import Derived.Maps.AppendAt
import Derived.OrdersHeld
import Derived.OwnWalk
import Derived.RowKit
import Derived.RowKit3
import Derived.Tactics
import Derived.WalkKit
import Derived.WideLaws
import Derived.Test.YtkokajljeebgdaaProg
import Derived.Test.YtkokajljeebgdaaYWApart
import Derived.Test.YtkokajljeebgdaaYWAuto
import Derived.Test.YtkokajljeebgdaaYWClip
import Derived.Test.YtkokajljeebgdaaYWFoot
import Derived.Test.YtkokajljeebgdaaYWGuard
import Derived.Test.YtkokajljeebgdaaYWIdx
import Derived.Test.YtkokajljeebgdaaYWKept
import Derived.Test.YtkokajljeebgdaaYWLast
import Derived.Test.YtkokajljeebgdaaYWMore
import Derived.Test.YtkokajljeebgdaaYWN
import Derived.Test.YtkokajljeebgdaaYWRepsOne
import Derived.Test.YtkokajljeebgdaaYWShare
import Derived.Test.YtkokajljeebgdaaYWSome
import Derived.Test.YtkokajljeebgdaaYWTab
import Derived.Test.YtkokajljeebgdaaYWWords
section
namespace Go.Proofs.Ytkokajljeebgdaa.P
open Go.RowKit Go.Proofs.YtkokajljeebgdaaW.PrintWords Go.Proofs.YtkokajljeebgdaaW.PrintLast Go.Proofs.YtkokajljeebgdaaW.PrintMore
attribute [local go_sem] jqa joa jBa jAa jfa jea jpa jna jk
set_option linter.unusedVariables false
set_option linter.unusedSimpArgs false
def errW : Option Int → Value
 | none=>.nilIface
 | some c=>.iface 0 (.int .i64 c)
theorem jWb : errW none = .nilIface := rfl
theorem jVb (c : Int) : errW (some c) = .iface 0 (.int .i64 c) := rfl
theorem info3 : (Try.prog.info? 3).map (fun i => (i.zero, i.size, i.bytes)) = some (some (.int .i64 0), 1, 8) := by kernel_rfl
theorem info5 : (Try.prog.info? 5).map (fun i => (i.zero, i.size, i.bytes)) = some (some (.int .u8 0), 1, 1) := by kernel_rfl
theorem jyc : (Try.prog.info? 52).map (fun i => (i.zero, i.size, i.bytes)) = some (some (.agg #[(.int .i64 0), (.int .i64 0), (.int .i64 0), (.int .i64 0)]), 4, 32) := by kernel_rfl
theorem info87 : (Try.prog.info? 87).map (fun i => (i.zero, i.size, i.bytes)) = some (some (.agg #[(.string ⟨#[]⟩), (.int .i64 0)]), 2, 24) := by kernel_rfl
structure S87 where
 f0:ByteArray
 f1:Int
def z87 : S87 := ⟨(⟨#[]⟩ : ByteArray), (0 : Int)⟩
def k87 : Kd S87 := Kd.iso (Kd.pair Kd.string (Kd.int .i64)) (fun x : S87 => (x.f0, x.f1))
theorem k87_open {w : World} {x : S87} {cs : List Value} (h : k87.K w x cs) : cs = [.string x.f0, .int .i64 x.f1] := by
 obtain ⟨_,_,rfl,rfl,rfl⟩:=h
 exact rfl
theorem k87_openM {w : World} {base : Nat} {ok : Nat → Prop} {x : S87} {cs : List Value} (h : k87.M w base ok x cs) : cs = [.string x.f0, .int .i64 x.f1] := by
 obtain ⟨_,_,rfl,rfl,rfl⟩:=h
 exact rfl
theorem k87_mkM (w : World) (base : Nat) (ok : Nat → Prop) (x : S87)  : k87.M w base ok x [.string x.f0, .int .i64 x.f1] := ⟨[.string x.f0], [.int .i64 x.f1], rfl, rfl, rfl⟩
def jda (xs : List S87) (i : Int) : S87 := xs.getD i.toNat z87
theorem at_T87 {w : World} {A : Option Addr} {n : Nat} {xs : List S87} (h : Kd.C k87 w A n xs) (i : Int) (h0 : 0 ≤ i) (h1 : i < n) : ∃ ad , A = some ad ∧ w.cell? (ad.add (i.toNat * 2)) = some (.string (jda xs i).f0) ∧ w.cell? ⟨(ad.add (i.toNat * 2)).block, (ad.add (i.toNat * 2)).off + 1, none⟩ = some (.int .i64 (jda xs i).f1) := by
 obtain ⟨ad,c,e,_,hK,hc0⟩:=Kd.C_get h z87 i h0 h1
 have hc:∀ j u,c[j]?=some u→w.cell? (ad.add (i.toNat * 2+j))=some u:=hc0
 obtain rfl:=k87_open hK
 exact ⟨ad,e,hc 0 _ rfl,by rw [← add_field _ _ 1 (by omega)];exact hc 1 _ rfl⟩
structure S52 where
 f0:Int
 f1:Int
 f2:Int
 f3:Int
def z52 : S52 := ⟨(0 : Int), (0 : Int), (0 : Int), (0 : Int)⟩
def k52 : Kd S52 := Kd.iso (Kd.pair (Kd.int .i64) (Kd.pair (Kd.int .i64) (Kd.pair (Kd.int .i64) (Kd.int .i64)))) (fun x : S52 => (x.f0, x.f1, x.f2, x.f3))
theorem k52_open {w : World} {x : S52} {cs : List Value} (h : k52.K w x cs) : cs = [.int .i64 x.f0, .int .i64 x.f1, .int .i64 x.f2, .int .i64 x.f3] := by
 obtain ⟨_,_,rfl,rfl,⟨_,_,rfl,rfl,⟨_,_,rfl,rfl,rfl⟩⟩⟩:=h
 exact rfl
theorem jEc {w : World} {base : Nat} {ok : Nat → Prop} {x : S52} {cs : List Value} (h : k52.M w base ok x cs) : cs = [.int .i64 x.f0, .int .i64 x.f1, .int .i64 x.f2, .int .i64 x.f3] := by
 obtain ⟨_,_,rfl,rfl,⟨_,_,rfl,rfl,⟨_,_,rfl,rfl,rfl⟩⟩⟩:=h
 exact rfl
theorem jEb (w : World) (base : Nat) (ok : Nat → Prop) (x : S52)  : k52.M w base ok x [.int .i64 x.f0, .int .i64 x.f1, .int .i64 x.f2, .int .i64 x.f3] := ⟨[.int .i64 x.f0], [.int .i64 x.f1, .int .i64 x.f2, .int .i64 x.f3], rfl, rfl, ⟨[.int .i64 x.f1], [.int .i64 x.f2, .int .i64 x.f3], rfl, rfl, ⟨[.int .i64 x.f2], [.int .i64 x.f3], rfl, rfl, rfl⟩⟩⟩
def jc (xs : List S52) (i : Int) : S52 := xs.getD i.toNat z52
theorem jta {w : World} {A : Option Addr} {n : Nat} {xs : List S52} (h : Kd.C k52 w A n xs) (i : Int) (h0 : 0 ≤ i) (h1 : i < n) : ∃ ad , A = some ad ∧ w.cell? (ad.add (i.toNat * 4)) = some (.int .i64 (jc xs i).f0) ∧ w.cell? ⟨(ad.add (i.toNat * 4)).block, (ad.add (i.toNat * 4)).off + 1, none⟩ = some (.int .i64 (jc xs i).f1) ∧ w.cell? ⟨(ad.add (i.toNat * 4)).block, (ad.add (i.toNat * 4)).off + 2, none⟩ = some (.int .i64 (jc xs i).f2) ∧ w.cell? ⟨(ad.add (i.toNat * 4)).block, (ad.add (i.toNat * 4)).off + 3, none⟩ = some (.int .i64 (jc xs i).f3) := by
 obtain ⟨ad,c,e,_,hK,hc0⟩:=Kd.C_get h z52 i h0 h1
 have hc:∀ j u,c[j]?=some u→w.cell? (ad.add (i.toNat * 4+j))=some u:=hc0
 obtain rfl:=k52_open hK
 exact ⟨ad,e,hc 0 _ rfl,by rw [← add_field _ _ 1 (by omega)];exact hc 1 _ rfl,by rw [← add_field _ _ 2 (by omega)];exact hc 2 _ rfl,by rw [← add_field _ _ 3 (by omega)];exact hc 3 _ rfl⟩
def jV.l0 : Nat → List Int → List Int → Int → Option (Bool)
 | 0,_,_,_=>none
 | k+1,x0,x1,x5=>if x5<(x0.length:Int) then (if 0≤x5 then (if x5<(x1.length:Int) then (if (rd x0 x5)=(rd x1 x5) then (jV.l0 k x0 x1 (wrap64 (x5+1))) else (some false)) else (none)) else (none)) else (some true)
def jV.f (k : Nat) (l0 : List Int) (l1 : List Int) : Option (Bool) := if (l0.length : Int) = (l1.length : Int) then (jV.l0 k l0 l1 0) else (some false)
set_option maxHeartbeats 8000000 in
set_option maxRecDepth 100000 in
theorem jV.calls (k : Nat) (A0 : Option Addr) (c0 : Nat) (l0 : List Int) (A1 : Option Addr) (c1 : Nat) (l1 : List Int) (r : Bool) (w : World) (hr0 : Kd.C (Kd.int .i64) w A0 l0.length l0) (hc0 : l0.length ≤ c0) (hr1 : Kd.C (Kd.int .i64) w A1 l1.length l1) (hc1 : l1.length ≤ c1) (h : jV.f k l0 l1 = some r) :
  Calls Try.prog 27 #[.slice A0 l0.length c0, .slice A1 l1.length c1] w fun e w'=>e=.returned (.bool r)∧jjb w w':=by
 have HR0:=am hr0
 have HC0:=am hc0
 clear hr0 hc0
 have HR1:=am hr1
 have HC1:=am hc1
 clear hr1 hc1
 have H:(if (l0.length:Int)=(l1.length:Int) then (jV.l0 k l0 l1 0) else (some false))=some r:=h
 clear h
 by_cases c3:(l0.length:Int)=(l1.length:Int)
 ·rw [if_pos c3] at H
  have c3b0:((l0.length:Int) == (l1.length:Int))=true:=beq_iff_eq.mpr c3
  have c3b1:((l0.length:Int) != (l1.length:Int))=false:=bne_eq_false_iff_eq.mpr c3
  have c3b2:(l0.length == l1.length)=true:=by first | simpa using c3 |(simp at c3 ⊢;omega)
  clear c3
  have H':=am H
  clear H
  go_enter Try.func27,Try.ntmps27
  go_wp2
  repeat (go_quiet (fail);try go_wp2)
  go_loopg [5] k (fun kq v5 w'=>∃ (x5_1:Int),v5=.int .i64 x5_1∧jq (jV.l0 kq l0 l1 x5_1=some r)∧jq (kq≤k)∧jjb w w')
  case atStart=>exact ⟨(0),(sq),H',⟨Nat.le_refl _⟩,Y5⟩
  case round =>
   clear H'
   try clear c1
   try clear c2
   try clear p2
   try clear c3
   try clear c3b0
   try clear c3b1
   try clear c3b2
   obtain ⟨x5_1,rfl,HA,HK1,⟨m1,rfl⟩⟩:=hrel
   cases gk with
   | zero=>exact absurd HA.out (by simp [jV.l0])
   | succ k1 =>
    have H:=HA.out
    clear HA
    simp only [jV.l0] at H
    by_cases c4:x5_1<(l0.length:Int)
    ·rw [if_pos c4] at H
     have c4b0:decide (x5_1<(l0.length:Int))=true:=dzT c4
     clear c4
     by_cases c5:0≤x5_1
     ·rw [if_pos c5] at H
      have c5b0:decide (0≤x5_1)=true:=dzT c5
      clear c5
      by_cases c6:x5_1<(l1.length:Int)
      ·rw [if_pos c6] at H
       have c6b0:decide (x5_1<(l1.length:Int))=true:=dzT c6
       clear c6
       by_cases c7:(rd l0 x5_1)=(rd l1 x5_1)
       ·rw [if_pos c7] at H
        have c7b0:((rd l0 x5_1) == (rd l1 x5_1))=true:=beq_iff_eq.mpr c7
        have c7b1:((rd l0 x5_1) != (rd l1 x5_1))=false:=bne_eq_false_iff_eq.mpr c7
        clear c7
        have H':=am H
        clear H
        have p101:0≤(x5_1:Int):=ozD (uq)
        have q101:x5_1<(l0.length:Int):=ozD (uq)
        obtain ⟨ad101,e101,hx101_0⟩:=Kd.jgb HR0.out x5_1 p101 q101
        cases e101
        replace p101:=ezT p101
        replace q101:=ezT q101
        have p102:0≤(x5_1:Int):=ozD (uq)
        have q102:x5_1<(l1.length:Int):=ozD (uq)
        obtain ⟨ad102,e102,hx102_0⟩:=Kd.jgb HR1.out x5_1 p102 q102
        cases e102
        replace p102:=ezT p102
        replace q102:=ezT q102
        go_wp2
        repeat (go_quiet (fail);try go_wp2)
        go_roundg k1
        case measure=>have:=HK1.out;omega
        case rel=>exact ⟨(wrap64 (x5_1+1)),(sq),H',⟨by have:=HK1.out;omega⟩,Y5⟩
       ·rw [if_neg c7] at H
        have c7b0:((rd l0 x5_1) == (rd l1 x5_1))=false:=beq_eq_false_iff_ne.mpr c7
        have c7b1:((rd l0 x5_1) != (rd l1 x5_1))=true:=bne_iff_ne.mpr c7
        obtain rfl:=Option.some.inj H
        have p101:0≤(x5_1:Int):=ozD (uq)
        have q101:x5_1<(l0.length:Int):=ozD (uq)
        obtain ⟨ad101,e101,hx101_0⟩:=Kd.jgb HR0.out x5_1 p101 q101
        cases e101
        replace p101:=ezT p101
        replace q101:=ezT q101
        have p102:0≤(x5_1:Int):=ozD (uq)
        have q102:x5_1<(l1.length:Int):=ozD (uq)
        obtain ⟨ad102,e102,hx102_0⟩:=Kd.jgb HR1.out x5_1 p102 q102
        cases e102
        replace p102:=ezT p102
        replace q102:=ezT q102
        go_wp2
        repeat (go_quiet (fail);try go_wp2)
        go_ret
        exact ⟨sq,Y5⟩
      ·rw [if_neg c6] at H
       exact absurd H (by simp)
     ·rw [if_neg c5] at H
      exact absurd H (by simp)
    ·rw [if_neg c4] at H
     have c4b0:decide (x5_1<(l0.length:Int))=false:=dzF c4
     clear c4
     obtain rfl:=Option.some.inj H
     go_wp2
     repeat (go_quiet (fail);try go_wp2)
     go_ret
     exact ⟨sq,Y5⟩
 ·rw [if_neg c3] at H
  have c3b0:((l0.length:Int) == (l1.length:Int))=false:=beq_eq_false_iff_ne.mpr c3
  have c3b1:((l0.length:Int) != (l1.length:Int))=true:=bne_iff_ne.mpr c3
  have c3b2:(l0.length == l1.length)=false:=by first | simpa using c3 |(simp at c3 ⊢;omega)
  obtain rfl:=Option.some.inj H
  go_enter Try.func27,Try.ntmps27
  go_wp2
  repeat (go_quiet (fail);try go_wp2)
  go_ret
  exact ⟨sq,Y5⟩
def jL.f (a0 : Int) (a1 : Int) (a2 : Int) : Option (Bool) := if a0 ≥ a1 then (some (decide (a0 ≤ a2))) else (some false)
set_option maxHeartbeats 8000000 in
set_option maxRecDepth 100000 in
theorem jL.calls (a0 : Int) (a1 : Int) (a2 : Int) (r : Bool) (w : World) (h : jL.f a0 a1 a2 = some r) :
  Calls Try.prog 66 #[.int .i64 a0, .int .i64 a1, .int .i64 a2] w fun e w'=>e=.returned (.bool r)∧jjb w w':=by
 have H:(if a0≥a1 then (some (decide (a0≤a2))) else (some false))=some r:=h
 clear h
 by_cases c4:a0≥a1
 ·rw [if_pos c4] at H
  have c4b0:decide (a1≤a0)=true:=dzT c4
  clear c4
  obtain rfl:=Option.some.inj H
  go_enter Try.func66,Try.ntmps66
  go_wp2
  go_ret
  exact ⟨sq,Y5⟩
 ·rw [if_neg c4] at H
  have c4b0:decide (a1≤a0)=false:=dzF c4
  clear c4
  obtain rfl:=Option.some.inj H
  go_enter Try.func66,Try.ntmps66
  go_wp2
  go_ret
  exact ⟨sq,Y5⟩
def jOa.l0 : Nat → ByteArray → Int → Int → Option (Bool)
 | 0,_,_,_=>none
 | k+1,x0,x5,x6=>if x6<x5 then (if 0≤x6 then (if x6<(x0.size:Int) then (if (bt x0 x6)<97 then (some false) else (if (bt x0 x6) > 122 then (some false) else (jOa.l0 k x0 x5 (wrap64 (x6+1))))) else (none)) else (none)) else ((jL.f (x0.size:Int) 1 6).bind fun t103=>(some t103))
def jOa.f (k : Nat) (a0 : ByteArray) : Option (Bool) := jOa.l0 k a0 (a0.size : Int) 0
set_option maxHeartbeats 8000000 in
set_option maxRecDepth 100000 in
theorem jOa.calls (k : Nat) (a0 : ByteArray) (r : Bool) (w : World) (h : jOa.f k a0 = some r) :
  Calls Try.prog 93 #[.string a0] w fun e w'=>e=.returned (.bool r)∧jjb w w':=by
 have H:(jOa.l0 k a0 (a0.size:Int) 0)=some r:=h
 clear h
 have H':=am H
 clear H
 go_enter Try.func93,Try.ntmps93
 go_wp2
 go_loopg [6] k (fun kq v6 w'=>∃ (x6_1:Int),v6=.int .i64 x6_1∧jq (jOa.l0 kq a0 (a0.size:Int) x6_1=some r)∧jq (kq≤k)∧jjb w w')
 case atStart=>exact ⟨(0),(sq),H',⟨Nat.le_refl _⟩,Y5⟩
 case round =>
  clear H'
  obtain ⟨x6_1,rfl,HA,HK1,⟨m1,rfl⟩⟩:=hrel
  cases gk with
  | zero=>exact absurd HA.out (by simp [jOa.l0])
  | succ k1 =>
   have H:=HA.out
   clear HA
   simp only [jOa.l0] at H
   by_cases c2:x6_1<(a0.size:Int)
   ·rw [if_pos c2] at H
    have c2b0:decide (x6_1<(a0.size:Int))=true:=dzT c2
    clear c2
    by_cases c3:0≤x6_1
    ·rw [if_pos c3] at H
     have c3b0:decide (0≤x6_1)=true:=dzT c3
     clear c3
     by_cases c4:x6_1<(a0.size:Int)
     ·rw [if_pos c4] at H
      have c4b0:decide (x6_1<(a0.size:Int))=true:=dzT c4
      clear c4
      by_cases c6:(bt a0 x6_1)<97
      ·rw [if_pos c6] at H
       have c6b0:decide ((bt a0 x6_1)<97)=true:=dzT c6
       clear c6
       obtain rfl:=Option.some.inj H
       have p5:0≤(x6_1:Int):=ozD (uq)
       have q5:x6_1<(a0.size:Int):=ozD (uq)
       have hx5:=bt_at a0 x6_1
       replace p5:=ezT p5
       replace q5:=ezT q5
       go_wp2
       go_ret
       exact ⟨sq,Y5⟩
      ·rw [if_neg c6] at H
       have c6b0:decide ((bt a0 x6_1)<97)=false:=dzF c6
       clear c6
       by_cases c8:(bt a0 x6_1) > 122
       ·rw [if_pos c8] at H
        have c8b0:decide (122<(bt a0 x6_1))=true:=dzT c8
        clear c8
        obtain rfl:=Option.some.inj H
        have p5:0≤(x6_1:Int):=ozD (uq)
        have q5:x6_1<(a0.size:Int):=ozD (uq)
        have hx5:=bt_at a0 x6_1
        replace p5:=ezT p5
        replace q5:=ezT q5
        have p7:0≤(x6_1:Int):=ozD (uq)
        have q7:x6_1<(a0.size:Int):=ozD (uq)
        have hx7:=bt_at a0 x6_1
        replace p7:=ezT p7
        replace q7:=ezT q7
        go_wp2
        go_ret
        exact ⟨sq,Y5⟩
       ·rw [if_neg c8] at H
        have c8b0:decide (122<(bt a0 x6_1))=false:=dzF c8
        clear c8
        have H':=am H
        clear H
        have p5:0≤(x6_1:Int):=ozD (uq)
        have q5:x6_1<(a0.size:Int):=ozD (uq)
        have hx5:=bt_at a0 x6_1
        replace p5:=ezT p5
        replace q5:=ezT q5
        have p7:0≤(x6_1:Int):=ozD (uq)
        have q7:x6_1<(a0.size:Int):=ozD (uq)
        have hx7:=bt_at a0 x6_1
        replace p7:=ezT p7
        replace q7:=ezT q7
        go_wp2
        go_roundg k1
        case measure=>have:=HK1.out;omega
        case rel=>exact ⟨(wrap64 (x6_1+1)),(sq),H',⟨by have:=HK1.out;omega⟩,Y5⟩
     ·rw [if_neg c4] at H
      exact absurd H (by simp)
    ·rw [if_neg c3] at H
     exact absurd H (by simp)
   ·rw [if_neg c2] at H
    have c2b0:decide (x6_1<(a0.size:Int))=false:=dzF c2
    clear c2
    replace H:=bzS H
    obtain ⟨t103,A90,H⟩:=H
    replace H:(some t103)=some r:=H
    have A9:=am A90
    clear A90
    obtain rfl:=Option.some.inj H
    go_wp2_with (first |((with_reducible refine jd (f:=66) rfl ?_);refine gL (some 22) Try.func66 #[.int .i64 (a0.size:Int), .int .i64 1, .int .i64 6] ?_;(with_reducible refine (jL.calls (a0.size:Int) 1 6 t103 _ A9.out).mono ?_);rintro e w' ⟨rfl,⟨nd,rfl⟩⟩;refine ⟨_,rfl,?_⟩))
    go_ret
    exact ⟨sq,Y5⟩

theorem impl_named1_calls (a b : ByteArray) (p : Int) (B : Nat) (w : World) (hB : B < w.heap.size) (hc : w.cell? ⟨B, 0, none⟩ = some (.string b)) :
  Calls Try.prog 113 #[.agg #[.string a, .int .i64 p], .pointer (some ⟨B,0,none⟩)] w fun e w'=>e=.returned (.bool (a.toList == b.toList))∧Below w.heap.size w w':=by
 have hne:B≠w.heap.size:=by omega
 go_enter Try.func113,Try.ntmps113
 go_wp2
 go_ret
 exact ⟨rfl,(Below.refl _ _).alloc (Nat.le_refl _) _⟩
set_option maxHeartbeats 8000000 in
set_option maxRecDepth 100000 in
theorem impl_named_idx (A_ : Option Addr) (c_ : Nat) (l : List (S87)) (B0_ : Nat) (p : S87 → Option Bool) (r : Int) (w : World) (hr : Kd.C k87 w A_ l.length l) (h : idxFrom p l 0 = some r)
  (hp:∀ W,Below w.heap.size w W→∀ (x:S87) (b:Bool),p x=some b→Calls Try.prog 113 #[.agg #[.string x.f0, .int .i64 x.f1], .pointer (some ⟨B0_,0,none⟩)] W fun e w'=>e=.returned (.bool b)∧Below W.heap.size W w') :
  Calls Try.prog 112 #[.slice A_ l.length c_, .func (.func 113) #[] #[.pointer (some ⟨B0_,0,none⟩)]] w fun e w'=>e=.returned (.int .i64 r)∧Below w.heap.size w w':=by
 have hm:l.length≤9223372036854775807:=Kd.C_max hr
 have HR:=am hr
 have HP:=am hp
 have H0:=am h
 clear hr hp h
 go_enter Try.func112,Try.ntmps112
 go_wp2
 go_loopw [5,8] (fun i5 i8 wr=>∃ k:Nat,k≤l.length∧i8=.int .i64 k∧jq (idxFrom p (l.drop k) k=some r)∧Below w.heap.size w wr) (fun _ i8 _=>l.length - (intOf i8).toNat)
 case atStart=>exact ⟨0,Nat.zero_le _,rfl,H0,Below.refl _ _⟩
 case round =>
  clear H0
  obtain ⟨k,hk,rfl,HA,hb⟩:=hrel
  by_cases hlt:k<l.length
  ·have HB:=am (idxFrom_step hlt HA.out)
   clear HA
   obtain ⟨ad,rfl,hx0,hx1⟩:=at_T87 HR.out (k:Int) (by omega) (by omega)
   have hrd:jda l (k:Int)=l[k]:=by simp [jda,List.getD_eq_getElem?_getD,hlt]
   replace hx0:=jwa hb hx0
   replace hx1:=jwa hb hx1
   rw [hrd] at hx0 hx1
   simp only [Int.toNat_natCast] at hx0 hx1
   clear hrd
   obtain ⟨b,hb1,hb0⟩:=HB.out
   have HQ:=am hb1
   clear hb1 HB
   cases b with
   | true =>
    have HZ:=am (by simpa using hb0:(k:Int)=r)
    clear hb0
    go_wp2_with (go_at_call 113;refine (HP.out _ hb _ _ HQ.out).mono ?_;rintro e w' ⟨rfl,hb2⟩)
    go_ret
    exact ⟨by rw [← HZ.out];rfl,jha hb hb.size hb2⟩
   | false =>
    have HZ:=am (by simpa using hb0:idxFrom p (l.drop (k+1)) (k+1)=some r)
    clear hb0
    go_wp2_with (go_at_call 113;refine (HP.out _ hb _ _ HQ.out).mono ?_;rintro e w' ⟨rfl,hb2⟩)
    go_roundw
    case rel=>exact ⟨k+1,hlt,by go_num,HZ,jha hb hb.size hb2⟩
    case measure=>simp [intOf];omega
  ·have HZ:=am (idxFrom_end (by omega) HA.out)
   clear HA
   go_wp2
   go_ret
   exact ⟨by rw [HZ.out];rfl,hb⟩
def jXa.f (l0_0 : List S87) (a1 : ByteArray) : Option Int := idxFrom (fun x : S87 => some (x.f0.toList == a1.toList)) l0_0 0
set_option maxHeartbeats 8000000 in
set_option maxRecDepth 100000 in
theorem jXa.calls (A0_0 : Option Addr) (c0_0 : Nat) (l0_0 : List (S87)) (a1 : ByteArray) (r : Int) (w : World) (hr0_0 : Kd.C k87 w A0_0 l0_0.length l0_0) (hc0_0 : l0_0.length ≤ c0_0) (h : jXa.f l0_0 a1 = some r) :
  Calls Try.prog 94 #[.agg #[.slice A0_0 l0_0.length c0_0], .string a1] w fun e w'=>e=.returned (.int .i64 r)∧Below w.heap.size w w':=by
 have hu32:=Try.underlying32
 have HF:=am (fun W (hb:Below w.heap.size w W) (B:Nat) (hB:B<W.heap.size) (hc:W.cell? ⟨B,0,none⟩=some (.string a1))=>impl_named_idx A0_0 c0_0 l0_0 B (fun x:S87=>some (x.f0.toList == a1.toList)) r W (Kd.jba hr0_0 hb) h (fun W' hb' x b hx=>by
  obtain rfl:=Option.some.inj hx
  exact impl_named1_calls x.f0 a1 x.f1 B W' (Nat.lt_of_lt_of_le hB hb'.size) (jwa hb' hc)))
 clear h hr0_0
 go_enter Try.func94,Try.ntmps94
 go_wp2_with (go_at_call 112;refine (HF.out _ (((Below.refl _ _).alloc (Nat.le_refl _) _).alloc (by simp) _) _ (by simp) (by simp)).mono ?_;rintro e w' ⟨rfl,hb2⟩)
 go_ret
 exact ⟨rfl,(((Below.refl _ _).alloc (Nat.le_refl _) _).alloc (by simp) _).trans (hb2.mono (by simp;omega))⟩
mutual
def jF.l0 : Nat → List (S87) → Int → Int → List (S87) → Option (Bool)
 | 0,_,_,_,_=>none
 | k+1,x6,x7,x8,x105000=>if x8<x7 then (if 0≤x8 then (if x8<(x6.length:Int) then ((jOa.f k ((jda x6 x8).f0)).bind fun t108=>(if t108=true then ((jXa.f x105000 ((jda x6 x8).f0)).bind fun t109=>(if t109=x8 then (if x8=0 then (if ((jda x6 x8).f1)=(-1) then (if x8 > 0 then ((jL.f ((jda x6 x8).f1) 0 (wrap64 (x8 - 1))).bind fun t110=>(jF.j1 k x6 x7 x8 (!t110) x105000)) else (jF.j1 k x6 x7 x8 false x105000)) else (jF.j1 k x6 x7 x8 true x105000)) else (if x8 > 0 then ((jL.f ((jda x6 x8).f1) 0 (wrap64 (x8 - 1))).bind fun t111=>(jF.j1 k x6 x7 x8 (!t111) x105000)) else (jF.j1 k x6 x7 x8 false x105000))) else (jF.j1 k x6 x7 x8 true x105000))) else (jF.j1 k x6 x7 x8 true x105000))) else (none)) else (none)) else ((jL.f (x105000.length:Int) 1 8).bind fun t105=>(some t105))
def jF.j1 : Nat → List (S87) → Int → Int → Bool → List (S87) → Option (Bool)
 | 0,_,_,_,_,_=>none
 | k+1,x6,x7,x8,x45,x105000=>if x45=true then (some false) else (jF.l0 k x6 x7 (wrap64 (x8+1)) x105000)
end
def jF.f (k : Nat) (l0_0 : List (S87)) : Option (Bool) := jF.l0 k l0_0 (l0_0.length : Int) 0 l0_0
set_option maxHeartbeats 8000000 in
set_option maxRecDepth 100000 in
theorem jF.calls (k : Nat) (A0_0 : Option Addr) (c0_0 : Nat) (l0_0 : List (S87)) (r : Bool) (w : World) (hr0_0 : Kd.C k87 w A0_0 l0_0.length l0_0) (hc0_0 : l0_0.length ≤ c0_0) (h : jF.f k l0_0 = some r) :
  Calls Try.prog 64 #[.agg #[.slice A0_0 l0_0.length c0_0]] w fun e w'=>e=.returned (.bool r)∧Below w.heap.size w w':=by
 have hu32:=Try.underlying32
 have hu87:=Try.underlying87
 have HR0_0:=am hr0_0
 have HC0_0:=am hc0_0
 clear hr0_0 hc0_0
 have HB:=am (Below.refl w.heap.size w)
 have H:(jF.l0 k l0_0 (l0_0.length:Int) 0 l0_0)=some r:=h
 clear h
 have H':=am H
 clear H
 go_enter Try.func64,Try.ntmps64
 go_wp2_with (first |((with_reducible refine jM (N:=1) rfl ?_);refine bE (N:=1) (cs:=#[.slice A0_0 l0_0.length c0_0]) (t:=32) ?_;intro gb104 hg w2 hbox hb;have BK104:=am (hbox);have GW104:=am ((Y10:w.heap.size≤gb104));have GE104:=am ((Y10:w.heap.size≤gb104));replace HB:=am (je (bq) hb);clear hb hbox hg;have hcz3_0:=bc0 BK104.out;have hfz3_0:=ja BK104.out 0))
 go_loopg [8] k (fun kq v8 w'=>∃ (x8_1:Int),v8=.int .i64 x8_1∧jq (jF.l0 kq l0_0 (l0_0.length:Int) x8_1 l0_0=some r)∧jq (kq≤k)∧jq (w'.heap[gb104]?=some (.cells #[(.slice A0_0 l0_0.length c0_0)] 32 (0,0)))∧jq (Below w.heap.size w w'))
 case atStart=>exact ⟨(0),(sq),H',⟨Nat.le_refl _⟩,⟨kq BK104.out⟩,⟨Y94⟩⟩
 case round =>
  clear H'
  try clear p2
  try clear hcz3_0
  try clear hfz3_0
  obtain ⟨x8_1,rfl,HA,HK1,BK104,HB⟩:=hrel
  cases gk with
  | zero=>exact absurd HA.out (by simp [jF.l0])
  | succ k1 =>
   have H:=HA.out
   clear HA
   simp only [jF.l0] at H
   by_cases c4:x8_1<(l0_0.length:Int)
   ·rw [if_pos c4] at H
    have c4b0:decide (x8_1<(l0_0.length:Int))=true:=dzT c4
    clear c4
    by_cases c5:0≤x8_1
    ·rw [if_pos c5] at H
     have c5b0:decide (0≤x8_1)=true:=dzT c5
     clear c5
     by_cases c6:x8_1<(l0_0.length:Int)
     ·rw [if_pos c6] at H
      have c6b0:decide (x8_1<(l0_0.length:Int))=true:=dzT c6
      clear c6
      have HC7:=am H
      clear H
      have p106:0≤(x8_1:Int):=ozD (uq)
      have q106:x8_1<(l0_0.length:Int):=ozD (uq)
      obtain ⟨ad106,e106,hx106_0,hx106_1⟩:=at_T87 HR0_0.out x8_1 p106 q106
      cases e106
      replace hx106_0:=cb HB.out hx106_0
      replace hx106_1:=cb HB.out hx106_1
      replace p106:=ezT p106
      replace q106:=ezT q106
      go_upto_region 4 with (first |((with_reducible refine jM (N:=4) rfl ?_);refine bE (N:=4) (cs:=#[.string (⟨#[]⟩:ByteArray), .int .i64 0]) (t:=87) ?_;intro gb107 hg w8 hbox hb;have BK107:=am (hbox);have GW107:=am ((Y102:w.heap.size≤gb107));have GE107:=am ((Y102:w.heap.size≤gb107));have NB104_107:=am ((by rw [hg];exact Nat.ne_of_lt (jDb (g:=gb104) (o:=.cells #[.slice (some ad106) l0_0.length c0_0] 32 (0,0)) (kq BK104.out)):gb104≠gb107));have NB107_104:=am ((by rw [hg];exact Nat.ne_of_gt (jDb (g:=gb104) (o:=.cells #[.slice (some ad106) l0_0.length c0_0] 32 (0,0)) (kq BK104.out)):gb107≠gb104));replace BK104:=am (jm (g:=gb104) (o:=.cells #[.slice (some ad106) l0_0.length c0_0] 32 (0,0)) (kq BK104.out) hb);replace HB:=am (je (Y94) hb);clear hb hbox hg;have hnb9:=NB107_104.out;have hnc9:=NB104_107.out;have hcz10_0:=bc0 BK107.out;have hcz10_1:=bc1 BK107.out;have hfz10_0:=ja BK107.out 0;have hfz10_1:=ja BK107.out 1))
      (try simp only [Act.put,List.setIfInBounds_toArray,List.set_cons_zero,List.set_cons_succ])
      go_cut [45] (fun v45 wc=>∃ (kq:Nat) (x45_6:Bool),v45=.bool x45_6∧jq (jF.j1 kq l0_0 (l0_0.length:Int) x8_1 x45_6 l0_0=some r)∧jq (kq≤k1)∧jq (wc.heap[gb104]?=some (.cells #[(.slice (some ad106) l0_0.length c0_0)] 32 (0,0)))∧jq (wc.heap[gb107]?=some (.cells #[.string ((jda l0_0 x8_1).f0), .int .i64 ((jda l0_0 x8_1).f1)] 87 (0,0)))∧jq (Below w.heap.size w wc))
      case first =>
       have H:=HC7.out
       clear HC7
       replace H:=bzS H
       obtain ⟨t108,A110,H⟩:=H
       replace H:(if t108=true then ((jXa.f l0_0 ((jda l0_0 x8_1).f0)).bind fun t109=>(if t109=x8_1 then (if x8_1=0 then (if ((jda l0_0 x8_1).f1)=(-1) then (if x8_1 > 0 then ((jL.f ((jda l0_0 x8_1).f1) 0 (wrap64 (x8_1 - 1))).bind fun t110=>(jF.j1 k1 l0_0 (l0_0.length:Int) x8_1 (!t110) l0_0)) else (jF.j1 k1 l0_0 (l0_0.length:Int) x8_1 false l0_0)) else (jF.j1 k1 l0_0 (l0_0.length:Int) x8_1 true l0_0)) else (if x8_1 > 0 then ((jL.f ((jda l0_0 x8_1).f1) 0 (wrap64 (x8_1 - 1))).bind fun t111=>(jF.j1 k1 l0_0 (l0_0.length:Int) x8_1 (!t111) l0_0)) else (jF.j1 k1 l0_0 (l0_0.length:Int) x8_1 false l0_0))) else (jF.j1 k1 l0_0 (l0_0.length:Int) x8_1 true l0_0))) else (jF.j1 k1 l0_0 (l0_0.length:Int) x8_1 true l0_0))=some r:=H
       have A11:=am A110
       clear A110
       by_cases c12:t108=true
       ·subst c12
        have H1:((jXa.f l0_0 ((jda l0_0 x8_1).f0)).bind fun t109=>(if t109=x8_1 then (if x8_1=0 then (if ((jda l0_0 x8_1).f1)=(-1) then (if x8_1 > 0 then ((jL.f ((jda l0_0 x8_1).f1) 0 (wrap64 (x8_1 - 1))).bind fun t110=>(jF.j1 k1 l0_0 (l0_0.length:Int) x8_1 (!t110) l0_0)) else (jF.j1 k1 l0_0 (l0_0.length:Int) x8_1 false l0_0)) else (jF.j1 k1 l0_0 (l0_0.length:Int) x8_1 true l0_0)) else (if x8_1 > 0 then ((jL.f ((jda l0_0 x8_1).f1) 0 (wrap64 (x8_1 - 1))).bind fun t111=>(jF.j1 k1 l0_0 (l0_0.length:Int) x8_1 (!t111) l0_0)) else (jF.j1 k1 l0_0 (l0_0.length:Int) x8_1 false l0_0))) else (jF.j1 k1 l0_0 (l0_0.length:Int) x8_1 true l0_0)))=some r:=by rw [if_pos rfl] at H;exact H
        clear H
        have H:=H1
        clear H1
        replace H:=bzS H
        obtain ⟨t109,A130,H⟩:=H
        replace H:(if t109=x8_1 then (if x8_1=0 then (if ((jda l0_0 x8_1).f1)=(-1) then (if x8_1 > 0 then ((jL.f ((jda l0_0 x8_1).f1) 0 (wrap64 (x8_1 - 1))).bind fun t110=>(jF.j1 k1 l0_0 (l0_0.length:Int) x8_1 (!t110) l0_0)) else (jF.j1 k1 l0_0 (l0_0.length:Int) x8_1 false l0_0)) else (jF.j1 k1 l0_0 (l0_0.length:Int) x8_1 true l0_0)) else (if x8_1 > 0 then ((jL.f ((jda l0_0 x8_1).f1) 0 (wrap64 (x8_1 - 1))).bind fun t111=>(jF.j1 k1 l0_0 (l0_0.length:Int) x8_1 (!t111) l0_0)) else (jF.j1 k1 l0_0 (l0_0.length:Int) x8_1 false l0_0))) else (jF.j1 k1 l0_0 (l0_0.length:Int) x8_1 true l0_0))=some r:=H
        have A13:=am A130
        clear A130
        by_cases c14:t109=x8_1
        ·rw [if_pos c14] at H
         have c14b0:(t109 == x8_1)=true:=beq_iff_eq.mpr c14
         have c14b1:(t109 != x8_1)=false:=bne_eq_false_iff_eq.mpr c14
         clear c14
         (first | rw [c14b0] |(simp only [jhb,jpb];rw [c14b0]) | skip)
         by_cases c15:x8_1=0
         ·rw [if_pos c15] at H
          have c15b0:(x8_1 == 0)=true:=beq_iff_eq.mpr c15
          have c15b1:(x8_1 != 0)=false:=bne_eq_false_iff_eq.mpr c15
          clear c15
          by_cases c16:((jda l0_0 x8_1).f1)=(-1)
          ·rw [if_pos c16] at H
           have c16b0:(((jda l0_0 x8_1).f1) == (-1))=true:=beq_iff_eq.mpr c16
           have c16b1:(((jda l0_0 x8_1).f1) != (-1))=false:=bne_eq_false_iff_eq.mpr c16
           clear c16
           by_cases c17:x8_1 > 0
           ·rw [if_pos c17] at H
            have c17b0:decide (0<x8_1)=true:=dzT c17
            clear c17
            replace H:=bzS H
            obtain ⟨t110,A180,H⟩:=H
            replace H:(jF.j1 k1 l0_0 (l0_0.length:Int) x8_1 (!t110) l0_0)=some r:=H
            have A18:=am A180
            clear A180
            have H':=am H
            clear H
            have hnb19:=NB107_104.out
            have hnc19:=NB104_107.out
            have hcz20_0:=bc0 BK107.out
            have hcz20_1:=bc1 BK107.out
            have hfz20_0:=ja BK107.out 0
            have hfz20_1:=ja BK107.out 1
            go_wp2_with (first |((with_reducible refine jd (f:=93) rfl ?_);refine gL (some 15) Try.func93 #[.string ((jda l0_0 x8_1).f0)] ?_;(with_reducible refine (jOa.calls k1 ((jda l0_0 x8_1).f0) true _ A11.out).mono ?_);rintro e w' ⟨rfl,⟨nd,rfl⟩⟩;refine ⟨_,rfl,?_⟩;have hcz21_0:=bc0 BK104.out;have hfz21_0:=ja BK104.out 0) |(go_at_call 94;(with_reducible refine (jXa.calls _ _ l0_0 ((jda l0_0 x8_1).f0) t109 _ ?side1 ?side2 A13.out).mono ?_);(case side1=>exact Kd.jba HR0_0.out (Y21));(case side2=>exact HC0_0.out);rintro e w22 ⟨rfl,hb⟩;replace BK104:=am (jm (g:=gb104) (o:=.cells #[.slice (some ad106) l0_0.length c0_0] 32 (0,0)) (Y59) hb);replace BK107:=am (jm (g:=gb107) (o:=.cells #[.string ((jda l0_0 x8_1).f0), .int .i64 ((jda l0_0 x8_1).f1)] 87 (0,0)) (Y60) hb);replace HB:=am (je (Y21) hb);(try clear hb);(try clear hb2);(try clear hk);(try clear hi);have hcz23_0:=bc0 BK107.out;have hcz23_1:=bc1 BK107.out;have hfz23_0:=ja BK107.out 0;have hfz23_1:=ja BK107.out 1) |(go_at_call 66;(with_reducible refine (jL.calls ((jda l0_0 x8_1).f1) 0 (wrap64 (x8_1 - 1)) t110 _ A18.out).mono ?_);rintro e w' ⟨rfl,⟨nd,rfl⟩⟩))
            go_meet
            case rel=>exact ⟨_,(!t110),(sq),H',⟨by have:=HK1.out;first | omega | exact Nat.le_refl _⟩,⟨kq BK104.out⟩,⟨kq BK107.out⟩,⟨Y21⟩⟩
           ·rw [if_neg c17] at H
            have c17b0:decide (0<x8_1)=false:=dzF c17
            clear c17
            have H':=am H
            clear H
            have hnb24:=NB107_104.out
            have hnc24:=NB104_107.out
            have hcz25_0:=bc0 BK107.out
            have hcz25_1:=bc1 BK107.out
            have hfz25_0:=ja BK107.out 0
            have hfz25_1:=ja BK107.out 1
            go_wp2_with (first |((with_reducible refine jd (f:=93) rfl ?_);refine gL (some 15) Try.func93 #[.string ((jda l0_0 x8_1).f0)] ?_;(with_reducible refine (jOa.calls k1 ((jda l0_0 x8_1).f0) true _ A11.out).mono ?_);rintro e w' ⟨rfl,⟨nd,rfl⟩⟩;refine ⟨_,rfl,?_⟩;have hcz26_0:=bc0 BK104.out;have hfz26_0:=ja BK104.out 0) |(go_at_call 94;(with_reducible refine (jXa.calls _ _ l0_0 ((jda l0_0 x8_1).f0) t109 _ ?side1 ?side2 A13.out).mono ?_);(case side1=>exact Kd.jba HR0_0.out (Y21));(case side2=>exact HC0_0.out);rintro e w27 ⟨rfl,hb⟩;replace BK104:=am (jm (g:=gb104) (o:=.cells #[.slice (some ad106) l0_0.length c0_0] 32 (0,0)) (Y59) hb);replace BK107:=am (jm (g:=gb107) (o:=.cells #[.string ((jda l0_0 x8_1).f0), .int .i64 ((jda l0_0 x8_1).f1)] 87 (0,0)) (Y60) hb);replace HB:=am (je (Y21) hb);(try clear hb);(try clear hb2);(try clear hk);(try clear hi);have hcz28_0:=bc0 BK107.out;have hcz28_1:=bc1 BK107.out;have hfz28_0:=ja BK107.out 0;have hfz28_1:=ja BK107.out 1))
            go_meet
            case rel=>exact ⟨_,(false),(sq),H',⟨by have:=HK1.out;first | omega | exact Nat.le_refl _⟩,⟨kq BK104.out⟩,⟨kq BK107.out⟩,⟨Y21⟩⟩
          ·rw [if_neg c16] at H
           have c16b0:(((jda l0_0 x8_1).f1) == (-1))=false:=beq_eq_false_iff_ne.mpr c16
           have c16b1:(((jda l0_0 x8_1).f1) != (-1))=true:=bne_iff_ne.mpr c16
           have H':=am H
           clear H
           have hnb29:=NB107_104.out
           have hnc29:=NB104_107.out
           have hcz30_0:=bc0 BK107.out
           have hcz30_1:=bc1 BK107.out
           have hfz30_0:=ja BK107.out 0
           have hfz30_1:=ja BK107.out 1
           go_wp2_with (first |((with_reducible refine jd (f:=93) rfl ?_);refine gL (some 15) Try.func93 #[.string ((jda l0_0 x8_1).f0)] ?_;(with_reducible refine (jOa.calls k1 ((jda l0_0 x8_1).f0) true _ A11.out).mono ?_);rintro e w' ⟨rfl,⟨nd,rfl⟩⟩;refine ⟨_,rfl,?_⟩;have hcz31_0:=bc0 BK104.out;have hfz31_0:=ja BK104.out 0) |(go_at_call 94;(with_reducible refine (jXa.calls _ _ l0_0 ((jda l0_0 x8_1).f0) t109 _ ?side1 ?side2 A13.out).mono ?_);(case side1=>exact Kd.jba HR0_0.out (Y21));(case side2=>exact HC0_0.out);rintro e w32 ⟨rfl,hb⟩;replace BK104:=am (jm (g:=gb104) (o:=.cells #[.slice (some ad106) l0_0.length c0_0] 32 (0,0)) (Y59) hb);replace BK107:=am (jm (g:=gb107) (o:=.cells #[.string ((jda l0_0 x8_1).f0), .int .i64 ((jda l0_0 x8_1).f1)] 87 (0,0)) (Y60) hb);replace HB:=am (je (Y21) hb);(try clear hb);(try clear hb2);(try clear hk);(try clear hi);have hcz33_0:=bc0 BK107.out;have hcz33_1:=bc1 BK107.out;have hfz33_0:=ja BK107.out 0;have hfz33_1:=ja BK107.out 1))
           go_meet
           case rel=>exact ⟨_,(true),(sq),H',⟨by have:=HK1.out;first | omega | exact Nat.le_refl _⟩,⟨kq BK104.out⟩,⟨kq BK107.out⟩,⟨Y21⟩⟩
         ·rw [if_neg c15] at H
          have c15b0:(x8_1 == 0)=false:=beq_eq_false_iff_ne.mpr c15
          have c15b1:(x8_1 != 0)=true:=bne_iff_ne.mpr c15
          by_cases c34:x8_1 > 0
          ·rw [if_pos c34] at H
           have c34b0:decide (0<x8_1)=true:=dzT c34
           clear c34
           replace H:=bzS H
           obtain ⟨t111,A350,H⟩:=H
           replace H:(jF.j1 k1 l0_0 (l0_0.length:Int) x8_1 (!t111) l0_0)=some r:=H
           have A35:=am A350
           clear A350
           have H':=am H
           clear H
           have hnb36:=NB107_104.out
           have hnc36:=NB104_107.out
           have hcz37_0:=bc0 BK107.out
           have hcz37_1:=bc1 BK107.out
           have hfz37_0:=ja BK107.out 0
           have hfz37_1:=ja BK107.out 1
           go_wp2_with (first |((with_reducible refine jd (f:=93) rfl ?_);refine gL (some 15) Try.func93 #[.string ((jda l0_0 x8_1).f0)] ?_;(with_reducible refine (jOa.calls k1 ((jda l0_0 x8_1).f0) true _ A11.out).mono ?_);rintro e w' ⟨rfl,⟨nd,rfl⟩⟩;refine ⟨_,rfl,?_⟩;have hcz38_0:=bc0 BK104.out;have hfz38_0:=ja BK104.out 0) |(go_at_call 94;(with_reducible refine (jXa.calls _ _ l0_0 ((jda l0_0 x8_1).f0) t109 _ ?side1 ?side2 A13.out).mono ?_);(case side1=>exact Kd.jba HR0_0.out (Y21));(case side2=>exact HC0_0.out);rintro e w39 ⟨rfl,hb⟩;replace BK104:=am (jm (g:=gb104) (o:=.cells #[.slice (some ad106) l0_0.length c0_0] 32 (0,0)) (Y59) hb);replace BK107:=am (jm (g:=gb107) (o:=.cells #[.string ((jda l0_0 x8_1).f0), .int .i64 ((jda l0_0 x8_1).f1)] 87 (0,0)) (Y60) hb);replace HB:=am (je (Y21) hb);(try clear hb);(try clear hb2);(try clear hk);(try clear hi);have hcz40_0:=bc0 BK107.out;have hcz40_1:=bc1 BK107.out;have hfz40_0:=ja BK107.out 0;have hfz40_1:=ja BK107.out 1) |(go_at_call 66;(with_reducible refine (jL.calls ((jda l0_0 x8_1).f1) 0 (wrap64 (x8_1 - 1)) t111 _ A35.out).mono ?_);rintro e w' ⟨rfl,⟨nd,rfl⟩⟩))
           go_meet
           case rel=>exact ⟨_,(!t111),(sq),H',⟨by have:=HK1.out;first | omega | exact Nat.le_refl _⟩,⟨kq BK104.out⟩,⟨kq BK107.out⟩,⟨Y21⟩⟩
          ·rw [if_neg c34] at H
           have c34b0:decide (0<x8_1)=false:=dzF c34
           clear c34
           have H':=am H
           clear H
           have hnb41:=NB107_104.out
           have hnc41:=NB104_107.out
           have hcz42_0:=bc0 BK107.out
           have hcz42_1:=bc1 BK107.out
           have hfz42_0:=ja BK107.out 0
           have hfz42_1:=ja BK107.out 1
           go_wp2_with (first |((with_reducible refine jd (f:=93) rfl ?_);refine gL (some 15) Try.func93 #[.string ((jda l0_0 x8_1).f0)] ?_;(with_reducible refine (jOa.calls k1 ((jda l0_0 x8_1).f0) true _ A11.out).mono ?_);rintro e w' ⟨rfl,⟨nd,rfl⟩⟩;refine ⟨_,rfl,?_⟩;have hcz43_0:=bc0 BK104.out;have hfz43_0:=ja BK104.out 0) |(go_at_call 94;(with_reducible refine (jXa.calls _ _ l0_0 ((jda l0_0 x8_1).f0) t109 _ ?side1 ?side2 A13.out).mono ?_);(case side1=>exact Kd.jba HR0_0.out (Y21));(case side2=>exact HC0_0.out);rintro e w44 ⟨rfl,hb⟩;replace BK104:=am (jm (g:=gb104) (o:=.cells #[.slice (some ad106) l0_0.length c0_0] 32 (0,0)) (Y59) hb);replace BK107:=am (jm (g:=gb107) (o:=.cells #[.string ((jda l0_0 x8_1).f0), .int .i64 ((jda l0_0 x8_1).f1)] 87 (0,0)) (Y60) hb);replace HB:=am (je (Y21) hb);(try clear hb);(try clear hb2);(try clear hk);(try clear hi)))
           go_meet
           case rel=>exact ⟨_,(false),(sq),H',⟨by have:=HK1.out;first | omega | exact Nat.le_refl _⟩,⟨kq BK104.out⟩,⟨kq BK107.out⟩,⟨Y21⟩⟩
        ·rw [if_neg c14] at H
         have c14b0:(t109 == x8_1)=false:=beq_eq_false_iff_ne.mpr c14
         have c14b1:(t109 != x8_1)=true:=bne_iff_ne.mpr c14
         (first | rw [c14b0] |(simp only [jhb,jpb];rw [c14b0]) | skip)
         have H':=am H
         clear H
         have hnb45:=NB107_104.out
         have hnc45:=NB104_107.out
         have hcz46_0:=bc0 BK107.out
         have hcz46_1:=bc1 BK107.out
         have hfz46_0:=ja BK107.out 0
         have hfz46_1:=ja BK107.out 1
         go_wp2_with (first |((with_reducible refine jd (f:=93) rfl ?_);refine gL (some 15) Try.func93 #[.string ((jda l0_0 x8_1).f0)] ?_;(with_reducible refine (jOa.calls k1 ((jda l0_0 x8_1).f0) true _ A11.out).mono ?_);rintro e w' ⟨rfl,⟨nd,rfl⟩⟩;refine ⟨_,rfl,?_⟩;have hcz47_0:=bc0 BK104.out;have hfz47_0:=ja BK104.out 0) |(go_at_call 94;(with_reducible refine (jXa.calls _ _ l0_0 ((jda l0_0 x8_1).f0) t109 _ ?side1 ?side2 A13.out).mono ?_);(case side1=>exact Kd.jba HR0_0.out (Y21));(case side2=>exact HC0_0.out);rintro e w48 ⟨rfl,hb⟩;replace BK104:=am (jm (g:=gb104) (o:=.cells #[.slice (some ad106) l0_0.length c0_0] 32 (0,0)) (Y59) hb);replace BK107:=am (jm (g:=gb107) (o:=.cells #[.string ((jda l0_0 x8_1).f0), .int .i64 ((jda l0_0 x8_1).f1)] 87 (0,0)) (Y60) hb);replace HB:=am (je (Y21) hb);(try clear hb);(try clear hb2);(try clear hk);(try clear hi)))
         go_meet
         case rel=>exact ⟨_,(true),(sq),H',⟨by have:=HK1.out;first | omega | exact Nat.le_refl _⟩,⟨kq BK104.out⟩,⟨kq BK107.out⟩,⟨Y21⟩⟩
       ·replace c12:=Bool.eq_false_iff.mpr c12
        subst c12
        have H1:(jF.j1 k1 l0_0 (l0_0.length:Int) x8_1 true l0_0)=some r:=by rw [if_neg (show ¬ (false=true) by decide)] at H;exact H
        clear H
        have H:=H1
        clear H1
        have H':=am H
        clear H
        have hnb49:=NB107_104.out
        have hnc49:=NB104_107.out
        have hcz50_0:=bc0 BK107.out
        have hcz50_1:=bc1 BK107.out
        have hfz50_0:=ja BK107.out 0
        have hfz50_1:=ja BK107.out 1
        go_wp2_with (first |((with_reducible refine jd (f:=93) rfl ?_);refine gL (some 15) Try.func93 #[.string ((jda l0_0 x8_1).f0)] ?_;(with_reducible refine (jOa.calls k1 ((jda l0_0 x8_1).f0) false _ A11.out).mono ?_);rintro e w' ⟨rfl,⟨nd,rfl⟩⟩;refine ⟨_,rfl,?_⟩))
        go_meet
        case rel=>exact ⟨_,(true),(sq),H',⟨by have:=HK1.out;first | omega | exact Nat.le_refl _⟩,⟨by (with_reducible repeat (first | refine jy ?_ _ | refine jD ?_ | refine jB ?_ _));refine jlb ?_ NB104_107.out _;(with_reducible repeat (first | refine jy ?_ _ | refine jD ?_ | refine jB ?_ _));refine jlb ?_ NB104_107.out _;(with_reducible repeat (first | refine jy ?_ _ | refine jD ?_ | refine jB ?_ _));exact BK104.out⟩,⟨by (with_reducible repeat (first | refine jy ?_ _ | refine jD ?_ | refine jB ?_ _));refine jZa (cs:=#[.string ((jda l0_0 x8_1).f0), .int .i64 0]) ?_ 1 _ rfl;(with_reducible repeat (first | refine jy ?_ _ | refine jD ?_ | refine jB ?_ _));refine jZa (cs:=#[.string (⟨#[]⟩:ByteArray), .int .i64 0]) ?_ 0 _ rfl;(with_reducible repeat (first | refine jy ?_ _ | refine jD ?_ | refine jB ?_ _));exact BK107.out⟩,⟨Y21⟩⟩
      case rest =>
       clear HC7
       try clear c1
       try clear p1
       try clear q1
       try clear hx1
       try clear c2
       try clear p2
       try clear c3
       try clear c4
       try clear c4b0
       try clear c5
       try clear c5b0
       try clear c6
       try clear c6b0
       try clear p6
       try clear c9
       try clear p10
       try clear q10
       try clear hx10
       try clear c12
       try clear c14
       try clear c14b0
       try clear c14b1
       try clear c15
       try clear c15b0
       try clear c15b1
       try clear c16
       try clear c16b0
       try clear c16b1
       try clear c17
       try clear c17b0
       try clear c19
       try clear c24
       try clear c29
       try clear c34
       try clear c34b0
       try clear c36
       try clear c41
       try clear c45
       try clear c49
       try clear hcz10_0
       try clear hcz10_1
       try clear hcz20_0
       try clear hcz20_1
       try clear hcz21_0
       try clear hcz23_0
       try clear hcz23_1
       try clear hcz25_0
       try clear hcz25_1
       try clear hcz26_0
       try clear hcz28_0
       try clear hcz28_1
       try clear hcz30_0
       try clear hcz30_1
       try clear hcz31_0
       try clear hcz33_0
       try clear hcz33_1
       try clear hcz37_0
       try clear hcz37_1
       try clear hcz38_0
       try clear hcz3_0
       try clear hcz40_0
       try clear hcz40_1
       try clear hcz42_0
       try clear hcz42_1
       try clear hcz43_0
       try clear hcz46_0
       try clear hcz46_1
       try clear hcz47_0
       try clear hcz50_0
       try clear hcz50_1
       try clear hfz10_0
       try clear hfz10_1
       try clear hfz20_0
       try clear hfz20_1
       try clear hfz21_0
       try clear hfz23_0
       try clear hfz23_1
       try clear hfz25_0
       try clear hfz25_1
       try clear hfz26_0
       try clear hfz28_0
       try clear hfz28_1
       try clear hfz30_0
       try clear hfz30_1
       try clear hfz31_0
       try clear hfz33_0
       try clear hfz33_1
       try clear hfz37_0
       try clear hfz37_1
       try clear hfz38_0
       try clear hfz3_0
       try clear hfz40_0
       try clear hfz40_1
       try clear hfz42_0
       try clear hfz42_1
       try clear hfz43_0
       try clear hfz46_0
       try clear hfz46_1
       try clear hfz47_0
       try clear hfz50_0
       try clear hfz50_1
       try clear hx106_0
       try clear hx106_1
       try clear p106
       try clear p2
       try clear q106
       obtain ⟨kq,x45_6,rfl,HA,HJ6,BK104,BK107,HB⟩:=hcut
       cases kq with
       | zero=>exact absurd HA.out (by simp [jF.j1])
       | succ kj6 =>
        have H:=HA.out
        clear HA
        simp only [jF.j1] at H
        by_cases c51:x45_6=true
        ·subst c51
         have H1:(some false)=some r:=by rw [if_pos rfl] at H;exact H
         clear H
         have H:=H1
         clear H1
         obtain rfl:=Option.some.inj H
         go_wp2
         go_ret
         exact ⟨Y0,Y21⟩
        ·replace c51:=Bool.eq_false_iff.mpr c51
         subst c51
         have H1:(jF.l0 kj6 l0_0 (l0_0.length:Int) (wrap64 (x8_1+1)) l0_0)=some r:=by rw [if_neg (show ¬ (false=true) by decide)] at H;exact H
         clear H
         have H:=H1
         clear H1
         have H':=am H
         clear H
         go_wp2
         go_roundg kj6
         case measure=>have:=HK1.out;have:=HJ6.out;omega
         case rel=>exact ⟨(wrap64 (x8_1+1)),(sq),H',⟨by have:=HK1.out;have:=HJ6.out;omega⟩,⟨kq BK104.out⟩,⟨Y21⟩⟩
     ·rw [if_neg c6] at H
      exact absurd H (by simp)
    ·rw [if_neg c5] at H
     exact absurd H (by simp)
   ·rw [if_neg c4] at H
    have c4b0:decide (x8_1<(l0_0.length:Int))=false:=dzF c4
    clear c4
    replace H:=bzS H
    obtain ⟨t105,A520,H⟩:=H
    replace H:(some t105)=some r:=H
    have A52:=am A520
    clear A520
    obtain rfl:=Option.some.inj H
    have hcz53_0:=bc0 BK104.out
    have hfz53_0:=ja BK104.out 0
    go_wp2_with (first |((with_reducible refine jd (f:=66) rfl ?_);refine gL (some 50) Try.func66 #[.int .i64 (l0_0.length:Int), .int .i64 1, .int .i64 8] ?_;(with_reducible refine (jL.calls (l0_0.length:Int) 1 8 t105 _ A52.out).mono ?_);rintro e w' ⟨rfl,⟨nd,rfl⟩⟩;refine ⟨_,rfl,?_⟩))
    go_ret
    exact ⟨Y0,Y94⟩
def jnb.f (l0_0 : List (S87)) (a1 : Int) : Option (Bool) := (jL.f a1 0 (wrap64 ((l0_0.length : Int) - 1))).bind fun t113 => (some t113)
set_option maxHeartbeats 8000000 in
set_option maxRecDepth 100000 in
theorem jnb.calls (A0_0 : Option Addr) (c0_0 : Nat) (l0_0 : List (S87)) (a1 : Int) (r : Bool) (w : World) (hr0_0 : Kd.C k87 w A0_0 l0_0.length l0_0) (hc0_0 : l0_0.length ≤ c0_0) (h : jnb.f l0_0 a1 = some r) :
  Calls Try.prog 49 #[.agg #[.slice A0_0 l0_0.length c0_0], .int .i64 a1] w fun e w'=>e=.returned (.bool r)∧Below w.heap.size w w':=by
 have hu32:=Try.underlying32
 have HR0_0:=am hr0_0
 have HC0_0:=am hc0_0
 clear hr0_0 hc0_0
 have HB:=am (Below.refl w.heap.size w)
 have H:((jL.f a1 0 (wrap64 ((l0_0.length:Int) - 1))).bind fun t113=>(some t113))=some r:=h
 clear h
 replace H:=bzS H
 obtain ⟨t113,A30,H⟩:=H
 replace H:(some t113)=some r:=H
 have A3:=am A30
 clear A30
 obtain rfl:=Option.some.inj H
 go_enter Try.func49,Try.ntmps49
 go_wp2_with (first |((with_reducible refine jM (N:=2) rfl ?_);refine bE (N:=2) (cs:=#[.slice A0_0 l0_0.length c0_0]) (t:=32) ?_;intro gb112 hg w4 hbox hb;have BK112:=am (hbox);have GW112:=am ((Y10:w.heap.size≤gb112));have GE112:=am ((Y10:w.heap.size≤gb112));replace HB:=am (je (bq) hb);clear hb hbox hg;have hcz5_0:=bc0 BK112.out;have hfz5_0:=ja BK112.out 0) |((with_reducible refine jd (f:=66) rfl ?_);refine gL (some 10) Try.func66 #[.int .i64 a1, .int .i64 0, .int .i64 (wrap64 ((l0_0.length:Int) - 1))] ?_;(with_reducible refine (jL.calls a1 0 (wrap64 ((l0_0.length:Int) - 1)) t113 _ A3.out).mono ?_);rintro e w' ⟨rfl,⟨nd,rfl⟩⟩;refine ⟨_,rfl,?_⟩))
 go_ret
 exact ⟨Y0,by repeat (first |(with_reducible first | exact HB.out | apply jR | apply jw | apply jS | refine jP ?_ GE112.out) | exact HB.out)⟩
def jub.f (a0 : Int) : Option (Bool) := (jL.f a0 0 99).bind fun t114 => (some t114)
set_option maxHeartbeats 8000000 in
set_option maxRecDepth 100000 in
theorem jub.calls (a0 : Int) (r : Bool) (w : World) (h : jub.f a0 = some r) :
  Calls Try.prog 95 #[.int .i64 a0] w fun e w'=>e=.returned (.bool r)∧jjb w w':=by
 have H:((jL.f a0 0 99).bind fun t114=>(some t114))=some r:=h
 clear h
 replace H:=bzS H
 obtain ⟨t114,A20,H⟩:=H
 replace H:(some t114)=some r:=H
 have A2:=am A20
 clear A20
 obtain rfl:=Option.some.inj H
 go_enter Try.func95,Try.ntmps95
 go_wp2_with (first |((with_reducible refine jd (f:=66) rfl ?_);refine gL (some 4) Try.func66 #[.int .i64 a0, .int .i64 0, .int .i64 99] ?_;(with_reducible refine (jL.calls a0 0 99 t114 _ A2.out).mono ?_);rintro e w' ⟨rfl,⟨nd,rfl⟩⟩;refine ⟨_,rfl,?_⟩))
 go_ret
 exact ⟨sq,Y5⟩
def jza.j0 : Nat → Int → Bool → Int → Int → Int → Int → List (S87) → Option (Bool)
 | 0,_,_,_,_,_,_,_=>none
 | k+1,x6,x7,x116000,x116001,x116002,x116003,x117000=>if x7=true then ((jub.f x116002).bind fun t117=>(if t117=true then (some (x116003 == 0)) else (some false))) else (if x6=2 then ((jnb.f x117000 x116002).bind fun t118=>(if t118=true then ((jub.f x116003).bind fun t119=>(some t119)) else (some false))) else (if x6=8 then ((jnb.f x117000 x116002).bind fun t120=>(if t120=true then (some (x116003 == 0)) else (some false))) else (if x6=11 then ((jL.f x116002 0 9).bind fun t121=>(if t121=true then ((jL.f x116003 0 1).bind fun t122=>(some t122)) else (some false))) else (if x6=12 then ((jL.f x116002 0 3).bind fun t123=>(if t123=true then (some (x116003 == 0)) else (some false))) else ((jL.f x116001 0 12).bind fun t124=>(if t124=true then (if x116002=0 then (some (x116003 == 0)) else (some false)) else (some false)))))))
def jza.f (k : Nat) (a0_0 : Int) (a0_1 : Int) (a0_2 : Int) (a0_3 : Int) (l1_0 : List (S87)) : Option (Bool) := if a0_1 = 1 then (jza.j0 k a0_1 (a0_1 == 1) a0_0 a0_1 a0_2 a0_3 l1_0) else (jza.j0 k a0_1 (a0_1 == 4) a0_0 a0_1 a0_2 a0_3 l1_0)
set_option maxHeartbeats 8000000 in
set_option maxRecDepth 100000 in
theorem jza.calls (k : Nat) (a0_0 : Int) (a0_1 : Int) (a0_2 : Int) (a0_3 : Int) (A1_0 : Option Addr) (c1_0 : Nat) (l1_0 : List (S87)) (r : Bool) (w : World) (hr1_0 : Kd.C k87 w A1_0 l1_0.length l1_0) (hc1_0 : l1_0.length ≤ c1_0) (h : jza.f k a0_0 a0_1 a0_2 a0_3 l1_0 = some r) :
  Calls Try.prog 65 #[.agg #[.int .i64 a0_0, .int .i64 a0_1, .int .i64 a0_2, .int .i64 a0_3], .agg #[.slice A1_0 l1_0.length c1_0]] w fun e w'=>e=.returned (.bool r)∧Below w.heap.size w w':=by
 have hu52:=Try.underlying52
 have hu32:=Try.underlying32
 have HR1_0:=am hr1_0
 have HC1_0:=am hc1_0
 clear hr1_0 hc1_0
 have HB:=am (Below.refl w.heap.size w)
 have H:(if a0_1=1 then (jza.j0 k a0_1 (a0_1 == 1) a0_0 a0_1 a0_2 a0_3 l1_0) else (jza.j0 k a0_1 (a0_1 == 4) a0_0 a0_1 a0_2 a0_3 l1_0))=some r:=h
 clear h
 have HC3:=am H
 clear H
 go_enter Try.func65,Try.ntmps65
 go_upto_if 7 with (first |((with_reducible refine jM (N:=2) rfl ?_);refine bE (N:=2) (cs:=#[.int .i64 a0_0, .int .i64 a0_1, .int .i64 a0_2, .int .i64 a0_3]) (t:=52) ?_;intro gb115 hg w4 hbox hb;have BK115:=am (hbox);have GW115:=am ((Y10:w.heap.size≤gb115));have GE115:=am ((Y10:w.heap.size≤gb115));replace HB:=am (je (bq) hb);clear hb hbox hg) |((with_reducible refine jM (N:=3) rfl ?_);refine bE (N:=3) (cs:=#[.slice A1_0 l1_0.length c1_0]) (t:=32) ?_;intro gb116 hg w5 hbox hb;have BK116:=am (hbox);have GW116:=am ((Y103:w.heap.size≤gb116));have GE116:=am ((Y103:w.heap.size≤gb116));have NB115_116:=am ((by rw [hg];exact Nat.ne_of_lt (jDb (g:=gb115) (o:=.cells #[.int .i64 a0_0, .int .i64 a0_1, .int .i64 a0_2, .int .i64 a0_3] 52 (0,0)) (kq BK115.out)):gb115≠gb116));have NB116_115:=am ((by rw [hg];exact Nat.ne_of_gt (jDb (g:=gb115) (o:=.cells #[.int .i64 a0_0, .int .i64 a0_1, .int .i64 a0_2, .int .i64 a0_3] 52 (0,0)) (kq BK115.out)):gb116≠gb115));replace BK115:=am (jm (g:=gb115) (o:=.cells #[.int .i64 a0_0, .int .i64 a0_1, .int .i64 a0_2, .int .i64 a0_3] 52 (0,0)) (kq BK115.out) hb);replace HB:=am (je (by repeat (first |(with_reducible first | exact HB.out | apply jR | apply jw | apply jS | refine jP ?_ GE115.out) | exact HB.out)) hb);clear hb hbox hg;have hnb6:=NB115_116.out;have hnc6:=NB116_115.out;have hcz7_0:=bc0 BK115.out;have hcz7_1:=bc1 BK115.out;have hcz7_2:=bc2 BK115.out;have hcz7_3:=bc3 BK115.out;have hfz7_0:=ja BK115.out 0;have hfz7_1:=ja BK115.out 1;have hfz7_2:=ja BK115.out 2;have hfz7_3:=ja BK115.out 3))
 (try simp only [Act.put,List.setIfInBounds_toArray,List.set_cons_zero,List.set_cons_succ])
 go_cut [7] (fun v7 wc=>∃ (kq:Nat) (x7_2:Bool),v7=.bool x7_2∧jq (jza.j0 kq a0_1 x7_2 a0_0 a0_1 a0_2 a0_3 l1_0=some r)∧jq (kq≤k)∧jq (wc.heap[gb115]?=some (.cells #[.int .i64 a0_0, .int .i64 a0_1, .int .i64 a0_2, .int .i64 a0_3] 52 (0,0)))∧jq (wc.heap[gb116]?=some (.cells #[(.slice A1_0 l1_0.length c1_0)] 32 (0,0)))∧jq (Below w.heap.size w wc))
 case first =>
  have H:=HC3.out
  clear HC3
  by_cases c8:a0_1=1
  ·rw [if_pos c8] at H
   have c8b0:(a0_1 == 1)=true:=beq_iff_eq.mpr c8
   have c8b1:(a0_1 != 1)=false:=bne_eq_false_iff_eq.mpr c8
   clear c8
   (first | rw [c8b0] |(simp only [jhb,jpb];rw [c8b0]) | skip)
   have H':=am H
   clear H
   go_wp2
   go_meet
   case rel=>exact ⟨_,((a0_1 == 1)),(sq),H',⟨Y35⟩,⟨kq BK115.out⟩,⟨kq BK116.out⟩,⟨Y22⟩⟩
  ·rw [if_neg c8] at H
   have c8b0:(a0_1 == 1)=false:=beq_eq_false_iff_ne.mpr c8
   have c8b1:(a0_1 != 1)=true:=bne_iff_ne.mpr c8
   (first | rw [c8b0] |(simp only [jhb,jpb];rw [c8b0]) | skip)
   have H':=am H
   clear H
   go_wp2
   go_meet
   case rel=>exact ⟨_,((a0_1 == 4)),(sq),H',⟨Y35⟩,⟨kq BK115.out⟩,⟨kq BK116.out⟩,⟨Y22⟩⟩
 case rest =>
  clear HC3
  try clear c1
  try clear p2
  try clear c6
  try clear c8
  try clear c8b0
  try clear c8b1
  try clear hcz7_0
  try clear hcz7_1
  try clear hcz7_2
  try clear hcz7_3
  try clear hfz7_0
  try clear hfz7_1
  try clear hfz7_2
  try clear hfz7_3
  obtain ⟨kq,x7_2,rfl,HA,HJ2,BK115,BK116,HB⟩:=hcut
  cases kq with
  | zero=>exact absurd HA.out (by simp [jza.j0])
  | succ kj2 =>
   have H:=HA.out
   clear HA
   simp only [jza.j0] at H
   by_cases c9:x7_2=true
   ·subst c9
    have H1:((jub.f a0_2).bind fun t117=>(if t117=true then (some (a0_3 == 0)) else (some false)))=some r:=by rw [if_pos rfl] at H;exact H
    clear H
    have H:=H1
    clear H1
    replace H:=bzS H
    obtain ⟨t117,A100,H⟩:=H
    replace H:(if t117=true then (some (a0_3 == 0)) else (some false))=some r:=H
    have A10:=am A100
    clear A100
    by_cases c11:t117=true
    ·subst c11
     have H1:(some (a0_3 == 0))=some r:=by rw [if_pos rfl] at H;exact H
     clear H
     have H:=H1
     clear H1
     obtain rfl:=Option.some.inj H
     have hnb12:=NB115_116.out
     have hnc12:=NB116_115.out
     have hcz13_0:=bc0 BK115.out
     have hcz13_1:=bc1 BK115.out
     have hcz13_2:=bc2 BK115.out
     have hcz13_3:=bc3 BK115.out
     have hfz13_0:=ja BK115.out 0
     have hfz13_1:=ja BK115.out 1
     have hfz13_2:=ja BK115.out 2
     have hfz13_3:=ja BK115.out 3
     go_wp2_with (first |((with_reducible refine jd (f:=95) rfl ?_);refine gL (some 12) Try.func95 #[.int .i64 a0_2] ?_;(with_reducible refine (jub.calls a0_2 true _ A10.out).mono ?_);rintro e w' ⟨rfl,⟨nd,rfl⟩⟩;refine ⟨_,rfl,?_⟩))
     go_ret
     exact ⟨Y0,Y22⟩
    ·replace c11:=Bool.eq_false_iff.mpr c11
     subst c11
     have H1:(some false)=some r:=by rw [if_neg (show ¬ (false=true) by decide)] at H;exact H
     clear H
     have H:=H1
     clear H1
     obtain rfl:=Option.some.inj H
     have hnb14:=NB115_116.out
     have hnc14:=NB116_115.out
     have hcz15_0:=bc0 BK115.out
     have hcz15_1:=bc1 BK115.out
     have hcz15_2:=bc2 BK115.out
     have hcz15_3:=bc3 BK115.out
     have hfz15_0:=ja BK115.out 0
     have hfz15_1:=ja BK115.out 1
     have hfz15_2:=ja BK115.out 2
     have hfz15_3:=ja BK115.out 3
     go_wp2_with (first |((with_reducible refine jd (f:=95) rfl ?_);refine gL (some 12) Try.func95 #[.int .i64 a0_2] ?_;(with_reducible refine (jub.calls a0_2 false _ A10.out).mono ?_);rintro e w' ⟨rfl,⟨nd,rfl⟩⟩;refine ⟨_,rfl,?_⟩))
     go_ret
     exact ⟨Y0,Y22⟩
   ·replace c9:=Bool.eq_false_iff.mpr c9
    subst c9
    have H1:(if a0_1=2 then ((jnb.f l1_0 a0_2).bind fun t118=>(if t118=true then ((jub.f a0_3).bind fun t119=>(some t119)) else (some false))) else (if a0_1=8 then ((jnb.f l1_0 a0_2).bind fun t120=>(if t120=true then (some (a0_3 == 0)) else (some false))) else (if a0_1=11 then ((jL.f a0_2 0 9).bind fun t121=>(if t121=true then ((jL.f a0_3 0 1).bind fun t122=>(some t122)) else (some false))) else (if a0_1=12 then ((jL.f a0_2 0 3).bind fun t123=>(if t123=true then (some (a0_3 == 0)) else (some false))) else ((jL.f a0_1 0 12).bind fun t124=>(if t124=true then (if a0_2=0 then (some (a0_3 == 0)) else (some false)) else (some false)))))))=some r:=by rw [if_neg (show ¬ (false=true) by decide)] at H;exact H
    clear H
    have H:=H1
    clear H1
    by_cases c16:a0_1=2
    ·rw [if_pos c16] at H
     have c16b0:(a0_1 == 2)=true:=beq_iff_eq.mpr c16
     have c16b1:(a0_1 != 2)=false:=bne_eq_false_iff_eq.mpr c16
     clear c16
     replace H:=bzS H
     obtain ⟨t118,A170,H⟩:=H
     replace H:(if t118=true then ((jub.f a0_3).bind fun t119=>(some t119)) else (some false))=some r:=H
     have A17:=am A170
     clear A170
     by_cases c18:t118=true
     ·subst c18
      have H1:((jub.f a0_3).bind fun t119=>(some t119))=some r:=by rw [if_pos rfl] at H;exact H
      clear H
      have H:=H1
      clear H1
      replace H:=bzS H
      obtain ⟨t119,A190,H⟩:=H
      replace H:(some t119)=some r:=H
      have A19:=am A190
      clear A190
      obtain rfl:=Option.some.inj H
      have hnb20:=NB116_115.out
      have hnc20:=NB115_116.out
      have hcz21_0:=bc0 BK116.out
      have hfz21_0:=ja BK116.out 0
      have hcz22_0:=bc0 BK115.out
      have hcz22_1:=bc1 BK115.out
      have hcz22_2:=bc2 BK115.out
      have hcz22_3:=bc3 BK115.out
      have hfz22_0:=ja BK115.out 0
      have hfz22_1:=ja BK115.out 1
      have hfz22_2:=ja BK115.out 2
      have hfz22_3:=ja BK115.out 3
      go_wp2_with (first |((with_reducible refine jd (f:=49) rfl ?_);refine gL (some 23) Try.func49 #[.agg #[.slice A1_0 l1_0.length c1_0], .int .i64 a0_2] ?_;(with_reducible refine (jnb.calls _ _ l1_0 a0_2 true _ ?side1 ?side2 A17.out).mono ?_);(case side1=>exact cq (Kd.jba HR1_0.out HB.out));(case side2=>exact HC1_0.out);rintro e w23 ⟨rfl,hb⟩;refine ⟨_,rfl,?_⟩;replace BK115:=am (jm (g:=gb115) (o:=.cells #[.int .i64 a0_0, .int .i64 a0_1, .int .i64 a0_2, .int .i64 a0_3] 52 (0,0)) (kq BK115.out) hb);replace BK116:=am (jm (g:=gb116) (o:=.cells #[.slice A1_0 l1_0.length c1_0] 32 (0,0)) (kq BK116.out) hb);replace HB:=am (je (Y22) hb);(try clear hb);(try clear hb2);(try clear hk);(try clear hi);have hcz24_0:=bc0 BK115.out;have hcz24_1:=bc1 BK115.out;have hcz24_2:=bc2 BK115.out;have hcz24_3:=bc3 BK115.out;have hfz24_0:=ja BK115.out 0;have hfz24_1:=ja BK115.out 1;have hfz24_2:=ja BK115.out 2;have hfz24_3:=ja BK115.out 3) |(go_at_call 95;(with_reducible refine (jub.calls a0_3 t119 _ A19.out).mono ?_);rintro e w' ⟨rfl,⟨nd,rfl⟩⟩))
      go_ret
      exact ⟨Y0,Y22⟩
     ·replace c18:=Bool.eq_false_iff.mpr c18
      subst c18
      have H1:(some false)=some r:=by rw [if_neg (show ¬ (false=true) by decide)] at H;exact H
      clear H
      have H:=H1
      clear H1
      obtain rfl:=Option.some.inj H
      have hnb25:=NB116_115.out
      have hnc25:=NB115_116.out
      have hcz26_0:=bc0 BK116.out
      have hfz26_0:=ja BK116.out 0
      have hcz27_0:=bc0 BK115.out
      have hcz27_1:=bc1 BK115.out
      have hcz27_2:=bc2 BK115.out
      have hcz27_3:=bc3 BK115.out
      have hfz27_0:=ja BK115.out 0
      have hfz27_1:=ja BK115.out 1
      have hfz27_2:=ja BK115.out 2
      have hfz27_3:=ja BK115.out 3
      go_wp2_with (first |((with_reducible refine jd (f:=49) rfl ?_);refine gL (some 23) Try.func49 #[.agg #[.slice A1_0 l1_0.length c1_0], .int .i64 a0_2] ?_;(with_reducible refine (jnb.calls _ _ l1_0 a0_2 false _ ?side1 ?side2 A17.out).mono ?_);(case side1=>exact cq (Kd.jba HR1_0.out HB.out));(case side2=>exact HC1_0.out);rintro e w28 ⟨rfl,hb⟩;refine ⟨_,rfl,?_⟩;replace BK115:=am (jm (g:=gb115) (o:=.cells #[.int .i64 a0_0, .int .i64 a0_1, .int .i64 a0_2, .int .i64 a0_3] 52 (0,0)) (kq BK115.out) hb);replace BK116:=am (jm (g:=gb116) (o:=.cells #[.slice A1_0 l1_0.length c1_0] 32 (0,0)) (kq BK116.out) hb);replace HB:=am (je (Y22) hb);(try clear hb);(try clear hb2);(try clear hk);(try clear hi)))
      go_ret
      exact ⟨Y0,Y22⟩
    ·rw [if_neg c16] at H
     have c16b0:(a0_1 == 2)=false:=beq_eq_false_iff_ne.mpr c16
     have c16b1:(a0_1 != 2)=true:=bne_iff_ne.mpr c16
     by_cases c29:a0_1=8
     ·rw [if_pos c29] at H
      have c29b0:(a0_1 == 8)=true:=beq_iff_eq.mpr c29
      have c29b1:(a0_1 != 8)=false:=bne_eq_false_iff_eq.mpr c29
      clear c29
      replace H:=bzS H
      obtain ⟨t120,A300,H⟩:=H
      replace H:(if t120=true then (some (a0_3 == 0)) else (some false))=some r:=H
      have A30:=am A300
      clear A300
      by_cases c31:t120=true
      ·subst c31
       have H1:(some (a0_3 == 0))=some r:=by rw [if_pos rfl] at H;exact H
       clear H
       have H:=H1
       clear H1
       obtain rfl:=Option.some.inj H
       have hnb32:=NB116_115.out
       have hnc32:=NB115_116.out
       have hcz33_0:=bc0 BK116.out
       have hfz33_0:=ja BK116.out 0
       have hcz34_0:=bc0 BK115.out
       have hcz34_1:=bc1 BK115.out
       have hcz34_2:=bc2 BK115.out
       have hcz34_3:=bc3 BK115.out
       have hfz34_0:=ja BK115.out 0
       have hfz34_1:=ja BK115.out 1
       have hfz34_2:=ja BK115.out 2
       have hfz34_3:=ja BK115.out 3
       go_wp2_with (first |((with_reducible refine jd (f:=49) rfl ?_);refine gL (some 34) Try.func49 #[.agg #[.slice A1_0 l1_0.length c1_0], .int .i64 a0_2] ?_;(with_reducible refine (jnb.calls _ _ l1_0 a0_2 true _ ?side1 ?side2 A30.out).mono ?_);(case side1=>exact cq (Kd.jba HR1_0.out HB.out));(case side2=>exact HC1_0.out);rintro e w35 ⟨rfl,hb⟩;refine ⟨_,rfl,?_⟩;replace BK115:=am (jm (g:=gb115) (o:=.cells #[.int .i64 a0_0, .int .i64 a0_1, .int .i64 a0_2, .int .i64 a0_3] 52 (0,0)) (kq BK115.out) hb);replace BK116:=am (jm (g:=gb116) (o:=.cells #[.slice A1_0 l1_0.length c1_0] 32 (0,0)) (kq BK116.out) hb);replace HB:=am (je (Y22) hb);(try clear hb);(try clear hb2);(try clear hk);(try clear hi);have hcz36_0:=bc0 BK115.out;have hcz36_1:=bc1 BK115.out;have hcz36_2:=bc2 BK115.out;have hcz36_3:=bc3 BK115.out;have hfz36_0:=ja BK115.out 0;have hfz36_1:=ja BK115.out 1;have hfz36_2:=ja BK115.out 2;have hfz36_3:=ja BK115.out 3))
       go_ret
       exact ⟨Y0,Y22⟩
      ·replace c31:=Bool.eq_false_iff.mpr c31
       subst c31
       have H1:(some false)=some r:=by rw [if_neg (show ¬ (false=true) by decide)] at H;exact H
       clear H
       have H:=H1
       clear H1
       obtain rfl:=Option.some.inj H
       have hnb37:=NB116_115.out
       have hnc37:=NB115_116.out
       have hcz38_0:=bc0 BK116.out
       have hfz38_0:=ja BK116.out 0
       have hcz39_0:=bc0 BK115.out
       have hcz39_1:=bc1 BK115.out
       have hcz39_2:=bc2 BK115.out
       have hcz39_3:=bc3 BK115.out
       have hfz39_0:=ja BK115.out 0
       have hfz39_1:=ja BK115.out 1
       have hfz39_2:=ja BK115.out 2
       have hfz39_3:=ja BK115.out 3
       go_wp2_with (first |((with_reducible refine jd (f:=49) rfl ?_);refine gL (some 34) Try.func49 #[.agg #[.slice A1_0 l1_0.length c1_0], .int .i64 a0_2] ?_;(with_reducible refine (jnb.calls _ _ l1_0 a0_2 false _ ?side1 ?side2 A30.out).mono ?_);(case side1=>exact cq (Kd.jba HR1_0.out HB.out));(case side2=>exact HC1_0.out);rintro e w40 ⟨rfl,hb⟩;refine ⟨_,rfl,?_⟩;replace BK115:=am (jm (g:=gb115) (o:=.cells #[.int .i64 a0_0, .int .i64 a0_1, .int .i64 a0_2, .int .i64 a0_3] 52 (0,0)) (kq BK115.out) hb);replace BK116:=am (jm (g:=gb116) (o:=.cells #[.slice A1_0 l1_0.length c1_0] 32 (0,0)) (kq BK116.out) hb);replace HB:=am (je (Y22) hb);(try clear hb);(try clear hb2);(try clear hk);(try clear hi)))
       go_ret
       exact ⟨Y0,Y22⟩
     ·rw [if_neg c29] at H
      have c29b0:(a0_1 == 8)=false:=beq_eq_false_iff_ne.mpr c29
      have c29b1:(a0_1 != 8)=true:=bne_iff_ne.mpr c29
      by_cases c41:a0_1=11
      ·rw [if_pos c41] at H
       have c41b0:(a0_1 == 11)=true:=beq_iff_eq.mpr c41
       have c41b1:(a0_1 != 11)=false:=bne_eq_false_iff_eq.mpr c41
       clear c41
       replace H:=bzS H
       obtain ⟨t121,A420,H⟩:=H
       replace H:(if t121=true then ((jL.f a0_3 0 1).bind fun t122=>(some t122)) else (some false))=some r:=H
       have A42:=am A420
       clear A420
       by_cases c43:t121=true
       ·subst c43
        have H1:((jL.f a0_3 0 1).bind fun t122=>(some t122))=some r:=by rw [if_pos rfl] at H;exact H
        clear H
        have H:=H1
        clear H1
        replace H:=bzS H
        obtain ⟨t122,A440,H⟩:=H
        replace H:(some t122)=some r:=H
        have A44:=am A440
        clear A440
        obtain rfl:=Option.some.inj H
        have hnb45:=NB115_116.out
        have hnc45:=NB116_115.out
        have hcz46_0:=bc0 BK115.out
        have hcz46_1:=bc1 BK115.out
        have hcz46_2:=bc2 BK115.out
        have hcz46_3:=bc3 BK115.out
        have hfz46_0:=ja BK115.out 0
        have hfz46_1:=ja BK115.out 1
        have hfz46_2:=ja BK115.out 2
        have hfz46_3:=ja BK115.out 3
        go_wp2_with (first |((with_reducible refine jd (f:=66) rfl ?_);refine gL (some 44) Try.func66 #[.int .i64 a0_2, .int .i64 0, .int .i64 9] ?_;(with_reducible refine (jL.calls a0_2 0 9 true _ A42.out).mono ?_);rintro e w' ⟨rfl,⟨nd,rfl⟩⟩;refine ⟨_,rfl,?_⟩) |(go_at_call 66;(with_reducible refine (jL.calls a0_3 0 1 t122 _ A44.out).mono ?_);rintro e w' ⟨rfl,⟨nd,rfl⟩⟩))
        go_ret
        exact ⟨Y0,Y22⟩
       ·replace c43:=Bool.eq_false_iff.mpr c43
        subst c43
        have H1:(some false)=some r:=by rw [if_neg (show ¬ (false=true) by decide)] at H;exact H
        clear H
        have H:=H1
        clear H1
        obtain rfl:=Option.some.inj H
        have hnb47:=NB115_116.out
        have hnc47:=NB116_115.out
        have hcz48_0:=bc0 BK115.out
        have hcz48_1:=bc1 BK115.out
        have hcz48_2:=bc2 BK115.out
        have hcz48_3:=bc3 BK115.out
        have hfz48_0:=ja BK115.out 0
        have hfz48_1:=ja BK115.out 1
        have hfz48_2:=ja BK115.out 2
        have hfz48_3:=ja BK115.out 3
        go_wp2_with (first |((with_reducible refine jd (f:=66) rfl ?_);refine gL (some 44) Try.func66 #[.int .i64 a0_2, .int .i64 0, .int .i64 9] ?_;(with_reducible refine (jL.calls a0_2 0 9 false _ A42.out).mono ?_);rintro e w' ⟨rfl,⟨nd,rfl⟩⟩;refine ⟨_,rfl,?_⟩))
        go_ret
        exact ⟨Y0,Y22⟩
      ·rw [if_neg c41] at H
       have c41b0:(a0_1 == 11)=false:=beq_eq_false_iff_ne.mpr c41
       have c41b1:(a0_1 != 11)=true:=bne_iff_ne.mpr c41
       by_cases c49:a0_1=12
       ·rw [if_pos c49] at H
        have c49b0:(a0_1 == 12)=true:=beq_iff_eq.mpr c49
        have c49b1:(a0_1 != 12)=false:=bne_eq_false_iff_eq.mpr c49
        clear c49
        replace H:=bzS H
        obtain ⟨t123,A500,H⟩:=H
        replace H:(if t123=true then (some (a0_3 == 0)) else (some false))=some r:=H
        have A50:=am A500
        clear A500
        by_cases c51:t123=true
        ·subst c51
         have H1:(some (a0_3 == 0))=some r:=by rw [if_pos rfl] at H;exact H
         clear H
         have H:=H1
         clear H1
         obtain rfl:=Option.some.inj H
         have hnb52:=NB115_116.out
         have hnc52:=NB116_115.out
         have hcz53_0:=bc0 BK115.out
         have hcz53_1:=bc1 BK115.out
         have hcz53_2:=bc2 BK115.out
         have hcz53_3:=bc3 BK115.out
         have hfz53_0:=ja BK115.out 0
         have hfz53_1:=ja BK115.out 1
         have hfz53_2:=ja BK115.out 2
         have hfz53_3:=ja BK115.out 3
         go_wp2_with (first |((with_reducible refine jd (f:=66) rfl ?_);refine gL (some 54) Try.func66 #[.int .i64 a0_2, .int .i64 0, .int .i64 3] ?_;(with_reducible refine (jL.calls a0_2 0 3 true _ A50.out).mono ?_);rintro e w' ⟨rfl,⟨nd,rfl⟩⟩;refine ⟨_,rfl,?_⟩))
         go_ret
         exact ⟨Y0,Y22⟩
        ·replace c51:=Bool.eq_false_iff.mpr c51
         subst c51
         have H1:(some false)=some r:=by rw [if_neg (show ¬ (false=true) by decide)] at H;exact H
         clear H
         have H:=H1
         clear H1
         obtain rfl:=Option.some.inj H
         have hnb54:=NB115_116.out
         have hnc54:=NB116_115.out
         have hcz55_0:=bc0 BK115.out
         have hcz55_1:=bc1 BK115.out
         have hcz55_2:=bc2 BK115.out
         have hcz55_3:=bc3 BK115.out
         have hfz55_0:=ja BK115.out 0
         have hfz55_1:=ja BK115.out 1
         have hfz55_2:=ja BK115.out 2
         have hfz55_3:=ja BK115.out 3
         go_wp2_with (first |((with_reducible refine jd (f:=66) rfl ?_);refine gL (some 54) Try.func66 #[.int .i64 a0_2, .int .i64 0, .int .i64 3] ?_;(with_reducible refine (jL.calls a0_2 0 3 false _ A50.out).mono ?_);rintro e w' ⟨rfl,⟨nd,rfl⟩⟩;refine ⟨_,rfl,?_⟩))
         go_ret
         exact ⟨Y0,Y22⟩
       ·rw [if_neg c49] at H
        have c49b0:(a0_1 == 12)=false:=beq_eq_false_iff_ne.mpr c49
        have c49b1:(a0_1 != 12)=true:=bne_iff_ne.mpr c49
        replace H:=bzS H
        obtain ⟨t124,A560,H⟩:=H
        replace H:(if t124=true then (if a0_2=0 then (some (a0_3 == 0)) else (some false)) else (some false))=some r:=H
        have A56:=am A560
        clear A560
        by_cases c57:t124=true
        ·subst c57
         have H1:(if a0_2=0 then (some (a0_3 == 0)) else (some false))=some r:=by rw [if_pos rfl] at H;exact H
         clear H
         have H:=H1
         clear H1
         by_cases c58:a0_2=0
         ·rw [if_pos c58] at H
          have c58b0:(a0_2 == 0)=true:=beq_iff_eq.mpr c58
          have c58b1:(a0_2 != 0)=false:=bne_eq_false_iff_eq.mpr c58
          clear c58
          obtain rfl:=Option.some.inj H
          have hnb59:=NB115_116.out
          have hnc59:=NB116_115.out
          have hcz60_0:=bc0 BK115.out
          have hcz60_1:=bc1 BK115.out
          have hcz60_2:=bc2 BK115.out
          have hcz60_3:=bc3 BK115.out
          have hfz60_0:=ja BK115.out 0
          have hfz60_1:=ja BK115.out 1
          have hfz60_2:=ja BK115.out 2
          have hfz60_3:=ja BK115.out 3
          go_wp2_with (first |((with_reducible refine jd (f:=66) rfl ?_);refine gL (some 62) Try.func66 #[.int .i64 a0_1, .int .i64 0, .int .i64 12] ?_;(with_reducible refine (jL.calls a0_1 0 12 true _ A56.out).mono ?_);rintro e w' ⟨rfl,⟨nd,rfl⟩⟩;refine ⟨_,rfl,?_⟩))
          go_ret
          exact ⟨Y0,Y22⟩
         ·rw [if_neg c58] at H
          have c58b0:(a0_2 == 0)=false:=beq_eq_false_iff_ne.mpr c58
          have c58b1:(a0_2 != 0)=true:=bne_iff_ne.mpr c58
          obtain rfl:=Option.some.inj H
          have hnb61:=NB115_116.out
          have hnc61:=NB116_115.out
          have hcz62_0:=bc0 BK115.out
          have hcz62_1:=bc1 BK115.out
          have hcz62_2:=bc2 BK115.out
          have hcz62_3:=bc3 BK115.out
          have hfz62_0:=ja BK115.out 0
          have hfz62_1:=ja BK115.out 1
          have hfz62_2:=ja BK115.out 2
          have hfz62_3:=ja BK115.out 3
          go_wp2_with (first |((with_reducible refine jd (f:=66) rfl ?_);refine gL (some 62) Try.func66 #[.int .i64 a0_1, .int .i64 0, .int .i64 12] ?_;(with_reducible refine (jL.calls a0_1 0 12 true _ A56.out).mono ?_);rintro e w' ⟨rfl,⟨nd,rfl⟩⟩;refine ⟨_,rfl,?_⟩))
          go_ret
          exact ⟨Y0,Y22⟩
        ·replace c57:=Bool.eq_false_iff.mpr c57
         subst c57
         have H1:(some false)=some r:=by rw [if_neg (show ¬ (false=true) by decide)] at H;exact H
         clear H
         have H:=H1
         clear H1
         obtain rfl:=Option.some.inj H
         have hnb63:=NB115_116.out
         have hnc63:=NB116_115.out
         have hcz64_0:=bc0 BK115.out
         have hcz64_1:=bc1 BK115.out
         have hcz64_2:=bc2 BK115.out
         have hcz64_3:=bc3 BK115.out
         have hfz64_0:=ja BK115.out 0
         have hfz64_1:=ja BK115.out 1
         have hfz64_2:=ja BK115.out 2
         have hfz64_3:=ja BK115.out 3
         go_wp2_with (first |((with_reducible refine jd (f:=66) rfl ?_);refine gL (some 62) Try.func66 #[.int .i64 a0_1, .int .i64 0, .int .i64 12] ?_;(with_reducible refine (jL.calls a0_1 0 12 false _ A56.out).mono ?_);rintro e w' ⟨rfl,⟨nd,rfl⟩⟩;refine ⟨_,rfl,?_⟩))
         go_ret
         exact ⟨Y0,Y22⟩
def jYa.f (a0_0 : Int) (a0_1 : Int) (a0_2 : Int) (a0_3 : Int) : Option (Bool) := (jL.f a0_1 7 12).bind fun t126 => (some t126)
set_option maxHeartbeats 8000000 in
set_option maxRecDepth 100000 in
theorem jYa.calls (a0_0 : Int) (a0_1 : Int) (a0_2 : Int) (a0_3 : Int) (r : Bool) (w : World) (h : jYa.f a0_0 a0_1 a0_2 a0_3 = some r) :
  Calls Try.prog 67 #[.agg #[.int .i64 a0_0, .int .i64 a0_1, .int .i64 a0_2, .int .i64 a0_3]] w fun e w'=>e=.returned (.bool r)∧Below w.heap.size w w':=by
 have hu52:=Try.underlying52
 have HB:=am (Below.refl w.heap.size w)
 have H:((jL.f a0_1 7 12).bind fun t126=>(some t126))=some r:=h
 clear h
 replace H:=bzS H
 obtain ⟨t126,A20,H⟩:=H
 replace H:(some t126)=some r:=H
 have A2:=am A20
 clear A20
 obtain rfl:=Option.some.inj H
 go_enter Try.func67,Try.ntmps67
 go_wp2_with (first |((with_reducible refine jM (N:=1) rfl ?_);refine bE (N:=1) (cs:=#[.int .i64 a0_0, .int .i64 a0_1, .int .i64 a0_2, .int .i64 a0_3]) (t:=52) ?_;intro gb125 hg w3 hbox hb;have BK125:=am (hbox);have GW125:=am ((Y10:w.heap.size≤gb125));have GE125:=am ((Y10:w.heap.size≤gb125));replace HB:=am (je (bq) hb);clear hb hbox hg;have hcz4_0:=bc0 BK125.out;have hcz4_1:=bc1 BK125.out;have hcz4_2:=bc2 BK125.out;have hcz4_3:=bc3 BK125.out;have hfz4_0:=ja BK125.out 0;have hfz4_1:=ja BK125.out 1;have hfz4_2:=ja BK125.out 2;have hfz4_3:=ja BK125.out 3) |((with_reducible refine jd (f:=66) rfl ?_);refine gL (some 5) Try.func66 #[.int .i64 a0_1, .int .i64 7, .int .i64 12] ?_;(with_reducible refine (jL.calls a0_1 7 12 t126 _ A2.out).mono ?_);rintro e w' ⟨rfl,⟨nd,rfl⟩⟩;refine ⟨_,rfl,?_⟩))
 go_ret
 exact ⟨Y0,by repeat (first |(with_reducible first | exact HB.out | apply jR | apply jw | apply jS | refine jP ?_ GE125.out) | exact HB.out)⟩
def jla.l0 : Nat → List (S52) → Int → Int → Option (Int)
 | 0,_,_,_=>none
 | k+1,x0,x1,x5=>if x5<(x0.length:Int) then (if 0≤x5 then (if 0≤x1 then (if x1<(x0.length:Int) then (if ((jc x0 x5).f0) > ((jc x0 x1).f0) then (jla.l0 k x0 x1 (wrap64 (x5+1))) else (some x5)) else (none)) else (none)) else (none)) else (some x5)
def jla.f (k : Nat) (l0 : List (S52)) (a1 : Int) : Option (Int) := jla.l0 k l0 a1 (wrap64 (a1 + 1))
set_option maxHeartbeats 8000000 in
set_option maxRecDepth 100000 in
theorem jla.calls (k : Nat) (A0 : Option Addr) (c0 : Nat) (l0 : List (S52)) (a1 : Int) (r : Int) (w : World) (hr0 : Kd.C k52 w A0 l0.length l0) (hc0 : l0.length ≤ c0) (h : jla.f k l0 a1 = some r) :
  Calls Try.prog 89 #[.slice A0 l0.length c0, .int .i64 a1] w fun e w'=>e=.returned (.int .i64 r)∧jjb w w':=by
 have HR0:=am hr0
 have HC0:=am hc0
 clear hr0 hc0
 have H:(jla.l0 k l0 a1 (wrap64 (a1+1)))=some r:=h
 clear h
 have H':=am H
 clear H
 go_enter Try.func89,Try.ntmps89
 go_wp2
 repeat (go_quiet (fail);try go_wp2)
 go_loopg [5] k (fun kq v5 w'=>∃ (x5_1:Int),v5=.int .i64 x5_1∧jq (jla.l0 kq l0 a1 x5_1=some r)∧jq (kq≤k)∧jjb w w')
 case atStart=>exact ⟨(wrap64 (a1+1)),(sq),H',⟨Nat.le_refl _⟩,Y5⟩
 case round =>
  clear H'
  try clear p2
  obtain ⟨x5_1,rfl,HA,HK1,⟨m1,rfl⟩⟩:=hrel
  cases gk with
  | zero=>exact absurd HA.out (by simp [jla.l0])
  | succ k1 =>
   have H:=HA.out
   clear HA
   simp only [jla.l0] at H
   by_cases c3:x5_1<(l0.length:Int)
   ·rw [if_pos c3] at H
    have c3b0:decide (x5_1<(l0.length:Int))=true:=dzT c3
    clear c3
    by_cases c4:0≤x5_1
    ·rw [if_pos c4] at H
     have c4b0:decide (0≤x5_1)=true:=dzT c4
     clear c4
     by_cases c5:0≤a1
     ·rw [if_pos c5] at H
      have c5b0:decide (0≤a1)=true:=dzT c5
      clear c5
      by_cases c6:a1<(l0.length:Int)
      ·rw [if_pos c6] at H
       have c6b0:decide (a1<(l0.length:Int))=true:=dzT c6
       clear c6
       by_cases c7:((jc l0 x5_1).f0) > ((jc l0 a1).f0)
       ·rw [if_pos c7] at H
        have c7b0:decide (((jc l0 a1).f0)<((jc l0 x5_1).f0))=true:=dzT c7
        clear c7
        have H':=am H
        clear H
        have p127:0≤(x5_1:Int):=ozD (uq)
        have q127:x5_1<(l0.length:Int):=ozD (uq)
        obtain ⟨ad127,e127,hx127_0,hx127_1,hx127_2,hx127_3⟩:=jta HR0.out x5_1 p127 q127
        cases e127
        replace p127:=ezT p127
        replace q127:=ezT q127
        have p128:0≤(a1:Int):=ozD (uq)
        have q128:a1<(l0.length:Int):=ozD (uq)
        obtain ⟨ad128,e128,hx128_0,hx128_1,hx128_2,hx128_3⟩:=jta HR0.out a1 p128 q128
        obtain rfl:ad127=ad128:=(by injection e128)
        replace p128:=ezT p128
        replace q128:=ezT q128
        go_wp2
        repeat (go_quiet (fail);try go_wp2)
        go_roundg k1
        case measure=>have:=HK1.out;omega
        case rel=>exact ⟨(wrap64 (x5_1+1)),(sq),H',⟨by have:=HK1.out;omega⟩,Y5⟩
       ·rw [if_neg c7] at H
        have c7b0:decide (((jc l0 a1).f0)<((jc l0 x5_1).f0))=false:=dzF c7
        clear c7
        obtain rfl:=Option.some.inj H
        have p127:0≤(x5_1:Int):=ozD (uq)
        have q127:x5_1<(l0.length:Int):=ozD (uq)
        obtain ⟨ad127,e127,hx127_0,hx127_1,hx127_2,hx127_3⟩:=jta HR0.out x5_1 p127 q127
        cases e127
        replace p127:=ezT p127
        replace q127:=ezT q127
        have p128:0≤(a1:Int):=ozD (uq)
        have q128:a1<(l0.length:Int):=ozD (uq)
        obtain ⟨ad128,e128,hx128_0,hx128_1,hx128_2,hx128_3⟩:=jta HR0.out a1 p128 q128
        obtain rfl:ad127=ad128:=(by injection e128)
        replace p128:=ezT p128
        replace q128:=ezT q128
        go_wp2
        repeat (go_quiet (fail);try go_wp2)
        go_ret
        exact ⟨sq,Y5⟩
      ·rw [if_neg c6] at H
       exact absurd H (by simp)
     ·rw [if_neg c5] at H
      exact absurd H (by simp)
    ·rw [if_neg c4] at H
     exact absurd H (by simp)
   ·rw [if_neg c3] at H
    have c3b0:decide (x5_1<(l0.length:Int))=false:=dzF c3
    clear c3
    obtain rfl:=Option.some.inj H
    go_wp2
    repeat (go_quiet (fail);try go_wp2)
    go_ret
    exact ⟨sq,Y5⟩
mutual
def jca.l0 : Nat → List (S52) → Int → List Int → Int → Option (List Int)
 | 0,_,_,_,_=>none
 | k+1,x0,x1,x5,x6=>if x6<(x0.length:Int) then (if 0≤x6 then (if 0≤x1 then (if x1<(x0.length:Int) then (if ((jc x0 x6).f0)=((jc x0 x1).f0) then ((jL.f ((jc x0 x6).f1) 8 10).bind fun t136=>(jca.j1 k x0 x1 x5 x6 t136)) else (jca.j1 k x0 x1 x5 x6 false)) else (none)) else (none)) else (none)) else (jca.j1 k x0 x1 x5 x6 false)
def jca.j1 : Nat → List (S52) → Int → List Int → Int → Bool → Option (List Int)
 | 0,_,_,_,_,_=>none
 | k+1,x0,x1,x5,x6,x36=>if x36=true then (if x5.length<17592186044416 then ((jla.f k x0 x6).bind fun t140=>(jca.l0 k x0 x1 (x5 ++ [x6]) t140)) else (none)) else (some x5)
end
def jca.f (k : Nat) (l0 : List (S52)) (a1 : Int) : Option (List Int) := (jla.f k l0 a1).bind fun t132 => (jca.l0 k l0 a1 (([a1] : List Int)) t132)
set_option maxHeartbeats 8000000 in
set_option maxRecDepth 100000 in
theorem jca.calls (k : Nat) (A0 : Option Addr) (c0 : Nat) (l0 : List (S52)) (a1 : Int) (r : List Int) (w : World) (hr0 : Kd.C k52 w A0 l0.length l0) (hc0 : l0.length ≤ c0) (h : jca.f k l0 a1 = some r) :
  Calls Try.prog 80 #[.slice A0 l0.length c0, .int .i64 a1] w fun e w'=>∃ v0_:Value,e=.returned (v0_)∧Kd.R (Kd.int .i64) 3 w' w.heap.size (fun _=>True) v0_ r∧Below w.heap.size w w':=by
 have HR0:=am hr0
 have HC0:=am hc0
 clear hr0 hc0
 have HB:=am (Below.refl w.heap.size w)
 have H:((jla.f k l0 a1).bind fun t132=>(jca.l0 k l0 a1 (([a1]:List Int)) t132))=some r:=h
 clear h
 obtain ⟨y129,hy129⟩:∃ y_:List Int,y_=(([a1]:List Int)):=⟨_,rfl⟩
 replace H:((jla.f k l0 a1).bind fun t132=>(jca.l0 k l0 a1 y129 t132))=some r:=by first |(rw [hy129];with_reducible exact H) |(have H2_:=(Option.bind_some _ _).symm.trans H;rw [hy129];with_reducible exact H2_) |(have H2_:=(Option.bind_some _ _).symm.trans H;with_reducible exact H2_) | with_reducible exact H |(rw [hy129];exact H) | exact H
 have Ny129:=am hy129
 clear hy129
 replace H:=bzS H
 obtain ⟨t132,A30,H⟩:=H
 replace H:(jca.l0 k l0 a1 y129 t132)=some r:=H
 have A3:=am A30
 clear A30
 have H':=am H
 clear H
 go_enter Try.func80,Try.ntmps80
 go_wp2_with (first |((with_reducible refine jM (N:=8) rfl ?_);refine Kd.jbc (Kd.int .i64) _ 3 ?hg (N:=8) ?hd (xs:=([a1]:List Int)) (inner:=[.int .i64 a1]) (ok:=fun _=>True) (okp:=fun _=>True) ?hr ?hp (fun _ hk=>hk) trivial (Below.refl _ _) (Nat.le_refl _) (by simp) ?_;(case hd=>rfl);(case hg=>rfl);(case hr=>exact Y7);(case hp=>exact (Reps.one (show Kd.M (Kd.int .i64) _ _ _ a1 [.int .i64 a1] from rfl) (Reps.none _ _)));intro v130 w4 ho5 hb hg_ hnew_;clear hg_ hnew_;(first | rw [← Ny129.out] at ho5 |(simp only [Int.reduceToNat] at ho5;rw [← Ny129.out] at ho5));have HO131:=am (Kd.jQ ho5 (jN (bq)));replace HB:=am (je (bq) hb);clear hb ho5) |(go_at_call 89;(with_reducible refine (jla.calls k _ _ l0 a1 t132 _ ?side1 ?side2 A3.out).mono ?_);(case side1=>exact cq (Kd.jba HR0.out HB.out));(case side2=>exact HC0.out);rintro e w' ⟨rfl,⟨nd,rfl⟩⟩;(try first | exact ⟨rfl,_,World.drewN_drewN _ _ _⟩ | exact ⟨rfl,_,Eq.trans (World.drewN_drewN _ _ _) (congrArg (World.drewN _) (Nat.add_assoc _ _ _))⟩)))
 repeat (go_quiet (first |((with_reducible refine jM (N:=8) rfl ?_);refine Kd.jbc (Kd.int .i64) _ 3 ?hg (N:=8) ?hd (xs:=([a1]:List Int)) (inner:=[.int .i64 a1]) (ok:=fun _=>True) (okp:=fun _=>True) ?hr ?hp (fun _ hk=>hk) trivial (Below.refl _ _) (Nat.le_refl _) (by simp) ?_;(case hd=>rfl);(case hg=>rfl);(case hr=>exact Y7);(case hp=>exact (Reps.one (show Kd.M (Kd.int .i64) _ _ _ a1 [.int .i64 a1] from rfl) (Reps.none _ _)));intro v130 w4 ho5 hb hg_ hnew_;clear hg_ hnew_;(first | rw [← Ny129.out] at ho5 |(simp only [Int.reduceToNat] at ho5;rw [← Ny129.out] at ho5));have HO131:=am (Kd.jQ ho5 (jN (bq)));replace HB:=am (je (bq) hb);clear hb ho5) |(go_at_call 89;(with_reducible refine (jla.calls k _ _ l0 a1 t132 _ ?side1 ?side2 A3.out).mono ?_);(case side1=>exact cq (Kd.jba HR0.out HB.out));(case side2=>exact HC0.out);rintro e w' ⟨rfl,⟨nd,rfl⟩⟩;(try first | exact ⟨rfl,_,World.drewN_drewN _ _ _⟩ | exact ⟨rfl,_,Eq.trans (World.drewN_drewN _ _ _) (congrArg (World.drewN _) (Nat.add_assoc _ _ _))⟩)));try go_wp2_with (first |((with_reducible refine jM (N:=8) rfl ?_);refine Kd.jbc (Kd.int .i64) _ 3 ?hg (N:=8) ?hd (xs:=([a1]:List Int)) (inner:=[.int .i64 a1]) (ok:=fun _=>True) (okp:=fun _=>True) ?hr ?hp (fun _ hk=>hk) trivial (Below.refl _ _) (Nat.le_refl _) (by simp) ?_;(case hd=>rfl);(case hg=>rfl);(case hr=>exact Y7);(case hp=>exact (Reps.one (show Kd.M (Kd.int .i64) _ _ _ a1 [.int .i64 a1] from rfl) (Reps.none _ _)));intro v130 w4 ho5 hb hg_ hnew_;clear hg_ hnew_;(first | rw [← Ny129.out] at ho5 |(simp only [Int.reduceToNat] at ho5;rw [← Ny129.out] at ho5));have HO131:=am (Kd.jQ ho5 (jN (bq)));replace HB:=am (je (bq) hb);clear hb ho5) |(go_at_call 89;(with_reducible refine (jla.calls k _ _ l0 a1 t132 _ ?side1 ?side2 A3.out).mono ?_);(case side1=>exact cq (Kd.jba HR0.out HB.out));(case side2=>exact HC0.out);rintro e w' ⟨rfl,⟨nd,rfl⟩⟩;(try first | exact ⟨rfl,_,World.drewN_drewN _ _ _⟩ | exact ⟨rfl,_,Eq.trans (World.drewN_drewN _ _ _) (congrArg (World.drewN _) (Nat.add_assoc _ _ _))⟩))))
 go_loopg [5,6] k (fun kq v5 v6 w'=>∃ (x5_1:List Int) (x6_1:Int),v6=.int .i64 x6_1∧jq (jca.l0 kq l0 a1 x5_1 x6_1=some r)∧jq (kq≤k)∧jq (Kd.R (Kd.int .i64) 3 w' w.heap.size (fun _=>True) v5 x5_1)∧jq (Below w.heap.size w w'))
 case atStart=>exact ⟨(y129),(t132),(sq),H',⟨Nat.le_refl _⟩,⟨rq HO131.out⟩,⟨bq⟩⟩
 case round =>
  clear H'
  try clear p2
  obtain ⟨x5_1,x6_1,rfl,HA,HK1,HO_5,HB⟩:=hrel
  cases gk with
  | zero=>exact absurd HA.out (by simp [jca.l0])
  | succ k1 =>
   have H:=HA.out
   clear HA
   simp only [jca.l0] at H
   have HC6:=am H
   clear H
   go_upto_region 3 with (fail)
   repeat (go_quiet (fail);go_upto_region 3 with (fail))
   go_cut [36] (fun v36 wc=>∃ (kq:Nat) (x36_5:Bool),v36=.bool x36_5∧jq (jca.j1 kq l0 a1 x5_1 x6_1 x36_5=some r)∧jq (kq≤k1)∧jq (Kd.R (Kd.int .i64) 3 wc w.heap.size (fun _=>True) u5 x5_1)∧jq (Below w.heap.size w wc))
   case first =>
    have H:=HC6.out
    clear HC6
    by_cases c7:x6_1<(l0.length:Int)
    ·rw [if_pos c7] at H
     have c7b0:decide (x6_1<(l0.length:Int))=true:=dzT c7
     clear c7
     (first | rw [c7b0] |(simp only [jhb,jpb];rw [c7b0]) | skip)
     by_cases c8:0≤x6_1
     ·rw [if_pos c8] at H
      have c8b0:decide (0≤x6_1)=true:=dzT c8
      clear c8
      by_cases c9:0≤a1
      ·rw [if_pos c9] at H
       have c9b0:decide (0≤a1)=true:=dzT c9
       clear c9
       by_cases c10:a1<(l0.length:Int)
       ·rw [if_pos c10] at H
        have c10b0:decide (a1<(l0.length:Int))=true:=dzT c10
        clear c10
        by_cases c11:((jc l0 x6_1).f0)=((jc l0 a1).f0)
        ·rw [if_pos c11] at H
         have c11b0:(((jc l0 x6_1).f0) == ((jc l0 a1).f0))=true:=beq_iff_eq.mpr c11
         have c11b1:(((jc l0 x6_1).f0) != ((jc l0 a1).f0))=false:=bne_eq_false_iff_eq.mpr c11
         clear c11
         replace H:=bzS H
         obtain ⟨t136,A120,H⟩:=H
         replace H:(jca.j1 k1 l0 a1 x5_1 x6_1 t136)=some r:=H
         have A12:=am A120
         clear A120
         have H':=am H
         clear H
         have p133:0≤(x6_1:Int):=ozD (uq)
         have q133:x6_1<(l0.length:Int):=ozD (uq)
         obtain ⟨ad133,e133,hx133_0,hx133_1,hx133_2,hx133_3⟩:=jta HR0.out x6_1 p133 q133
         cases e133
         replace hx133_0:=cb HB.out hx133_0
         replace hx133_1:=cb HB.out hx133_1
         replace hx133_2:=cb HB.out hx133_2
         replace hx133_3:=cb HB.out hx133_3
         replace p133:=ezT p133
         replace q133:=ezT q133
         have p134:0≤(a1:Int):=ozD (uq)
         have q134:a1<(l0.length:Int):=ozD (uq)
         obtain ⟨ad134,e134,hx134_0,hx134_1,hx134_2,hx134_3⟩:=jta HR0.out a1 p134 q134
         obtain rfl:ad133=ad134:=(by injection e134)
         replace hx134_0:=cb HB.out hx134_0
         replace hx134_1:=cb HB.out hx134_1
         replace hx134_2:=cb HB.out hx134_2
         replace hx134_3:=cb HB.out hx134_3
         replace p134:=ezT p134
         replace q134:=ezT q134
         have p135:0≤(x6_1:Int):=ozD (uq)
         have q135:x6_1<(l0.length:Int):=ozD (uq)
         obtain ⟨ad135,e135,hx135_0,hx135_1,hx135_2,hx135_3⟩:=jta HR0.out x6_1 p135 q135
         obtain rfl:ad133=ad135:=(by injection e135)
         replace hx135_0:=cb HB.out hx135_0
         replace hx135_1:=cb HB.out hx135_1
         replace hx135_2:=cb HB.out hx135_2
         replace hx135_3:=cb HB.out hx135_3
         replace p135:=ezT p135
         replace q135:=ezT q135
         go_wp2_with (first |(go_at_call 66;(with_reducible refine (jL.calls ((jc l0 x6_1).f1) 8 10 t136 _ A12.out).mono ?_);rintro e w' ⟨rfl,⟨nd,rfl⟩⟩;(try first | exact ⟨rfl,_,World.drewN_drewN _ _ _⟩ | exact ⟨rfl,_,Eq.trans (World.drewN_drewN _ _ _) (congrArg (World.drewN _) (Nat.add_assoc _ _ _))⟩)))
         repeat (go_quiet (first |(go_at_call 66;(with_reducible refine (jL.calls ((jc l0 x6_1).f1) 8 10 t136 _ A12.out).mono ?_);rintro e w' ⟨rfl,⟨nd,rfl⟩⟩;(try first | exact ⟨rfl,_,World.drewN_drewN _ _ _⟩ | exact ⟨rfl,_,Eq.trans (World.drewN_drewN _ _ _) (congrArg (World.drewN _) (Nat.add_assoc _ _ _))⟩)));try go_wp2_with (first |(go_at_call 66;(with_reducible refine (jL.calls ((jc l0 x6_1).f1) 8 10 t136 _ A12.out).mono ?_);rintro e w' ⟨rfl,⟨nd,rfl⟩⟩;(try first | exact ⟨rfl,_,World.drewN_drewN _ _ _⟩ | exact ⟨rfl,_,Eq.trans (World.drewN_drewN _ _ _) (congrArg (World.drewN _) (Nat.add_assoc _ _ _))⟩))))
         go_meet
         case rel=>exact ⟨_,(t136),(sq),H',⟨by have:=HK1.out;first | omega | exact Nat.le_refl _⟩,⟨rq HO_5.out⟩,⟨bq⟩⟩
        ·rw [if_neg c11] at H
         have c11b0:(((jc l0 x6_1).f0) == ((jc l0 a1).f0))=false:=beq_eq_false_iff_ne.mpr c11
         have c11b1:(((jc l0 x6_1).f0) != ((jc l0 a1).f0))=true:=bne_iff_ne.mpr c11
         have H':=am H
         clear H
         have p133:0≤(x6_1:Int):=ozD (uq)
         have q133:x6_1<(l0.length:Int):=ozD (uq)
         obtain ⟨ad133,e133,hx133_0,hx133_1,hx133_2,hx133_3⟩:=jta HR0.out x6_1 p133 q133
         cases e133
         replace hx133_0:=cb HB.out hx133_0
         replace hx133_1:=cb HB.out hx133_1
         replace hx133_2:=cb HB.out hx133_2
         replace hx133_3:=cb HB.out hx133_3
         replace p133:=ezT p133
         replace q133:=ezT q133
         have p134:0≤(a1:Int):=ozD (uq)
         have q134:a1<(l0.length:Int):=ozD (uq)
         obtain ⟨ad134,e134,hx134_0,hx134_1,hx134_2,hx134_3⟩:=jta HR0.out a1 p134 q134
         obtain rfl:ad133=ad134:=(by injection e134)
         replace hx134_0:=cb HB.out hx134_0
         replace hx134_1:=cb HB.out hx134_1
         replace hx134_2:=cb HB.out hx134_2
         replace hx134_3:=cb HB.out hx134_3
         replace p134:=ezT p134
         replace q134:=ezT q134
         go_wp2
         repeat (go_quiet (fail);try go_wp2)
         go_meet
         case rel=>exact ⟨_,(false),(sq),H',⟨by have:=HK1.out;first | omega | exact Nat.le_refl _⟩,⟨rq HO_5.out⟩,⟨bq⟩⟩
       ·rw [if_neg c10] at H
        exact absurd H (by simp)
      ·rw [if_neg c9] at H
       exact absurd H (by simp)
     ·rw [if_neg c8] at H
      exact absurd H (by simp)
    ·rw [if_neg c7] at H
     have c7b0:decide (x6_1<(l0.length:Int))=false:=dzF c7
     clear c7
     (first | rw [c7b0] |(simp only [jhb,jpb];rw [c7b0]) | skip)
     have H':=am H
     clear H
     go_wp2
     repeat (go_quiet (fail);try go_wp2)
     go_meet
     case rel=>exact ⟨_,(false),(sq),H',⟨by have:=HK1.out;first | omega | exact Nat.le_refl _⟩,⟨rq HO_5.out⟩,⟨bq⟩⟩
   case rest =>
    clear HC6
    try clear c1
    try clear p1
    try clear q1
    try clear hx1
    try clear p2
    try clear c7
    try clear c7b0
    try clear c8
    try clear c8b0
    try clear c9
    try clear c9b0
    try clear c10
    try clear c10b0
    try clear c11
    try clear c11b0
    try clear c11b1
    try clear hx133_0
    try clear hx133_1
    try clear hx133_2
    try clear hx133_3
    try clear hx134_0
    try clear hx134_1
    try clear hx134_2
    try clear hx134_3
    try clear hx135_0
    try clear hx135_1
    try clear hx135_2
    try clear hx135_3
    try clear p133
    try clear p134
    try clear p135
    try clear p2
    try clear q133
    try clear q134
    try clear q135
    obtain ⟨kq,x36_5,rfl,HA,HJ5,HO_5,HB⟩:=hcut
    cases kq with
    | zero=>exact absurd HA.out (by simp [jca.j1])
    | succ kj5 =>
     have H:=HA.out
     clear HA
     simp only [jca.j1] at H
     by_cases c13:x36_5=true
     ·subst c13
      have H1:(if x5_1.length<17592186044416 then ((jla.f kj5 l0 x6_1).bind fun t140=>(jca.l0 kj5 l0 a1 (x5_1 ++ [x6_1]) t140)) else (none))=some r:=by rw [if_pos rfl] at H;exact H
      clear H
      have H:=H1
      clear H1
      by_cases c14:x5_1.length<17592186044416
      ·rw [if_pos c14] at H
       have LMc14:=am c14
       clear c14
       obtain ⟨y137,hy137⟩:∃ y_:List Int,y_=(x5_1 ++ [x6_1]):=⟨_,rfl⟩
       replace H:((jla.f kj5 l0 x6_1).bind fun t140=>(jca.l0 kj5 l0 a1 y137 t140))=some r:=by first |(rw [hy137];with_reducible exact H) |(have H2_:=(Option.bind_some _ _).symm.trans H;rw [hy137];with_reducible exact H2_) |(have H2_:=(Option.bind_some _ _).symm.trans H;with_reducible exact H2_) | with_reducible exact H |(rw [hy137];exact H) | exact H
       have Ny137:=am hy137
       clear hy137
       replace H:=bzS H
       obtain ⟨t140,A150,H⟩:=H
       replace H:(jca.l0 kj5 l0 a1 y137 t140)=some r:=H
       have A15:=am A150
       clear A150
       have H':=am H
       clear H
       go_wp2_with (first |((with_reducible refine jJa (b:=.append) (xs:=#[.tmp 40, .tmp 42]) rfl ?_);at_builtin;refine Kd.jSb (Kd.int .i64) (w0:=w) w.heap.size rfl (.tmp 40) (.tmp 42) 28 3 (.int .i64 0) 8 rfl Try.underlying28 info3 rfl (by decide) (by omega) u5 x5_1 x6_1 [.int .i64 x6_1] (fun _=>True) (fun _=>False) rfl rfl ?aP (fun _ hk=>hk.elim) ?aF ?aO ?aB ?aS ?aL ?_;(case aP=>exact rfl);(case aB=>exact (bq));(case aF=>exact (fun _ _=>trivial));(case aO=>exact (rq HO_5.out));(case aS=>exact (jN (bq)));(case aL=>have:=LMc14.out;omega);intro v138 w16 ho hb hg hat;rw [← Ny137.out] at ho;have n0_:=am (hb);have n1_:=am (ho);clear HB HO_5;have HB:=n0_;have HO139:=n1_;clear n0_ n1_ ho hb hg hat) |(go_at_call 89;(with_reducible refine (jla.calls kj5 _ _ l0 x6_1 t140 _ ?side1 ?side2 A15.out).mono ?_);(case side1=>exact cq (Kd.jba HR0.out HB.out));(case side2=>exact HC0.out);rintro e w' ⟨rfl,⟨nd,rfl⟩⟩;(try first | exact ⟨rfl,_,World.drewN_drewN _ _ _⟩ | exact ⟨rfl,_,Eq.trans (World.drewN_drewN _ _ _) (congrArg (World.drewN _) (Nat.add_assoc _ _ _))⟩)))
       repeat (go_quiet (first |((with_reducible refine jJa (b:=.append) (xs:=#[.tmp 40, .tmp 42]) rfl ?_);at_builtin;refine Kd.jSb (Kd.int .i64) (w0:=w) w.heap.size rfl (.tmp 40) (.tmp 42) 28 3 (.int .i64 0) 8 rfl Try.underlying28 info3 rfl (by decide) (by omega) u5 x5_1 x6_1 [.int .i64 x6_1] (fun _=>True) (fun _=>False) rfl rfl ?aP (fun _ hk=>hk.elim) ?aF ?aO ?aB ?aS ?aL ?_;(case aP=>exact rfl);(case aB=>exact (bq));(case aF=>exact (fun _ _=>trivial));(case aO=>exact (rq HO_5.out));(case aS=>exact (jN (bq)));(case aL=>have:=LMc14.out;omega);intro v138 w16 ho hb hg hat;rw [← Ny137.out] at ho;have n0_:=am (hb);have n1_:=am (ho);clear HB HO_5;have HB:=n0_;have HO139:=n1_;clear n0_ n1_ ho hb hg hat) |(go_at_call 89;(with_reducible refine (jla.calls kj5 _ _ l0 x6_1 t140 _ ?side1 ?side2 A15.out).mono ?_);(case side1=>exact cq (Kd.jba HR0.out HB.out));(case side2=>exact HC0.out);rintro e w' ⟨rfl,⟨nd,rfl⟩⟩;(try first | exact ⟨rfl,_,World.drewN_drewN _ _ _⟩ | exact ⟨rfl,_,Eq.trans (World.drewN_drewN _ _ _) (congrArg (World.drewN _) (Nat.add_assoc _ _ _))⟩)));try go_wp2_with (first |((with_reducible refine jJa (b:=.append) (xs:=#[.tmp 40, .tmp 42]) rfl ?_);at_builtin;refine Kd.jSb (Kd.int .i64) (w0:=w) w.heap.size rfl (.tmp 40) (.tmp 42) 28 3 (.int .i64 0) 8 rfl Try.underlying28 info3 rfl (by decide) (by omega) u5 x5_1 x6_1 [.int .i64 x6_1] (fun _=>True) (fun _=>False) rfl rfl ?aP (fun _ hk=>hk.elim) ?aF ?aO ?aB ?aS ?aL ?_;(case aP=>exact rfl);(case aB=>exact (bq));(case aF=>exact (fun _ _=>trivial));(case aO=>exact (rq HO_5.out));(case aS=>exact (jN (bq)));(case aL=>have:=LMc14.out;omega);intro v138 w16 ho hb hg hat;rw [← Ny137.out] at ho;have n0_:=am (hb);have n1_:=am (ho);clear HB HO_5;have HB:=n0_;have HO139:=n1_;clear n0_ n1_ ho hb hg hat) |(go_at_call 89;(with_reducible refine (jla.calls kj5 _ _ l0 x6_1 t140 _ ?side1 ?side2 A15.out).mono ?_);(case side1=>exact cq (Kd.jba HR0.out HB.out));(case side2=>exact HC0.out);rintro e w' ⟨rfl,⟨nd,rfl⟩⟩;(try first | exact ⟨rfl,_,World.drewN_drewN _ _ _⟩ | exact ⟨rfl,_,Eq.trans (World.drewN_drewN _ _ _) (congrArg (World.drewN _) (Nat.add_assoc _ _ _))⟩))))
       go_roundg kj5
       case measure=>have:=HK1.out;have:=HJ5.out;omega
       case rel=>exact ⟨(y137),(t140),(sq),H',⟨by have:=HK1.out;have:=HJ5.out;omega⟩,⟨rq HO139.out⟩,⟨bq⟩⟩
      ·rw [if_neg c14] at H
       exact absurd H (by simp)
     ·replace c13:=Bool.eq_false_iff.mpr c13
      subst c13
      have H1:(some x5_1)=some r:=by rw [if_neg (show ¬ (false=true) by decide)] at H;exact H
      clear H
      have H:=H1
      clear H1
      obtain rfl:=Option.some.inj H
      go_wp2
      repeat (go_quiet (fail);try go_wp2)
      go_ret
      exact ⟨_,Y0,rq HO_5.out,bq⟩
def jFa.l0 : Nat → List (S52) → Int → List Int → Int → Option (List Int)
 | 0,_,_,_,_=>none
 | k+1,x0,x2,x7,x8=>if x8<x2 then (if x7.length<17592186044416 then ((jla.f k x0 x8).bind fun t147=>(jFa.l0 k x0 x2 (x7 ++ [x8]) t147)) else (none)) else (some x7)
def jFa.f (k : Nat) (l0 : List (S52)) (a1 : Int) (a2 : Int) : Option (List Int) := jFa.l0 k l0 a2 (([] : List Int)) a1
set_option maxHeartbeats 8000000 in
set_option maxRecDepth 100000 in
theorem jFa.calls (k : Nat) (A0 : Option Addr) (c0 : Nat) (l0 : List (S52)) (a1 : Int) (a2 : Int) (r : List Int) (w : World) (hr0 : Kd.C k52 w A0 l0.length l0) (hc0 : l0.length ≤ c0) (h : jFa.f k l0 a1 a2 = some r) :
  Calls Try.prog 96 #[.slice A0 l0.length c0, .int .i64 a1, .int .i64 a2] w fun e w'=>∃ v0_:Value,e=.returned (v0_)∧Kd.R (Kd.int .i64) 3 w' w.heap.size (fun _=>True) v0_ r∧Below w.heap.size w w':=by
 have HR0:=am hr0
 have HC0:=am hc0
 clear hr0 hc0
 have HB:=am (Below.refl w.heap.size w)
 have H:(jFa.l0 k l0 a2 (([]:List Int)) a1)=some r:=h
 clear h
 obtain ⟨y141,hy141⟩:∃ y_:List Int,y_=(([]:List Int)):=⟨_,rfl⟩
 replace H:(jFa.l0 k l0 a2 y141 a1)=some r:=by first |(rw [hy141];with_reducible exact H) |(have H2_:=(Option.bind_some _ _).symm.trans H;rw [hy141];with_reducible exact H2_) |(have H2_:=(Option.bind_some _ _).symm.trans H;with_reducible exact H2_) | with_reducible exact H |(rw [hy141];exact H) | exact H
 have Ny141:=am hy141
 clear hy141
 have H':=am H
 clear H
 go_enter Try.func96,Try.ntmps96
 go_wp2_with (first |((with_reducible refine jM (N:=9) rfl ?_);refine Kd.jbc (Kd.int .i64) _ 3 ?hg (N:=9) ?hd (xs:=([]:List Int)) (inner:=[]) (ok:=fun _=>True) (okp:=fun _=>True) ?hr ?hp (fun _ hk=>hk) trivial (Below.refl _ _) (Nat.le_refl _) (by simp) ?_;(case hd=>rfl);(case hg=>rfl);(case hr=>exact Y7);(case hp=>exact (Reps.none _ _));intro v142 w4 ho5 hb hg_ hnew_;clear hg_ hnew_;(first | rw [← Ny141.out] at ho5 |(simp only [Int.reduceToNat] at ho5;rw [← Ny141.out] at ho5));have HO143:=am (Kd.jQ ho5 (jN (bq)));replace HB:=am (je (bq) hb);clear hb ho5))
 go_loopg [7,8] k (fun kq v7 v8 w'=>∃ (x7_1:List Int) (x8_1:Int),v8=.int .i64 x8_1∧jq (jFa.l0 kq l0 a2 x7_1 x8_1=some r)∧jq (kq≤k)∧jq (Kd.R (Kd.int .i64) 3 w' w.heap.size (fun _=>True) v7 x7_1)∧jq (Below w.heap.size w w'))
 case atStart=>exact ⟨(y141),(a1),(sq),H',⟨Nat.le_refl _⟩,⟨rq HO143.out⟩,⟨bq⟩⟩
 case round =>
  clear H'
  try clear p2
  obtain ⟨x7_1,x8_1,rfl,HA,HK1,HO_7,HB⟩:=hrel
  cases gk with
  | zero=>exact absurd HA.out (by simp [jFa.l0])
  | succ k1 =>
   have H:=HA.out
   clear HA
   simp only [jFa.l0] at H
   by_cases c6:x8_1<a2
   ·rw [if_pos c6] at H
    have c6b0:decide (x8_1<a2)=true:=dzT c6
    clear c6
    by_cases c7:x7_1.length<17592186044416
    ·rw [if_pos c7] at H
     have LMc7:=am c7
     clear c7
     obtain ⟨y144,hy144⟩:∃ y_:List Int,y_=(x7_1 ++ [x8_1]):=⟨_,rfl⟩
     replace H:((jla.f k1 l0 x8_1).bind fun t147=>(jFa.l0 k1 l0 a2 y144 t147))=some r:=by first |(rw [hy144];with_reducible exact H) |(have H2_:=(Option.bind_some _ _).symm.trans H;rw [hy144];with_reducible exact H2_) |(have H2_:=(Option.bind_some _ _).symm.trans H;with_reducible exact H2_) | with_reducible exact H |(rw [hy144];exact H) | exact H
     have Ny144:=am hy144
     clear hy144
     replace H:=bzS H
     obtain ⟨t147,A80,H⟩:=H
     replace H:(jFa.l0 k1 l0 a2 y144 t147)=some r:=H
     have A8:=am A80
     clear A80
     have H':=am H
     clear H
     go_wp2_with (first |((with_reducible refine jJa (b:=.append) (xs:=#[.tmp 17, .tmp 19]) rfl ?_);at_builtin;refine Kd.jSb (Kd.int .i64) (w0:=w) w.heap.size rfl (.tmp 17) (.tmp 19) 28 3 (.int .i64 0) 8 rfl Try.underlying28 info3 rfl (by decide) (by omega) u7 x7_1 x8_1 [.int .i64 x8_1] (fun _=>True) (fun _=>False) rfl rfl ?aP (fun _ hk=>hk.elim) ?aF ?aO ?aB ?aS ?aL ?_;(case aP=>exact rfl);(case aB=>exact (bq));(case aF=>exact (fun _ _=>trivial));(case aO=>exact (rq HO_7.out));(case aS=>exact (jN (bq)));(case aL=>have:=LMc7.out;omega);intro v145 w9 ho hb hg hat;rw [← Ny144.out] at ho;have n0_:=am (hb);have n1_:=am (ho);clear HB HO_7;have HB:=n0_;have HO146:=n1_;clear n0_ n1_ ho hb hg hat) |((with_reducible refine jd (f:=89) rfl ?_);refine gL (some 16) Try.func89 #[.slice A0 l0.length c0, .int .i64 x8_1] ?_;(with_reducible refine (jla.calls k1 _ _ l0 x8_1 t147 _ ?side1 ?side2 A8.out).mono ?_);(case side1=>exact cq (Kd.jba HR0.out HB.out));(case side2=>exact HC0.out);rintro e w' ⟨rfl,⟨nd,rfl⟩⟩;refine ⟨_,rfl,?_⟩))
     go_roundg k1
     case measure=>have:=HK1.out;omega
     case rel=>exact ⟨(y144),(t147),(sq),H',⟨by have:=HK1.out;omega⟩,⟨rq HO146.out⟩,⟨bq⟩⟩
    ·rw [if_neg c7] at H
     exact absurd H (by simp)
   ·rw [if_neg c6] at H
    have c6b0:decide (x8_1<a2)=false:=dzF c6
    clear c6
    obtain rfl:=Option.some.inj H
    go_wp2
    go_ret
    exact ⟨_,Y0,rq HO_7.out,bq⟩
def jQa.go (p : List S52) : List Int → Int → Int → Option (Option Int)
 | [],ex,_=>some (some ex)
 | k :: ks,ex,last=>if 0≤k then if k<(p.length:Int) then
   if (jc p k).f1=8 then if last≤8 then jQa.go p ks (ex+1) (jc p k).f1 else some none
   else if (jc p k).f1=9 then if last=8 then jQa.go p ks ex (jc p k).f1 else some none
   else if (jc p k).f1=10 then if last<10 then jQa.go p ks ex (jc p k).f1 else some none
   else some none
  else none else none
def jQa.f (l0 : List S52) (l1 : List Int) : Option Bool := if 1 ≤ l1.length then (jQa.go l0 (l1.drop 1) 0 7).bind fun r => match r with | none => some false | some ex => some (decide (1 < l1.length) && decide (ex ≤ 6)) else none
theorem jQa.step {p : List S52} {l : List Int} {k : Nat} {ex last : Int} {r : Option Int} (hk : k < l.length) (h : jQa.go p (l.drop k) ex last = some r) : jQa.go p (l[k] :: l.drop (k + 1)) ex last = some r := by
 rw [← List.drop_eq_getElem_cons hk];exact h
set_option maxHeartbeats 8000000 in
set_option maxRecDepth 100000 in
theorem jQa.calls (A0 : Option Addr) (c0 : Nat) (l0 : List S52) (A1 : Option Addr) (c1 : Nat) (l1 : List Int) (r : Bool) (w : World) (hr0 : Kd.C k52 w A0 l0.length l0) (hc0 : l0.length ≤ c0) (hr1 : Kd.C (Kd.int .i64) w A1 l1.length l1) (hc1 : l1.length ≤ c1) (h : jQa.f l0 l1 = some r) :
  Calls Try.prog 97 #[.slice A0 l0.length c0, .slice A1 l1.length c1] w fun e w'=>e=.returned (.bool r)∧jjb w w':=by
 have hu52:=Try.underlying52
 have hm:l1.length≤9223372036854775807:=Kd.C_max hr1
 simp only [jQa.f] at h
 by_cases h1:1≤l1.length
 ·rw [if_pos h1] at h
  obtain ⟨q,hq,h⟩:=bzS h
  have HR0:=am hr0
  have HR1:=am hr1
  have H0:=am hq
  have HZ:=am h
  have h1b:(1:Int)≤(l1.length:Int):=by omega
  obtain ⟨i03,hi03,_,hsz3,_⟩:=info_parts info3
  obtain ⟨A',hcut,hA',hC'⟩:=print_drop_of (P:=Try.prog) (Value.int .i64) (0:Int) 28 3 .i64 Try.underlying28 hi03 hsz3 A1 c1 l1 1 (by omega) h1b hc1
  replace hA':=hA' _ (Kd.reads_of_C hr1)
  rw [show ((1:Int)).toNat=1 from rfl] at hcut hA' hC'
  generalize hl2:l1.drop 1=l2 at hcut hA' hC' H0
  have hdl:l2.length<l1.length:=by rw [← hl2,List.length_drop];omega
  clear hl2
  have HS:=am hA'
  clear hr0 hr1 hq h hA' hi03 hsz3
  go_enter Try.func97,Try.ntmps97
  go_wp2
  go_loop [5,6,13] (fun i5 i6 i13=>∃ (k:Nat) (ex last:Int),i13=.int .i64 k∧i5=.int .i64 ex∧i6=.int .i64 last∧k≤l2.length∧0≤ex∧ex≤(k:Int)∧jq (jQa.go l0 (l2.drop k) ex last=some q)) (fun _ _ i13=>l2.length - (intOf i13).toNat)
  case atStart=>exact ⟨0,0,7,rfl,rfl,rfl,Nat.zero_le _,by omega,by omega,H0⟩
  case round =>
   clear H0
   obtain ⟨k,ex,last,rfl,rfl,rfl,hk,hx0,hx1,HA⟩:=hrel
   by_cases hlt:k<l2.length
   ·have HB:=am (jQa.step hlt HA.out)
    clear HA
    have HC:=HS.out
    obtain ⟨ad,rfl,hx⟩:=Kd.jgb (Kd.C_of_reads (h1:=fun _=>rfl) HC) (k:Int) (by omega) (by omega)
    have hrd:rd l2 (k:Int)=l2[k]:=by simp only [rd,Int.toNat_natCast,List.getD_eq_getElem?_getD,List.getElem?_eq_getElem hlt,Option.getD_some]
    rw [hrd,Int.toNat_natCast] at hx
    clear hrd HC
    have hgo:=HB.out
    generalize l2[k]=x at hgo hx
    simp only [jQa.go] at hgo
    clear HB
    by_cases h0:0≤x
    ·rw [if_pos h0] at hgo
     by_cases h2:x<(l0.length:Int)
     ·rw [if_pos h2] at hgo
      obtain ⟨ad0,rfl,hy0,hy1,hy2,hy3⟩:=jta HR0.out x h0 h2
      generalize hkd:(jc l0 x).f1=kd at hgo hy1
      clear hkd
      have q2:=ezT h2
      have q0:=ezT h0
      clear h0 h2
      by_cases e8:kd=8
      ·subst e8
       rw [if_pos rfl] at hgo
       by_cases hl:last≤8
       ·rw [if_pos hl] at hgo
        have hlb:=dzT hl
        clear hl
        have HG:=am hgo
        clear hgo HZ
        go_wp2
        go_round
        case rel=>exact ⟨k+1,ex+1,_,by go_num,rfl,rfl,hlt,by omega,by omega,HG⟩
        case measure=>simp [intOf];omega
       ·rw [if_neg hl] at hgo
        have hlb:=dzF hl
        clear hl
        obtain rfl:none=q:=by simpa using hgo
        have HR:=am (by simpa using HZ.out:r=false)
        clear hgo HZ
        go_wp2
        go_ret
        exact ⟨by rw [HR.out];rfl,jjb.refl _⟩
      ·rw [if_neg e8] at hgo
       have e8b:(kd == 8)=false:=beq_eq_false_iff_ne.2 e8
       clear e8
       by_cases e9:kd=9
       ·subst e9
        rw [if_pos rfl] at hgo
        by_cases hl:last=8
        ·rw [if_pos hl] at hgo
         have hlb:(last == 8)=true:=beq_iff_eq.2 hl
         clear hl
         have HG:=am hgo
         clear hgo HZ
         go_wp2
         go_round
         case rel=>exact ⟨k+1,ex,_,by go_num,rfl,rfl,hlt,by omega,by omega,HG⟩
         case measure=>simp [intOf];omega
        ·rw [if_neg hl] at hgo
         have hlb:(last == 8)=false:=beq_eq_false_iff_ne.2 hl
         clear hl
         obtain rfl:none=q:=by simpa using hgo
         have HR:=am (by simpa using HZ.out:r=false)
         clear hgo HZ
         go_wp2
         go_ret
         exact ⟨by rw [HR.out];rfl,jjb.refl _⟩
       ·rw [if_neg e9] at hgo
        have e9b:(kd == 9)=false:=beq_eq_false_iff_ne.2 e9
        clear e9
        by_cases e10:kd=10
        ·subst e10
         rw [if_pos rfl] at hgo
         by_cases hl:last<10
         ·rw [if_pos hl] at hgo
          have hlb:=dzT hl
          clear hl
          have HG:=am hgo
          clear hgo HZ
          go_wp2
          go_round
          case rel=>exact ⟨k+1,ex,_,by go_num,rfl,rfl,hlt,by omega,by omega,HG⟩
          case measure=>simp [intOf];omega
         ·rw [if_neg hl] at hgo
          have hlb:=dzF hl
          clear hl
          obtain rfl:none=q:=by simpa using hgo
          have HR:=am (by simpa using HZ.out:r=false)
          clear hgo HZ
          go_wp2
          go_ret
          exact ⟨by rw [HR.out];rfl,jjb.refl _⟩
        ·rw [if_neg e10] at hgo
         have e10b:(kd == 10)=false:=beq_eq_false_iff_ne.2 e10
         clear e10
         obtain rfl:none=q:=by simpa using hgo
         have HR:=am (by simpa using HZ.out:r=false)
         clear hgo HZ
         go_wp2
         go_ret
         exact ⟨by rw [HR.out];rfl,jjb.refl _⟩
     ·rw [if_neg h2] at hgo
      cases hgo
    ·rw [if_neg h0] at hgo
     cases hgo
   ·have hgo:=HA.out
    rw [List.drop_eq_nil_of_le (by omega)] at hgo
    obtain rfl:some ex=q:=by simpa [jQa.go] using hgo
    clear hgo HA
    have HY:=am (Option.some.inj HZ.out)
    clear HZ
    by_cases h1c:1<l1.length
    ·have hb1:=dzT h1c
     go_wp2
     go_ret
     exact ⟨by rw [← HY.out,hb1];rfl,jjb.refl _⟩
    ·have hb1:=dzF h1c
     go_wp2
     go_ret
     exact ⟨by rw [← HY.out,hb1];rfl,jjb.refl _⟩
 ·rw [if_neg h1] at h
  cases h
end Go.Proofs.Ytkokajljeebgdaa.P
end
