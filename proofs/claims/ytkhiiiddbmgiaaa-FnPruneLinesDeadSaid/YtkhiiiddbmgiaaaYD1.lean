/- One part of the proofs on this program: functions of the program as plain functions, that the code comes to them, and facts on them. -/
import Derived.ArgAppend
import Derived.Below
import Derived.BigQuiet
import Derived.Deep.AppendLies
import Derived.Deep.CutBlock
import Derived.Deep.DeepCutAuto
import Derived.Deep.Draws
import Derived.Deep.LoopGhost
import Derived.Deep.OwnRows
import Derived.Deep.QuietTactic
import Derived.Deep.RegionHeld3
import Derived.KernelRfl
import Derived.Laws.BitsLemmas
import Derived.Laws.BytesArg
import Derived.Laws.IdiomCopy
import Derived.Laws.MakeOwn
import Derived.Laws.OwnMore
import Derived.Laws.Rows
import Derived.Laws.Slices
import Derived.Lib.AppendStr
import Derived.Lib.ConvBytes
import Derived.LoopTactic
import Derived.Maps.AppendAt
import Derived.OrdersHeld
import Derived.OwnWalk
import Derived.RowKit
import Derived.RowKit3
import Derived.Tactics
import Derived.WalkKit
import Derived.WideLaws
import Derived.Test.YtkhiiiddbmgiaaaProg
import Derived.Test.YtkhiiiddbmgiaaaYWApart
import Derived.Test.YtkhiiiddbmgiaaaYWAuto
import Derived.Test.YtkhiiiddbmgiaaaYWClip
import Derived.Test.YtkhiiiddbmgiaaaYWEqStruct
import Derived.Test.YtkhiiiddbmgiaaaYWFoot
import Derived.Test.YtkhiiiddbmgiaaaYWGuard
import Derived.Test.YtkhiiiddbmgiaaaYWIdx
import Derived.Test.YtkhiiiddbmgiaaaYWKept
import Derived.Test.YtkhiiiddbmgiaaaYWLast
import Derived.Test.YtkhiiiddbmgiaaaYWMkcap
import Derived.Test.YtkhiiiddbmgiaaaYWMore
import Derived.Test.YtkhiiiddbmgiaaaYWN
import Derived.Test.YtkhiiiddbmgiaaaYWRepsOne
import Derived.Test.YtkhiiiddbmgiaaaYWShare
import Derived.Test.YtkhiiiddbmgiaaaYWSome
import Derived.Test.YtkhiiiddbmgiaaaYWTab
import Derived.Test.YtkhiiiddbmgiaaaYWWords
section
namespace Go.Proofs.Ytkhiiiddbmgiaaa.P
open Go.RowKit Go.Proofs.YtkhiiiddbmgiaaaW.PrintWords Go.Proofs.YtkhiiiddbmgiaaaW.PrintLast Go.Proofs.YtkhiiiddbmgiaaaW.PrintMore
attribute [local go_sem] jea jca jsa jra jR jQ jda jba jg
set_option linter.unusedVariables false
set_option linter.unusedSimpArgs false
def errW : Option Int → Value
 | none=>.nilIface
 | some c=>.iface 0 (.int .i64 c)
theorem jnc : errW none = .nilIface := rfl
theorem jmc (c : Int) : errW (some c) = .iface 0 (.int .i64 c) := rfl
theorem info3 : (Try.prog.info? 3).map (fun i => (i.zero, i.size, i.bytes)) = some (some (.int .i64 0), 1, 8) := by kernel_rfl
theorem info5 : (Try.prog.info? 5).map (fun i => (i.zero, i.size, i.bytes)) = some (some (.int .u8 0), 1, 1) := by kernel_rfl
theorem jac : (Try.prog.info? 52).map (fun i => (i.zero, i.size, i.bytes)) = some (some (.agg #[(.int .i64 0), (.int .i64 0), (.int .i64 0), (.int .i64 0)]), 4, 32) := by kernel_rfl
theorem info78 : (Try.prog.info? 78).map (fun i => (i.zero, i.size, i.bytes)) = some (some (.agg #[(.string ⟨#[]⟩), (.int .i64 0)]), 2, 24) := by kernel_rfl
structure S78 where
 f0:ByteArray
 f1:Int
def z78 : S78 := ⟨(⟨#[]⟩ : ByteArray), (0 : Int)⟩
def k78 : Kd S78 := Kd.iso (Kd.pair Kd.string (Kd.int .i64)) (fun x : S78 => (x.f0, x.f1))
theorem k78_open {w : World} {x : S78} {cs : List Value} (h : k78.K w x cs) : cs = [.string x.f0, .int .i64 x.f1] := by
 obtain ⟨_,_,rfl,rfl,rfl⟩:=h
 exact rfl
theorem k78_openM {w : World} {base : Nat} {ok : Nat → Prop} {x : S78} {cs : List Value} (h : k78.M w base ok x cs) : cs = [.string x.f0, .int .i64 x.f1] := by
 obtain ⟨_,_,rfl,rfl,rfl⟩:=h
 exact rfl
theorem k78_mkM (w : World) (base : Nat) (ok : Nat → Prop) (x : S78)  : k78.M w base ok x [.string x.f0, .int .i64 x.f1] := ⟨[.string x.f0], [.int .i64 x.f1], rfl, rfl, rfl⟩
def jaa (xs : List S78) (i : Int) : S78 := xs.getD i.toNat z78
theorem at_T78 {w : World} {A : Option Addr} {n : Nat} {xs : List S78} (h : Kd.C k78 w A n xs) (i : Int) (h0 : 0 ≤ i) (h1 : i < n) : ∃ ad , A = some ad ∧ w.cell? (ad.add (i.toNat * 2)) = some (.string (jaa xs i).f0) ∧ w.cell? ⟨(ad.add (i.toNat * 2)).block, (ad.add (i.toNat * 2)).off + 1, none⟩ = some (.int .i64 (jaa xs i).f1) := by
 obtain ⟨ad,c,e,_,hK,hc0⟩:=Kd.C_get h z78 i h0 h1
 have hc:∀ j u,c[j]?=some u→w.cell? (ad.add (i.toNat * 2+j))=some u:=hc0
 obtain rfl:=k78_open hK
 exact ⟨ad,e,hc 0 _ rfl,by rw [← add_field _ _ 1 (by omega)];exact hc 1 _ rfl⟩
structure S52 where
 f0:Int
 f1:Int
 f2:Int
 f3:Int
def z52 : S52 := ⟨(0 : Int), (0 : Int), (0 : Int), (0 : Int)⟩
def k52 : Kd S52 := Kd.iso (Kd.pair (Kd.int .i64) (Kd.pair (Kd.int .i64) (Kd.pair (Kd.int .i64) (Kd.int .i64)))) (fun x : S52 => (x.f0, x.f1, x.f2, x.f3))
theorem k52_open {w : World} {x : S52} {cs : List Value} (h : k52.K w x cs) : cs = [.int .i64 x.f0, .int .i64 x.f1, .int .i64 x.f2, .int .i64 x.f3] := by
 obtain ⟨_,_,rfl,rfl,⟨_,_,rfl,rfl,⟨_,_,rfl,rfl,rfl⟩⟩⟩:=h
 exact rfl
theorem jHc {w : World} {base : Nat} {ok : Nat → Prop} {x : S52} {cs : List Value} (h : k52.M w base ok x cs) : cs = [.int .i64 x.f0, .int .i64 x.f1, .int .i64 x.f2, .int .i64 x.f3] := by
 obtain ⟨_,_,rfl,rfl,⟨_,_,rfl,rfl,⟨_,_,rfl,rfl,rfl⟩⟩⟩:=h
 exact rfl
theorem jpb (w : World) (base : Nat) (ok : Nat → Prop) (x : S52)  : k52.M w base ok x [.int .i64 x.f0, .int .i64 x.f1, .int .i64 x.f2, .int .i64 x.f3] := ⟨[.int .i64 x.f0], [.int .i64 x.f1, .int .i64 x.f2, .int .i64 x.f3], rfl, rfl, ⟨[.int .i64 x.f1], [.int .i64 x.f2, .int .i64 x.f3], rfl, rfl, ⟨[.int .i64 x.f2], [.int .i64 x.f3], rfl, rfl, rfl⟩⟩⟩
def jc (xs : List S52) (i : Int) : S52 := xs.getD i.toNat z52
theorem jua {w : World} {A : Option Addr} {n : Nat} {xs : List S52} (h : Kd.C k52 w A n xs) (i : Int) (h0 : 0 ≤ i) (h1 : i < n) : ∃ ad , A = some ad ∧ w.cell? (ad.add (i.toNat * 4)) = some (.int .i64 (jc xs i).f0) ∧ w.cell? ⟨(ad.add (i.toNat * 4)).block, (ad.add (i.toNat * 4)).off + 1, none⟩ = some (.int .i64 (jc xs i).f1) ∧ w.cell? ⟨(ad.add (i.toNat * 4)).block, (ad.add (i.toNat * 4)).off + 2, none⟩ = some (.int .i64 (jc xs i).f2) ∧ w.cell? ⟨(ad.add (i.toNat * 4)).block, (ad.add (i.toNat * 4)).off + 3, none⟩ = some (.int .i64 (jc xs i).f3) := by
 obtain ⟨ad,c,e,_,hK,hc0⟩:=Kd.C_get h z52 i h0 h1
 have hc:∀ j u,c[j]?=some u→w.cell? (ad.add (i.toNat * 4+j))=some u:=hc0
 obtain rfl:=k52_open hK
 exact ⟨ad,e,hc 0 _ rfl,by rw [← add_field _ _ 1 (by omega)];exact hc 1 _ rfl,by rw [← add_field _ _ 2 (by omega)];exact hc 2 _ rfl,by rw [← add_field _ _ 3 (by omega)];exact hc 3 _ rfl⟩
def joa.l0 : Nat → List (S52) → Int → Int → Option (Int)
 | 0,_,_,_=>none
 | k+1,x0,x1,x5=>if x5<(x0.length:Int) then (if 0≤x5 then (if 0≤x1 then (if x1<(x0.length:Int) then (if ((jc x0 x5).f0) > ((jc x0 x1).f0) then (joa.l0 k x0 x1 (wrap64 (x5+1))) else (some x5)) else (none)) else (none)) else (none)) else (some x5)
def joa.f (k : Nat) (l0 : List (S52)) (a1 : Int) : Option (Int) := joa.l0 k l0 a1 (wrap64 (a1 + 1))
set_option maxHeartbeats 8000000 in
set_option maxRecDepth 100000 in
theorem joa.calls (k : Nat) (A0 : Option Addr) (c0 : Nat) (l0 : List (S52)) (a1 : Int) (r : Int) (w : World) (hr0 : Kd.C k52 w A0 l0.length l0) (hc0 : l0.length ≤ c0) (h : joa.f k l0 a1 = some r) :
  Calls Try.prog 31 #[.slice A0 l0.length c0, .int .i64 a1] w fun e w'=>e=.returned (.int .i64 r)∧jXa w w':=by
 have HR0:=am hr0
 have HC0:=am hc0
 clear hr0 hc0
 have H:(joa.l0 k l0 a1 (wrap64 (a1+1)))=some r:=h
 clear h
 have H':=am H
 clear H
 go_enter Try.func31,Try.ntmps31
 go_wp2
 repeat (go_quiet (fail);try go_wp2)
 go_loopg [5] k (fun kq v5 w'=>∃ (x5_1:Int),v5=.int .i64 x5_1∧jl (joa.l0 kq l0 a1 x5_1=some r)∧jl (kq≤k)∧jXa w w')
 case atStart=>exact ⟨(wrap64 (a1+1)),(sq),H',⟨Nat.le_refl _⟩,Y3⟩
 case round =>
  clear H'
  try clear p2
  obtain ⟨x5_1,rfl,HA,HK1,⟨m1,rfl⟩⟩:=hrel
  cases gk with
  | zero=>exact absurd HA.out (by simp [joa.l0])
  | succ k1 =>
   have H:=HA.out
   clear HA
   simp only [joa.l0] at H
   by_cases c3:x5_1<(l0.length:Int)
   ·rw [if_pos c3] at H
    have c3b0:decide (x5_1<(l0.length:Int))=true:=dzT c3
    clear c3
    by_cases c4:0≤x5_1
    ·rw [if_pos c4] at H
     have c4b0:decide (0≤x5_1)=true:=dzT c4
     clear c4
     by_cases c5:0≤a1
     ·rw [if_pos c5] at H
      have c5b0:decide (0≤a1)=true:=dzT c5
      clear c5
      by_cases c6:a1<(l0.length:Int)
      ·rw [if_pos c6] at H
       have c6b0:decide (a1<(l0.length:Int))=true:=dzT c6
       clear c6
       by_cases c7:((jc l0 x5_1).f0) > ((jc l0 a1).f0)
       ·rw [if_pos c7] at H
        have c7b0:decide (((jc l0 a1).f0)<((jc l0 x5_1).f0))=true:=dzT c7
        clear c7
        have H':=am H
        clear H
        have p120:0≤(x5_1:Int):=ozD (uq)
        have q120:x5_1<(l0.length:Int):=ozD (uq)
        obtain ⟨ad120,e120,hx120_0,hx120_1,hx120_2,hx120_3⟩:=jua HR0.out x5_1 p120 q120
        cases e120
        replace p120:=ezT p120
        replace q120:=ezT q120
        have p121:0≤(a1:Int):=ozD (uq)
        have q121:a1<(l0.length:Int):=ozD (uq)
        obtain ⟨ad121,e121,hx121_0,hx121_1,hx121_2,hx121_3⟩:=jua HR0.out a1 p121 q121
        obtain rfl:ad120=ad121:=(by injection e121)
        replace p121:=ezT p121
        replace q121:=ezT q121
        go_wp2
        repeat (go_quiet (fail);try go_wp2)
        go_roundg k1
        case measure=>have:=HK1.out;omega
        case rel=>exact ⟨(wrap64 (x5_1+1)),(sq),H',⟨by have:=HK1.out;omega⟩,Y3⟩
       ·rw [if_neg c7] at H
        have c7b0:decide (((jc l0 a1).f0)<((jc l0 x5_1).f0))=false:=dzF c7
        clear c7
        obtain rfl:=Option.some.inj H
        have p120:0≤(x5_1:Int):=ozD (uq)
        have q120:x5_1<(l0.length:Int):=ozD (uq)
        obtain ⟨ad120,e120,hx120_0,hx120_1,hx120_2,hx120_3⟩:=jua HR0.out x5_1 p120 q120
        cases e120
        replace p120:=ezT p120
        replace q120:=ezT q120
        have p121:0≤(a1:Int):=ozD (uq)
        have q121:a1<(l0.length:Int):=ozD (uq)
        obtain ⟨ad121,e121,hx121_0,hx121_1,hx121_2,hx121_3⟩:=jua HR0.out a1 p121 q121
        obtain rfl:ad120=ad121:=(by injection e121)
        replace p121:=ezT p121
        replace q121:=ezT q121
        go_wp2
        repeat (go_quiet (fail);try go_wp2)
        go_ret
        exact ⟨sq,Y3⟩
      ·rw [if_neg c6] at H
       exact absurd H (by simp)
     ·rw [if_neg c5] at H
      exact absurd H (by simp)
    ·rw [if_neg c4] at H
     exact absurd H (by simp)
   ·rw [if_neg c3] at H
    have c3b0:decide (x5_1<(l0.length:Int))=false:=dzF c3
    clear c3
    obtain rfl:=Option.some.inj H
    go_wp2
    repeat (go_quiet (fail);try go_wp2)
    go_ret
    exact ⟨sq,Y3⟩
def jH.f (a0 : Int) (a1 : Int) (a2 : Int) : Option (Bool) := if a1 ≤ a0 then (some (decide (a0 ≤ a2))) else (some false)
set_option maxHeartbeats 8000000 in
set_option maxRecDepth 100000 in
theorem jH.calls (a0 : Int) (a1 : Int) (a2 : Int) (r : Bool) (w : World) (h : jH.f a0 a1 a2 = some r) :
  Calls Try.prog 85 #[.int .i64 a0, .int .i64 a1, .int .i64 a2] w fun e w'=>e=.returned (.bool r)∧jXa w w':=by
 have H:(if a1≤a0 then (some (decide (a0≤a2))) else (some false))=some r:=h
 clear h
 by_cases c4:a1≤a0
 ·rw [if_pos c4] at H
  have c4b0:decide (a1≤a0)=true:=dzT c4
  clear c4
  obtain rfl:=Option.some.inj H
  go_enter Try.func85,Try.ntmps85
  go_wp2
  go_ret
  exact ⟨sq,Y3⟩
 ·rw [if_neg c4] at H
  have c4b0:decide (a1≤a0)=false:=dzF c4
  clear c4
  obtain rfl:=Option.some.inj H
  go_enter Try.func85,Try.ntmps85
  go_wp2
  go_ret
  exact ⟨sq,Y3⟩
def jdb.f (l0_0 : List (S78)) (a1 : Int) : Option (Bool) := (jH.f a1 0 (wrap64 ((l0_0.length : Int) - 1))).bind fun t107 => (some t107)
set_option maxHeartbeats 8000000 in
set_option maxRecDepth 100000 in
theorem jdb.calls (A0_0 : Option Addr) (c0_0 : Nat) (l0_0 : List (S78)) (a1 : Int) (r : Bool) (w : World) (hr0_0 : Kd.C k78 w A0_0 l0_0.length l0_0) (hc0_0 : l0_0.length ≤ c0_0) (h : jdb.f l0_0 a1 = some r) :
  Calls Try.prog 103 #[.agg #[.slice A0_0 l0_0.length c0_0], .int .i64 a1] w fun e w'=>e=.returned (.bool r)∧Below w.heap.size w w':=by
 have hu32:=Try.underlying32
 have HR0_0:=am hr0_0
 have HC0_0:=am hc0_0
 clear hr0_0 hc0_0
 have HB:=am (Below.refl w.heap.size w)
 have H:((jH.f a1 0 (wrap64 ((l0_0.length:Int) - 1))).bind fun t107=>(some t107))=some r:=h
 clear h
 replace H:=bzS H
 obtain ⟨t107,A30,H⟩:=H
 replace H:(some t107)=some r:=H
 have A3:=am A30
 clear A30
 obtain rfl:=Option.some.inj H
 go_enter Try.func103,Try.ntmps103
 go_wp2_with (first |((with_reducible refine jP (N:=2) rfl ?_);refine bE (N:=2) (cs:=#[.slice A0_0 l0_0.length c0_0]) (t:=32) ?_;intro gb106 hg w4 hbox hb;have BK106:=am (hbox);have GW106:=am ((Y11:w.heap.size≤gb106));have GE106:=am ((Y11:w.heap.size≤gb106));replace HB:=am (ji (bq) hb);clear hb hbox hg;have hcz5_0:=bc0 BK106.out;have hfz5_0:=ja BK106.out 0) |((with_reducible refine jd (f:=85) rfl ?_);refine gL (some 10) Try.func85 #[.int .i64 a1, .int .i64 0, .int .i64 (wrap64 ((l0_0.length:Int) - 1))] ?_;(with_reducible refine (jH.calls a1 0 (wrap64 ((l0_0.length:Int) - 1)) t107 _ A3.out).mono ?_);rintro e w' ⟨rfl,⟨nd,rfl⟩⟩;refine ⟨_,rfl,?_⟩))
 go_ret
 exact ⟨Y0,by repeat (first |(with_reducible first | exact HB.out | apply jN | apply jm | apply jO | refine jS ?_ GE106.out) | exact HB.out)⟩
def jxa.j0 : Nat → Int → Bool → List (S78) → Int → Int → Int → Int → Option (Bool)
 | 0,_,_,_,_,_,_,_=>none
 | k+1,x6,x7,x109000,x110000,x110001,x110002,x110003=>if x7=true then ((jH.f x110002 0 99).bind fun t110=>(if t110=true then (some (x110003 == 0)) else (some false))) else (if x6=2 then ((jdb.f x109000 x110002).bind fun t111=>(if t111=true then ((jH.f x110003 0 99).bind fun t112=>(some t112)) else (some false))) else (if x6=8 then ((jdb.f x109000 x110002).bind fun t113=>(if t113=true then (some (x110003 == 0)) else (some false))) else (if x6=11 then ((jH.f x110002 0 9).bind fun t114=>(if t114=true then ((jH.f x110003 0 1).bind fun t115=>(some t115)) else (some false))) else (if x6=12 then ((jH.f x110002 0 3).bind fun t116=>(if t116=true then (some (x110003 == 0)) else (some false))) else ((jH.f x110001 0 10).bind fun t117=>(if t117=true then (if x110002=0 then (some (x110003 == 0)) else (some false)) else (some false)))))))
def jxa.f (k : Nat) (l0_0 : List (S78)) (a1_0 : Int) (a1_1 : Int) (a1_2 : Int) (a1_3 : Int) : Option (Bool) := if a1_1 = 1 then (jxa.j0 k a1_1 (a1_1 == 1) l0_0 a1_0 a1_1 a1_2 a1_3) else (jxa.j0 k a1_1 (a1_1 == 4) l0_0 a1_0 a1_1 a1_2 a1_3)
set_option maxHeartbeats 8000000 in
set_option maxRecDepth 100000 in
theorem jxa.calls (k : Nat) (A0_0 : Option Addr) (c0_0 : Nat) (l0_0 : List (S78)) (a1_0 : Int) (a1_1 : Int) (a1_2 : Int) (a1_3 : Int) (r : Bool) (w : World) (hr0_0 : Kd.C k78 w A0_0 l0_0.length l0_0) (hc0_0 : l0_0.length ≤ c0_0) (h : jxa.f k l0_0 a1_0 a1_1 a1_2 a1_3 = some r) :
  Calls Try.prog 84 #[.agg #[.slice A0_0 l0_0.length c0_0], .agg #[.int .i64 a1_0, .int .i64 a1_1, .int .i64 a1_2, .int .i64 a1_3]] w fun e w'=>e=.returned (.bool r)∧Below w.heap.size w w':=by
 have hu32:=Try.underlying32
 have hu52:=Try.underlying52
 have HR0_0:=am hr0_0
 have HC0_0:=am hc0_0
 clear hr0_0 hc0_0
 have HB:=am (Below.refl w.heap.size w)
 have H:(if a1_1=1 then (jxa.j0 k a1_1 (a1_1 == 1) l0_0 a1_0 a1_1 a1_2 a1_3) else (jxa.j0 k a1_1 (a1_1 == 4) l0_0 a1_0 a1_1 a1_2 a1_3))=some r:=h
 clear h
 have HC3:=am H
 clear H
 go_enter Try.func84,Try.ntmps84
 go_upto_if 7 with (first |((with_reducible refine jP (N:=2) rfl ?_);refine bE (N:=2) (cs:=#[.slice A0_0 l0_0.length c0_0]) (t:=32) ?_;intro gb108 hg w4 hbox hb;have BK108:=am (hbox);have GW108:=am ((Y11:w.heap.size≤gb108));have GE108:=am ((Y11:w.heap.size≤gb108));replace HB:=am (ji (bq) hb);clear hb hbox hg) |((with_reducible refine jP (N:=3) rfl ?_);refine bE (N:=3) (cs:=#[.int .i64 a1_0, .int .i64 a1_1, .int .i64 a1_2, .int .i64 a1_3]) (t:=52) ?_;intro gb109 hg w5 hbox hb;have BK109:=am (hbox);have GW109:=am ((Y88:w.heap.size≤gb109));have GE109:=am ((Y88:w.heap.size≤gb109));have NB108_109:=am ((by rw [hg];exact Nat.ne_of_lt (jEb (g:=gb108) (o:=.cells #[.slice A0_0 l0_0.length c0_0] 32 (0,0)) (kq BK108.out)):gb108≠gb109));have NB109_108:=am ((by rw [hg];exact Nat.ne_of_gt (jEb (g:=gb108) (o:=.cells #[.slice A0_0 l0_0.length c0_0] 32 (0,0)) (kq BK108.out)):gb109≠gb108));replace BK108:=am (jr (g:=gb108) (o:=.cells #[.slice A0_0 l0_0.length c0_0] 32 (0,0)) (kq BK108.out) hb);replace HB:=am (ji (by repeat (first |(with_reducible first | exact HB.out | apply jN | apply jm | apply jO | refine jS ?_ GE108.out) | exact HB.out)) hb);clear hb hbox hg;have hnb6:=NB109_108.out;have hnc6:=NB108_109.out;have hcz7_0:=bc0 BK109.out;have hcz7_1:=bc1 BK109.out;have hcz7_2:=bc2 BK109.out;have hcz7_3:=bc3 BK109.out;have hfz7_0:=ja BK109.out 0;have hfz7_1:=ja BK109.out 1;have hfz7_2:=ja BK109.out 2;have hfz7_3:=ja BK109.out 3))
 (try simp only [Act.put,List.setIfInBounds_toArray,List.set_cons_zero,List.set_cons_succ])
 go_cut [7] (fun v7 wc=>∃ (kq:Nat) (x7_2:Bool),v7=.bool x7_2∧jl (jxa.j0 kq a1_1 x7_2 l0_0 a1_0 a1_1 a1_2 a1_3=some r)∧jl (kq≤k)∧jl (wc.heap[gb108]?=some (.cells #[(.slice A0_0 l0_0.length c0_0)] 32 (0,0)))∧jl (wc.heap[gb109]?=some (.cells #[.int .i64 a1_0, .int .i64 a1_1, .int .i64 a1_2, .int .i64 a1_3] 52 (0,0)))∧jl (Below w.heap.size w wc))
 case first =>
  have H:=HC3.out
  clear HC3
  by_cases c8:a1_1=1
  ·rw [if_pos c8] at H
   have c8b0:(a1_1 == 1)=true:=beq_iff_eq.mpr c8
   have c8b1:(a1_1 != 1)=false:=bne_eq_false_iff_eq.mpr c8
   clear c8
   (first | rw [c8b0] |(simp only [jkb,jnb];rw [c8b0]) | skip)
   have H':=am H
   clear H
   go_wp2
   go_meet
   case rel=>exact ⟨_,((a1_1 == 1)),(sq),H',⟨Y42⟩,⟨kq BK108.out⟩,⟨kq BK109.out⟩,⟨Y20⟩⟩
  ·rw [if_neg c8] at H
   have c8b0:(a1_1 == 1)=false:=beq_eq_false_iff_ne.mpr c8
   have c8b1:(a1_1 != 1)=true:=bne_iff_ne.mpr c8
   (first | rw [c8b0] |(simp only [jkb,jnb];rw [c8b0]) | skip)
   have H':=am H
   clear H
   go_wp2
   go_meet
   case rel=>exact ⟨_,((a1_1 == 4)),(sq),H',⟨Y42⟩,⟨kq BK108.out⟩,⟨kq BK109.out⟩,⟨Y20⟩⟩
 case rest =>
  clear HC3
  try clear p2
  try clear c6
  try clear c8
  try clear c8b0
  try clear c8b1
  try clear hcz7_0
  try clear hcz7_1
  try clear hcz7_2
  try clear hcz7_3
  try clear hfz7_0
  try clear hfz7_1
  try clear hfz7_2
  try clear hfz7_3
  obtain ⟨kq,x7_2,rfl,HA,HJ2,BK108,BK109,HB⟩:=hcut
  cases kq with
  | zero=>exact absurd HA.out (by simp [jxa.j0])
  | succ kj2 =>
   have H:=HA.out
   clear HA
   simp only [jxa.j0] at H
   by_cases c9:x7_2=true
   ·subst c9
    have H1:((jH.f a1_2 0 99).bind fun t110=>(if t110=true then (some (a1_3 == 0)) else (some false)))=some r:=by rw [if_pos rfl] at H;exact H
    clear H
    have H:=H1
    clear H1
    replace H:=bzS H
    obtain ⟨t110,A100,H⟩:=H
    replace H:(if t110=true then (some (a1_3 == 0)) else (some false))=some r:=H
    have A10:=am A100
    clear A100
    by_cases c11:t110=true
    ·subst c11
     have H1:(some (a1_3 == 0))=some r:=by rw [if_pos rfl] at H;exact H
     clear H
     have H:=H1
     clear H1
     obtain rfl:=Option.some.inj H
     have hnb12:=NB109_108.out
     have hnc12:=NB108_109.out
     have hcz13_0:=bc0 BK109.out
     have hcz13_1:=bc1 BK109.out
     have hcz13_2:=bc2 BK109.out
     have hcz13_3:=bc3 BK109.out
     have hfz13_0:=ja BK109.out 0
     have hfz13_1:=ja BK109.out 1
     have hfz13_2:=ja BK109.out 2
     have hfz13_3:=ja BK109.out 3
     go_wp2_with (first |((with_reducible refine jd (f:=85) rfl ?_);refine gL (some 12) Try.func85 #[.int .i64 a1_2, .int .i64 0, .int .i64 99] ?_;(with_reducible refine (jH.calls a1_2 0 99 true _ A10.out).mono ?_);rintro e w' ⟨rfl,⟨nd,rfl⟩⟩;refine ⟨_,rfl,?_⟩))
     go_ret
     exact ⟨Y0,Y20⟩
    ·replace c11:=Bool.eq_false_iff.mpr c11
     subst c11
     have H1:(some false)=some r:=by rw [if_neg (show ¬ (false=true) by decide)] at H;exact H
     clear H
     have H:=H1
     clear H1
     obtain rfl:=Option.some.inj H
     have hnb14:=NB109_108.out
     have hnc14:=NB108_109.out
     have hcz15_0:=bc0 BK109.out
     have hcz15_1:=bc1 BK109.out
     have hcz15_2:=bc2 BK109.out
     have hcz15_3:=bc3 BK109.out
     have hfz15_0:=ja BK109.out 0
     have hfz15_1:=ja BK109.out 1
     have hfz15_2:=ja BK109.out 2
     have hfz15_3:=ja BK109.out 3
     go_wp2_with (first |((with_reducible refine jd (f:=85) rfl ?_);refine gL (some 12) Try.func85 #[.int .i64 a1_2, .int .i64 0, .int .i64 99] ?_;(with_reducible refine (jH.calls a1_2 0 99 false _ A10.out).mono ?_);rintro e w' ⟨rfl,⟨nd,rfl⟩⟩;refine ⟨_,rfl,?_⟩))
     go_ret
     exact ⟨Y0,Y20⟩
   ·replace c9:=Bool.eq_false_iff.mpr c9
    subst c9
    have H1:(if a1_1=2 then ((jdb.f l0_0 a1_2).bind fun t111=>(if t111=true then ((jH.f a1_3 0 99).bind fun t112=>(some t112)) else (some false))) else (if a1_1=8 then ((jdb.f l0_0 a1_2).bind fun t113=>(if t113=true then (some (a1_3 == 0)) else (some false))) else (if a1_1=11 then ((jH.f a1_2 0 9).bind fun t114=>(if t114=true then ((jH.f a1_3 0 1).bind fun t115=>(some t115)) else (some false))) else (if a1_1=12 then ((jH.f a1_2 0 3).bind fun t116=>(if t116=true then (some (a1_3 == 0)) else (some false))) else ((jH.f a1_1 0 10).bind fun t117=>(if t117=true then (if a1_2=0 then (some (a1_3 == 0)) else (some false)) else (some false)))))))=some r:=by rw [if_neg (show ¬ (false=true) by decide)] at H;exact H
    clear H
    have H:=H1
    clear H1
    by_cases c16:a1_1=2
    ·rw [if_pos c16] at H
     have c16b0:(a1_1 == 2)=true:=beq_iff_eq.mpr c16
     have c16b1:(a1_1 != 2)=false:=bne_eq_false_iff_eq.mpr c16
     clear c16
     replace H:=bzS H
     obtain ⟨t111,A170,H⟩:=H
     replace H:(if t111=true then ((jH.f a1_3 0 99).bind fun t112=>(some t112)) else (some false))=some r:=H
     have A17:=am A170
     clear A170
     by_cases c18:t111=true
     ·subst c18
      have H1:((jH.f a1_3 0 99).bind fun t112=>(some t112))=some r:=by rw [if_pos rfl] at H;exact H
      clear H
      have H:=H1
      clear H1
      replace H:=bzS H
      obtain ⟨t112,A190,H⟩:=H
      replace H:(some t112)=some r:=H
      have A19:=am A190
      clear A190
      obtain rfl:=Option.some.inj H
      have hnb20:=NB108_109.out
      have hnc20:=NB109_108.out
      have hcz21_0:=bc0 BK108.out
      have hfz21_0:=ja BK108.out 0
      have hcz22_0:=bc0 BK109.out
      have hcz22_1:=bc1 BK109.out
      have hcz22_2:=bc2 BK109.out
      have hcz22_3:=bc3 BK109.out
      have hfz22_0:=ja BK109.out 0
      have hfz22_1:=ja BK109.out 1
      have hfz22_2:=ja BK109.out 2
      have hfz22_3:=ja BK109.out 3
      go_wp2_with (first |((with_reducible refine jd (f:=103) rfl ?_);refine gL (some 23) Try.func103 #[.agg #[.slice A0_0 l0_0.length c0_0], .int .i64 a1_2] ?_;(with_reducible refine (jdb.calls _ _ l0_0 a1_2 true _ ?side1 ?side2 A17.out).mono ?_);(case side1=>exact cq (Kd.jZ HR0_0.out HB.out));(case side2=>exact HC0_0.out);rintro e w23 ⟨rfl,hb⟩;refine ⟨_,rfl,?_⟩;replace BK108:=am (jr (g:=gb108) (o:=.cells #[.slice A0_0 l0_0.length c0_0] 32 (0,0)) (kq BK108.out) hb);replace BK109:=am (jr (g:=gb109) (o:=.cells #[.int .i64 a1_0, .int .i64 a1_1, .int .i64 a1_2, .int .i64 a1_3] 52 (0,0)) (kq BK109.out) hb);replace HB:=am (ji (Y20) hb);(try clear hb);(try clear hb2);(try clear hk);(try clear hi);have hcz24_0:=bc0 BK109.out;have hcz24_1:=bc1 BK109.out;have hcz24_2:=bc2 BK109.out;have hcz24_3:=bc3 BK109.out;have hfz24_0:=ja BK109.out 0;have hfz24_1:=ja BK109.out 1;have hfz24_2:=ja BK109.out 2;have hfz24_3:=ja BK109.out 3) |(go_at_call 85;(with_reducible refine (jH.calls a1_3 0 99 t112 _ A19.out).mono ?_);rintro e w' ⟨rfl,⟨nd,rfl⟩⟩))
      go_ret
      exact ⟨Y0,Y20⟩
     ·replace c18:=Bool.eq_false_iff.mpr c18
      subst c18
      have H1:(some false)=some r:=by rw [if_neg (show ¬ (false=true) by decide)] at H;exact H
      clear H
      have H:=H1
      clear H1
      obtain rfl:=Option.some.inj H
      have hnb25:=NB108_109.out
      have hnc25:=NB109_108.out
      have hcz26_0:=bc0 BK108.out
      have hfz26_0:=ja BK108.out 0
      have hcz27_0:=bc0 BK109.out
      have hcz27_1:=bc1 BK109.out
      have hcz27_2:=bc2 BK109.out
      have hcz27_3:=bc3 BK109.out
      have hfz27_0:=ja BK109.out 0
      have hfz27_1:=ja BK109.out 1
      have hfz27_2:=ja BK109.out 2
      have hfz27_3:=ja BK109.out 3
      go_wp2_with (first |((with_reducible refine jd (f:=103) rfl ?_);refine gL (some 23) Try.func103 #[.agg #[.slice A0_0 l0_0.length c0_0], .int .i64 a1_2] ?_;(with_reducible refine (jdb.calls _ _ l0_0 a1_2 false _ ?side1 ?side2 A17.out).mono ?_);(case side1=>exact cq (Kd.jZ HR0_0.out HB.out));(case side2=>exact HC0_0.out);rintro e w28 ⟨rfl,hb⟩;refine ⟨_,rfl,?_⟩;replace BK108:=am (jr (g:=gb108) (o:=.cells #[.slice A0_0 l0_0.length c0_0] 32 (0,0)) (kq BK108.out) hb);replace BK109:=am (jr (g:=gb109) (o:=.cells #[.int .i64 a1_0, .int .i64 a1_1, .int .i64 a1_2, .int .i64 a1_3] 52 (0,0)) (kq BK109.out) hb);replace HB:=am (ji (Y20) hb);(try clear hb);(try clear hb2);(try clear hk);(try clear hi)))
      go_ret
      exact ⟨Y0,Y20⟩
    ·rw [if_neg c16] at H
     have c16b0:(a1_1 == 2)=false:=beq_eq_false_iff_ne.mpr c16
     have c16b1:(a1_1 != 2)=true:=bne_iff_ne.mpr c16
     by_cases c29:a1_1=8
     ·rw [if_pos c29] at H
      have c29b0:(a1_1 == 8)=true:=beq_iff_eq.mpr c29
      have c29b1:(a1_1 != 8)=false:=bne_eq_false_iff_eq.mpr c29
      clear c29
      replace H:=bzS H
      obtain ⟨t113,A300,H⟩:=H
      replace H:(if t113=true then (some (a1_3 == 0)) else (some false))=some r:=H
      have A30:=am A300
      clear A300
      by_cases c31:t113=true
      ·subst c31
       have H1:(some (a1_3 == 0))=some r:=by rw [if_pos rfl] at H;exact H
       clear H
       have H:=H1
       clear H1
       obtain rfl:=Option.some.inj H
       have hnb32:=NB108_109.out
       have hnc32:=NB109_108.out
       have hcz33_0:=bc0 BK108.out
       have hfz33_0:=ja BK108.out 0
       have hcz34_0:=bc0 BK109.out
       have hcz34_1:=bc1 BK109.out
       have hcz34_2:=bc2 BK109.out
       have hcz34_3:=bc3 BK109.out
       have hfz34_0:=ja BK109.out 0
       have hfz34_1:=ja BK109.out 1
       have hfz34_2:=ja BK109.out 2
       have hfz34_3:=ja BK109.out 3
       go_wp2_with (first |((with_reducible refine jd (f:=103) rfl ?_);refine gL (some 34) Try.func103 #[.agg #[.slice A0_0 l0_0.length c0_0], .int .i64 a1_2] ?_;(with_reducible refine (jdb.calls _ _ l0_0 a1_2 true _ ?side1 ?side2 A30.out).mono ?_);(case side1=>exact cq (Kd.jZ HR0_0.out HB.out));(case side2=>exact HC0_0.out);rintro e w35 ⟨rfl,hb⟩;refine ⟨_,rfl,?_⟩;replace BK108:=am (jr (g:=gb108) (o:=.cells #[.slice A0_0 l0_0.length c0_0] 32 (0,0)) (kq BK108.out) hb);replace BK109:=am (jr (g:=gb109) (o:=.cells #[.int .i64 a1_0, .int .i64 a1_1, .int .i64 a1_2, .int .i64 a1_3] 52 (0,0)) (kq BK109.out) hb);replace HB:=am (ji (Y20) hb);(try clear hb);(try clear hb2);(try clear hk);(try clear hi);have hcz36_0:=bc0 BK109.out;have hcz36_1:=bc1 BK109.out;have hcz36_2:=bc2 BK109.out;have hcz36_3:=bc3 BK109.out;have hfz36_0:=ja BK109.out 0;have hfz36_1:=ja BK109.out 1;have hfz36_2:=ja BK109.out 2;have hfz36_3:=ja BK109.out 3))
       go_ret
       exact ⟨Y0,Y20⟩
      ·replace c31:=Bool.eq_false_iff.mpr c31
       subst c31
       have H1:(some false)=some r:=by rw [if_neg (show ¬ (false=true) by decide)] at H;exact H
       clear H
       have H:=H1
       clear H1
       obtain rfl:=Option.some.inj H
       have hnb37:=NB108_109.out
       have hnc37:=NB109_108.out
       have hcz38_0:=bc0 BK108.out
       have hfz38_0:=ja BK108.out 0
       have hcz39_0:=bc0 BK109.out
       have hcz39_1:=bc1 BK109.out
       have hcz39_2:=bc2 BK109.out
       have hcz39_3:=bc3 BK109.out
       have hfz39_0:=ja BK109.out 0
       have hfz39_1:=ja BK109.out 1
       have hfz39_2:=ja BK109.out 2
       have hfz39_3:=ja BK109.out 3
       go_wp2_with (first |((with_reducible refine jd (f:=103) rfl ?_);refine gL (some 34) Try.func103 #[.agg #[.slice A0_0 l0_0.length c0_0], .int .i64 a1_2] ?_;(with_reducible refine (jdb.calls _ _ l0_0 a1_2 false _ ?side1 ?side2 A30.out).mono ?_);(case side1=>exact cq (Kd.jZ HR0_0.out HB.out));(case side2=>exact HC0_0.out);rintro e w40 ⟨rfl,hb⟩;refine ⟨_,rfl,?_⟩;replace BK108:=am (jr (g:=gb108) (o:=.cells #[.slice A0_0 l0_0.length c0_0] 32 (0,0)) (kq BK108.out) hb);replace BK109:=am (jr (g:=gb109) (o:=.cells #[.int .i64 a1_0, .int .i64 a1_1, .int .i64 a1_2, .int .i64 a1_3] 52 (0,0)) (kq BK109.out) hb);replace HB:=am (ji (Y20) hb);(try clear hb);(try clear hb2);(try clear hk);(try clear hi)))
       go_ret
       exact ⟨Y0,Y20⟩
     ·rw [if_neg c29] at H
      have c29b0:(a1_1 == 8)=false:=beq_eq_false_iff_ne.mpr c29
      have c29b1:(a1_1 != 8)=true:=bne_iff_ne.mpr c29
      by_cases c41:a1_1=11
      ·rw [if_pos c41] at H
       have c41b0:(a1_1 == 11)=true:=beq_iff_eq.mpr c41
       have c41b1:(a1_1 != 11)=false:=bne_eq_false_iff_eq.mpr c41
       clear c41
       replace H:=bzS H
       obtain ⟨t114,A420,H⟩:=H
       replace H:(if t114=true then ((jH.f a1_3 0 1).bind fun t115=>(some t115)) else (some false))=some r:=H
       have A42:=am A420
       clear A420
       by_cases c43:t114=true
       ·subst c43
        have H1:((jH.f a1_3 0 1).bind fun t115=>(some t115))=some r:=by rw [if_pos rfl] at H;exact H
        clear H
        have H:=H1
        clear H1
        replace H:=bzS H
        obtain ⟨t115,A440,H⟩:=H
        replace H:(some t115)=some r:=H
        have A44:=am A440
        clear A440
        obtain rfl:=Option.some.inj H
        have hnb45:=NB109_108.out
        have hnc45:=NB108_109.out
        have hcz46_0:=bc0 BK109.out
        have hcz46_1:=bc1 BK109.out
        have hcz46_2:=bc2 BK109.out
        have hcz46_3:=bc3 BK109.out
        have hfz46_0:=ja BK109.out 0
        have hfz46_1:=ja BK109.out 1
        have hfz46_2:=ja BK109.out 2
        have hfz46_3:=ja BK109.out 3
        go_wp2_with (first |((with_reducible refine jd (f:=85) rfl ?_);refine gL (some 44) Try.func85 #[.int .i64 a1_2, .int .i64 0, .int .i64 9] ?_;(with_reducible refine (jH.calls a1_2 0 9 true _ A42.out).mono ?_);rintro e w' ⟨rfl,⟨nd,rfl⟩⟩;refine ⟨_,rfl,?_⟩) |(go_at_call 85;(with_reducible refine (jH.calls a1_3 0 1 t115 _ A44.out).mono ?_);rintro e w' ⟨rfl,⟨nd,rfl⟩⟩))
        go_ret
        exact ⟨Y0,Y20⟩
       ·replace c43:=Bool.eq_false_iff.mpr c43
        subst c43
        have H1:(some false)=some r:=by rw [if_neg (show ¬ (false=true) by decide)] at H;exact H
        clear H
        have H:=H1
        clear H1
        obtain rfl:=Option.some.inj H
        have hnb47:=NB109_108.out
        have hnc47:=NB108_109.out
        have hcz48_0:=bc0 BK109.out
        have hcz48_1:=bc1 BK109.out
        have hcz48_2:=bc2 BK109.out
        have hcz48_3:=bc3 BK109.out
        have hfz48_0:=ja BK109.out 0
        have hfz48_1:=ja BK109.out 1
        have hfz48_2:=ja BK109.out 2
        have hfz48_3:=ja BK109.out 3
        go_wp2_with (first |((with_reducible refine jd (f:=85) rfl ?_);refine gL (some 44) Try.func85 #[.int .i64 a1_2, .int .i64 0, .int .i64 9] ?_;(with_reducible refine (jH.calls a1_2 0 9 false _ A42.out).mono ?_);rintro e w' ⟨rfl,⟨nd,rfl⟩⟩;refine ⟨_,rfl,?_⟩))
        go_ret
        exact ⟨Y0,Y20⟩
      ·rw [if_neg c41] at H
       have c41b0:(a1_1 == 11)=false:=beq_eq_false_iff_ne.mpr c41
       have c41b1:(a1_1 != 11)=true:=bne_iff_ne.mpr c41
       by_cases c49:a1_1=12
       ·rw [if_pos c49] at H
        have c49b0:(a1_1 == 12)=true:=beq_iff_eq.mpr c49
        have c49b1:(a1_1 != 12)=false:=bne_eq_false_iff_eq.mpr c49
        clear c49
        replace H:=bzS H
        obtain ⟨t116,A500,H⟩:=H
        replace H:(if t116=true then (some (a1_3 == 0)) else (some false))=some r:=H
        have A50:=am A500
        clear A500
        by_cases c51:t116=true
        ·subst c51
         have H1:(some (a1_3 == 0))=some r:=by rw [if_pos rfl] at H;exact H
         clear H
         have H:=H1
         clear H1
         obtain rfl:=Option.some.inj H
         have hnb52:=NB109_108.out
         have hnc52:=NB108_109.out
         have hcz53_0:=bc0 BK109.out
         have hcz53_1:=bc1 BK109.out
         have hcz53_2:=bc2 BK109.out
         have hcz53_3:=bc3 BK109.out
         have hfz53_0:=ja BK109.out 0
         have hfz53_1:=ja BK109.out 1
         have hfz53_2:=ja BK109.out 2
         have hfz53_3:=ja BK109.out 3
         go_wp2_with (first |((with_reducible refine jd (f:=85) rfl ?_);refine gL (some 54) Try.func85 #[.int .i64 a1_2, .int .i64 0, .int .i64 3] ?_;(with_reducible refine (jH.calls a1_2 0 3 true _ A50.out).mono ?_);rintro e w' ⟨rfl,⟨nd,rfl⟩⟩;refine ⟨_,rfl,?_⟩))
         go_ret
         exact ⟨Y0,Y20⟩
        ·replace c51:=Bool.eq_false_iff.mpr c51
         subst c51
         have H1:(some false)=some r:=by rw [if_neg (show ¬ (false=true) by decide)] at H;exact H
         clear H
         have H:=H1
         clear H1
         obtain rfl:=Option.some.inj H
         have hnb54:=NB109_108.out
         have hnc54:=NB108_109.out
         have hcz55_0:=bc0 BK109.out
         have hcz55_1:=bc1 BK109.out
         have hcz55_2:=bc2 BK109.out
         have hcz55_3:=bc3 BK109.out
         have hfz55_0:=ja BK109.out 0
         have hfz55_1:=ja BK109.out 1
         have hfz55_2:=ja BK109.out 2
         have hfz55_3:=ja BK109.out 3
         go_wp2_with (first |((with_reducible refine jd (f:=85) rfl ?_);refine gL (some 54) Try.func85 #[.int .i64 a1_2, .int .i64 0, .int .i64 3] ?_;(with_reducible refine (jH.calls a1_2 0 3 false _ A50.out).mono ?_);rintro e w' ⟨rfl,⟨nd,rfl⟩⟩;refine ⟨_,rfl,?_⟩))
         go_ret
         exact ⟨Y0,Y20⟩
       ·rw [if_neg c49] at H
        have c49b0:(a1_1 == 12)=false:=beq_eq_false_iff_ne.mpr c49
        have c49b1:(a1_1 != 12)=true:=bne_iff_ne.mpr c49
        replace H:=bzS H
        obtain ⟨t117,A560,H⟩:=H
        replace H:(if t117=true then (if a1_2=0 then (some (a1_3 == 0)) else (some false)) else (some false))=some r:=H
        have A56:=am A560
        clear A560
        by_cases c57:t117=true
        ·subst c57
         have H1:(if a1_2=0 then (some (a1_3 == 0)) else (some false))=some r:=by rw [if_pos rfl] at H;exact H
         clear H
         have H:=H1
         clear H1
         by_cases c58:a1_2=0
         ·rw [if_pos c58] at H
          have c58b0:(a1_2 == 0)=true:=beq_iff_eq.mpr c58
          have c58b1:(a1_2 != 0)=false:=bne_eq_false_iff_eq.mpr c58
          clear c58
          obtain rfl:=Option.some.inj H
          have hnb59:=NB109_108.out
          have hnc59:=NB108_109.out
          have hcz60_0:=bc0 BK109.out
          have hcz60_1:=bc1 BK109.out
          have hcz60_2:=bc2 BK109.out
          have hcz60_3:=bc3 BK109.out
          have hfz60_0:=ja BK109.out 0
          have hfz60_1:=ja BK109.out 1
          have hfz60_2:=ja BK109.out 2
          have hfz60_3:=ja BK109.out 3
          go_wp2_with (first |((with_reducible refine jd (f:=85) rfl ?_);refine gL (some 62) Try.func85 #[.int .i64 a1_1, .int .i64 0, .int .i64 10] ?_;(with_reducible refine (jH.calls a1_1 0 10 true _ A56.out).mono ?_);rintro e w' ⟨rfl,⟨nd,rfl⟩⟩;refine ⟨_,rfl,?_⟩))
          go_ret
          exact ⟨Y0,Y20⟩
         ·rw [if_neg c58] at H
          have c58b0:(a1_2 == 0)=false:=beq_eq_false_iff_ne.mpr c58
          have c58b1:(a1_2 != 0)=true:=bne_iff_ne.mpr c58
          obtain rfl:=Option.some.inj H
          have hnb61:=NB109_108.out
          have hnc61:=NB108_109.out
          have hcz62_0:=bc0 BK109.out
          have hcz62_1:=bc1 BK109.out
          have hcz62_2:=bc2 BK109.out
          have hcz62_3:=bc3 BK109.out
          have hfz62_0:=ja BK109.out 0
          have hfz62_1:=ja BK109.out 1
          have hfz62_2:=ja BK109.out 2
          have hfz62_3:=ja BK109.out 3
          go_wp2_with (first |((with_reducible refine jd (f:=85) rfl ?_);refine gL (some 62) Try.func85 #[.int .i64 a1_1, .int .i64 0, .int .i64 10] ?_;(with_reducible refine (jH.calls a1_1 0 10 true _ A56.out).mono ?_);rintro e w' ⟨rfl,⟨nd,rfl⟩⟩;refine ⟨_,rfl,?_⟩))
          go_ret
          exact ⟨Y0,Y20⟩
        ·replace c57:=Bool.eq_false_iff.mpr c57
         subst c57
         have H1:(some false)=some r:=by rw [if_neg (show ¬ (false=true) by decide)] at H;exact H
         clear H
         have H:=H1
         clear H1
         obtain rfl:=Option.some.inj H
         have hnb63:=NB109_108.out
         have hnc63:=NB108_109.out
         have hcz64_0:=bc0 BK109.out
         have hcz64_1:=bc1 BK109.out
         have hcz64_2:=bc2 BK109.out
         have hcz64_3:=bc3 BK109.out
         have hfz64_0:=ja BK109.out 0
         have hfz64_1:=ja BK109.out 1
         have hfz64_2:=ja BK109.out 2
         have hfz64_3:=ja BK109.out 3
         go_wp2_with (first |((with_reducible refine jd (f:=85) rfl ?_);refine gL (some 62) Try.func85 #[.int .i64 a1_1, .int .i64 0, .int .i64 10] ?_;(with_reducible refine (jH.calls a1_1 0 10 false _ A56.out).mono ?_);rintro e w' ⟨rfl,⟨nd,rfl⟩⟩;refine ⟨_,rfl,?_⟩))
         go_ret
         exact ⟨Y0,Y20⟩
def jGc.f (a0 : Int) : Option (Bool) := (jH.f a0 7 12).bind fun t118 => (some t118)
set_option maxHeartbeats 8000000 in
set_option maxRecDepth 100000 in
theorem jGc.calls (a0 : Int) (r : Bool) (w : World) (h : jGc.f a0 = some r) :
  Calls Try.prog 86 #[.int .i64 a0] w fun e w'=>e=.returned (.bool r)∧jXa w w':=by
 have H:((jH.f a0 7 12).bind fun t118=>(some t118))=some r:=h
 clear h
 replace H:=bzS H
 obtain ⟨t118,A20,H⟩:=H
 replace H:(some t118)=some r:=H
 have A2:=am A20
 clear A20
 obtain rfl:=Option.some.inj H
 go_enter Try.func86,Try.ntmps86
 go_wp2_with (first |((with_reducible refine jd (f:=85) rfl ?_);refine gL (some 4) Try.func85 #[.int .i64 a0, .int .i64 7, .int .i64 12] ?_;(with_reducible refine (jH.calls a0 7 12 t118 _ A2.out).mono ?_);rintro e w' ⟨rfl,⟨nd,rfl⟩⟩;refine ⟨_,rfl,?_⟩))
 go_ret
 exact ⟨sq,Y3⟩
def jvb.f (a0 : Int) : Option (Bool) := (jH.f a0 8 10).bind fun t119 => (some t119)
set_option maxHeartbeats 8000000 in
set_option maxRecDepth 100000 in
theorem jvb.calls (a0 : Int) (r : Bool) (w : World) (h : jvb.f a0 = some r) :
  Calls Try.prog 89 #[.int .i64 a0] w fun e w'=>e=.returned (.bool r)∧jXa w w':=by
 have H:((jH.f a0 8 10).bind fun t119=>(some t119))=some r:=h
 clear h
 replace H:=bzS H
 obtain ⟨t119,A20,H⟩:=H
 replace H:(some t119)=some r:=H
 have A2:=am A20
 clear A20
 obtain rfl:=Option.some.inj H
 go_enter Try.func89,Try.ntmps89
 go_wp2_with (first |((with_reducible refine jd (f:=85) rfl ?_);refine gL (some 4) Try.func85 #[.int .i64 a0, .int .i64 8, .int .i64 10] ?_;(with_reducible refine (jH.calls a0 8 10 t119 _ A2.out).mono ?_);rintro e w' ⟨rfl,⟨nd,rfl⟩⟩;refine ⟨_,rfl,?_⟩))
 go_ret
 exact ⟨sq,Y3⟩
def jYa.f (k : Nat) (l0 : List (S52)) (a1 : Int) : Option (Int) := (joa.f k l0 a1).bind fun t122 => (if t122 < (l0.length : Int) then (if 0 ≤ t122 then (if 0 ≤ a1 then (if a1 < (l0.length : Int) then (if ((jc l0 t122).f0) = ((jc l0 a1).f0) then (some t122) else (some (l0.length : Int))) else (none)) else (none)) else (none)) else (some (l0.length : Int)))
set_option maxHeartbeats 8000000 in
set_option maxRecDepth 100000 in
theorem jYa.calls (k : Nat) (A0 : Option Addr) (c0 : Nat) (l0 : List (S52)) (a1 : Int) (r : Int) (w : World) (hr0 : Kd.C k52 w A0 l0.length l0) (hc0 : l0.length ≤ c0) (h : jYa.f k l0 a1 = some r) :
  Calls Try.prog 93 #[.slice A0 l0.length c0, .int .i64 a1] w fun e w'=>e=.returned (.int .i64 r)∧jXa w w':=by
 have HR0:=am hr0
 have HC0:=am hc0
 clear hr0 hc0
 have H:((joa.f k l0 a1).bind fun t122=>(if t122<(l0.length:Int) then (if 0≤t122 then (if 0≤a1 then (if a1<(l0.length:Int) then (if ((jc l0 t122).f0)=((jc l0 a1).f0) then (some t122) else (some (l0.length:Int))) else (none)) else (none)) else (none)) else (some (l0.length:Int))))=some r:=h
 clear h
 replace H:=bzS H
 obtain ⟨t122,A30,H⟩:=H
 replace H:(if t122<(l0.length:Int) then (if 0≤t122 then (if 0≤a1 then (if a1<(l0.length:Int) then (if ((jc l0 t122).f0)=((jc l0 a1).f0) then (some t122) else (some (l0.length:Int))) else (none)) else (none)) else (none)) else (some (l0.length:Int)))=some r:=H
 have A3:=am A30
 clear A30
 by_cases c4:t122<(l0.length:Int)
 ·rw [if_pos c4] at H
  have c4b0:decide (t122<(l0.length:Int))=true:=dzT c4
  clear c4
  by_cases c5:0≤t122
  ·rw [if_pos c5] at H
   have c5b0:decide (0≤t122)=true:=dzT c5
   clear c5
   by_cases c6:0≤a1
   ·rw [if_pos c6] at H
    have c6b0:decide (0≤a1)=true:=dzT c6
    clear c6
    by_cases c7:a1<(l0.length:Int)
    ·rw [if_pos c7] at H
     have c7b0:decide (a1<(l0.length:Int))=true:=dzT c7
     clear c7
     by_cases c8:((jc l0 t122).f0)=((jc l0 a1).f0)
     ·rw [if_pos c8] at H
      have c8b0:(((jc l0 t122).f0) == ((jc l0 a1).f0))=true:=beq_iff_eq.mpr c8
      have c8b1:(((jc l0 t122).f0) != ((jc l0 a1).f0))=false:=bne_eq_false_iff_eq.mpr c8
      clear c8
      obtain rfl:=Option.some.inj H
      go_enter Try.func93,Try.ntmps93
      go_wp2_with (first |(go_at_call 31;(with_reducible refine (joa.calls k _ _ l0 a1 t122 _ ?side1 ?side2 A3.out).mono ?_);(case side1=>exact Y31);(case side2=>exact HC0.out);rintro e w' ⟨rfl,⟨nd,rfl⟩⟩;(try first | exact ⟨rfl,_,World.drewN_drewN _ _ _⟩ | exact ⟨rfl,_,Eq.trans (World.drewN_drewN _ _ _) (congrArg (World.drewN _) (Nat.add_assoc _ _ _))⟩);have p123:0≤(t122:Int):=ozD (uq);have q123:t122<(l0.length:Int):=ozD (uq);obtain ⟨ad123,e123,hx123_0,hx123_1,hx123_2,hx123_3⟩:=jua HR0.out t122 p123 q123;cases e123;replace p123:=ezT p123;replace q123:=ezT q123;have p124:0≤(a1:Int):=ozD (uq);have q124:a1<(l0.length:Int):=ozD (uq);obtain ⟨ad124,e124,hx124_0,hx124_1,hx124_2,hx124_3⟩:=jua HR0.out a1 p124 q124;obtain rfl:ad123=ad124:=(by injection e124);replace p124:=ezT p124;replace q124:=ezT q124))
      repeat (go_quiet (first |(go_at_call 31;(with_reducible refine (joa.calls k _ _ l0 a1 t122 _ ?side1 ?side2 A3.out).mono ?_);(case side1=>exact Y31);(case side2=>exact HC0.out);rintro e w' ⟨rfl,⟨nd,rfl⟩⟩;(try first | exact ⟨rfl,_,World.drewN_drewN _ _ _⟩ | exact ⟨rfl,_,Eq.trans (World.drewN_drewN _ _ _) (congrArg (World.drewN _) (Nat.add_assoc _ _ _))⟩);have p123:0≤(t122:Int):=ozD (uq);have q123:t122<(l0.length:Int):=ozD (uq);obtain ⟨ad123,e123,hx123_0,hx123_1,hx123_2,hx123_3⟩:=jua HR0.out t122 p123 q123;cases e123;replace p123:=ezT p123;replace q123:=ezT q123;have p124:0≤(a1:Int):=ozD (uq);have q124:a1<(l0.length:Int):=ozD (uq);obtain ⟨ad124,e124,hx124_0,hx124_1,hx124_2,hx124_3⟩:=jua HR0.out a1 p124 q124;obtain rfl:ad123=ad124:=(by injection e124);replace p124:=ezT p124;replace q124:=ezT q124));try go_wp2_with (first |(go_at_call 31;(with_reducible refine (joa.calls k _ _ l0 a1 t122 _ ?side1 ?side2 A3.out).mono ?_);(case side1=>exact Y31);(case side2=>exact HC0.out);rintro e w' ⟨rfl,⟨nd,rfl⟩⟩;(try first | exact ⟨rfl,_,World.drewN_drewN _ _ _⟩ | exact ⟨rfl,_,Eq.trans (World.drewN_drewN _ _ _) (congrArg (World.drewN _) (Nat.add_assoc _ _ _))⟩);have p123:0≤(t122:Int):=ozD (uq);have q123:t122<(l0.length:Int):=ozD (uq);obtain ⟨ad123,e123,hx123_0,hx123_1,hx123_2,hx123_3⟩:=jua HR0.out t122 p123 q123;cases e123;replace p123:=ezT p123;replace q123:=ezT q123;have p124:0≤(a1:Int):=ozD (uq);have q124:a1<(l0.length:Int):=ozD (uq);obtain ⟨ad124,e124,hx124_0,hx124_1,hx124_2,hx124_3⟩:=jua HR0.out a1 p124 q124;obtain rfl:ad123=ad124:=(by injection e124);replace p124:=ezT p124;replace q124:=ezT q124)))
      go_ret
      exact ⟨sq,Y3⟩
     ·rw [if_neg c8] at H
      have c8b0:(((jc l0 t122).f0) == ((jc l0 a1).f0))=false:=beq_eq_false_iff_ne.mpr c8
      have c8b1:(((jc l0 t122).f0) != ((jc l0 a1).f0))=true:=bne_iff_ne.mpr c8
      obtain rfl:=Option.some.inj H
      go_enter Try.func93,Try.ntmps93
      go_wp2_with (first |(go_at_call 31;(with_reducible refine (joa.calls k _ _ l0 a1 t122 _ ?side1 ?side2 A3.out).mono ?_);(case side1=>exact Y31);(case side2=>exact HC0.out);rintro e w' ⟨rfl,⟨nd,rfl⟩⟩;(try first | exact ⟨rfl,_,World.drewN_drewN _ _ _⟩ | exact ⟨rfl,_,Eq.trans (World.drewN_drewN _ _ _) (congrArg (World.drewN _) (Nat.add_assoc _ _ _))⟩);have p123:0≤(t122:Int):=ozD (uq);have q123:t122<(l0.length:Int):=ozD (uq);obtain ⟨ad123,e123,hx123_0,hx123_1,hx123_2,hx123_3⟩:=jua HR0.out t122 p123 q123;cases e123;replace p123:=ezT p123;replace q123:=ezT q123;have p124:0≤(a1:Int):=ozD (uq);have q124:a1<(l0.length:Int):=ozD (uq);obtain ⟨ad124,e124,hx124_0,hx124_1,hx124_2,hx124_3⟩:=jua HR0.out a1 p124 q124;obtain rfl:ad123=ad124:=(by injection e124);replace p124:=ezT p124;replace q124:=ezT q124))
      repeat (go_quiet (first |(go_at_call 31;(with_reducible refine (joa.calls k _ _ l0 a1 t122 _ ?side1 ?side2 A3.out).mono ?_);(case side1=>exact Y31);(case side2=>exact HC0.out);rintro e w' ⟨rfl,⟨nd,rfl⟩⟩;(try first | exact ⟨rfl,_,World.drewN_drewN _ _ _⟩ | exact ⟨rfl,_,Eq.trans (World.drewN_drewN _ _ _) (congrArg (World.drewN _) (Nat.add_assoc _ _ _))⟩);have p123:0≤(t122:Int):=ozD (uq);have q123:t122<(l0.length:Int):=ozD (uq);obtain ⟨ad123,e123,hx123_0,hx123_1,hx123_2,hx123_3⟩:=jua HR0.out t122 p123 q123;cases e123;replace p123:=ezT p123;replace q123:=ezT q123;have p124:0≤(a1:Int):=ozD (uq);have q124:a1<(l0.length:Int):=ozD (uq);obtain ⟨ad124,e124,hx124_0,hx124_1,hx124_2,hx124_3⟩:=jua HR0.out a1 p124 q124;obtain rfl:ad123=ad124:=(by injection e124);replace p124:=ezT p124;replace q124:=ezT q124));try go_wp2_with (first |(go_at_call 31;(with_reducible refine (joa.calls k _ _ l0 a1 t122 _ ?side1 ?side2 A3.out).mono ?_);(case side1=>exact Y31);(case side2=>exact HC0.out);rintro e w' ⟨rfl,⟨nd,rfl⟩⟩;(try first | exact ⟨rfl,_,World.drewN_drewN _ _ _⟩ | exact ⟨rfl,_,Eq.trans (World.drewN_drewN _ _ _) (congrArg (World.drewN _) (Nat.add_assoc _ _ _))⟩);have p123:0≤(t122:Int):=ozD (uq);have q123:t122<(l0.length:Int):=ozD (uq);obtain ⟨ad123,e123,hx123_0,hx123_1,hx123_2,hx123_3⟩:=jua HR0.out t122 p123 q123;cases e123;replace p123:=ezT p123;replace q123:=ezT q123;have p124:0≤(a1:Int):=ozD (uq);have q124:a1<(l0.length:Int):=ozD (uq);obtain ⟨ad124,e124,hx124_0,hx124_1,hx124_2,hx124_3⟩:=jua HR0.out a1 p124 q124;obtain rfl:ad123=ad124:=(by injection e124);replace p124:=ezT p124;replace q124:=ezT q124)))
      go_ret
      exact ⟨sq,Y3⟩
    ·rw [if_neg c7] at H
     exact absurd H (by simp)
   ·rw [if_neg c6] at H
    exact absurd H (by simp)
  ·rw [if_neg c5] at H
   exact absurd H (by simp)
 ·rw [if_neg c4] at H
  have c4b0:decide (t122<(l0.length:Int))=false:=dzF c4
  clear c4
  obtain rfl:=Option.some.inj H
  go_enter Try.func93,Try.ntmps93
  go_wp2_with (first |(go_at_call 31;(with_reducible refine (joa.calls k _ _ l0 a1 t122 _ ?side1 ?side2 A3.out).mono ?_);(case side1=>exact Y31);(case side2=>exact HC0.out);rintro e w' ⟨rfl,⟨nd,rfl⟩⟩;(try first | exact ⟨rfl,_,World.drewN_drewN _ _ _⟩ | exact ⟨rfl,_,Eq.trans (World.drewN_drewN _ _ _) (congrArg (World.drewN _) (Nat.add_assoc _ _ _))⟩)))
  repeat (go_quiet (first |(go_at_call 31;(with_reducible refine (joa.calls k _ _ l0 a1 t122 _ ?side1 ?side2 A3.out).mono ?_);(case side1=>exact Y31);(case side2=>exact HC0.out);rintro e w' ⟨rfl,⟨nd,rfl⟩⟩;(try first | exact ⟨rfl,_,World.drewN_drewN _ _ _⟩ | exact ⟨rfl,_,Eq.trans (World.drewN_drewN _ _ _) (congrArg (World.drewN _) (Nat.add_assoc _ _ _))⟩)));try go_wp2_with (first |(go_at_call 31;(with_reducible refine (joa.calls k _ _ l0 a1 t122 _ ?side1 ?side2 A3.out).mono ?_);(case side1=>exact Y31);(case side2=>exact HC0.out);rintro e w' ⟨rfl,⟨nd,rfl⟩⟩;(try first | exact ⟨rfl,_,World.drewN_drewN _ _ _⟩ | exact ⟨rfl,_,Eq.trans (World.drewN_drewN _ _ _) (congrArg (World.drewN _) (Nat.add_assoc _ _ _))⟩))))
  go_ret
  exact ⟨sq,Y3⟩
def jCa.l0 : Nat → List (S52) → List Int → Int → Option (List Int)
 | 0,_,_,_=>none
 | k+1,x0,x5,x6=>if x6<(x0.length:Int) then (if 0≤x6 then ((jvb.f ((jc x0 x6).f1)).bind fun t130=>(if t130=true then (if x5.length<17592186044416 then ((jYa.f k x0 x6).bind fun t134=>(jCa.l0 k x0 (x5 ++ [x6]) t134)) else (none)) else (some x5))) else (none)) else (some x5)
def jCa.f (k : Nat) (l0 : List (S52)) (a1 : Int) : Option (List Int) := (jYa.f k l0 a1).bind fun t128 => (jCa.l0 k l0 (([a1] : List Int)) t128)
set_option maxHeartbeats 8000000 in
set_option maxRecDepth 100000 in
theorem jCa.calls (k : Nat) (A0 : Option Addr) (c0 : Nat) (l0 : List (S52)) (a1 : Int) (r : List Int) (w : World) (hr0 : Kd.C k52 w A0 l0.length l0) (hc0 : l0.length ≤ c0) (h : jCa.f k l0 a1 = some r) :
  Calls Try.prog 66 #[.slice A0 l0.length c0, .int .i64 a1] w fun e w'=>∃ v0_:Value,e=.returned (v0_)∧Kd.R (Kd.int .i64) 3 w' w.heap.size (fun _=>True) v0_ r∧Below w.heap.size w w':=by
 have HR0:=am hr0
 have HC0:=am hc0
 clear hr0 hc0
 have HB:=am (Below.refl w.heap.size w)
 have H:((jYa.f k l0 a1).bind fun t128=>(jCa.l0 k l0 (([a1]:List Int)) t128))=some r:=h
 clear h
 obtain ⟨y125,hy125⟩:∃ y_:List Int,y_=(([a1]:List Int)):=⟨_,rfl⟩
 replace H:((jYa.f k l0 a1).bind fun t128=>(jCa.l0 k l0 y125 t128))=some r:=by first |(rw [hy125];with_reducible exact H) |(have H2_:=(Option.bind_some _ _).symm.trans H;rw [hy125];with_reducible exact H2_) |(have H2_:=(Option.bind_some _ _).symm.trans H;with_reducible exact H2_) | with_reducible exact H |(rw [hy125];exact H) | exact H
 have Ny125:=am hy125
 clear hy125
 replace H:=bzS H
 obtain ⟨t128,A30,H⟩:=H
 replace H:(jCa.l0 k l0 y125 t128)=some r:=H
 have A3:=am A30
 clear A30
 have H':=am H
 clear H
 go_enter Try.func66,Try.ntmps66
 go_wp2_with (first |((with_reducible refine jP (N:=8) rfl ?_);refine Kd.jYb (Kd.int .i64) _ 3 ?hg (N:=8) ?hd (xs:=([a1]:List Int)) (inner:=[.int .i64 a1]) (ok:=fun _=>True) (okp:=fun _=>True) ?hr ?hp (fun _ hk=>hk) trivial (Below.refl _ _) (Nat.le_refl _) (by simp) ?_;(case hd=>rfl);(case hg=>rfl);(case hr=>exact Y8);(case hp=>exact (Reps.one (show Kd.M (Kd.int .i64) _ _ _ a1 [.int .i64 a1] from rfl) (Reps.none _ _)));intro v126 w4 ho5 hb hg_ hnew_;clear hg_ hnew_;(first | rw [← Ny125.out] at ho5 |(simp only [Int.reduceToNat] at ho5;rw [← Ny125.out] at ho5));have HO127:=am (Kd.jfa ho5 (jka (bq)));replace HB:=am (ji (bq) hb);clear hb ho5) |((with_reducible refine jd (f:=93) rfl ?_);refine gL (some 11) Try.func93 #[.slice A0 l0.length c0, .int .i64 a1] ?_;(with_reducible refine (jYa.calls k _ _ l0 a1 t128 _ ?side1 ?side2 A3.out).mono ?_);(case side1=>exact cq (Kd.jZ HR0.out HB.out));(case side2=>exact HC0.out);rintro e w' ⟨rfl,⟨nd,rfl⟩⟩;refine ⟨_,rfl,?_⟩))
 go_loopg [5,6] k (fun kq v5 v6 w'=>∃ (x5_1:List Int) (x6_1:Int),v6=.int .i64 x6_1∧jl (jCa.l0 kq l0 x5_1 x6_1=some r)∧jl (kq≤k)∧jl (Kd.R (Kd.int .i64) 3 w' w.heap.size (fun _=>True) v5 x5_1)∧jl (Below w.heap.size w w'))
 case atStart=>exact ⟨(y125),(t128),(sq),H',⟨Nat.le_refl _⟩,⟨rq HO127.out⟩,⟨bq⟩⟩
 case round =>
  clear H'
  try clear p2
  obtain ⟨x5_1,x6_1,rfl,HA,HK1,HO_5,HB⟩:=hrel
  cases gk with
  | zero=>exact absurd HA.out (by simp [jCa.l0])
  | succ k1 =>
   have H:=HA.out
   clear HA
   simp only [jCa.l0] at H
   by_cases c6:x6_1<(l0.length:Int)
   ·rw [if_pos c6] at H
    have c6b0:decide (x6_1<(l0.length:Int))=true:=dzT c6
    clear c6
    by_cases c7:0≤x6_1
    ·rw [if_pos c7] at H
     have c7b0:decide (0≤x6_1)=true:=dzT c7
     clear c7
     replace H:=bzS H
     obtain ⟨t130,A80,H⟩:=H
     replace H:(if t130=true then (if x5_1.length<17592186044416 then ((jYa.f k1 l0 x6_1).bind fun t134=>(jCa.l0 k1 l0 (x5_1 ++ [x6_1]) t134)) else (none)) else (some x5_1))=some r:=H
     have A8:=am A80
     clear A80
     by_cases c9:t130=true
     ·subst c9
      have H1:(if x5_1.length<17592186044416 then ((jYa.f k1 l0 x6_1).bind fun t134=>(jCa.l0 k1 l0 (x5_1 ++ [x6_1]) t134)) else (none))=some r:=by rw [if_pos rfl] at H;exact H
      clear H
      have H:=H1
      clear H1
      by_cases c10:x5_1.length<17592186044416
      ·rw [if_pos c10] at H
       have LMc10:=am c10
       clear c10
       obtain ⟨y131,hy131⟩:∃ y_:List Int,y_=(x5_1 ++ [x6_1]):=⟨_,rfl⟩
       replace H:((jYa.f k1 l0 x6_1).bind fun t134=>(jCa.l0 k1 l0 y131 t134))=some r:=by first |(rw [hy131];with_reducible exact H) |(have H2_:=(Option.bind_some _ _).symm.trans H;rw [hy131];with_reducible exact H2_) |(have H2_:=(Option.bind_some _ _).symm.trans H;with_reducible exact H2_) | with_reducible exact H |(rw [hy131];exact H) | exact H
       have Ny131:=am hy131
       clear hy131
       replace H:=bzS H
       obtain ⟨t134,A110,H⟩:=H
       replace H:(jCa.l0 k1 l0 y131 t134)=some r:=H
       have A11:=am A110
       clear A110
       have H':=am H
       clear H
       have p129:0≤(x6_1:Int):=ozD (uq)
       have q129:x6_1<(l0.length:Int):=ozD (uq)
       obtain ⟨ad129,e129,hx129_0,hx129_1,hx129_2,hx129_3⟩:=jua HR0.out x6_1 p129 q129
       cases e129
       replace hx129_0:=cb HB.out hx129_0
       replace hx129_1:=cb HB.out hx129_1
       replace hx129_2:=cb HB.out hx129_2
       replace hx129_3:=cb HB.out hx129_3
       replace p129:=ezT p129
       replace q129:=ezT q129
       go_wp2_with (first |(go_at_call 89;(with_reducible refine (jvb.calls ((jc l0 x6_1).f1) true _ A8.out).mono ?_);rintro e w' ⟨rfl,⟨nd,rfl⟩⟩) |((with_reducible refine jEa (b:=.append) (xs:=#[.tmp 27, .tmp 29]) rfl ?_);at_builtin;refine Kd.jGb (Kd.int .i64) (w0:=w) w.heap.size rfl (.tmp 27) (.tmp 29) 40 3 (.int .i64 0) 8 rfl Try.underlying40 info3 rfl (by decide) (by omega) u5 x5_1 x6_1 [.int .i64 x6_1] (fun _=>True) (fun _=>False) rfl rfl ?aP (fun _ hk=>hk.elim) ?aF ?aO ?aB ?aS ?aL ?_;(case aP=>exact rfl);(case aB=>exact (bq));(case aF=>exact (fun _ _=>trivial));(case aO=>exact (rq HO_5.out));(case aS=>exact (jka (bq)));(case aL=>have:=LMc10.out;omega);intro v132 w12 ho hb hg hat;rw [← Ny131.out] at ho;have n0_:=am (hb);have n1_:=am (ho);clear HB HO_5;have HB:=n0_;have HO133:=n1_;clear n0_ n1_ ho hb hg hat) |((with_reducible refine jd (f:=93) rfl ?_);refine gL (some 26) Try.func93 #[.slice (some ad129) l0.length c0, .int .i64 x6_1] ?_;(with_reducible refine (jYa.calls k1 _ _ l0 x6_1 t134 _ ?side1 ?side2 A11.out).mono ?_);(case side1=>exact cq (Kd.jZ HR0.out HB.out));(case side2=>exact HC0.out);rintro e w' ⟨rfl,⟨nd,rfl⟩⟩;refine ⟨_,rfl,?_⟩))
       go_roundg k1
       case measure=>have:=HK1.out;omega
       case rel=>exact ⟨(y131),(t134),(sq),H',⟨by have:=HK1.out;omega⟩,⟨rq HO133.out⟩,⟨bq⟩⟩
      ·rw [if_neg c10] at H
       exact absurd H (by simp)
     ·replace c9:=Bool.eq_false_iff.mpr c9
      subst c9
      have H1:(some x5_1)=some r:=by rw [if_neg (show ¬ (false=true) by decide)] at H;exact H
      clear H
      have H:=H1
      clear H1
      obtain rfl:=Option.some.inj H
      have p129:0≤(x6_1:Int):=ozD (uq)
      have q129:x6_1<(l0.length:Int):=ozD (uq)
      obtain ⟨ad129,e129,hx129_0,hx129_1,hx129_2,hx129_3⟩:=jua HR0.out x6_1 p129 q129
      cases e129
      replace hx129_0:=cb HB.out hx129_0
      replace hx129_1:=cb HB.out hx129_1
      replace hx129_2:=cb HB.out hx129_2
      replace hx129_3:=cb HB.out hx129_3
      replace p129:=ezT p129
      replace q129:=ezT q129
      go_wp2_with (first |(go_at_call 89;(with_reducible refine (jvb.calls ((jc l0 x6_1).f1) false _ A8.out).mono ?_);rintro e w' ⟨rfl,⟨nd,rfl⟩⟩))
      go_ret
      exact ⟨_,Y0,rq HO_5.out,bq⟩
    ·rw [if_neg c7] at H
     exact absurd H (by simp)
   ·rw [if_neg c6] at H
    have c6b0:decide (x6_1<(l0.length:Int))=false:=dzF c6
    clear c6
    obtain rfl:=Option.some.inj H
    go_wp2
    go_ret
    exact ⟨_,Y0,rq HO_5.out,bq⟩
mutual
def jF.l0 : Nat → List (S52) → List Int → Int → Int → Option (Bool)
 | 0,_,_,_,_=>none
 | k+1,x0,x5,x6,x7=>if x7<(x5.length:Int) then (if 0≤x7 then (if 0≤(rd x5 x7) then (if (rd x5 x7)<(x0.length:Int) then (if ((jc x0 (rd x5 x7)).f1)=8 then (jF.j1 k x0 x5 (wrap64 (x6+1)) x7 ((jc x0 (rd x5 x7)).f1)) else (jF.j1 k x0 x5 x6 x7 ((jc x0 (rd x5 x7)).f1))) else (none)) else (none)) else (none)) else (if (x5.length:Int) > 1 then (some (decide (x6≤6))) else (some false))
def jF.j1 : Nat → List (S52) → List Int → Int → Int → Int → Option (Bool)
 | 0,_,_,_,_,_=>none
 | k+1,x0,x5,x6,x7,x8=>if x7 > 1 then (if 0≤(wrap64 (x7 - 1)) then (if (wrap64 (x7 - 1))<(x5.length:Int) then (if 0≤(rd x5 (wrap64 (x7 - 1))) then (if (rd x5 (wrap64 (x7 - 1)))<(x0.length:Int) then (if x8<((jc x0 (rd x5 (wrap64 (x7 - 1)))).f1) then (jF.j2 k x0 x5 x6 x7 true) else (if x8=((jc x0 (rd x5 (wrap64 (x7 - 1)))).f1) then (if x8=8 then (if x8=9 then (jF.j2 k x0 x5 x6 x7 (x6 == 0)) else (jF.j2 k x0 x5 x6 x7 false)) else (jF.j2 k x0 x5 x6 x7 true)) else (if x8=9 then (jF.j2 k x0 x5 x6 x7 (x6 == 0)) else (jF.j2 k x0 x5 x6 x7 false)))) else (none)) else (none)) else (none)) else (none)) else (if x8=9 then (jF.j2 k x0 x5 x6 x7 (x6 == 0)) else (jF.j2 k x0 x5 x6 x7 false))
def jF.j2 : Nat → List (S52) → List Int → Int → Int → Bool → Option (Bool)
 | 0,_,_,_,_,_=>none
 | k+1,x0,x5,x6,x7,x69=>if x69=true then (some false) else (jF.l0 k x0 x5 x6 (wrap64 (x7+1)))
end
def jF.f (k : Nat) (l0 : List (S52)) (a1 : Int) : Option (Bool) := (jCa.f k l0 a1).bind fun t135 => (jF.l0 k l0 t135 0 1)
set_option maxHeartbeats 8000000 in
set_option maxRecDepth 100000 in
theorem jF.calls (k : Nat) (A0 : Option Addr) (c0 : Nat) (l0 : List (S52)) (a1 : Int) (r : Bool) (w : World) (hr0 : Kd.C k52 w A0 l0.length l0) (hc0 : l0.length ≤ c0) (h : jF.f k l0 a1 = some r) :
  Calls Try.prog 87 #[.slice A0 l0.length c0, .int .i64 a1] w fun e w'=>e=.returned (.bool r)∧Below w.heap.size w w':=by
 have HR0:=am hr0
 have HC0:=am hc0
 clear hr0 hc0
 have HB:=am (Below.refl w.heap.size w)
 have H:((jCa.f k l0 a1).bind fun t135=>(jF.l0 k l0 t135 0 1))=some r:=h
 clear h
 replace H:=bzS H
 obtain ⟨t135,A30,H⟩:=H
 replace H:(jF.l0 k l0 t135 0 1)=some r:=H
 have A3:=am A30
 clear A30
 have H':=am H
 clear H
 go_enter Try.func87,Try.ntmps87
 go_wp2_with (first |((with_reducible refine jd (f:=66) rfl ?_);refine gL (some 11) Try.func66 #[.slice A0 l0.length c0, .int .i64 a1] ?_;(with_reducible refine (jCa.calls k _ _ l0 a1 t135 _ ?side1 ?side2 A3.out).mono ?_);(case side1=>exact Y31);(case side2=>exact HC0.out);rintro e w4 ⟨v136,rfl,ho0,hb⟩;refine ⟨_,rfl,?_⟩;have HO137:=am (Kd.jfa ho0 (jka (bq)));replace HB:=am (ji (bq) hb);(try clear hb);(try clear hb2);(try clear hk);(try clear hi);(try clear ho0)))
 go_loopg [6,7] k (fun kq v6 v7 w'=>∃ (x6_1:Int) (x7_1:Int),v6=.int .i64 x6_1∧v7=.int .i64 x7_1∧jl (jF.l0 kq l0 t135 x6_1 x7_1=some r)∧jl (kq≤k)∧jl (Kd.R (Kd.int .i64) 3 w' w.heap.size (fun _=>True) v136 t135)∧jl (Below w.heap.size w w'))
 case atStart=>exact ⟨(0),(1),(sq),(sq),H',⟨Nat.le_refl _⟩,⟨rq HO137.out⟩,⟨bq⟩⟩
 case round =>
  clear H'
  try clear p2
  obtain ⟨x6_1,x7_1,rfl,rfl,HA,HK1,HO_5,HB⟩:=hrel
  cases gk with
  | zero=>exact absurd HA.out (by simp [jF.l0])
  | succ k1 =>
   have H:=HA.out
   clear HA
   simp only [jF.l0] at H
   by_cases c5:x7_1<(t135.length:Int)
   ·rw [if_pos c5] at H
    have c5b0:decide (x7_1<(t135.length:Int))=true:=dzT c5
    clear c5
    by_cases c6:0≤x7_1
    ·rw [if_pos c6] at H
     have c6b0:decide (0≤x7_1)=true:=dzT c6
     clear c6
     by_cases c7:0≤(rd t135 x7_1)
     ·rw [if_pos c7] at H
      have c7b0:decide (0≤(rd t135 x7_1))=true:=dzT c7
      clear c7
      by_cases c8:(rd t135 x7_1)<(l0.length:Int)
      ·rw [if_pos c8] at H
       have c8b0:decide ((rd t135 x7_1)<(l0.length:Int))=true:=dzT c8
       clear c8
       have HC9:=am H
       clear H
       obtain ⟨Ao10,co10,eo10⟩:=Kd.jta HO_5.out
       subst eo10
       have p138:0≤(x7_1:Int):=ozD (uq)
       have q138:x7_1<(t135.length:Int):=ozD (uq)
       obtain ⟨ad138,e138,hx138_0⟩:=Kd.jPb (Kd.jC HO_5.out).2.2 x7_1 p138 q138
       cases e138
       replace p138:=ezT p138
       replace q138:=ezT q138
       have p139:0≤((rd t135 x7_1):Int):=ozD (uq)
       have q139:(rd t135 x7_1)<(l0.length:Int):=ozD (uq)
       obtain ⟨ad139,e139,hx139_0,hx139_1,hx139_2,hx139_3⟩:=jua HR0.out (rd t135 x7_1) p139 q139
       cases e139
       replace hx139_0:=cb HB.out hx139_0
       replace hx139_1:=cb HB.out hx139_1
       replace hx139_2:=cb HB.out hx139_2
       replace hx139_3:=cb HB.out hx139_3
       replace p139:=ezT p139
       replace q139:=ezT q139
       go_upto_if 27 with (fail)
       go_cut [6] (fun v6 wc=>∃ (kq:Nat) (x6_8:Int),v6=.int .i64 x6_8∧jl (jF.j1 kq l0 t135 x6_8 x7_1 ((jc l0 (rd t135 x7_1)).f1)=some r)∧jl (kq≤k1)∧jl (Kd.R (Kd.int .i64) 3 wc w.heap.size (fun _=>True) (.slice (some ad138) t135.length co10) t135)∧jl (Below w.heap.size w wc))
       case first =>
        have H:=HC9.out
        clear HC9
        by_cases c11:((jc l0 (rd t135 x7_1)).f1)=8
        ·rw [if_pos c11] at H
         have c11b0:(((jc l0 (rd t135 x7_1)).f1) == 8)=true:=beq_iff_eq.mpr c11
         have c11b1:(((jc l0 (rd t135 x7_1)).f1) != 8)=false:=bne_eq_false_iff_eq.mpr c11
         clear c11
         (first | rw [c11b0] |(simp only [jkb,jnb];rw [c11b0]) | skip)
         have H':=am H
         clear H
         go_wp2
         go_meet
         case rel=>exact ⟨_,(wrap64 (x6_1+1)),(sq),H',⟨by have:=HK1.out;first | omega | exact Nat.le_refl _⟩,⟨rq HO_5.out⟩,⟨bq⟩⟩
        ·rw [if_neg c11] at H
         have c11b0:(((jc l0 (rd t135 x7_1)).f1) == 8)=false:=beq_eq_false_iff_ne.mpr c11
         have c11b1:(((jc l0 (rd t135 x7_1)).f1) != 8)=true:=bne_iff_ne.mpr c11
         (first | rw [c11b0] |(simp only [jkb,jnb];rw [c11b0]) | skip)
         have H':=am H
         clear H
         go_wp2
         go_meet
         case rel=>exact ⟨_,(x6_1),(sq),H',⟨by have:=HK1.out;first | omega | exact Nat.le_refl _⟩,⟨rq HO_5.out⟩,⟨bq⟩⟩
       case rest =>
        clear HC9
        try clear c1
        try clear p1
        try clear q1
        try clear hx1
        try clear p2
        try clear c5
        try clear c5b0
        try clear c6
        try clear c6b0
        try clear p6
        try clear c7
        try clear c7b0
        try clear c8
        try clear c8b0
        try clear c11
        try clear c11b0
        try clear c11b1
        try clear hx138_0
        try clear hx139_0
        try clear hx139_1
        try clear hx139_2
        try clear hx139_3
        try clear p138
        try clear p139
        try clear p2
        try clear q138
        try clear q139
        obtain ⟨kq,x6_8,rfl,HA,HJ8,HO_5,HB⟩:=hcut
        cases kq with
        | zero=>exact absurd HA.out (by simp [jF.j1])
        | succ kj8 =>
         have H:=HA.out
         clear HA
         simp only [jF.j1] at H
         have HC12:=am H
         clear H
         go_upto_region 9 with (fail)
         go_cut [69] (fun v69 wc=>∃ (kq:Nat) (x69_11:Bool),v69=.bool x69_11∧jl (jF.j2 kq l0 t135 x6_8 x7_1 x69_11=some r)∧jl (kq≤kj8)∧jl (Kd.R (Kd.int .i64) 3 wc w.heap.size (fun _=>True) (.slice (some ad138) t135.length co10) t135)∧jl (Below w.heap.size w wc))
         case first =>
          have H:=HC12.out
          clear HC12
          by_cases c13:x7_1 > 1
          ·rw [if_pos c13] at H
           have c13b0:decide (1<x7_1)=true:=dzT c13
           clear c13
           (first | rw [c13b0] |(simp only [jkb,jnb];rw [c13b0]) | skip)
           obtain ⟨ji14,hji14⟩:∃ j_:Int,(wrap64 (x7_1 - 1))=j_:=⟨_,rfl⟩
           replace H:(if 0≤(ji14) then (if (ji14)<(t135.length:Int) then (if 0≤(rd t135 (ji14)) then (if (rd t135 (ji14))<(l0.length:Int) then (if ((jc l0 (rd t135 x7_1)).f1)<((jc l0 (rd t135 (ji14))).f1) then (jF.j2 kj8 l0 t135 x6_8 x7_1 true) else (if ((jc l0 (rd t135 x7_1)).f1)=((jc l0 (rd t135 (ji14))).f1) then (if ((jc l0 (rd t135 x7_1)).f1)=8 then (if ((jc l0 (rd t135 x7_1)).f1)=9 then (jF.j2 kj8 l0 t135 x6_8 x7_1 (x6_8 == 0)) else (jF.j2 kj8 l0 t135 x6_8 x7_1 false)) else (jF.j2 kj8 l0 t135 x6_8 x7_1 true)) else (if ((jc l0 (rd t135 x7_1)).f1)=9 then (jF.j2 kj8 l0 t135 x6_8 x7_1 (x6_8 == 0)) else (jF.j2 kj8 l0 t135 x6_8 x7_1 false)))) else (none)) else (none)) else (none)) else (none))=some r:=by first |(rw [hji14] at H;exact H) |(simp only [hji14] at H ⊢;exact H)
           have hji14w:(IntKind.i64.wrap (x7_1 - 1))=ji14:=(jkb _).trans hji14
           by_cases c15:0≤(ji14)
           ·rw [if_pos c15] at H
            have c15b0:decide (0≤(ji14))=true:=dzT c15
            clear c15
            by_cases c16:(ji14)<(t135.length:Int)
            ·rw [if_pos c16] at H
             have c16b0:decide ((ji14)<(t135.length:Int))=true:=dzT c16
             clear c16
             by_cases c17:0≤(rd t135 (ji14))
             ·rw [if_pos c17] at H
              have c17b0:decide (0≤(rd t135 (ji14)))=true:=dzT c17
              clear c17
              by_cases c18:(rd t135 (ji14))<(l0.length:Int)
              ·rw [if_pos c18] at H
               have c18b0:decide ((rd t135 (ji14))<(l0.length:Int))=true:=dzT c18
               clear c18
               by_cases c19:((jc l0 (rd t135 x7_1)).f1)<((jc l0 (rd t135 (ji14))).f1)
               ·rw [if_pos c19] at H
                have c19b0:decide (((jc l0 (rd t135 x7_1)).f1)<((jc l0 (rd t135 (ji14))).f1))=true:=dzT c19
                clear c19
                have H':=am H
                clear H
                have p140:0≤((ji14):Int):=ozD (uq)
                have q140:(ji14)<(t135.length:Int):=ozD (uq)
                obtain ⟨ad140,e140,hx140_0⟩:=Kd.jPb (Kd.jC HO_5.out).2.2 (ji14) p140 q140
                obtain rfl:ad138=ad140:=(by injection e140)
                replace p140:=ezT p140
                replace q140:=ezT q140
                have p141:0≤((rd t135 (ji14)):Int):=ozD (uq)
                have q141:(rd t135 (ji14))<(l0.length:Int):=ozD (uq)
                obtain ⟨ad141,e141,hx141_0,hx141_1,hx141_2,hx141_3⟩:=jua HR0.out (rd t135 (ji14)) p141 q141
                obtain rfl:ad139=ad141:=(by injection e141)
                replace hx141_0:=cb HB.out hx141_0
                replace hx141_1:=cb HB.out hx141_1
                replace hx141_2:=cb HB.out hx141_2
                replace hx141_3:=cb HB.out hx141_3
                replace p141:=ezT p141
                replace q141:=ezT q141
                go_wp2
                go_meet
                case rel=>exact ⟨_,(true),(sq),H',⟨by have:=HK1.out;have:=HJ8.out;first | omega | exact Nat.le_refl _⟩,⟨rq HO_5.out⟩,⟨bq⟩⟩
               ·rw [if_neg c19] at H
                have c19b0:decide (((jc l0 (rd t135 x7_1)).f1)<((jc l0 (rd t135 (ji14))).f1))=false:=dzF c19
                clear c19
                by_cases c20:((jc l0 (rd t135 x7_1)).f1)=((jc l0 (rd t135 (ji14))).f1)
                ·rw [if_pos c20] at H
                 have c20b0:(((jc l0 (rd t135 x7_1)).f1) == ((jc l0 (rd t135 (ji14))).f1))=true:=beq_iff_eq.mpr c20
                 have c20b1:(((jc l0 (rd t135 x7_1)).f1) != ((jc l0 (rd t135 (ji14))).f1))=false:=bne_eq_false_iff_eq.mpr c20
                 clear c20
                 by_cases c21:((jc l0 (rd t135 x7_1)).f1)=8
                 ·rw [if_pos c21] at H
                  have c21b0:(((jc l0 (rd t135 x7_1)).f1) == 8)=true:=beq_iff_eq.mpr c21
                  have c21b1:(((jc l0 (rd t135 x7_1)).f1) != 8)=false:=bne_eq_false_iff_eq.mpr c21
                  clear c21
                  by_cases c22:((jc l0 (rd t135 x7_1)).f1)=9
                  ·rw [if_pos c22] at H
                   have c22b0:(((jc l0 (rd t135 x7_1)).f1) == 9)=true:=beq_iff_eq.mpr c22
                   have c22b1:(((jc l0 (rd t135 x7_1)).f1) != 9)=false:=bne_eq_false_iff_eq.mpr c22
                   clear c22
                   have H':=am H
                   clear H
                   have p140:0≤((ji14):Int):=ozD (uq)
                   have q140:(ji14)<(t135.length:Int):=ozD (uq)
                   obtain ⟨ad140,e140,hx140_0⟩:=Kd.jPb (Kd.jC HO_5.out).2.2 (ji14) p140 q140
                   obtain rfl:ad138=ad140:=(by injection e140)
                   replace p140:=ezT p140
                   replace q140:=ezT q140
                   have p141:0≤((rd t135 (ji14)):Int):=ozD (uq)
                   have q141:(rd t135 (ji14))<(l0.length:Int):=ozD (uq)
                   obtain ⟨ad141,e141,hx141_0,hx141_1,hx141_2,hx141_3⟩:=jua HR0.out (rd t135 (ji14)) p141 q141
                   obtain rfl:ad139=ad141:=(by injection e141)
                   replace hx141_0:=cb HB.out hx141_0
                   replace hx141_1:=cb HB.out hx141_1
                   replace hx141_2:=cb HB.out hx141_2
                   replace hx141_3:=cb HB.out hx141_3
                   replace p141:=ezT p141
                   replace q141:=ezT q141
                   have p142:0≤((ji14):Int):=ozD (uq)
                   have q142:(ji14)<(t135.length:Int):=ozD (uq)
                   obtain ⟨ad142,e142,hx142_0⟩:=Kd.jPb (Kd.jC HO_5.out).2.2 (ji14) p142 q142
                   obtain rfl:ad138=ad142:=(by injection e142)
                   replace p142:=ezT p142
                   replace q142:=ezT q142
                   have p143:0≤((rd t135 (ji14)):Int):=ozD (uq)
                   have q143:(rd t135 (ji14))<(l0.length:Int):=ozD (uq)
                   obtain ⟨ad143,e143,hx143_0,hx143_1,hx143_2,hx143_3⟩:=jua HR0.out (rd t135 (ji14)) p143 q143
                   obtain rfl:ad139=ad143:=(by injection e143)
                   replace hx143_0:=cb HB.out hx143_0
                   replace hx143_1:=cb HB.out hx143_1
                   replace hx143_2:=cb HB.out hx143_2
                   replace hx143_3:=cb HB.out hx143_3
                   replace p143:=ezT p143
                   replace q143:=ezT q143
                   go_wp2
                   go_meet
                   case rel=>exact ⟨_,((x6_8 == 0)),(sq),H',⟨by have:=HK1.out;have:=HJ8.out;first | omega | exact Nat.le_refl _⟩,⟨rq HO_5.out⟩,⟨bq⟩⟩
                  ·rw [if_neg c22] at H
                   have c22b0:(((jc l0 (rd t135 x7_1)).f1) == 9)=false:=beq_eq_false_iff_ne.mpr c22
                   have c22b1:(((jc l0 (rd t135 x7_1)).f1) != 9)=true:=bne_iff_ne.mpr c22
                   have H':=am H
                   clear H
                   have p140:0≤((ji14):Int):=ozD (uq)
                   have q140:(ji14)<(t135.length:Int):=ozD (uq)
                   obtain ⟨ad140,e140,hx140_0⟩:=Kd.jPb (Kd.jC HO_5.out).2.2 (ji14) p140 q140
                   obtain rfl:ad138=ad140:=(by injection e140)
                   replace p140:=ezT p140
                   replace q140:=ezT q140
                   have p141:0≤((rd t135 (ji14)):Int):=ozD (uq)
                   have q141:(rd t135 (ji14))<(l0.length:Int):=ozD (uq)
                   obtain ⟨ad141,e141,hx141_0,hx141_1,hx141_2,hx141_3⟩:=jua HR0.out (rd t135 (ji14)) p141 q141
                   obtain rfl:ad139=ad141:=(by injection e141)
                   replace hx141_0:=cb HB.out hx141_0
                   replace hx141_1:=cb HB.out hx141_1
                   replace hx141_2:=cb HB.out hx141_2
                   replace hx141_3:=cb HB.out hx141_3
                   replace p141:=ezT p141
                   replace q141:=ezT q141
                   have p142:0≤((ji14):Int):=ozD (uq)
                   have q142:(ji14)<(t135.length:Int):=ozD (uq)
                   obtain ⟨ad142,e142,hx142_0⟩:=Kd.jPb (Kd.jC HO_5.out).2.2 (ji14) p142 q142
                   obtain rfl:ad138=ad142:=(by injection e142)
                   replace p142:=ezT p142
                   replace q142:=ezT q142
                   have p143:0≤((rd t135 (ji14)):Int):=ozD (uq)
                   have q143:(rd t135 (ji14))<(l0.length:Int):=ozD (uq)
                   obtain ⟨ad143,e143,hx143_0,hx143_1,hx143_2,hx143_3⟩:=jua HR0.out (rd t135 (ji14)) p143 q143
                   obtain rfl:ad139=ad143:=(by injection e143)
                   replace hx143_0:=cb HB.out hx143_0
                   replace hx143_1:=cb HB.out hx143_1
                   replace hx143_2:=cb HB.out hx143_2
                   replace hx143_3:=cb HB.out hx143_3
                   replace p143:=ezT p143
                   replace q143:=ezT q143
                   go_wp2
                   go_meet
                   case rel=>exact ⟨_,(false),(sq),H',⟨by have:=HK1.out;have:=HJ8.out;first | omega | exact Nat.le_refl _⟩,⟨rq HO_5.out⟩,⟨bq⟩⟩
                 ·rw [if_neg c21] at H
                  have c21b0:(((jc l0 (rd t135 x7_1)).f1) == 8)=false:=beq_eq_false_iff_ne.mpr c21
                  have c21b1:(((jc l0 (rd t135 x7_1)).f1) != 8)=true:=bne_iff_ne.mpr c21
                  have H':=am H
                  clear H
                  have p140:0≤((ji14):Int):=ozD (uq)
                  have q140:(ji14)<(t135.length:Int):=ozD (uq)
                  obtain ⟨ad140,e140,hx140_0⟩:=Kd.jPb (Kd.jC HO_5.out).2.2 (ji14) p140 q140
                  obtain rfl:ad138=ad140:=(by injection e140)
                  replace p140:=ezT p140
                  replace q140:=ezT q140
                  have p141:0≤((rd t135 (ji14)):Int):=ozD (uq)
                  have q141:(rd t135 (ji14))<(l0.length:Int):=ozD (uq)
                  obtain ⟨ad141,e141,hx141_0,hx141_1,hx141_2,hx141_3⟩:=jua HR0.out (rd t135 (ji14)) p141 q141
                  obtain rfl:ad139=ad141:=(by injection e141)
                  replace hx141_0:=cb HB.out hx141_0
                  replace hx141_1:=cb HB.out hx141_1
                  replace hx141_2:=cb HB.out hx141_2
                  replace hx141_3:=cb HB.out hx141_3
                  replace p141:=ezT p141
                  replace q141:=ezT q141
                  have p142:0≤((ji14):Int):=ozD (uq)
                  have q142:(ji14)<(t135.length:Int):=ozD (uq)
                  obtain ⟨ad142,e142,hx142_0⟩:=Kd.jPb (Kd.jC HO_5.out).2.2 (ji14) p142 q142
                  obtain rfl:ad138=ad142:=(by injection e142)
                  replace p142:=ezT p142
                  replace q142:=ezT q142
                  have p143:0≤((rd t135 (ji14)):Int):=ozD (uq)
                  have q143:(rd t135 (ji14))<(l0.length:Int):=ozD (uq)
                  obtain ⟨ad143,e143,hx143_0,hx143_1,hx143_2,hx143_3⟩:=jua HR0.out (rd t135 (ji14)) p143 q143
                  obtain rfl:ad139=ad143:=(by injection e143)
                  replace hx143_0:=cb HB.out hx143_0
                  replace hx143_1:=cb HB.out hx143_1
                  replace hx143_2:=cb HB.out hx143_2
                  replace hx143_3:=cb HB.out hx143_3
                  replace p143:=ezT p143
                  replace q143:=ezT q143
                  go_wp2
                  go_meet
                  case rel=>exact ⟨_,(true),(sq),H',⟨by have:=HK1.out;have:=HJ8.out;first | omega | exact Nat.le_refl _⟩,⟨rq HO_5.out⟩,⟨bq⟩⟩
                ·rw [if_neg c20] at H
                 have c20b0:(((jc l0 (rd t135 x7_1)).f1) == ((jc l0 (rd t135 (ji14))).f1))=false:=beq_eq_false_iff_ne.mpr c20
                 have c20b1:(((jc l0 (rd t135 x7_1)).f1) != ((jc l0 (rd t135 (ji14))).f1))=true:=bne_iff_ne.mpr c20
                 by_cases c23:((jc l0 (rd t135 x7_1)).f1)=9
                 ·rw [if_pos c23] at H
                  have c23b0:(((jc l0 (rd t135 x7_1)).f1) == 9)=true:=beq_iff_eq.mpr c23
                  have c23b1:(((jc l0 (rd t135 x7_1)).f1) != 9)=false:=bne_eq_false_iff_eq.mpr c23
                  clear c23
                  have H':=am H
                  clear H
                  have p140:0≤((ji14):Int):=ozD (uq)
                  have q140:(ji14)<(t135.length:Int):=ozD (uq)
                  obtain ⟨ad140,e140,hx140_0⟩:=Kd.jPb (Kd.jC HO_5.out).2.2 (ji14) p140 q140
                  obtain rfl:ad138=ad140:=(by injection e140)
                  replace p140:=ezT p140
                  replace q140:=ezT q140
                  have p141:0≤((rd t135 (ji14)):Int):=ozD (uq)
                  have q141:(rd t135 (ji14))<(l0.length:Int):=ozD (uq)
                  obtain ⟨ad141,e141,hx141_0,hx141_1,hx141_2,hx141_3⟩:=jua HR0.out (rd t135 (ji14)) p141 q141
                  obtain rfl:ad139=ad141:=(by injection e141)
                  replace hx141_0:=cb HB.out hx141_0
                  replace hx141_1:=cb HB.out hx141_1
                  replace hx141_2:=cb HB.out hx141_2
                  replace hx141_3:=cb HB.out hx141_3
                  replace p141:=ezT p141
                  replace q141:=ezT q141
                  have p142:0≤((ji14):Int):=ozD (uq)
                  have q142:(ji14)<(t135.length:Int):=ozD (uq)
                  obtain ⟨ad142,e142,hx142_0⟩:=Kd.jPb (Kd.jC HO_5.out).2.2 (ji14) p142 q142
                  obtain rfl:ad138=ad142:=(by injection e142)
                  replace p142:=ezT p142
                  replace q142:=ezT q142
                  have p143:0≤((rd t135 (ji14)):Int):=ozD (uq)
                  have q143:(rd t135 (ji14))<(l0.length:Int):=ozD (uq)
                  obtain ⟨ad143,e143,hx143_0,hx143_1,hx143_2,hx143_3⟩:=jua HR0.out (rd t135 (ji14)) p143 q143
                  obtain rfl:ad139=ad143:=(by injection e143)
                  replace hx143_0:=cb HB.out hx143_0
                  replace hx143_1:=cb HB.out hx143_1
                  replace hx143_2:=cb HB.out hx143_2
                  replace hx143_3:=cb HB.out hx143_3
                  replace p143:=ezT p143
                  replace q143:=ezT q143
                  go_wp2
                  go_meet
                  case rel=>exact ⟨_,((x6_8 == 0)),(sq),H',⟨by have:=HK1.out;have:=HJ8.out;first | omega | exact Nat.le_refl _⟩,⟨rq HO_5.out⟩,⟨bq⟩⟩
                 ·rw [if_neg c23] at H
                  have c23b0:(((jc l0 (rd t135 x7_1)).f1) == 9)=false:=beq_eq_false_iff_ne.mpr c23
                  have c23b1:(((jc l0 (rd t135 x7_1)).f1) != 9)=true:=bne_iff_ne.mpr c23
                  have H':=am H
                  clear H
                  have p140:0≤((ji14):Int):=ozD (uq)
                  have q140:(ji14)<(t135.length:Int):=ozD (uq)
                  obtain ⟨ad140,e140,hx140_0⟩:=Kd.jPb (Kd.jC HO_5.out).2.2 (ji14) p140 q140
                  obtain rfl:ad138=ad140:=(by injection e140)
                  replace p140:=ezT p140
                  replace q140:=ezT q140
                  have p141:0≤((rd t135 (ji14)):Int):=ozD (uq)
                  have q141:(rd t135 (ji14))<(l0.length:Int):=ozD (uq)
                  obtain ⟨ad141,e141,hx141_0,hx141_1,hx141_2,hx141_3⟩:=jua HR0.out (rd t135 (ji14)) p141 q141
                  obtain rfl:ad139=ad141:=(by injection e141)
                  replace hx141_0:=cb HB.out hx141_0
                  replace hx141_1:=cb HB.out hx141_1
                  replace hx141_2:=cb HB.out hx141_2
                  replace hx141_3:=cb HB.out hx141_3
                  replace p141:=ezT p141
                  replace q141:=ezT q141
                  have p142:0≤((ji14):Int):=ozD (uq)
                  have q142:(ji14)<(t135.length:Int):=ozD (uq)
                  obtain ⟨ad142,e142,hx142_0⟩:=Kd.jPb (Kd.jC HO_5.out).2.2 (ji14) p142 q142
                  obtain rfl:ad138=ad142:=(by injection e142)
                  replace p142:=ezT p142
                  replace q142:=ezT q142
                  have p143:0≤((rd t135 (ji14)):Int):=ozD (uq)
                  have q143:(rd t135 (ji14))<(l0.length:Int):=ozD (uq)
                  obtain ⟨ad143,e143,hx143_0,hx143_1,hx143_2,hx143_3⟩:=jua HR0.out (rd t135 (ji14)) p143 q143
                  obtain rfl:ad139=ad143:=(by injection e143)
                  replace hx143_0:=cb HB.out hx143_0
                  replace hx143_1:=cb HB.out hx143_1
                  replace hx143_2:=cb HB.out hx143_2
                  replace hx143_3:=cb HB.out hx143_3
                  replace p143:=ezT p143
                  replace q143:=ezT q143
                  go_wp2
                  go_meet
                  case rel=>exact ⟨_,(false),(sq),H',⟨by have:=HK1.out;have:=HJ8.out;first | omega | exact Nat.le_refl _⟩,⟨rq HO_5.out⟩,⟨bq⟩⟩
              ·rw [if_neg c18] at H
               exact absurd H (by simp)
             ·rw [if_neg c17] at H
              exact absurd H (by simp)
            ·rw [if_neg c16] at H
             exact absurd H (by simp)
           ·rw [if_neg c15] at H
            exact absurd H (by simp)
          ·rw [if_neg c13] at H
           have c13b0:decide (1<x7_1)=false:=dzF c13
           clear c13
           (first | rw [c13b0] |(simp only [jkb,jnb];rw [c13b0]) | skip)
           by_cases c24:((jc l0 (rd t135 x7_1)).f1)=9
           ·rw [if_pos c24] at H
            have c24b0:(((jc l0 (rd t135 x7_1)).f1) == 9)=true:=beq_iff_eq.mpr c24
            have c24b1:(((jc l0 (rd t135 x7_1)).f1) != 9)=false:=bne_eq_false_iff_eq.mpr c24
            clear c24
            have H':=am H
            clear H
            go_wp2
            go_meet
            case rel=>exact ⟨_,((x6_8 == 0)),(sq),H',⟨by have:=HK1.out;have:=HJ8.out;first | omega | exact Nat.le_refl _⟩,⟨rq HO_5.out⟩,⟨bq⟩⟩
           ·rw [if_neg c24] at H
            have c24b0:(((jc l0 (rd t135 x7_1)).f1) == 9)=false:=beq_eq_false_iff_ne.mpr c24
            have c24b1:(((jc l0 (rd t135 x7_1)).f1) != 9)=true:=bne_iff_ne.mpr c24
            have H':=am H
            clear H
            go_wp2
            go_meet
            case rel=>exact ⟨_,(false),(sq),H',⟨by have:=HK1.out;have:=HJ8.out;first | omega | exact Nat.le_refl _⟩,⟨rq HO_5.out⟩,⟨bq⟩⟩
         case rest =>
          clear HC12
          try clear c1
          try clear p1
          try clear q1
          try clear hx1
          try clear c2
          try clear p2
          try clear c5
          try clear c5b0
          try clear c6
          try clear c6b0
          try clear p6
          try clear c7
          try clear c7b0
          try clear c8
          try clear c8b0
          try clear c11
          try clear c11b0
          try clear c11b1
          try clear c13
          try clear c13b0
          try clear p13
          try clear q13
          try clear hx13
          try clear p14
          try clear q14
          try clear hx14
          try clear c15
          try clear c15b0
          try clear c16
          try clear c16b0
          try clear c17
          try clear c17b0
          try clear c18
          try clear c18b0
          try clear c19
          try clear c19b0
          try clear c20
          try clear c20b0
          try clear c20b1
          try clear c21
          try clear c21b0
          try clear c21b1
          try clear c22
          try clear c22b0
          try clear c22b1
          try clear c23
          try clear c23b0
          try clear c23b1
          try clear c24
          try clear c24b0
          try clear c24b1
          try clear hx138_0
          try clear hx139_0
          try clear hx139_1
          try clear hx139_2
          try clear hx139_3
          try clear hx140_0
          try clear hx141_0
          try clear hx141_1
          try clear hx141_2
          try clear hx141_3
          try clear hx142_0
          try clear hx143_0
          try clear hx143_1
          try clear hx143_2
          try clear hx143_3
          try clear p1
          try clear p138
          try clear p139
          try clear p140
          try clear p141
          try clear p142
          try clear p143
          try clear p2
          try clear p6
          try clear q1
          try clear q138
          try clear q139
          try clear q140
          try clear q141
          try clear q142
          try clear q143
          obtain ⟨kq,x69_11,rfl,HA,HJ11,HO_5,HB⟩:=hcut
          cases kq with
          | zero=>exact absurd HA.out (by simp [jF.j2])
          | succ kj11 =>
           have H:=HA.out
           clear HA
           simp only [jF.j2] at H
           by_cases c25:x69_11=true
           ·subst c25
            have H1:(some false)=some r:=by rw [if_pos rfl] at H;exact H
            clear H
            have H:=H1
            clear H1
            obtain rfl:=Option.some.inj H
            go_wp2
            go_ret
            exact ⟨Y0,bq⟩
           ·replace c25:=Bool.eq_false_iff.mpr c25
            subst c25
            have H1:(jF.l0 kj11 l0 t135 x6_8 (wrap64 (x7_1+1)))=some r:=by rw [if_neg (show ¬ (false=true) by decide)] at H;exact H
            clear H
            have H:=H1
            clear H1
            have H':=am H
            clear H
            go_wp2
            go_roundg kj11
            case measure=>have:=HK1.out;have:=HJ8.out;have:=HJ11.out;omega
            case rel=>exact ⟨(x6_8),(wrap64 (x7_1+1)),(sq),(sq),H',⟨by have:=HK1.out;have:=HJ8.out;have:=HJ11.out;omega⟩,⟨rq HO_5.out⟩,⟨bq⟩⟩
      ·rw [if_neg c8] at H
       exact absurd H (by simp)
     ·rw [if_neg c7] at H
      exact absurd H (by simp)
    ·rw [if_neg c6] at H
     exact absurd H (by simp)
   ·rw [if_neg c5] at H
    have c5b0:decide (x7_1<(t135.length:Int))=false:=dzF c5
    clear c5
    by_cases c26:(t135.length:Int) > 1
    ·rw [if_pos c26] at H
     have c26b0:decide (1<(t135.length:Int))=true:=dzT c26
     have c26b1:decide (1<t135.length)=true:=dzT (by omega)
     clear c26
     obtain rfl:=Option.some.inj H
     obtain ⟨Ao27,co27,eo27⟩:=Kd.jta HO_5.out
     subst eo27
     go_wp2
     go_ret
     exact ⟨Y0,bq⟩
    ·rw [if_neg c26] at H
     have c26b0:decide (1<(t135.length:Int))=false:=dzF c26
     have c26b1:decide (1<t135.length)=false:=dzF (by omega)
     clear c26
     obtain rfl:=Option.some.inj H
     obtain ⟨Ao28,co28,eo28⟩:=Kd.jta HO_5.out
     subst eo28
     go_wp2
     go_ret
     exact ⟨Y0,bq⟩
def jPa.l0 : Nat → List (S52) → Int → Int → Option (Bool)
 | 0,_,_,_=>none
 | k+1,x0,x5,x6=>if x6≥0 then (if 0≤x6 then (if x6<(x0.length:Int) then (if ((jc x0 x6).f0)<x5 then (if ((jc x0 x6).f1)=12 then (some true) else (jPa.l0 k x0 ((jc x0 x6).f0) (wrap64 (x6 - 1)))) else (jPa.l0 k x0 x5 (wrap64 (x6 - 1)))) else (none)) else (none)) else (some false)
def jPa.f (k : Nat) (l0 : List (S52)) (a1 : Int) : Option (Bool) := if 0 ≤ a1 then (if a1 < (l0.length : Int) then (jPa.l0 k l0 ((jc l0 a1).f0) (wrap64 (a1 - 1))) else (none)) else (none)
set_option maxHeartbeats 8000000 in
set_option maxRecDepth 100000 in
theorem jPa.calls (k : Nat) (A0 : Option Addr) (c0 : Nat) (l0 : List (S52)) (a1 : Int) (r : Bool) (w : World) (hr0 : Kd.C k52 w A0 l0.length l0) (hc0 : l0.length ≤ c0) (h : jPa.f k l0 a1 = some r) :
  Calls Try.prog 88 #[.slice A0 l0.length c0, .int .i64 a1] w fun e w'=>e=.returned (.bool r)∧jXa w w':=by
 have HR0:=am hr0
 have HC0:=am hc0
 clear hr0 hc0
 have H:(if 0≤a1 then (if a1<(l0.length:Int) then (jPa.l0 k l0 ((jc l0 a1).f0) (wrap64 (a1 - 1))) else (none)) else (none))=some r:=h
 clear h
 by_cases c3:0≤a1
 ·rw [if_pos c3] at H
  have c3b0:decide (0≤a1)=true:=dzT c3
  clear c3
  by_cases c4:a1<(l0.length:Int)
  ·rw [if_pos c4] at H
   have c4b0:decide (a1<(l0.length:Int))=true:=dzT c4
   clear c4
   have H':=am H
   clear H
   have p144:0≤(a1:Int):=ozD (uq)
   have q144:a1<(l0.length:Int):=ozD (uq)
   obtain ⟨ad144,e144,hx144_0,hx144_1,hx144_2,hx144_3⟩:=jua HR0.out a1 p144 q144
   cases e144
   replace p144:=ezT p144
   replace q144:=ezT q144
   go_enter Try.func88,Try.ntmps88
   go_wp2
   go_loopg [5,6] k (fun kq v5 v6 w'=>∃ (x5_1:Int) (x6_1:Int),v5=.int .i64 x5_1∧v6=.int .i64 x6_1∧jl (jPa.l0 kq l0 x5_1 x6_1=some r)∧jl (kq≤k)∧jXa w w')
   case atStart=>exact ⟨((jc l0 a1).f0),(wrap64 (a1 - 1)),(sq),(sq),H',⟨Nat.le_refl _⟩,Y3⟩
   case round =>
    clear H'
    try clear p1
    try clear q1
    try clear hx1
    try clear p2
    try clear c3
    try clear c3b0
    try clear c4
    try clear c4b0
    try clear hx144_0
    try clear hx144_1
    try clear hx144_2
    try clear hx144_3
    try clear p144
    try clear q144
    obtain ⟨x5_1,x6_1,rfl,rfl,HA,HK1,⟨m1,rfl⟩⟩:=hrel
    cases gk with
    | zero=>exact absurd HA.out (by simp [jPa.l0])
    | succ k1 =>
     have H:=HA.out
     clear HA
     simp only [jPa.l0] at H
     by_cases c5:x6_1≥0
     ·rw [if_pos c5] at H
      have c5b0:decide (0≤x6_1)=true:=dzT c5
      clear c5
      by_cases c6:0≤x6_1
      ·rw [if_pos c6] at H
       have c6b0:decide (0≤x6_1)=true:=dzT c6
       clear c6
       by_cases c7:x6_1<(l0.length:Int)
       ·rw [if_pos c7] at H
        have c7b0:decide (x6_1<(l0.length:Int))=true:=dzT c7
        clear c7
        by_cases c8:((jc l0 x6_1).f0)<x5_1
        ·rw [if_pos c8] at H
         have c8b0:decide (((jc l0 x6_1).f0)<x5_1)=true:=dzT c8
         clear c8
         by_cases c9:((jc l0 x6_1).f1)=12
         ·rw [if_pos c9] at H
          have c9b0:(((jc l0 x6_1).f1) == 12)=true:=beq_iff_eq.mpr c9
          have c9b1:(((jc l0 x6_1).f1) != 12)=false:=bne_eq_false_iff_eq.mpr c9
          clear c9
          obtain rfl:=Option.some.inj H
          have p145:0≤(x6_1:Int):=ozD (uq)
          have q145:x6_1<(l0.length:Int):=ozD (uq)
          obtain ⟨ad145,e145,hx145_0,hx145_1,hx145_2,hx145_3⟩:=jua HR0.out x6_1 p145 q145
          obtain rfl:ad144=ad145:=(by injection e145)
          replace p145:=ezT p145
          replace q145:=ezT q145
          have p146:0≤(x6_1:Int):=ozD (uq)
          have q146:x6_1<(l0.length:Int):=ozD (uq)
          obtain ⟨ad146,e146,hx146_0,hx146_1,hx146_2,hx146_3⟩:=jua HR0.out x6_1 p146 q146
          obtain rfl:ad144=ad146:=(by injection e146)
          replace p146:=ezT p146
          replace q146:=ezT q146
          have p147:0≤(x6_1:Int):=ozD (uq)
          have q147:x6_1<(l0.length:Int):=ozD (uq)
          obtain ⟨ad147,e147,hx147_0,hx147_1,hx147_2,hx147_3⟩:=jua HR0.out x6_1 p147 q147
          obtain rfl:ad144=ad147:=(by injection e147)
          replace p147:=ezT p147
          replace q147:=ezT q147
          go_wp2
          go_ret
          exact ⟨sq,Y3⟩
         ·rw [if_neg c9] at H
          have c9b0:(((jc l0 x6_1).f1) == 12)=false:=beq_eq_false_iff_ne.mpr c9
          have c9b1:(((jc l0 x6_1).f1) != 12)=true:=bne_iff_ne.mpr c9
          have H':=am H
          clear H
          have p145:0≤(x6_1:Int):=ozD (uq)
          have q145:x6_1<(l0.length:Int):=ozD (uq)
          obtain ⟨ad145,e145,hx145_0,hx145_1,hx145_2,hx145_3⟩:=jua HR0.out x6_1 p145 q145
          obtain rfl:ad144=ad145:=(by injection e145)
          replace p145:=ezT p145
          replace q145:=ezT q145
          have p146:0≤(x6_1:Int):=ozD (uq)
          have q146:x6_1<(l0.length:Int):=ozD (uq)
          obtain ⟨ad146,e146,hx146_0,hx146_1,hx146_2,hx146_3⟩:=jua HR0.out x6_1 p146 q146
          obtain rfl:ad144=ad146:=(by injection e146)
          replace p146:=ezT p146
          replace q146:=ezT q146
          have p147:0≤(x6_1:Int):=ozD (uq)
          have q147:x6_1<(l0.length:Int):=ozD (uq)
          obtain ⟨ad147,e147,hx147_0,hx147_1,hx147_2,hx147_3⟩:=jua HR0.out x6_1 p147 q147
          obtain rfl:ad144=ad147:=(by injection e147)
          replace p147:=ezT p147
          replace q147:=ezT q147
          go_wp2
          go_roundg k1
          case measure=>have:=HK1.out;omega
          case rel=>exact ⟨((jc l0 x6_1).f0),(wrap64 (x6_1 - 1)),(sq),(sq),H',⟨by have:=HK1.out;omega⟩,Y3⟩
        ·rw [if_neg c8] at H
         have c8b0:decide (((jc l0 x6_1).f0)<x5_1)=false:=dzF c8
         clear c8
         have H':=am H
         clear H
         have p145:0≤(x6_1:Int):=ozD (uq)
         have q145:x6_1<(l0.length:Int):=ozD (uq)
         obtain ⟨ad145,e145,hx145_0,hx145_1,hx145_2,hx145_3⟩:=jua HR0.out x6_1 p145 q145
         obtain rfl:ad144=ad145:=(by injection e145)
         replace p145:=ezT p145
         replace q145:=ezT q145
         go_wp2
         go_roundg k1
         case measure=>have:=HK1.out;omega
         case rel=>exact ⟨(x5_1),(wrap64 (x6_1 - 1)),(sq),(sq),H',⟨by have:=HK1.out;omega⟩,Y3⟩
       ·rw [if_neg c7] at H
        exact absurd H (by simp)
      ·rw [if_neg c6] at H
       exact absurd H (by simp)
     ·rw [if_neg c5] at H
      have c5b0:decide (0≤x6_1)=false:=dzF c5
      clear c5
      obtain rfl:=Option.some.inj H
      go_wp2
      go_ret
      exact ⟨sq,Y3⟩
  ·rw [if_neg c4] at H
   exact absurd H (by simp)
 ·rw [if_neg c3] at H
  exact absurd H (by simp)
def jWa.l0 : Nat → List (S52) → Int → Int → Option (Int)
 | 0,_,_,_=>none
 | k+1,x0,x1,x5=>if x5≥0 then (if 0≤x5 then (if x5<(x0.length:Int) then (if 0≤x1 then (if x1<(x0.length:Int) then (if ((jc x0 x5).f0)<((jc x0 x1).f0) then (some (-1)) else (if ((jc x0 x5).f0)=((jc x0 x1).f0) then (some x5) else (jWa.l0 k x0 x1 (wrap64 (x5 - 1))))) else (none)) else (none)) else (none)) else (none)) else (some (-1))
def jWa.f (k : Nat) (l0 : List (S52)) (a1 : Int) : Option (Int) := jWa.l0 k l0 a1 (wrap64 (a1 - 1))
set_option maxHeartbeats 8000000 in
set_option maxRecDepth 100000 in
theorem jWa.calls (k : Nat) (A0 : Option Addr) (c0 : Nat) (l0 : List (S52)) (a1 : Int) (r : Int) (w : World) (hr0 : Kd.C k52 w A0 l0.length l0) (hc0 : l0.length ≤ c0) (h : jWa.f k l0 a1 = some r) :
  Calls Try.prog 90 #[.slice A0 l0.length c0, .int .i64 a1] w fun e w'=>e=.returned (.int .i64 r)∧jXa w w':=by
 have HR0:=am hr0
 have HC0:=am hc0
 clear hr0 hc0
 have H:(jWa.l0 k l0 a1 (wrap64 (a1 - 1)))=some r:=h
 clear h
 have H':=am H
 clear H
 go_enter Try.func90,Try.ntmps90
 go_wp2
 repeat (go_quiet (fail);try go_wp2)
 go_loopg [5] k (fun kq v5 w'=>∃ (x5_1:Int),v5=.int .i64 x5_1∧jl (jWa.l0 kq l0 a1 x5_1=some r)∧jl (kq≤k)∧jXa w w')
 case atStart=>exact ⟨(wrap64 (a1 - 1)),(sq),H',⟨Nat.le_refl _⟩,Y3⟩
 case round =>
  clear H'
  try clear p2
  obtain ⟨x5_1,rfl,HA,HK1,⟨m1,rfl⟩⟩:=hrel
  cases gk with
  | zero=>exact absurd HA.out (by simp [jWa.l0])
  | succ k1 =>
   have H:=HA.out
   clear HA
   simp only [jWa.l0] at H
   by_cases c3:x5_1≥0
   ·rw [if_pos c3] at H
    have c3b0:decide (0≤x5_1)=true:=dzT c3
    clear c3
    by_cases c4:0≤x5_1
    ·rw [if_pos c4] at H
     have c4b0:decide (0≤x5_1)=true:=dzT c4
     clear c4
     by_cases c5:x5_1<(l0.length:Int)
     ·rw [if_pos c5] at H
      have c5b0:decide (x5_1<(l0.length:Int))=true:=dzT c5
      clear c5
      by_cases c6:0≤a1
      ·rw [if_pos c6] at H
       have c6b0:decide (0≤a1)=true:=dzT c6
       clear c6
       by_cases c7:a1<(l0.length:Int)
       ·rw [if_pos c7] at H
        have c7b0:decide (a1<(l0.length:Int))=true:=dzT c7
        clear c7
        by_cases c8:((jc l0 x5_1).f0)<((jc l0 a1).f0)
        ·rw [if_pos c8] at H
         have c8b0:decide (((jc l0 x5_1).f0)<((jc l0 a1).f0))=true:=dzT c8
         clear c8
         obtain rfl:=Option.some.inj H
         have p148:0≤(x5_1:Int):=ozD (uq)
         have q148:x5_1<(l0.length:Int):=ozD (uq)
         obtain ⟨ad148,e148,hx148_0,hx148_1,hx148_2,hx148_3⟩:=jua HR0.out x5_1 p148 q148
         cases e148
         replace p148:=ezT p148
         replace q148:=ezT q148
         have p149:0≤(a1:Int):=ozD (uq)
         have q149:a1<(l0.length:Int):=ozD (uq)
         obtain ⟨ad149,e149,hx149_0,hx149_1,hx149_2,hx149_3⟩:=jua HR0.out a1 p149 q149
         obtain rfl:ad148=ad149:=(by injection e149)
         replace p149:=ezT p149
         replace q149:=ezT q149
         go_wp2
         repeat (go_quiet (fail);try go_wp2)
         go_ret
         exact ⟨sq,Y3⟩
        ·rw [if_neg c8] at H
         have c8b0:decide (((jc l0 x5_1).f0)<((jc l0 a1).f0))=false:=dzF c8
         clear c8
         by_cases c9:((jc l0 x5_1).f0)=((jc l0 a1).f0)
         ·rw [if_pos c9] at H
          have c9b0:(((jc l0 x5_1).f0) == ((jc l0 a1).f0))=true:=beq_iff_eq.mpr c9
          have c9b1:(((jc l0 x5_1).f0) != ((jc l0 a1).f0))=false:=bne_eq_false_iff_eq.mpr c9
          clear c9
          obtain rfl:=Option.some.inj H
          have p148:0≤(x5_1:Int):=ozD (uq)
          have q148:x5_1<(l0.length:Int):=ozD (uq)
          obtain ⟨ad148,e148,hx148_0,hx148_1,hx148_2,hx148_3⟩:=jua HR0.out x5_1 p148 q148
          cases e148
          replace p148:=ezT p148
          replace q148:=ezT q148
          have p149:0≤(a1:Int):=ozD (uq)
          have q149:a1<(l0.length:Int):=ozD (uq)
          obtain ⟨ad149,e149,hx149_0,hx149_1,hx149_2,hx149_3⟩:=jua HR0.out a1 p149 q149
          obtain rfl:ad148=ad149:=(by injection e149)
          replace p149:=ezT p149
          replace q149:=ezT q149
          have p150:0≤(x5_1:Int):=ozD (uq)
          have q150:x5_1<(l0.length:Int):=ozD (uq)
          obtain ⟨ad150,e150,hx150_0,hx150_1,hx150_2,hx150_3⟩:=jua HR0.out x5_1 p150 q150
          obtain rfl:ad148=ad150:=(by injection e150)
          replace p150:=ezT p150
          replace q150:=ezT q150
          have p151:0≤(a1:Int):=ozD (uq)
          have q151:a1<(l0.length:Int):=ozD (uq)
          obtain ⟨ad151,e151,hx151_0,hx151_1,hx151_2,hx151_3⟩:=jua HR0.out a1 p151 q151
          obtain rfl:ad148=ad151:=(by injection e151)
          replace p151:=ezT p151
          replace q151:=ezT q151
          go_wp2
          repeat (go_quiet (fail);try go_wp2)
          go_ret
          exact ⟨sq,Y3⟩
         ·rw [if_neg c9] at H
          have c9b0:(((jc l0 x5_1).f0) == ((jc l0 a1).f0))=false:=beq_eq_false_iff_ne.mpr c9
          have c9b1:(((jc l0 x5_1).f0) != ((jc l0 a1).f0))=true:=bne_iff_ne.mpr c9
          have H':=am H
          clear H
          have p148:0≤(x5_1:Int):=ozD (uq)
          have q148:x5_1<(l0.length:Int):=ozD (uq)
          obtain ⟨ad148,e148,hx148_0,hx148_1,hx148_2,hx148_3⟩:=jua HR0.out x5_1 p148 q148
          cases e148
          replace p148:=ezT p148
          replace q148:=ezT q148
          have p149:0≤(a1:Int):=ozD (uq)
          have q149:a1<(l0.length:Int):=ozD (uq)
          obtain ⟨ad149,e149,hx149_0,hx149_1,hx149_2,hx149_3⟩:=jua HR0.out a1 p149 q149
          obtain rfl:ad148=ad149:=(by injection e149)
          replace p149:=ezT p149
          replace q149:=ezT q149
          have p150:0≤(x5_1:Int):=ozD (uq)
          have q150:x5_1<(l0.length:Int):=ozD (uq)
          obtain ⟨ad150,e150,hx150_0,hx150_1,hx150_2,hx150_3⟩:=jua HR0.out x5_1 p150 q150
          obtain rfl:ad148=ad150:=(by injection e150)
          replace p150:=ezT p150
          replace q150:=ezT q150
          have p151:0≤(a1:Int):=ozD (uq)
          have q151:a1<(l0.length:Int):=ozD (uq)
          obtain ⟨ad151,e151,hx151_0,hx151_1,hx151_2,hx151_3⟩:=jua HR0.out a1 p151 q151
          obtain rfl:ad148=ad151:=(by injection e151)
          replace p151:=ezT p151
          replace q151:=ezT q151
          go_wp2
          repeat (go_quiet (fail);try go_wp2)
          go_roundg k1
          case measure=>have:=HK1.out;omega
          case rel=>exact ⟨(wrap64 (x5_1 - 1)),(sq),H',⟨by have:=HK1.out;omega⟩,Y3⟩
       ·rw [if_neg c7] at H
        exact absurd H (by simp)
      ·rw [if_neg c6] at H
       exact absurd H (by simp)
     ·rw [if_neg c5] at H
      exact absurd H (by simp)
    ·rw [if_neg c4] at H
     exact absurd H (by simp)
   ·rw [if_neg c3] at H
    have c3b0:decide (0≤x5_1)=false:=dzF c3
    clear c3
    obtain rfl:=Option.some.inj H
    go_wp2
    repeat (go_quiet (fail);try go_wp2)
    go_ret
    exact ⟨sq,Y3⟩
def jq.inB (a lo hi : Int) : Bool := decide (lo ≤ a) && decide (a ≤ hi)
theorem jec (a lo hi : Int) : jH.f a lo hi = some (jq.inB a lo hi) := by
 unfold jH.f jq.inB
 by_cases h:lo≤a
 ·rw [if_pos h];simp [h]
 ·rw [if_neg h];simp [h]
theorem spec_opens_eq (a : Int) : jGc.f a = some (jq.inB a 7 12) := by
 unfold jGc.f
 rw [jec];rfl
theorem spec_follows_eq (a : Int) : jvb.f a = some (jq.inB a 8 10) := by
 unfold jvb.f
 rw [jec];rfl
def jq.off (p : List S52) (i : Int) (x : S52) : Bool :=
 if (if i=0 then decide (x.f0≠0) else if (wrap64 ((jc p (i - 1)).f0+1))<x.f0 then true else (jq.inB (jc p (i - 1)).f1 7 12 != (x.f0 == wrap64 ((jc p (i - 1)).f0+1)))) then true
 else decide (i+1=(p.length:Int)) && jq.inB x.f1 7 12
def jq.f (k : Nat) (l0_0 : List S78) (l1 : List S52) (a2 : Int) : Option Bool :=
 if 0≤a2 then if a2<(l1.length:Int) then
  (jxa.f k l0_0 (jc l1 a2).f0 (jc l1 a2).f1 (jc l1 a2).f2 (jc l1 a2).f3).bind fun v =>
  if v=false then some false else if jq.inB (jc l1 a2).f0 0 5=false then some false else
  if jq.off l1 a2 (jc l1 a2) then some false else
  (if (jc l1 a2).f1=7 then jF.f k l1 a2 else some true).bind fun c1=>if c1=false then some false else
  (if (jc l1 a2).f1=5∨(jc l1 a2).f1=6 then jPa.f k l1 a2 else some true).bind fun c2=>if c2=false then some false else
  if jq.inB (jc l1 a2).f1 8 10=false then some true else
  (jWa.f k l1 a2).bind fun h=>if 0≤h then if h<(l1.length:Int) then some ((jc l1 h).f1 == 7 || jq.inB (jc l1 h).f1 8 10) else none else some false
 else none else none
def VX (W : World) (BX : Nat) (x : S52) : Prop := W.heap[BX]? = some (.cells #[.int .i64 x.f0, .int .i64 x.f1, .int .i64 x.f2, .int .i64 x.f3] 52 (0, 0))
theorem VX.below {W W' : World} {BX : Nat} {x : S52} (h : VX W BX x) (hb : Below W.heap.size W W') : VX W' BX x := (hb.block _ (jEb h)).trans h
theorem VX.cells {W : World} {BX : Nat} {x : S52} (h : VX W BX x) : W.cell? ⟨BX, 0, none⟩ = some (.int .i64 x.f0) ∧ W.cell? ⟨BX, 1, none⟩ = some (.int .i64 x.f1) ∧ W.cell? ⟨BX, 2, none⟩ = some (.int .i64 x.f2) ∧ W.cell? ⟨BX, 3, none⟩ = some (.int .i64 x.f3) :=
 ⟨(jJ h 0).trans rfl,(jJ h 1).trans rfl,(jJ h 2).trans rfl,(jJ h 3).trans rfl⟩
set_option maxHeartbeats 8000000 in
set_option maxRecDepth 100000 in
theorem jq.calls (k : Nat) (A0_0 : Option Addr) (c0_0 : Nat) (l0_0 : List S78) (A1 : Option Addr) (c1 : Nat) (l1 : List S52) (a2 : Int) (r : Bool) (w : World) (hr0_0 : Kd.C k78 w A0_0 l0_0.length l0_0) (hc0_0 : l0_0.length ≤ c0_0) (hr1 : Kd.C k52 w A1 l1.length l1) (hc1 : l1.length ≤ c1) (h : jq.f k l0_0 l1 a2 = some r) :
  Calls Try.prog 57 #[.agg #[.slice A0_0 l0_0.length c0_0], .slice A1 l1.length c1, .int .i64 a2] w fun e w'=>e=.returned (.bool r)∧Below w.heap.size w w':=by
 have hu32:=Try.underlying32
 have hu52:=Try.underlying52
 have hm:l1.length≤9223372036854775807:=Kd.C_max hr1
 unfold jq.f at h
 by_cases h0:0≤a2
 ·rw [if_pos h0] at h
  by_cases h1:a2<(l1.length:Int)
  ·rw [if_pos h1] at h
   obtain ⟨v,hv,h⟩:=bzS h
   have HN:=am (fun W (hb:Below w.heap.size w W)=>jxa.calls k A0_0 c0_0 l0_0 _ _ _ _ v W (Kd.jZ hr0_0 hb) hc0_0 hv)
   clear hv
   obtain ⟨ad,rfl,hx0,hx1,hx2,hx3⟩:=jua hr1 a2 h0 h1
   have HR1:=am hr1
   clear hr0_0 hr1
   generalize hgx:jc l1 a2=x at h HN hx0 hx1 hx2 hx3
   clear hgx
   have X1:=am (show VX ((w.alloc (.cells #[.slice A0_0 l0_0.length c0_0] 32)).alloc (.cells #[.int .i64 x.f0, .int .i64 x.f1, .int .i64 x.f2, .int .i64 x.f3] 52)) (w.heap.size+1) x by have:=heap_alloc_new (w.alloc (.cells #[.slice A0_0 l0_0.length c0_0] 32)) (.cells #[.int .i64 x.f0, .int .i64 x.f1, .int .i64 x.f2, .int .i64 x.f3] 52);simpa [VX] using this)
   have HB1:=am (((Below.refl w.heap.size w).alloc (Nat.le_refl _) (.cells #[.slice A0_0 l0_0.length c0_0] 32)).alloc (by simp) (.cells #[.int .i64 x.f0, .int .i64 x.f1, .int .i64 x.f2, .int .i64 x.f3] 52))
   have hbt:=(Below.refl w.heap.size w).alloc (Nat.le_refl _) (.cells #[.slice A0_0 l0_0.length c0_0] 32)
   replace hx0:=jia hbt hx0
   replace hx1:=jia hbt hx1
   replace hx2:=jia hbt hx2
   replace hx3:=jia hbt hx3
   clear hbt
   have p0:=ezT h0
   have p1:=ezT h1
   cases v with
   | false =>
    obtain rfl:false=r:=by simpa using h
    clear h
    go_enter Try.func57,Try.ntmps57
    go_wp2_with (first |(go_at_call 84;refine (HN.out _ HB1.out).mono ?_;rintro e w2 ⟨rfl,hb2⟩;have X2:=am (VX.below X1.out hb2);have HB2:=am (jga HB1.out HB1.out.size hb2);clear hb2;obtain ⟨e0,e1,e2,e3⟩:=VX.cells X2.out))
    go_ret
    exact ⟨rfl,HB2.out⟩
   | true =>
    simp only [Bool.true_eq_false,if_false] at h
    cases h5:jq.inB x.f0 0 5 with
    | false =>
     have H5:=am h5
     rw [h5,if_pos rfl] at h
     obtain rfl:false=r:=by simpa using h
     clear h h5
     go_enter Try.func57,Try.ntmps57
     go_wp2_with (first |(go_at_call 84;refine (HN.out _ HB1.out).mono ?_;rintro e w2 ⟨rfl,hb2⟩;have X2:=am (VX.below X1.out hb2);have HB2:=am (jga HB1.out HB1.out.size hb2);clear hb2;obtain ⟨e0,e1,e2,e3⟩:=VX.cells X2.out) |(go_at_call 85;refine (jH.calls _ _ _ _ _ (jec _ _ _)).mono ?_;rintro e w3 ⟨rfl,hd3⟩;have hb3:=hd3.below;clear hd3;have X3:=am (VX.below X2.out hb3);have HB3:=am (jga HB2.out HB2.out.size hb3);clear hb3 e0 e1 e2 e3;obtain ⟨e0,e1,e2,e3⟩:=VX.cells X3.out;rw [H5.out]))
     go_ret
     exact ⟨rfl,HB3.out⟩
    | true =>
     have H5:=am h5
     rw [h5] at h
     simp only [Bool.true_eq_false,if_false] at h
     clear h5
     have HH:=am h
     clear h
     go_enter Try.func57,Try.ntmps57
     go_upto_region 4 with (first |(go_at_call 84;refine (HN.out _ HB1.out).mono ?_;rintro e w2 ⟨rfl,hb2⟩;have X2:=am (VX.below X1.out hb2);have HB2:=am (jga HB1.out HB1.out.size hb2);clear hb2;obtain ⟨e0,e1,e2,e3⟩:=VX.cells X2.out) |(go_at_call 85;refine (jH.calls _ _ _ _ _ (jec _ _ _)).mono ?_;rintro e w3 ⟨rfl,hd3⟩;have hb3:=hd3.below;clear hd3;have X3:=am (VX.below X2.out hb3);have HB3:=am (jga HB2.out HB2.out.size hb3);clear hb3 e0 e1 e2 e3;obtain ⟨e0,e1,e2,e3⟩:=VX.cells X3.out;rw [H5.out]))
     go_cut [77] (fun v77 wc=>v77=.bool (jq.off l1 a2 x)∧jl (VX wc (w.heap.size+1) x)∧jl (Below w.heap.size w wc))
     case first =>
      clear HH
      have HO:=am (fun (a:Int) (b:Bool) (hb:jq.inB a 7 12=b) W=>(jGc.calls a b W (by rw [spec_opens_eq,hb])).mono fun e w' h=>(⟨h.1,h.2.out⟩:e=.returned (.bool b)∧∃ m,w'=W.drewN m))
      have hw2:IntKind.i64.wrap (a2+1)=a2+1:=IntWalk.i64_in _ (by omega)
      by_cases z0:a2=0
      ·have b0:(a2 == 0)=true:=beq_iff_eq.2 z0
       have b0':decide (0<a2)=false:=dzF (by omega)
       by_cases zx:x.f0=0
       ·have b1:(x.f0 != 0)=false:=by simpa using zx
        have HE:=am (by unfold jq.off;rw [if_pos z0];simp [zx]:jq.off l1 a2 x=(decide (a2+1=(l1.length:Int)) && jq.inB x.f1 7 12))
        clear z0
        clear zx
        by_cases zl:a2+1=(l1.length:Int)
        ·have b3:(a2+1 == (l1.length:Int))=true:=by rw [beq_iff_eq];omega
         cases hx:jq.inB x.f1 7 12 with
         | true =>
          have HX:=am hx
          have HF:=am (by rw [HE.out,hx,dzT zl];rfl:jq.off l1 a2 x=true)
          clear zl hx HE
          go_big_quiet ((go_at_call 86;exact Calls.quiet_of (HO.out x.f1 _ HX.out _)))
          go_wp2
          go_meet
          case rel=>exact ⟨by rw [HF.out],X3,⟨jm HB3.out _⟩⟩
         | false =>
          have HX:=am hx
          have HF:=am (by rw [HE.out,hx];simp:jq.off l1 a2 x=false)
          clear zl hx HE
          go_big_quiet ((go_at_call 86;exact Calls.quiet_of (HO.out x.f1 _ HX.out _)))
          go_wp2
          go_meet
          case rel=>exact ⟨by rw [HF.out],X3,⟨jm HB3.out _⟩⟩
        ·have b3:(a2+1 == (l1.length:Int))=false:=by rw [beq_eq_false_iff_ne];omega
         have HF:=am (by rw [HE.out,dzF zl];rfl:jq.off l1 a2 x=false)
         clear zl HE
         go_big_quiet (fail)
         go_wp2
         go_meet
         case rel=>exact ⟨by rw [HF.out],X3,⟨jm HB3.out _⟩⟩
       ·have b1:(x.f0 != 0)=true:=by simpa using zx
        have HF:=am (by unfold jq.off;rw [if_pos z0];simp [zx]:jq.off l1 a2 x=true)
        clear zx z0
        go_big_quiet (fail)
        go_wp2
        go_meet
        case rel=>exact ⟨by rw [HF.out],X3,⟨jm HB3.out _⟩⟩
      ·have b0:(a2 == 0)=false:=beq_eq_false_iff_ne.2 z0
       have b0':decide (0<a2)=true:=dzT (by omega)
       have q0:0≤a2 - 1:=by omega
       have q1:a2 - 1<(l1.length:Int):=by omega
       obtain ⟨j,hj⟩:∃ j,a2 - 1=j:=⟨_,rfl⟩
       rw [hj] at q0 q1
       obtain ⟨ad',he,y0,y1,y2,y3⟩:=jua HR1.out j q0 q1
       cases he
       replace y0:=jia HB3.out y0
       replace y1:=jia HB3.out y1
       clear y2 y3
       replace q0:=ezT q0
       replace q1:=ezT q1
       have HD:=am (by unfold jq.off;rw [if_neg z0]:jq.off l1 a2 x=if (if (wrap64 ((jc l1 (a2 - 1)).f0+1))<x.f0 then true else (jq.inB (jc l1 (a2 - 1)).f1 7 12 != (x.f0 == wrap64 ((jc l1 (a2 - 1)).f0+1)))) then true else decide (a2+1=(l1.length:Int)) && jq.inB x.f1 7 12)
       clear z0
       rw [hj] at HD
       generalize jc l1 j=y at HD y0 y1
       generalize hz:wrap64 (y.f0+1)=z at HD
       have HZ:=am hz
       by_cases zt:z<x.f0
       ·have b4:decide (z<x.f0)=true:=dzT zt
        have HF:=am (by rw [HD.out];simp [zt]:jq.off l1 a2 x=true)
        clear zt HD
        go_big_quiet (fail)
        go_wp2
        go_meet
        case rel=>exact ⟨by rw [HF.out],X3,⟨jm HB3.out _⟩⟩
       ·have b4:decide (z<x.f0)=false:=dzF zt
        cases hy:jq.inB y.f1 7 12 with
        | true =>
         have HY:=am hy
         by_cases ze:x.f0=z
         ·have b5:(x.f0 == z)=true:=beq_iff_eq.2 ze
          have HE:=am (by rw [HD.out,hy,b5];simp [zt]:jq.off l1 a2 x=(decide (a2+1=(l1.length:Int)) && jq.inB x.f1 7 12))
          clear zt HD hy ze
          by_cases zl:a2+1=(l1.length:Int)
          ·have b3:(a2+1 == (l1.length:Int))=true:=by rw [beq_iff_eq];omega
           cases hx:jq.inB x.f1 7 12 with
           | true =>
            have HX:=am hx
            have HF:=am (by rw [HE.out,hx,dzT zl];rfl:jq.off l1 a2 x=true)
            clear zl hx HE
            go_big_quiet (first |(go_at_call 86;exact Calls.quiet_of (HO.out y.f1 _ HY.out _)) |(go_at_call 86;exact Calls.quiet_of (HO.out x.f1 _ HX.out _)))
            go_wp2
            go_meet
            case rel=>exact ⟨by rw [HF.out],X3,⟨jm HB3.out _⟩⟩
           | false =>
            have HX:=am hx
            have HF:=am (by rw [HE.out,hx];simp:jq.off l1 a2 x=false)
            clear zl hx HE
            go_big_quiet (first |(go_at_call 86;exact Calls.quiet_of (HO.out y.f1 _ HY.out _)) |(go_at_call 86;exact Calls.quiet_of (HO.out x.f1 _ HX.out _)))
            go_wp2
            go_meet
            case rel=>exact ⟨by rw [HF.out],X3,⟨jm HB3.out _⟩⟩
          ·have b3:(a2+1 == (l1.length:Int))=false:=by rw [beq_eq_false_iff_ne];omega
           have HF:=am (by rw [HE.out,dzF zl];rfl:jq.off l1 a2 x=false)
           clear zl HE
           go_big_quiet ((go_at_call 86;exact Calls.quiet_of (HO.out y.f1 _ HY.out _)))
           go_wp2
           go_meet
           case rel=>exact ⟨by rw [HF.out],X3,⟨jm HB3.out _⟩⟩
         ·have b5:(x.f0 == z)=false:=beq_eq_false_iff_ne.2 ze
          have HF:=am (by rw [HD.out,hy,b5];simp:jq.off l1 a2 x=true)
          clear zt HD hy ze
          go_big_quiet ((go_at_call 86;exact Calls.quiet_of (HO.out y.f1 _ HY.out _)))
          go_wp2
          go_meet
          case rel=>exact ⟨by rw [HF.out],X3,⟨jm HB3.out _⟩⟩
        | false =>
         have HY:=am hy
         by_cases ze:x.f0=z
         ·have b5:(x.f0 == z)=true:=beq_iff_eq.2 ze
          have HF:=am (by rw [HD.out,hy,b5];simp:jq.off l1 a2 x=true)
          clear zt HD hy ze
          go_big_quiet ((go_at_call 86;exact Calls.quiet_of (HO.out y.f1 _ HY.out _)))
          go_wp2
          go_meet
          case rel=>exact ⟨by rw [HF.out],X3,⟨jm HB3.out _⟩⟩
         ·have b5:(x.f0 == z)=false:=beq_eq_false_iff_ne.2 ze
          have HE:=am (by rw [HD.out,hy,b5];simp [zt]:jq.off l1 a2 x=(decide (a2+1=(l1.length:Int)) && jq.inB x.f1 7 12))
          clear zt HD hy ze
          by_cases zl:a2+1=(l1.length:Int)
          ·have b3:(a2+1 == (l1.length:Int))=true:=by rw [beq_iff_eq];omega
           cases hx:jq.inB x.f1 7 12 with
           | true =>
            have HX:=am hx
            have HF:=am (by rw [HE.out,hx,dzT zl];rfl:jq.off l1 a2 x=true)
            clear zl hx HE
            go_big_quiet (first |(go_at_call 86;exact Calls.quiet_of (HO.out y.f1 _ HY.out _)) |(go_at_call 86;exact Calls.quiet_of (HO.out x.f1 _ HX.out _)))
            go_wp2
            go_meet
            case rel=>exact ⟨by rw [HF.out],X3,⟨jm HB3.out _⟩⟩
           | false =>
            have HX:=am hx
            have HF:=am (by rw [HE.out,hx];simp:jq.off l1 a2 x=false)
            clear zl hx HE
            go_big_quiet (first |(go_at_call 86;exact Calls.quiet_of (HO.out y.f1 _ HY.out _)) |(go_at_call 86;exact Calls.quiet_of (HO.out x.f1 _ HX.out _)))
            go_wp2
            go_meet
            case rel=>exact ⟨by rw [HF.out],X3,⟨jm HB3.out _⟩⟩
          ·have b3:(a2+1 == (l1.length:Int))=false:=by rw [beq_eq_false_iff_ne];omega
           have HF:=am (by rw [HE.out,dzF zl];rfl:jq.off l1 a2 x=false)
           clear zl HE
           go_big_quiet ((go_at_call 86;exact Calls.quiet_of (HO.out y.f1 _ HY.out _)))
           go_wp2
           go_meet
           case rel=>exact ⟨by rw [HF.out],X3,⟨jm HB3.out _⟩⟩
     case rest =>
      obtain ⟨rfl,X4,HB4⟩:=hcut
      clear X1 HB1
      have h:=HH.out
      clear HH
      obtain ⟨e0,e1,e2,e3⟩:=VX.cells X4.out
      have tok:True:=trivial
      have HO:=am (fun (a:Int) (b:Bool) (hb:jq.inB a 8 10=b) W=>jvb.calls a b W (by rw [spec_follows_eq,hb]))
      cases ho:jq.off l1 a2 x with
      | true =>
       rw [ho,if_pos rfl] at h
       obtain rfl:false=r:=by simpa using h
       clear h ho
       go_wp2
       go_ret
       exact ⟨rfl,HB4.out⟩
      | false =>
       rw [ho] at h
       simp only [Bool.false_eq_true,if_false] at h
       clear ho
       obtain ⟨c,hc,h⟩:=bzS h
       by_cases z7:x.f1=7
       ·rw [if_pos z7] at hc
        have HC:=am (fun W (hb:Below w.heap.size w W)=>jF.calls k _ c1 l1 a2 c W (Kd.jZ HR1.out hb) hc1 hc)
        have b7:(x.f1 == 7)=true:=beq_iff_eq.2 z7
        have b5:(x.f1 == 5)=false:=beq_eq_false_iff_ne.2 (by omega)
        have b6:(x.f1 == 6)=false:=beq_eq_false_iff_ne.2 (by omega)
        cases c with
        | false =>
         obtain rfl:false=r:=by simpa using h
         clear h hc z7
         go_wp2_with (first |(go_at_call 87;refine (HC.out _ HB4.out).mono ?_;rintro e w5 ⟨rfl,hb5⟩;have X5:=am (VX.below X4.out hb5);have HB5:=am (jga HB4.out HB4.out.size hb5);clear hb5 e0 e1 e2 e3;obtain ⟨e0,e1,e2,e3⟩:=VX.cells X5.out))
         go_ret
         exact ⟨rfl,HB5.out⟩
        | true =>
         have hx:jq.inB x.f1 8 10=false:=by unfold jq.inB;rw [z7];rfl
         have HX:=am hx
         obtain rfl:true=r:=by simpa [z7,show jq.inB 7 8 10=false from rfl] using h
         clear h hc z7 hx
         go_wp2_with (first |(go_at_call 87;refine (HC.out _ HB4.out).mono ?_;rintro e w5 ⟨rfl,hb5⟩;have X5:=am (VX.below X4.out hb5);have HB5:=am (jga HB4.out HB4.out.size hb5);clear hb5 e0 e1 e2 e3;obtain ⟨e0,e1,e2,e3⟩:=VX.cells X5.out) |(go_at_call 89;have tk:=tok;clear tok;refine (HO.out x.f1 _ HX.out _).mono ?_;rintro e w6 ⟨rfl,hd6⟩;have hb6:=hd6.below;clear hd6;have X6:=am (VX.below X5.out hb6);have HB6:=am (jga HB5.out HB5.out.size hb6);clear hb6 e0 e1 e2 e3;obtain ⟨e0,e1,e2,e3⟩:=VX.cells X6.out))
         go_ret
         exact ⟨rfl,HB6.out⟩
       ·rw [if_neg z7] at hc
        obtain rfl:true=c:=by simpa using hc
        clear hc
        have b7:(x.f1 == 7)=false:=beq_eq_false_iff_ne.2 z7
        simp only [Bool.true_eq_false,if_false] at h
        obtain ⟨c,hc,h⟩:=bzS h
        by_cases z56:x.f1=5∨x.f1=6
        ·rw [if_pos z56] at hc
         have HC:=am (fun W (hb:Below w.heap.size w W)=>jPa.calls k _ c1 l1 a2 c W (Kd.jZ HR1.out hb) hc1 hc)
         have hx:jq.inB x.f1 8 10=false:=by rcases z56 with z | z <;> (unfold jq.inB;rw [z];rfl)
         have HX:=am hx
         cases c with
         | false =>
          obtain rfl:false=r:=by simpa using h
          clear h hc hx
          rcases z56 with z | z
          ·have b5:(x.f1 == 5)=true:=beq_iff_eq.2 z
           clear z z7
           go_wp2_with (first |(go_at_call 88;refine (HC.out _ HB4.out).mono ?_;rintro e w5 ⟨rfl,hd5⟩;have hb5:=hd5.below;clear hd5;have X5:=am (VX.below X4.out hb5);have HB5:=am (jga HB4.out HB4.out.size hb5);clear hb5 e0 e1 e2 e3;obtain ⟨e0,e1,e2,e3⟩:=VX.cells X5.out))
           go_ret
           exact ⟨rfl,HB5.out⟩
          ·have b5:(x.f1 == 5)=false:=beq_eq_false_iff_ne.2 (by omega)
           have b6:(x.f1 == 6)=true:=beq_iff_eq.2 z
           clear z z7
           go_wp2_with (first |(go_at_call 88;refine (HC.out _ HB4.out).mono ?_;rintro e w5 ⟨rfl,hd5⟩;have hb5:=hd5.below;clear hd5;have X5:=am (VX.below X4.out hb5);have HB5:=am (jga HB4.out HB4.out.size hb5);clear hb5 e0 e1 e2 e3;obtain ⟨e0,e1,e2,e3⟩:=VX.cells X5.out))
           go_ret
           exact ⟨rfl,HB5.out⟩
         | true =>
          obtain rfl:true=r:=by simpa [hx] using h
          clear h hc hx
          rcases z56 with z | z
          ·have b5:(x.f1 == 5)=true:=beq_iff_eq.2 z
           clear z z7
           go_wp2_with (first |(go_at_call 88;refine (HC.out _ HB4.out).mono ?_;rintro e w5 ⟨rfl,hd5⟩;have hb5:=hd5.below;clear hd5;have X5:=am (VX.below X4.out hb5);have HB5:=am (jga HB4.out HB4.out.size hb5);clear hb5 e0 e1 e2 e3;obtain ⟨e0,e1,e2,e3⟩:=VX.cells X5.out) |(go_at_call 89;have tk:=tok;clear tok;refine (HO.out x.f1 _ HX.out _).mono ?_;rintro e w6 ⟨rfl,hd6⟩;have hb6:=hd6.below;clear hd6;have X6:=am (VX.below X5.out hb6);have HB6:=am (jga HB5.out HB5.out.size hb6);clear hb6 e0 e1 e2 e3;obtain ⟨e0,e1,e2,e3⟩:=VX.cells X6.out))
           go_ret
           exact ⟨rfl,HB6.out⟩
          ·have b5:(x.f1 == 5)=false:=beq_eq_false_iff_ne.2 (by omega)
           have b6:(x.f1 == 6)=true:=beq_iff_eq.2 z
           clear z z7
           go_wp2_with (first |(go_at_call 88;refine (HC.out _ HB4.out).mono ?_;rintro e w5 ⟨rfl,hd5⟩;have hb5:=hd5.below;clear hd5;have X5:=am (VX.below X4.out hb5);have HB5:=am (jga HB4.out HB4.out.size hb5);clear hb5 e0 e1 e2 e3;obtain ⟨e0,e1,e2,e3⟩:=VX.cells X5.out) |(go_at_call 89;have tk:=tok;clear tok;refine (HO.out x.f1 _ HX.out _).mono ?_;rintro e w6 ⟨rfl,hd6⟩;have hb6:=hd6.below;clear hd6;have X6:=am (VX.below X5.out hb6);have HB6:=am (jga HB5.out HB5.out.size hb6);clear hb6 e0 e1 e2 e3;obtain ⟨e0,e1,e2,e3⟩:=VX.cells X6.out))
           go_ret
           exact ⟨rfl,HB6.out⟩
        ·rw [if_neg z56] at hc
         obtain rfl:true=c:=by simpa using hc
         clear hc
         have b5:(x.f1 == 5)=false:=beq_eq_false_iff_ne.2 (fun z=>z56 (.inl z))
         have b6:(x.f1 == 6)=false:=beq_eq_false_iff_ne.2 (fun z=>z56 (.inr z))
         simp only [Bool.true_eq_false,if_false] at h
         clear z7 z56
         cases hx:jq.inB x.f1 8 10 with
         | false =>
          have HX:=am hx
          rw [hx,if_pos rfl] at h
          obtain rfl:true=r:=by simpa using h
          clear h hx
          go_wp2_with (first |(go_at_call 89;have tk:=tok;clear tok;refine (HO.out x.f1 _ HX.out _).mono ?_;rintro e w6 ⟨rfl,hd6⟩;have hb6:=hd6.below;clear hd6;have X6:=am (VX.below X4.out hb6);have HB6:=am (jga HB4.out HB4.out.size hb6);clear hb6 e0 e1 e2 e3;obtain ⟨e0,e1,e2,e3⟩:=VX.cells X6.out))
          go_ret
          exact ⟨rfl,HB6.out⟩
         | true =>
          have HX:=am hx
          rw [hx] at h
          simp only [Bool.true_eq_false,if_false] at h
          clear hx
          obtain ⟨q,hq,h⟩:=bzS h
          have HQ:=am (fun W (hb:Below w.heap.size w W)=>jWa.calls k _ c1 l1 a2 q W (Kd.jZ HR1.out hb) hc1 hq)
          clear hq
          by_cases q0:0≤q
          ·rw [if_pos q0] at h
           have q0b:=dzT q0
           by_cases q1:q<(l1.length:Int)
           ·rw [if_pos q1] at h
            obtain ⟨ad',he,y0,y1,y2,y3⟩:=jua HR1.out q q0 q1
            cases he
            generalize jc l1 q=y at h y0 y1
            have HK:=am y1
            clear y0 y1 y2 y3
            have q0:=ezT q0
            have q1:=ezT q1
            by_cases zy:y.f1=7
            ·have by7:(y.f1 == 7)=true:=beq_iff_eq.2 zy
             obtain rfl:true=r:=by simpa [zy] using h
             clear h zy
             go_wp2_with (first |(go_at_call 89;have tk:=tok;clear tok;refine (HO.out x.f1 _ HX.out _).mono ?_;rintro e w6 ⟨rfl,hd6⟩;have hb6:=hd6.below;clear hd6;have X6:=am (VX.below X4.out hb6);have HB6:=am (jga HB4.out HB4.out.size hb6);clear hb6 e0 e1 e2 e3;obtain ⟨e0,e1,e2,e3⟩:=VX.cells X6.out) |(go_at_call 90;refine (HQ.out _ HB6.out).mono ?_;rintro e w7 ⟨rfl,hd7⟩;have hb7:=hd7.below;clear hd7;have X7:=am (VX.below X6.out hb7);have HB7:=am (jga HB6.out HB6.out.size hb7);clear hb7 e0 e1 e2 e3;obtain ⟨e0,e1,e2,e3⟩:=VX.cells X7.out;have y1:=jia HB7.out HK.out))
             go_ret
             exact ⟨rfl,HB7.out⟩
            ·have by7:(y.f1 == 7)=false:=beq_eq_false_iff_ne.2 zy
             cases hy:jq.inB y.f1 8 10 with
             | true =>
              have HY:=am hy
              obtain rfl:true=r:=by rw [hy,by7] at h;simpa using h
              clear h hy zy
              go_wp2_with (first |(go_at_call 89;have tk:=tok;clear tok;refine (HO.out x.f1 _ HX.out _).mono ?_;rintro e w6 ⟨rfl,hd6⟩;have hb6:=hd6.below;clear hd6;have X6:=am (VX.below X4.out hb6);have HB6:=am (jga HB4.out HB4.out.size hb6);clear hb6 e0 e1 e2 e3;obtain ⟨e0,e1,e2,e3⟩:=VX.cells X6.out) |(go_at_call 90;refine (HQ.out _ HB6.out).mono ?_;rintro e w7 ⟨rfl,hd7⟩;have hb7:=hd7.below;clear hd7;have X7:=am (VX.below X6.out hb7);have HB7:=am (jga HB6.out HB6.out.size hb7);clear hb7 e0 e1 e2 e3;obtain ⟨e0,e1,e2,e3⟩:=VX.cells X7.out;have y1:=jia HB7.out HK.out) |(go_at_call 89;refine (HO.out y.f1 _ HY.out _).mono ?_;rintro e w8 ⟨rfl,hd8⟩;have hb8:=hd8.below;clear hd8;have X8:=am (VX.below X7.out hb8);have HB8:=am (jga HB7.out HB7.out.size hb8);clear hb8 e0 e1 e2 e3;obtain ⟨e0,e1,e2,e3⟩:=VX.cells X8.out))
              go_ret
              exact ⟨rfl,HB8.out⟩
             | false =>
              have HY:=am hy
              obtain rfl:false=r:=by rw [hy,by7] at h;simpa using h
              clear h hy zy
              go_wp2_with (first |(go_at_call 89;have tk:=tok;clear tok;refine (HO.out x.f1 _ HX.out _).mono ?_;rintro e w6 ⟨rfl,hd6⟩;have hb6:=hd6.below;clear hd6;have X6:=am (VX.below X4.out hb6);have HB6:=am (jga HB4.out HB4.out.size hb6);clear hb6 e0 e1 e2 e3;obtain ⟨e0,e1,e2,e3⟩:=VX.cells X6.out) |(go_at_call 90;refine (HQ.out _ HB6.out).mono ?_;rintro e w7 ⟨rfl,hd7⟩;have hb7:=hd7.below;clear hd7;have X7:=am (VX.below X6.out hb7);have HB7:=am (jga HB6.out HB6.out.size hb7);clear hb7 e0 e1 e2 e3;obtain ⟨e0,e1,e2,e3⟩:=VX.cells X7.out;have y1:=jia HB7.out HK.out) |(go_at_call 89;refine (HO.out y.f1 _ HY.out _).mono ?_;rintro e w8 ⟨rfl,hd8⟩;have hb8:=hd8.below;clear hd8;have X8:=am (VX.below X7.out hb8);have HB8:=am (jga HB7.out HB7.out.size hb8);clear hb8 e0 e1 e2 e3;obtain ⟨e0,e1,e2,e3⟩:=VX.cells X8.out))
              go_ret
              exact ⟨rfl,HB8.out⟩
           ·rw [if_neg q1] at h
            cases h
          ·rw [if_neg q0] at h
           have q0b:=dzF q0
           obtain rfl:false=r:=by simpa using h
           clear h q0
           go_wp2_with (first |(go_at_call 89;have tk:=tok;clear tok;refine (HO.out x.f1 _ HX.out _).mono ?_;rintro e w6 ⟨rfl,hd6⟩;have hb6:=hd6.below;clear hd6;have X6:=am (VX.below X4.out hb6);have HB6:=am (jga HB4.out HB4.out.size hb6);clear hb6 e0 e1 e2 e3;obtain ⟨e0,e1,e2,e3⟩:=VX.cells X6.out) |(go_at_call 90;refine (HQ.out _ HB6.out).mono ?_;rintro e w7 ⟨rfl,hd7⟩;have hb7:=hd7.below;clear hd7;have X7:=am (VX.below X6.out hb7);have HB7:=am (jga HB6.out HB6.out.size hb7);clear hb7 e0 e1 e2 e3;obtain ⟨e0,e1,e2,e3⟩:=VX.cells X7.out))
           go_ret
           exact ⟨rfl,HB7.out⟩
  ·rw [if_neg h1] at h
   cases h
 ·rw [if_neg h0] at h
  cases h
def jKa.l0 : Nat → ByteArray → Int → Option (Bool)
 | 0,_,_=>none
 | k+1,x0,x3=>if x3<(x0.size:Int) then (if 0≤x3 then (if (bt x0 x3)<97 then (some false) else (if (bt x0 x3) > 122 then (some false) else (jKa.l0 k x0 (wrap64 (x3+1))))) else (none)) else ((jH.f (x0.size:Int) 1 6).bind fun t152=>(some t152))
def jKa.f (k : Nat) (a0 : ByteArray) : Option (Bool) := jKa.l0 k a0 0
set_option maxHeartbeats 8000000 in
set_option maxRecDepth 100000 in
theorem jKa.calls (k : Nat) (a0 : ByteArray) (r : Bool) (w : World) (h : jKa.f k a0 = some r) :
  Calls Try.prog 91 #[.string a0] w fun e w'=>e=.returned (.bool r)∧jXa w w':=by
 have H:(jKa.l0 k a0 0)=some r:=h
 clear h
 have H':=am H
 clear H
 go_enter Try.func91,Try.ntmps91
 go_wp2
 go_loopg [3] k (fun kq v3 w'=>∃ (x3_1:Int),v3=.int .i64 x3_1∧jl (jKa.l0 kq a0 x3_1=some r)∧jl (kq≤k)∧jXa w w')
 case atStart=>exact ⟨(0),(sq),H',⟨Nat.le_refl _⟩,Y3⟩
 case round =>
  clear H'
  obtain ⟨x3_1,rfl,HA,HK1,⟨m1,rfl⟩⟩:=hrel
  cases gk with
  | zero=>exact absurd HA.out (by simp [jKa.l0])
  | succ k1 =>
   have H:=HA.out
   clear HA
   simp only [jKa.l0] at H
   by_cases c2:x3_1<(a0.size:Int)
   ·rw [if_pos c2] at H
    have c2b0:decide (x3_1<(a0.size:Int))=true:=dzT c2
    clear c2
    by_cases c3:0≤x3_1
    ·rw [if_pos c3] at H
     have c3b0:decide (0≤x3_1)=true:=dzT c3
     clear c3
     by_cases c5:(bt a0 x3_1)<97
     ·rw [if_pos c5] at H
      have c5b0:decide ((bt a0 x3_1)<97)=true:=dzT c5
      clear c5
      obtain rfl:=Option.some.inj H
      have p4:0≤(x3_1:Int):=ozD (uq)
      have q4:x3_1<(a0.size:Int):=ozD (uq)
      have hx4:=bt_at a0 x3_1
      replace p4:=ezT p4
      replace q4:=ezT q4
      go_wp2
      go_ret
      exact ⟨sq,Y3⟩
     ·rw [if_neg c5] at H
      have c5b0:decide ((bt a0 x3_1)<97)=false:=dzF c5
      clear c5
      by_cases c7:(bt a0 x3_1) > 122
      ·rw [if_pos c7] at H
       have c7b0:decide (122<(bt a0 x3_1))=true:=dzT c7
       clear c7
       obtain rfl:=Option.some.inj H
       have p4:0≤(x3_1:Int):=ozD (uq)
       have q4:x3_1<(a0.size:Int):=ozD (uq)
       have hx4:=bt_at a0 x3_1
       replace p4:=ezT p4
       replace q4:=ezT q4
       have p6:0≤(x3_1:Int):=ozD (uq)
       have q6:x3_1<(a0.size:Int):=ozD (uq)
       have hx6:=bt_at a0 x3_1
       replace p6:=ezT p6
       replace q6:=ezT q6
       go_wp2
       go_ret
       exact ⟨sq,Y3⟩
      ·rw [if_neg c7] at H
       have c7b0:decide (122<(bt a0 x3_1))=false:=dzF c7
       clear c7
       have H':=am H
       clear H
       have p4:0≤(x3_1:Int):=ozD (uq)
       have q4:x3_1<(a0.size:Int):=ozD (uq)
       have hx4:=bt_at a0 x3_1
       replace p4:=ezT p4
       replace q4:=ezT q4
       have p6:0≤(x3_1:Int):=ozD (uq)
       have q6:x3_1<(a0.size:Int):=ozD (uq)
       have hx6:=bt_at a0 x3_1
       replace p6:=ezT p6
       replace q6:=ezT q6
       go_wp2
       go_roundg k1
       case measure=>have:=HK1.out;omega
       case rel=>exact ⟨(wrap64 (x3_1+1)),(sq),H',⟨by have:=HK1.out;omega⟩,Y3⟩
    ·rw [if_neg c3] at H
     exact absurd H (by simp)
   ·rw [if_neg c2] at H
    have c2b0:decide (x3_1<(a0.size:Int))=false:=dzF c2
    clear c2
    replace H:=bzS H
    obtain ⟨t152,A80,H⟩:=H
    replace H:(some t152)=some r:=H
    have A8:=am A80
    clear A80
    obtain rfl:=Option.some.inj H
    go_wp2_with (first |((with_reducible refine jd (f:=85) rfl ?_);refine gL (some 22) Try.func85 #[.int .i64 (a0.size:Int), .int .i64 1, .int .i64 6] ?_;(with_reducible refine (jH.calls (a0.size:Int) 1 6 t152 _ A8.out).mono ?_);rintro e w' ⟨rfl,⟨nd,rfl⟩⟩;refine ⟨_,rfl,?_⟩))
    go_ret
    exact ⟨sq,Y3⟩
end Go.Proofs.Ytkhiiiddbmgiaaa.P
end
