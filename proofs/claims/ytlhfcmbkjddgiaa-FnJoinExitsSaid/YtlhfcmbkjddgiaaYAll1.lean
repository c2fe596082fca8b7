/- One part of the proofs on this program: functions of the program as plain functions, that the code comes to them, and facts on them. -/
import Derived.ArgAppend
import Derived.Below
import Derived.BigQuiet
import Derived.Deep.AppendLies
import Derived.Deep.CutBlock
import Derived.Deep.DeepCutAuto
import Derived.Deep.Draws
import Derived.Deep.LoopGhost
import Derived.Deep.OwnRows
import Derived.Deep.QuietTactic
import Derived.Deep.RegionHeld3
import Derived.KernelRfl
import Derived.Laws.BitsLemmas
import Derived.Laws.BytesArg
import Derived.Laws.IdiomCopy
import Derived.Laws.MakeOwn
import Derived.Laws.OwnMore
import Derived.Laws.Rows
import Derived.Laws.Slices
import Derived.Lib.AppendStr
import Derived.Lib.ConvBytes
import Derived.LoopTactic
import Derived.Maps.AppendAt
import Derived.OrdersHeld
import Derived.OwnWalk
import Derived.RowKit
import Derived.RowKit3
import Derived.Tactics
import Derived.WalkKit
import Derived.WideLaws
import Derived.Test.YtlhfcmbkjddgiaaProg
import Derived.Test.YtlhfcmbkjddgiaaYWApart
import Derived.Test.YtlhfcmbkjddgiaaYWArr
import Derived.Test.YtlhfcmbkjddgiaaYWAuto
import Derived.Test.YtlhfcmbkjddgiaaYWClip
import Derived.Test.YtlhfcmbkjddgiaaYWEqStruct
import Derived.Test.YtlhfcmbkjddgiaaYWFoot
import Derived.Test.YtlhfcmbkjddgiaaYWGuard
import Derived.Test.YtlhfcmbkjddgiaaYWIdx
import Derived.Test.YtlhfcmbkjddgiaaYWInvWords
import Derived.Test.YtlhfcmbkjddgiaaYWKept
import Derived.Test.YtlhfcmbkjddgiaaYWLast
import Derived.Test.YtlhfcmbkjddgiaaYWMkcap
import Derived.Test.YtlhfcmbkjddgiaaYWMore
import Derived.Test.YtlhfcmbkjddgiaaYWN
import Derived.Test.YtlhfcmbkjddgiaaYWNEv
import Derived.Test.YtlhfcmbkjddgiaaYWRepsOne
import Derived.Test.YtlhfcmbkjddgiaaYWShare
import Derived.Test.YtlhfcmbkjddgiaaYWSome
import Derived.Test.YtlhfcmbkjddgiaaYWTab
import Derived.Test.YtlhfcmbkjddgiaaYWWords
import Derived.Test.YtlhfcmbkjddgiaaYWZeros
section
namespace Go.Proofs.Ytlhfcmbkjddgiaa.P
open Go.RowKit Go.Proofs.YtlhfcmbkjddgiaaW.PrintWords Go.Proofs.YtlhfcmbkjddgiaaW.PrintLast Go.Proofs.YtlhfcmbkjddgiaaW.PrintMore
attribute [local go_sem] jha jfa jqa jpa jW jV jga jea jl
set_option linter.unusedVariables false
set_option linter.unusedSimpArgs false
def errW : Option Int → Value
 | none=>.nilIface
 | some c=>.iface 0 (.int .i64 c)
theorem jWb : errW none = .nilIface := rfl
theorem jVb (c : Int) : errW (some c) = .iface 0 (.int .i64 c) := rfl
theorem info3 : (Try.prog.info? 3).map (fun i => (i.zero, i.size, i.bytes)) = some (some (.int .i64 0), 1, 8) := by kernel_rfl
theorem info5 : (Try.prog.info? 5).map (fun i => (i.zero, i.size, i.bytes)) = some (some (.int .u8 0), 1, 1) := by kernel_rfl
theorem info44 : (Try.prog.info? 44).map (fun i => (i.zero, i.size, i.bytes)) = some (some (.agg #[(.int .i64 0), (.int .i64 0), (.int .i64 0)]), 3, 24) := by kernel_rfl
theorem info90 : (Try.prog.info? 90).map (fun i => (i.zero, i.size, i.bytes)) = some (some (.agg #[(.int .i64 0), (.int .i64 0), (.int .i64 0), (.int .i64 0), (.bool false)]), 5, 40) := by kernel_rfl
theorem info106 : (Try.prog.info? 106).map (fun i => (i.zero, i.size, i.bytes)) = some (some (.agg #[(.string ⟨#[]⟩), (.int .i64 0)]), 2, 24) := by kernel_rfl
structure S106 where
 f0:ByteArray
 f1:Int
def z106 : S106 := ⟨(⟨#[]⟩ : ByteArray), (0 : Int)⟩
def k106 : Kd S106 := Kd.iso (Kd.pair Kd.string (Kd.int .i64)) (fun x : S106 => (x.f0, x.f1))
theorem k106_heap : Kd.Heap k106 := Kd.heap_iso _ (Kd.heap_pair Kd.heap_string (Kd.heap_int .i64))
theorem k106_open {w : World} {x : S106} {cs : List Value} (h : k106.K w x cs) : cs = [.string x.f0, .int .i64 x.f1] := by
 obtain ⟨_,_,rfl,rfl,rfl⟩:=h
 exact rfl
theorem k106_openM {w : World} {base : Nat} {ok : Nat → Prop} {x : S106} {cs : List Value} (h : k106.M w base ok x cs) : cs = [.string x.f0, .int .i64 x.f1] := by
 obtain ⟨_,_,rfl,rfl,rfl⟩:=h
 exact rfl
theorem k106_mkM (w : World) (base : Nat) (ok : Nat → Prop) (x : S106)  : k106.M w base ok x [.string x.f0, .int .i64 x.f1] := ⟨[.string x.f0], [.int .i64 x.f1], rfl, rfl, rfl⟩
def jQ (xs : List S106) (i : Int) : S106 := xs.getD i.toNat z106
theorem at_T106 {w : World} {A : Option Addr} {n : Nat} {xs : List S106} (h : Kd.C k106 w A n xs) (i : Int) (h0 : 0 ≤ i) (h1 : i < n) : ∃ ad , A = some ad ∧ w.cell? (ad.add (i.toNat * 2)) = some (.string (jQ xs i).f0) ∧ w.cell? ⟨(ad.add (i.toNat * 2)).block, (ad.add (i.toNat * 2)).off + 1, none⟩ = some (.int .i64 (jQ xs i).f1) := by
 obtain ⟨ad,c,e,_,hK,hc0⟩:=Kd.C_get h z106 i h0 h1
 have hc:∀ j u,c[j]?=some u→w.cell? (ad.add (i.toNat * 2+j))=some u:=hc0
 obtain rfl:=k106_open hK
 exact ⟨ad,e,hc 0 _ rfl,by rw [← jhc _ _ 1 (by omega)];exact hc 1 _ rfl⟩
structure S44 where
 f0:Int
 f1:Int
 f2:Int
def z44 : S44 := ⟨(0 : Int), (0 : Int), (0 : Int)⟩
def k44 : Kd S44 := Kd.iso (Kd.pair (Kd.int .i64) (Kd.pair (Kd.int .i64) (Kd.int .i64))) (fun x : S44 => (x.f0, x.f1, x.f2))
theorem k44_heap : Kd.Heap k44 := Kd.heap_iso _ (Kd.heap_pair (Kd.heap_int .i64) (Kd.heap_pair (Kd.heap_int .i64) (Kd.heap_int .i64)))
theorem k44_open {w : World} {x : S44} {cs : List Value} (h : k44.K w x cs) : cs = [.int .i64 x.f0, .int .i64 x.f1, .int .i64 x.f2] := by
 obtain ⟨_,_,rfl,rfl,⟨_,_,rfl,rfl,rfl⟩⟩:=h
 exact rfl
theorem juc {w : World} {base : Nat} {ok : Nat → Prop} {x : S44} {cs : List Value} (h : k44.M w base ok x cs) : cs = [.int .i64 x.f0, .int .i64 x.f1, .int .i64 x.f2] := by
 obtain ⟨_,_,rfl,rfl,⟨_,_,rfl,rfl,rfl⟩⟩:=h
 exact rfl
theorem k44_mkM (w : World) (base : Nat) (ok : Nat → Prop) (x : S44)  : k44.M w base ok x [.int .i64 x.f0, .int .i64 x.f1, .int .i64 x.f2] := ⟨[.int .i64 x.f0], [.int .i64 x.f1, .int .i64 x.f2], rfl, rfl, ⟨[.int .i64 x.f1], [.int .i64 x.f2], rfl, rfl, rfl⟩⟩
def jZ (xs : List S44) (i : Int) : S44 := xs.getD i.toNat z44
theorem at_T44 {w : World} {A : Option Addr} {n : Nat} {xs : List S44} (h : Kd.C k44 w A n xs) (i : Int) (h0 : 0 ≤ i) (h1 : i < n) : ∃ ad , A = some ad ∧ w.cell? (ad.add (i.toNat * 3)) = some (.int .i64 (jZ xs i).f0) ∧ w.cell? ⟨(ad.add (i.toNat * 3)).block, (ad.add (i.toNat * 3)).off + 1, none⟩ = some (.int .i64 (jZ xs i).f1) ∧ w.cell? ⟨(ad.add (i.toNat * 3)).block, (ad.add (i.toNat * 3)).off + 2, none⟩ = some (.int .i64 (jZ xs i).f2) := by
 obtain ⟨ad,c,e,_,hK,hc0⟩:=Kd.C_get h z44 i h0 h1
 have hc:∀ j u,c[j]?=some u→w.cell? (ad.add (i.toNat * 3+j))=some u:=hc0
 obtain rfl:=k44_open hK
 exact ⟨ad,e,hc 0 _ rfl,by rw [← jhc _ _ 1 (by omega)];exact hc 1 _ rfl,by rw [← jhc _ _ 2 (by omega)];exact hc 2 _ rfl⟩
structure S90 where
 f0:Int
 f1:Int
 f2:Int
 f3:Int
 f4:Bool
def z90 : S90 := ⟨(0 : Int), (0 : Int), (0 : Int), (0 : Int), false⟩
def k90 : Kd S90 := Kd.iso (Kd.pair (Kd.int .i64) (Kd.pair (Kd.int .i64) (Kd.pair (Kd.int .i64) (Kd.pair (Kd.int .i64) Kd.bool)))) (fun x : S90 => (x.f0, x.f1, x.f2, x.f3, x.f4))
theorem k90_open {w : World} {x : S90} {cs : List Value} (h : k90.K w x cs) : cs = [.int .i64 x.f0, .int .i64 x.f1, .int .i64 x.f2, .int .i64 x.f3, .bool x.f4] := by
 obtain ⟨_,_,rfl,rfl,⟨_,_,rfl,rfl,⟨_,_,rfl,rfl,⟨_,_,rfl,rfl,rfl⟩⟩⟩⟩:=h
 exact rfl
theorem k90_openM {w : World} {base : Nat} {ok : Nat → Prop} {x : S90} {cs : List Value} (h : k90.M w base ok x cs) : cs = [.int .i64 x.f0, .int .i64 x.f1, .int .i64 x.f2, .int .i64 x.f3, .bool x.f4] := by
 obtain ⟨_,_,rfl,rfl,⟨_,_,rfl,rfl,⟨_,_,rfl,rfl,⟨_,_,rfl,rfl,rfl⟩⟩⟩⟩:=h
 exact rfl
theorem k90_mkM (w : World) (base : Nat) (ok : Nat → Prop) (x : S90)  : k90.M w base ok x [.int .i64 x.f0, .int .i64 x.f1, .int .i64 x.f2, .int .i64 x.f3, .bool x.f4] := ⟨[.int .i64 x.f0], [.int .i64 x.f1, .int .i64 x.f2, .int .i64 x.f3, .bool x.f4], rfl, rfl, ⟨[.int .i64 x.f1], [.int .i64 x.f2, .int .i64 x.f3, .bool x.f4], rfl, rfl, ⟨[.int .i64 x.f2], [.int .i64 x.f3, .bool x.f4], rfl, rfl, ⟨[.int .i64 x.f3], [.bool x.f4], rfl, rfl, rfl⟩⟩⟩⟩
def jo (xs : List S90) (i : Int) : S90 := xs.getD i.toNat z90
theorem at_T90 {w : World} {A : Option Addr} {n : Nat} {xs : List S90} (h : Kd.C k90 w A n xs) (i : Int) (h0 : 0 ≤ i) (h1 : i < n) : ∃ ad , A = some ad ∧ w.cell? (ad.add (i.toNat * 5)) = some (.int .i64 (jo xs i).f0) ∧ w.cell? ⟨(ad.add (i.toNat * 5)).block, (ad.add (i.toNat * 5)).off + 1, none⟩ = some (.int .i64 (jo xs i).f1) ∧ w.cell? ⟨(ad.add (i.toNat * 5)).block, (ad.add (i.toNat * 5)).off + 2, none⟩ = some (.int .i64 (jo xs i).f2) ∧ w.cell? ⟨(ad.add (i.toNat * 5)).block, (ad.add (i.toNat * 5)).off + 3, none⟩ = some (.int .i64 (jo xs i).f3) ∧ w.cell? ⟨(ad.add (i.toNat * 5)).block, (ad.add (i.toNat * 5)).off + 4, none⟩ = some (.bool (jo xs i).f4) := by
 obtain ⟨ad,c,e,_,hK,hc0⟩:=Kd.C_get h z90 i h0 h1
 have hc:∀ j u,c[j]?=some u→w.cell? (ad.add (i.toNat * 5+j))=some u:=hc0
 obtain rfl:=k90_open hK
 exact ⟨ad,e,hc 0 _ rfl,by rw [← jhc _ _ 1 (by omega)];exact hc 1 _ rfl,by rw [← jhc _ _ 2 (by omega)];exact hc 2 _ rfl,by rw [← jhc _ _ 3 (by omega)];exact hc 3 _ rfl,by rw [← jhc _ _ 4 (by omega)];exact hc 4 _ rfl⟩
structure S53 where
 f0:(List S90)
def z53 : S53 := ⟨([] : List S90)⟩
theorem eqA50 (d : Nat) (w : World) (x0 y0 : Bool) (x1 y1 : Int) (x2 y2 : Int) :
  (Op.equalIn (d+2) 50 (.agg #[.bool x0, .int .i64 x1, .int .i64 x2]) (.agg #[.bool y0, .int .i64 y1, .int .i64 y2])).run Try.prog w=.ok (x0 == y0 && (x1 == y1 && (x2 == y2))) w:=by
 refine eqA_of Try.underlying50 (by kernel_rfl) ?_
 refine eqf_cons (by rfl) (by go_simp;rfl) (by go_simp;rfl) (by go_simp) ?_
 refine eqf_cons (by rfl) (by go_simp;rfl) (by go_simp;rfl) (by go_simp) ?_
 exact eqf_last (by rfl) (by go_simp;rfl) (by go_simp;rfl) (by go_simp)
def jza.f (a0 : Int) (a1 : Int) (a2 : Int) : Option (Bool) := if a0 ≥ a1 then (some (decide (a0 ≤ a2))) else (some false)
set_option maxHeartbeats 8000000 in
set_option maxRecDepth 100000 in
theorem jza.calls (a0 : Int) (a1 : Int) (a2 : Int) (r : Bool) (w : World) (h : jza.f a0 a1 a2 = some r) :
  Calls Try.prog 80 #[.int .i64 a0, .int .i64 a1, .int .i64 a2] w fun e w'=>e=.returned (.bool r)∧jrb w w':=by
 have H:(if a0≥a1 then (some (decide (a0≤a2))) else (some false))=some r:=h
 clear h
 by_cases c4:a0≥a1
 ·rw [if_pos c4] at H
  have c4b0:decide (a1≤a0)=true:=dzT c4
  clear c4
  obtain rfl:=Option.some.inj H
  go_enter Try.func80,Try.ntmps80
  go_wp2
  go_ret
  exact ⟨sq,Y4⟩
 ·rw [if_neg c4] at H
  have c4b0:decide (a1≤a0)=false:=dzF c4
  clear c4
  obtain rfl:=Option.some.inj H
  go_enter Try.func80,Try.ntmps80
  go_wp2
  go_ret
  exact ⟨sq,Y4⟩
def jNa.l0 : Nat → ByteArray → Int → Int → Option (Bool)
 | 0,_,_,_=>none
 | k+1,x0,x5,x6=>if x6<x5 then (if 0≤x6 then (if x6<(x0.size:Int) then (if (bt x0 x6)<97 then (some false) else (if (bt x0 x6) > 122 then (some false) else (jNa.l0 k x0 x5 (wrap64 (x6+1))))) else (none)) else (none)) else ((jza.f (x0.size:Int) 1 6).bind fun t236=>(some t236))
def jNa.f (k : Nat) (a0 : ByteArray) : Option (Bool) := jNa.l0 k a0 (a0.size : Int) 0
set_option maxHeartbeats 8000000 in
set_option maxRecDepth 100000 in
theorem jNa.calls (k : Nat) (a0 : ByteArray) (r : Bool) (w : World) (h : jNa.f k a0 = some r) :
  Calls Try.prog 78 #[.string a0] w fun e w'=>e=.returned (.bool r)∧jrb w w':=by
 have H:(jNa.l0 k a0 (a0.size:Int) 0)=some r:=h
 clear h
 have H':=am H
 clear H
 go_enter Try.func78,Try.ntmps78
 go_wp2
 go_loopg [6] k (fun kq v6 w'=>∃ (x6_1:Int),v6=.int .i64 x6_1∧jv (jNa.l0 kq a0 (a0.size:Int) x6_1=some r)∧jv (kq≤k)∧jrb w w')
 case atStart=>exact ⟨(0),(sq),H',⟨Nat.le_refl _⟩,Y4⟩
 case round =>
  clear H'
  obtain ⟨x6_1,rfl,HA,HK1,⟨m1,rfl⟩⟩:=hrel
  cases gk with
  | zero=>exact absurd HA.out (by simp [jNa.l0])
  | succ k1 =>
   have H:=HA.out
   clear HA
   simp only [jNa.l0] at H
   by_cases c2:x6_1<(a0.size:Int)
   ·rw [if_pos c2] at H
    have c2b0:decide (x6_1<(a0.size:Int))=true:=dzT c2
    clear c2
    by_cases c3:0≤x6_1
    ·rw [if_pos c3] at H
     have c3b0:decide (0≤x6_1)=true:=dzT c3
     clear c3
     by_cases c4:x6_1<(a0.size:Int)
     ·rw [if_pos c4] at H
      have c4b0:decide (x6_1<(a0.size:Int))=true:=dzT c4
      clear c4
      by_cases c6:(bt a0 x6_1)<97
      ·rw [if_pos c6] at H
       have c6b0:decide ((bt a0 x6_1)<97)=true:=dzT c6
       clear c6
       obtain rfl:=Option.some.inj H
       have p5:0≤(x6_1:Int):=ozD (uq)
       have q5:x6_1<(a0.size:Int):=ozD (uq)
       have hx5:=bt_at a0 x6_1
       replace p5:=ezT p5
       replace q5:=ezT q5
       go_wp2
       go_ret
       exact ⟨sq,Y4⟩
      ·rw [if_neg c6] at H
       have c6b0:decide ((bt a0 x6_1)<97)=false:=dzF c6
       clear c6
       by_cases c8:(bt a0 x6_1) > 122
       ·rw [if_pos c8] at H
        have c8b0:decide (122<(bt a0 x6_1))=true:=dzT c8
        clear c8
        obtain rfl:=Option.some.inj H
        have p5:0≤(x6_1:Int):=ozD (uq)
        have q5:x6_1<(a0.size:Int):=ozD (uq)
        have hx5:=bt_at a0 x6_1
        replace p5:=ezT p5
        replace q5:=ezT q5
        have p7:0≤(x6_1:Int):=ozD (uq)
        have q7:x6_1<(a0.size:Int):=ozD (uq)
        have hx7:=bt_at a0 x6_1
        replace p7:=ezT p7
        replace q7:=ezT q7
        go_wp2
        go_ret
        exact ⟨sq,Y4⟩
       ·rw [if_neg c8] at H
        have c8b0:decide (122<(bt a0 x6_1))=false:=dzF c8
        clear c8
        have H':=am H
        clear H
        have p5:0≤(x6_1:Int):=ozD (uq)
        have q5:x6_1<(a0.size:Int):=ozD (uq)
        have hx5:=bt_at a0 x6_1
        replace p5:=ezT p5
        replace q5:=ezT q5
        have p7:0≤(x6_1:Int):=ozD (uq)
        have q7:x6_1<(a0.size:Int):=ozD (uq)
        have hx7:=bt_at a0 x6_1
        replace p7:=ezT p7
        replace q7:=ezT q7
        go_wp2
        go_roundg k1
        case measure=>have:=HK1.out;omega
        case rel=>exact ⟨(wrap64 (x6_1+1)),(sq),H',⟨by have:=HK1.out;omega⟩,Y4⟩
     ·rw [if_neg c4] at H
      exact absurd H (by simp)
    ·rw [if_neg c3] at H
     exact absurd H (by simp)
   ·rw [if_neg c2] at H
    have c2b0:decide (x6_1<(a0.size:Int))=false:=dzF c2
    clear c2
    replace H:=bzS H
    obtain ⟨t236,A90,H⟩:=H
    replace H:(some t236)=some r:=H
    have A9:=am A90
    clear A90
    obtain rfl:=Option.some.inj H
    go_wp2_with (first |((with_reducible refine jy (f:=80) rfl ?_);refine gL (some 22) Try.func80 #[.int .i64 (a0.size:Int), .int .i64 1, .int .i64 6] ?_;(with_reducible refine (jza.calls (a0.size:Int) 1 6 t236 _ A9.out).mono ?_);rintro e w' ⟨rfl,⟨nd,rfl⟩⟩;refine ⟨_,rfl,?_⟩))
    go_ret
    exact ⟨sq,Y4⟩

theorem impl_named1_calls (a b : ByteArray) (p : Int) (B : Nat) (w : World) (hB : B < w.heap.size) (hc : w.cell? ⟨B, 0, none⟩ = some (.string b)) :
  Calls Try.prog 110 #[.agg #[.string a, .int .i64 p], .pointer (some ⟨B,0,none⟩)] w fun e w'=>e=.returned (.bool (a.toList == b.toList))∧Below w.heap.size w w':=by
 have hne:B≠w.heap.size:=by omega
 go_enter Try.func110,Try.ntmps110
 go_wp2
 go_ret
 exact ⟨rfl,(Below.refl _ _).alloc (Nat.le_refl _) _⟩
set_option maxHeartbeats 8000000 in
set_option maxRecDepth 100000 in
theorem impl_named_idx (A_ : Option Addr) (c_ : Nat) (l : List (S106)) (B0_ : Nat) (p : S106 → Option Bool) (r : Int) (w : World) (hr : Kd.C k106 w A_ l.length l) (h : idxFrom p l 0 = some r)
  (hp:∀ W,Below w.heap.size w W→∀ (x:S106) (b:Bool),p x=some b→Calls Try.prog 110 #[.agg #[.string x.f0, .int .i64 x.f1], .pointer (some ⟨B0_,0,none⟩)] W fun e w'=>e=.returned (.bool b)∧Below W.heap.size W w') :
  Calls Try.prog 109 #[.slice A_ l.length c_, .func (.func 110) #[] #[.pointer (some ⟨B0_,0,none⟩)]] w fun e w'=>e=.returned (.int .i64 r)∧Below w.heap.size w w':=by
 have hm:l.length≤9223372036854775807:=Kd.C_max hr
 have HR:=am hr
 have HP:=am hp
 have H0:=am h
 clear hr hp h
 go_enter Try.func109,Try.ntmps109
 go_wp2
 go_loopw [5,8] (fun i5 i8 wr=>∃ k:Nat,k≤l.length∧i8=.int .i64 k∧jv (idxFrom p (l.drop k) k=some r)∧Below w.heap.size w wr) (fun _ i8 _=>l.length - (intOf i8).toNat)
 case atStart=>exact ⟨0,Nat.zero_le _,rfl,H0,Below.refl _ _⟩
 case round =>
  clear H0
  obtain ⟨k,hk,rfl,HA,hb⟩:=hrel
  by_cases hlt:k<l.length
  ·have HB:=am (idxFrom_step hlt HA.out)
   clear HA
   obtain ⟨ad,rfl,hx0,hx1⟩:=at_T106 HR.out (k:Int) (by omega) (by omega)
   have hrd:jQ l (k:Int)=l[k]:=by simp [jQ,List.getD_eq_getElem?_getD,hlt]
   replace hx0:=jia hb hx0
   replace hx1:=jia hb hx1
   rw [hrd] at hx0 hx1
   simp only [Int.toNat_natCast] at hx0 hx1
   clear hrd
   obtain ⟨b,hb1,hb0⟩:=HB.out
   have HQ:=am hb1
   clear hb1 HB
   cases b with
   | true =>
    have HZ:=am (by simpa using hb0:(k:Int)=r)
    clear hb0
    go_wp2_with (go_at_call 110;refine (HP.out _ hb _ _ HQ.out).mono ?_;rintro e w' ⟨rfl,hb2⟩)
    go_ret
    exact ⟨by rw [← HZ.out];rfl,job hb hb.size hb2⟩
   | false =>
    have HZ:=am (by simpa using hb0:idxFrom p (l.drop (k+1)) (k+1)=some r)
    clear hb0
    go_wp2_with (go_at_call 110;refine (HP.out _ hb _ _ HQ.out).mono ?_;rintro e w' ⟨rfl,hb2⟩)
    go_roundw
    case rel=>exact ⟨k+1,hlt,by go_num,HZ,job hb hb.size hb2⟩
    case measure=>simp [intOf];omega
  ·have HZ:=am (idxFrom_end (by omega) HA.out)
   clear HA
   go_wp2
   go_ret
   exact ⟨by rw [HZ.out];rfl,hb⟩
def jPa.f (l0_0 : List S106) (a1 : ByteArray) : Option Int := idxFrom (fun x : S106 => some (x.f0.toList == a1.toList)) l0_0 0
set_option maxHeartbeats 8000000 in
set_option maxRecDepth 100000 in
theorem jPa.calls (A0_0 : Option Addr) (c0_0 : Nat) (l0_0 : List (S106)) (a1 : ByteArray) (r : Int) (w : World) (hr0_0 : Kd.C k106 w A0_0 l0_0.length l0_0) (hc0_0 : l0_0.length ≤ c0_0) (h : jPa.f l0_0 a1 = some r) :
  Calls Try.prog 79 #[.agg #[.slice A0_0 l0_0.length c0_0], .string a1] w fun e w'=>e=.returned (.int .i64 r)∧Below w.heap.size w w':=by
 have hu31:=Try.underlying31
 have HF:=am (fun W (hb:Below w.heap.size w W) (B:Nat) (hB:B<W.heap.size) (hc:W.cell? ⟨B,0,none⟩=some (.string a1))=>impl_named_idx A0_0 c0_0 l0_0 B (fun x:S106=>some (x.f0.toList == a1.toList)) r W (Kd.jka hr0_0 hb) h (fun W' hb' x b hx=>by
  obtain rfl:=Option.some.inj hx
  exact impl_named1_calls x.f0 a1 x.f1 B W' (Nat.lt_of_lt_of_le hB hb'.size) (jia hb' hc)))
 clear h hr0_0
 go_enter Try.func79,Try.ntmps79
 go_wp2_with (go_at_call 109;refine (HF.out _ (((Below.refl _ _).alloc (Nat.le_refl _) _).alloc (by simp) _) _ (by simp) (by simp)).mono ?_;rintro e w' ⟨rfl,hb2⟩)
 go_ret
 exact ⟨rfl,(((Below.refl _ _).alloc (Nat.le_refl _) _).alloc (by simp) _).trans (hb2.mono (by simp;omega))⟩
mutual
def jI.l0 : Nat → List (S106) → Int → Int → List (S106) → Option (Bool)
 | 0,_,_,_,_=>none
 | k+1,x6,x7,x8,x238000=>if x8<x7 then (if 0≤x8 then (if x8<(x6.length:Int) then ((jNa.f k ((jQ x6 x8).f0)).bind fun t241=>(if t241=true then ((jPa.f x238000 ((jQ x6 x8).f0)).bind fun t242=>(if t242=x8 then (if x8=0 then (if ((jQ x6 x8).f1)=(-1) then (if x8 > 0 then ((jza.f ((jQ x6 x8).f1) 0 (wrap64 (x8 - 1))).bind fun t243=>(jI.j1 k x6 x7 x8 (!t243) x238000)) else (jI.j1 k x6 x7 x8 false x238000)) else (jI.j1 k x6 x7 x8 true x238000)) else (if x8 > 0 then ((jza.f ((jQ x6 x8).f1) 0 (wrap64 (x8 - 1))).bind fun t244=>(jI.j1 k x6 x7 x8 (!t244) x238000)) else (jI.j1 k x6 x7 x8 false x238000))) else (jI.j1 k x6 x7 x8 true x238000))) else (jI.j1 k x6 x7 x8 true x238000))) else (none)) else (none)) else ((jza.f (x238000.length:Int) 1 8).bind fun t238=>(some t238))
def jI.j1 : Nat → List (S106) → Int → Int → Bool → List (S106) → Option (Bool)
 | 0,_,_,_,_,_=>none
 | k+1,x6,x7,x8,x45,x238000=>if x45=true then (some false) else (jI.l0 k x6 x7 (wrap64 (x8+1)) x238000)
end
def jI.f (k : Nat) (l0_0 : List (S106)) : Option (Bool) := jI.l0 k l0_0 (l0_0.length : Int) 0 l0_0
set_option maxHeartbeats 8000000 in
set_option maxRecDepth 100000 in
theorem jI.calls (k : Nat) (A0_0 : Option Addr) (c0_0 : Nat) (l0_0 : List (S106)) (r : Bool) (w : World) (hr0_0 : Kd.C k106 w A0_0 l0_0.length l0_0) (hc0_0 : l0_0.length ≤ c0_0) (h : jI.f k l0_0 = some r) :
  Calls Try.prog 48 #[.agg #[.slice A0_0 l0_0.length c0_0]] w fun e w'=>e=.returned (.bool r)∧Below w.heap.size w w':=by
 have hu31:=Try.underlying31
 have hu106:=Try.underlying106
 have HR0_0:=am hr0_0
 have HC0_0:=am hc0_0
 clear hr0_0 hc0_0
 have HB:=am (Below.refl w.heap.size w)
 have H:(jI.l0 k l0_0 (l0_0.length:Int) 0 l0_0)=some r:=h
 clear h
 have H':=am H
 clear H
 go_enter Try.func48,Try.ntmps48
 go_wp2_with (first |((with_reducible refine jP (N:=1) rfl ?_);refine bE (N:=1) (cs:=#[.slice A0_0 l0_0.length c0_0]) (t:=31) ?_;intro gb237 hg w2 hbox hb;have BK237:=am (hbox);have GW237:=am ((Y3:w.heap.size≤gb237));have GE237:=am ((Y3:w.heap.size≤gb237));replace HB:=am (jk (bq) hb);clear hb hbox hg;have hcz3_0:=bc0 BK237.out;have hfz3_0:=jd BK237.out 0))
 go_loopg [8] k (fun kq v8 w'=>∃ (x8_1:Int),v8=.int .i64 x8_1∧jv (jI.l0 kq l0_0 (l0_0.length:Int) x8_1 l0_0=some r)∧jv (kq≤k)∧jv (w'.heap[gb237]?=some (.cells #[(.slice A0_0 l0_0.length c0_0)] 31 (0,0)))∧jv (Below w.heap.size w w'))
 case atStart=>exact ⟨(0),(sq),H',⟨Nat.le_refl _⟩,⟨kq BK237.out⟩,⟨Y96⟩⟩
 case round =>
  clear H'
  try clear p2
  try clear hcz3_0
  try clear hfz3_0
  obtain ⟨x8_1,rfl,HA,HK1,BK237,HB⟩:=hrel
  cases gk with
  | zero=>exact absurd HA.out (by simp [jI.l0])
  | succ k1 =>
   have H:=HA.out
   clear HA
   simp only [jI.l0] at H
   by_cases c4:x8_1<(l0_0.length:Int)
   ·rw [if_pos c4] at H
    have c4b0:decide (x8_1<(l0_0.length:Int))=true:=dzT c4
    clear c4
    by_cases c5:0≤x8_1
    ·rw [if_pos c5] at H
     have c5b0:decide (0≤x8_1)=true:=dzT c5
     clear c5
     by_cases c6:x8_1<(l0_0.length:Int)
     ·rw [if_pos c6] at H
      have c6b0:decide (x8_1<(l0_0.length:Int))=true:=dzT c6
      clear c6
      have HC7:=am H
      clear H
      have p239:0≤(x8_1:Int):=ozD (uq)
      have q239:x8_1<(l0_0.length:Int):=ozD (uq)
      obtain ⟨ad239,e239,hx239_0,hx239_1⟩:=at_T106 HR0_0.out x8_1 p239 q239
      cases e239
      replace hx239_0:=cb HB.out hx239_0
      replace hx239_1:=cb HB.out hx239_1
      replace p239:=ezT p239
      replace q239:=ezT q239
      go_upto_region 4 with (first |((with_reducible refine jP (N:=4) rfl ?_);refine bE (N:=4) (cs:=#[.string (⟨#[]⟩:ByteArray), .int .i64 0]) (t:=106) ?_;intro gb240 hg w8 hbox hb;have BK240:=am (hbox);have GW240:=am ((Y106:w.heap.size≤gb240));have GE240:=am ((Y106:w.heap.size≤gb240));have NB237_240:=am ((by rw [hg];exact Nat.ne_of_lt (jta (g:=gb237) (o:=.cells #[.slice (some ad239) l0_0.length c0_0] 31 (0,0)) (kq BK237.out)):gb237≠gb240));have NB240_237:=am ((by rw [hg];exact Nat.ne_of_gt (jta (g:=gb237) (o:=.cells #[.slice (some ad239) l0_0.length c0_0] 31 (0,0)) (kq BK237.out)):gb240≠gb237));replace BK237:=am (je (g:=gb237) (o:=.cells #[.slice (some ad239) l0_0.length c0_0] 31 (0,0)) (kq BK237.out) hb);replace HB:=am (jk (Y96) hb);clear hb hbox hg;have hnb9:=NB240_237.out;have hnc9:=NB237_240.out;have hcz10_0:=bc0 BK240.out;have hcz10_1:=bc1 BK240.out;have hfz10_0:=jd BK240.out 0;have hfz10_1:=jd BK240.out 1))
      (try simp only [Act.put,List.setIfInBounds_toArray,List.set_cons_zero,List.set_cons_succ])
      go_cut [45] (fun v45 wc=>∃ (kq:Nat) (x45_6:Bool),v45=.bool x45_6∧jv (jI.j1 kq l0_0 (l0_0.length:Int) x8_1 x45_6 l0_0=some r)∧jv (kq≤k1)∧jv (wc.heap[gb237]?=some (.cells #[(.slice (some ad239) l0_0.length c0_0)] 31 (0,0)))∧jv (wc.heap[gb240]?=some (.cells #[.string ((jQ l0_0 x8_1).f0), .int .i64 ((jQ l0_0 x8_1).f1)] 106 (0,0)))∧jv (Below w.heap.size w wc))
      case first =>
       have H:=HC7.out
       clear HC7
       replace H:=bzS H
       obtain ⟨t241,A110,H⟩:=H
       replace H:(if t241=true then ((jPa.f l0_0 ((jQ l0_0 x8_1).f0)).bind fun t242=>(if t242=x8_1 then (if x8_1=0 then (if ((jQ l0_0 x8_1).f1)=(-1) then (if x8_1 > 0 then ((jza.f ((jQ l0_0 x8_1).f1) 0 (wrap64 (x8_1 - 1))).bind fun t243=>(jI.j1 k1 l0_0 (l0_0.length:Int) x8_1 (!t243) l0_0)) else (jI.j1 k1 l0_0 (l0_0.length:Int) x8_1 false l0_0)) else (jI.j1 k1 l0_0 (l0_0.length:Int) x8_1 true l0_0)) else (if x8_1 > 0 then ((jza.f ((jQ l0_0 x8_1).f1) 0 (wrap64 (x8_1 - 1))).bind fun t244=>(jI.j1 k1 l0_0 (l0_0.length:Int) x8_1 (!t244) l0_0)) else (jI.j1 k1 l0_0 (l0_0.length:Int) x8_1 false l0_0))) else (jI.j1 k1 l0_0 (l0_0.length:Int) x8_1 true l0_0))) else (jI.j1 k1 l0_0 (l0_0.length:Int) x8_1 true l0_0))=some r:=H
       have A11:=am A110
       clear A110
       by_cases c12:t241=true
       ·subst c12
        have H1:((jPa.f l0_0 ((jQ l0_0 x8_1).f0)).bind fun t242=>(if t242=x8_1 then (if x8_1=0 then (if ((jQ l0_0 x8_1).f1)=(-1) then (if x8_1 > 0 then ((jza.f ((jQ l0_0 x8_1).f1) 0 (wrap64 (x8_1 - 1))).bind fun t243=>(jI.j1 k1 l0_0 (l0_0.length:Int) x8_1 (!t243) l0_0)) else (jI.j1 k1 l0_0 (l0_0.length:Int) x8_1 false l0_0)) else (jI.j1 k1 l0_0 (l0_0.length:Int) x8_1 true l0_0)) else (if x8_1 > 0 then ((jza.f ((jQ l0_0 x8_1).f1) 0 (wrap64 (x8_1 - 1))).bind fun t244=>(jI.j1 k1 l0_0 (l0_0.length:Int) x8_1 (!t244) l0_0)) else (jI.j1 k1 l0_0 (l0_0.length:Int) x8_1 false l0_0))) else (jI.j1 k1 l0_0 (l0_0.length:Int) x8_1 true l0_0)))=some r:=by rw [if_pos rfl] at H;exact H
        clear H
        have H:=H1
        clear H1
        replace H:=bzS H
        obtain ⟨t242,A130,H⟩:=H
        replace H:(if t242=x8_1 then (if x8_1=0 then (if ((jQ l0_0 x8_1).f1)=(-1) then (if x8_1 > 0 then ((jza.f ((jQ l0_0 x8_1).f1) 0 (wrap64 (x8_1 - 1))).bind fun t243=>(jI.j1 k1 l0_0 (l0_0.length:Int) x8_1 (!t243) l0_0)) else (jI.j1 k1 l0_0 (l0_0.length:Int) x8_1 false l0_0)) else (jI.j1 k1 l0_0 (l0_0.length:Int) x8_1 true l0_0)) else (if x8_1 > 0 then ((jza.f ((jQ l0_0 x8_1).f1) 0 (wrap64 (x8_1 - 1))).bind fun t244=>(jI.j1 k1 l0_0 (l0_0.length:Int) x8_1 (!t244) l0_0)) else (jI.j1 k1 l0_0 (l0_0.length:Int) x8_1 false l0_0))) else (jI.j1 k1 l0_0 (l0_0.length:Int) x8_1 true l0_0))=some r:=H
        have A13:=am A130
        clear A130
        by_cases c14:t242=x8_1
        ·rw [if_pos c14] at H
         have c14b0:(t242 == x8_1)=true:=beq_iff_eq.mpr c14
         have c14b1:(t242 != x8_1)=false:=bne_eq_false_iff_eq.mpr c14
         clear c14
         (first | rw [c14b0] |(simp only [jyb,jBb];rw [c14b0]) | skip)
         by_cases c15:x8_1=0
         ·rw [if_pos c15] at H
          have c15b0:(x8_1 == 0)=true:=beq_iff_eq.mpr c15
          have c15b1:(x8_1 != 0)=false:=bne_eq_false_iff_eq.mpr c15
          clear c15
          by_cases c16:((jQ l0_0 x8_1).f1)=(-1)
          ·rw [if_pos c16] at H
           have c16b0:(((jQ l0_0 x8_1).f1) == (-1))=true:=beq_iff_eq.mpr c16
           have c16b1:(((jQ l0_0 x8_1).f1) != (-1))=false:=bne_eq_false_iff_eq.mpr c16
           clear c16
           by_cases c17:x8_1 > 0
           ·rw [if_pos c17] at H
            have c17b0:decide (0<x8_1)=true:=dzT c17
            clear c17
            replace H:=bzS H
            obtain ⟨t243,A180,H⟩:=H
            replace H:(jI.j1 k1 l0_0 (l0_0.length:Int) x8_1 (!t243) l0_0)=some r:=H
            have A18:=am A180
            clear A180
            have H':=am H
            clear H
            have hnb19:=NB240_237.out
            have hnc19:=NB237_240.out
            have hcz20_0:=bc0 BK240.out
            have hcz20_1:=bc1 BK240.out
            have hfz20_0:=jd BK240.out 0
            have hfz20_1:=jd BK240.out 1
            go_wp2_with (first |((with_reducible refine jy (f:=78) rfl ?_);refine gL (some 15) Try.func78 #[.string ((jQ l0_0 x8_1).f0)] ?_;(with_reducible refine (jNa.calls k1 ((jQ l0_0 x8_1).f0) true _ A11.out).mono ?_);rintro e w' ⟨rfl,⟨nd,rfl⟩⟩;refine ⟨_,rfl,?_⟩;have hcz21_0:=bc0 BK237.out;have hfz21_0:=jd BK237.out 0) |(go_at_call 79;(with_reducible refine (jPa.calls _ _ l0_0 ((jQ l0_0 x8_1).f0) t242 _ ?side1 ?side2 A13.out).mono ?_);(case side1=>exact Kd.jka HR0_0.out (Y9));(case side2=>exact HC0_0.out);rintro e w22 ⟨rfl,hb⟩;replace BK237:=am (je (g:=gb237) (o:=.cells #[.slice (some ad239) l0_0.length c0_0] 31 (0,0)) (Y52) hb);replace BK240:=am (je (g:=gb240) (o:=.cells #[.string ((jQ l0_0 x8_1).f0), .int .i64 ((jQ l0_0 x8_1).f1)] 106 (0,0)) (Y53) hb);replace HB:=am (jk (Y9) hb);(try clear hb);(try clear hb2);(try clear hk);(try clear hi);have hcz23_0:=bc0 BK240.out;have hcz23_1:=bc1 BK240.out;have hfz23_0:=jd BK240.out 0;have hfz23_1:=jd BK240.out 1) |(go_at_call 80;(with_reducible refine (jza.calls ((jQ l0_0 x8_1).f1) 0 (wrap64 (x8_1 - 1)) t243 _ A18.out).mono ?_);rintro e w' ⟨rfl,⟨nd,rfl⟩⟩))
            go_meet
            case rel=>exact ⟨_,(!t243),(sq),H',⟨by have:=HK1.out;first | omega | exact Nat.le_refl _⟩,⟨kq BK237.out⟩,⟨kq BK240.out⟩,⟨Y9⟩⟩
           ·rw [if_neg c17] at H
            have c17b0:decide (0<x8_1)=false:=dzF c17
            clear c17
            have H':=am H
            clear H
            have hnb24:=NB240_237.out
            have hnc24:=NB237_240.out
            have hcz25_0:=bc0 BK240.out
            have hcz25_1:=bc1 BK240.out
            have hfz25_0:=jd BK240.out 0
            have hfz25_1:=jd BK240.out 1
            go_wp2_with (first |((with_reducible refine jy (f:=78) rfl ?_);refine gL (some 15) Try.func78 #[.string ((jQ l0_0 x8_1).f0)] ?_;(with_reducible refine (jNa.calls k1 ((jQ l0_0 x8_1).f0) true _ A11.out).mono ?_);rintro e w' ⟨rfl,⟨nd,rfl⟩⟩;refine ⟨_,rfl,?_⟩;have hcz26_0:=bc0 BK237.out;have hfz26_0:=jd BK237.out 0) |(go_at_call 79;(with_reducible refine (jPa.calls _ _ l0_0 ((jQ l0_0 x8_1).f0) t242 _ ?side1 ?side2 A13.out).mono ?_);(case side1=>exact Kd.jka HR0_0.out (Y9));(case side2=>exact HC0_0.out);rintro e w27 ⟨rfl,hb⟩;replace BK237:=am (je (g:=gb237) (o:=.cells #[.slice (some ad239) l0_0.length c0_0] 31 (0,0)) (Y52) hb);replace BK240:=am (je (g:=gb240) (o:=.cells #[.string ((jQ l0_0 x8_1).f0), .int .i64 ((jQ l0_0 x8_1).f1)] 106 (0,0)) (Y53) hb);replace HB:=am (jk (Y9) hb);(try clear hb);(try clear hb2);(try clear hk);(try clear hi);have hcz28_0:=bc0 BK240.out;have hcz28_1:=bc1 BK240.out;have hfz28_0:=jd BK240.out 0;have hfz28_1:=jd BK240.out 1))
            go_meet
            case rel=>exact ⟨_,(false),(sq),H',⟨by have:=HK1.out;first | omega | exact Nat.le_refl _⟩,⟨kq BK237.out⟩,⟨kq BK240.out⟩,⟨Y9⟩⟩
          ·rw [if_neg c16] at H
           have c16b0:(((jQ l0_0 x8_1).f1) == (-1))=false:=beq_eq_false_iff_ne.mpr c16
           have c16b1:(((jQ l0_0 x8_1).f1) != (-1))=true:=bne_iff_ne.mpr c16
           have H':=am H
           clear H
           have hnb29:=NB240_237.out
           have hnc29:=NB237_240.out
           have hcz30_0:=bc0 BK240.out
           have hcz30_1:=bc1 BK240.out
           have hfz30_0:=jd BK240.out 0
           have hfz30_1:=jd BK240.out 1
           go_wp2_with (first |((with_reducible refine jy (f:=78) rfl ?_);refine gL (some 15) Try.func78 #[.string ((jQ l0_0 x8_1).f0)] ?_;(with_reducible refine (jNa.calls k1 ((jQ l0_0 x8_1).f0) true _ A11.out).mono ?_);rintro e w' ⟨rfl,⟨nd,rfl⟩⟩;refine ⟨_,rfl,?_⟩;have hcz31_0:=bc0 BK237.out;have hfz31_0:=jd BK237.out 0) |(go_at_call 79;(with_reducible refine (jPa.calls _ _ l0_0 ((jQ l0_0 x8_1).f0) t242 _ ?side1 ?side2 A13.out).mono ?_);(case side1=>exact Kd.jka HR0_0.out (Y9));(case side2=>exact HC0_0.out);rintro e w32 ⟨rfl,hb⟩;replace BK237:=am (je (g:=gb237) (o:=.cells #[.slice (some ad239) l0_0.length c0_0] 31 (0,0)) (Y52) hb);replace BK240:=am (je (g:=gb240) (o:=.cells #[.string ((jQ l0_0 x8_1).f0), .int .i64 ((jQ l0_0 x8_1).f1)] 106 (0,0)) (Y53) hb);replace HB:=am (jk (Y9) hb);(try clear hb);(try clear hb2);(try clear hk);(try clear hi);have hcz33_0:=bc0 BK240.out;have hcz33_1:=bc1 BK240.out;have hfz33_0:=jd BK240.out 0;have hfz33_1:=jd BK240.out 1))
           go_meet
           case rel=>exact ⟨_,(true),(sq),H',⟨by have:=HK1.out;first | omega | exact Nat.le_refl _⟩,⟨kq BK237.out⟩,⟨kq BK240.out⟩,⟨Y9⟩⟩
         ·rw [if_neg c15] at H
          have c15b0:(x8_1 == 0)=false:=beq_eq_false_iff_ne.mpr c15
          have c15b1:(x8_1 != 0)=true:=bne_iff_ne.mpr c15
          by_cases c34:x8_1 > 0
          ·rw [if_pos c34] at H
           have c34b0:decide (0<x8_1)=true:=dzT c34
           clear c34
           replace H:=bzS H
           obtain ⟨t244,A350,H⟩:=H
           replace H:(jI.j1 k1 l0_0 (l0_0.length:Int) x8_1 (!t244) l0_0)=some r:=H
           have A35:=am A350
           clear A350
           have H':=am H
           clear H
           have hnb36:=NB240_237.out
           have hnc36:=NB237_240.out
           have hcz37_0:=bc0 BK240.out
           have hcz37_1:=bc1 BK240.out
           have hfz37_0:=jd BK240.out 0
           have hfz37_1:=jd BK240.out 1
           go_wp2_with (first |((with_reducible refine jy (f:=78) rfl ?_);refine gL (some 15) Try.func78 #[.string ((jQ l0_0 x8_1).f0)] ?_;(with_reducible refine (jNa.calls k1 ((jQ l0_0 x8_1).f0) true _ A11.out).mono ?_);rintro e w' ⟨rfl,⟨nd,rfl⟩⟩;refine ⟨_,rfl,?_⟩;have hcz38_0:=bc0 BK237.out;have hfz38_0:=jd BK237.out 0) |(go_at_call 79;(with_reducible refine (jPa.calls _ _ l0_0 ((jQ l0_0 x8_1).f0) t242 _ ?side1 ?side2 A13.out).mono ?_);(case side1=>exact Kd.jka HR0_0.out (Y9));(case side2=>exact HC0_0.out);rintro e w39 ⟨rfl,hb⟩;replace BK237:=am (je (g:=gb237) (o:=.cells #[.slice (some ad239) l0_0.length c0_0] 31 (0,0)) (Y52) hb);replace BK240:=am (je (g:=gb240) (o:=.cells #[.string ((jQ l0_0 x8_1).f0), .int .i64 ((jQ l0_0 x8_1).f1)] 106 (0,0)) (Y53) hb);replace HB:=am (jk (Y9) hb);(try clear hb);(try clear hb2);(try clear hk);(try clear hi);have hcz40_0:=bc0 BK240.out;have hcz40_1:=bc1 BK240.out;have hfz40_0:=jd BK240.out 0;have hfz40_1:=jd BK240.out 1) |(go_at_call 80;(with_reducible refine (jza.calls ((jQ l0_0 x8_1).f1) 0 (wrap64 (x8_1 - 1)) t244 _ A35.out).mono ?_);rintro e w' ⟨rfl,⟨nd,rfl⟩⟩))
           go_meet
           case rel=>exact ⟨_,(!t244),(sq),H',⟨by have:=HK1.out;first | omega | exact Nat.le_refl _⟩,⟨kq BK237.out⟩,⟨kq BK240.out⟩,⟨Y9⟩⟩
          ·rw [if_neg c34] at H
           have c34b0:decide (0<x8_1)=false:=dzF c34
           clear c34
           have H':=am H
           clear H
           have hnb41:=NB240_237.out
           have hnc41:=NB237_240.out
           have hcz42_0:=bc0 BK240.out
           have hcz42_1:=bc1 BK240.out
           have hfz42_0:=jd BK240.out 0
           have hfz42_1:=jd BK240.out 1
           go_wp2_with (first |((with_reducible refine jy (f:=78) rfl ?_);refine gL (some 15) Try.func78 #[.string ((jQ l0_0 x8_1).f0)] ?_;(with_reducible refine (jNa.calls k1 ((jQ l0_0 x8_1).f0) true _ A11.out).mono ?_);rintro e w' ⟨rfl,⟨nd,rfl⟩⟩;refine ⟨_,rfl,?_⟩;have hcz43_0:=bc0 BK237.out;have hfz43_0:=jd BK237.out 0) |(go_at_call 79;(with_reducible refine (jPa.calls _ _ l0_0 ((jQ l0_0 x8_1).f0) t242 _ ?side1 ?side2 A13.out).mono ?_);(case side1=>exact Kd.jka HR0_0.out (Y9));(case side2=>exact HC0_0.out);rintro e w44 ⟨rfl,hb⟩;replace BK237:=am (je (g:=gb237) (o:=.cells #[.slice (some ad239) l0_0.length c0_0] 31 (0,0)) (Y52) hb);replace BK240:=am (je (g:=gb240) (o:=.cells #[.string ((jQ l0_0 x8_1).f0), .int .i64 ((jQ l0_0 x8_1).f1)] 106 (0,0)) (Y53) hb);replace HB:=am (jk (Y9) hb);(try clear hb);(try clear hb2);(try clear hk);(try clear hi)))
           go_meet
           case rel=>exact ⟨_,(false),(sq),H',⟨by have:=HK1.out;first | omega | exact Nat.le_refl _⟩,⟨kq BK237.out⟩,⟨kq BK240.out⟩,⟨Y9⟩⟩
        ·rw [if_neg c14] at H
         have c14b0:(t242 == x8_1)=false:=beq_eq_false_iff_ne.mpr c14
         have c14b1:(t242 != x8_1)=true:=bne_iff_ne.mpr c14
         (first | rw [c14b0] |(simp only [jyb,jBb];rw [c14b0]) | skip)
         have H':=am H
         clear H
         have hnb45:=NB240_237.out
         have hnc45:=NB237_240.out
         have hcz46_0:=bc0 BK240.out
         have hcz46_1:=bc1 BK240.out
         have hfz46_0:=jd BK240.out 0
         have hfz46_1:=jd BK240.out 1
         go_wp2_with (first |((with_reducible refine jy (f:=78) rfl ?_);refine gL (some 15) Try.func78 #[.string ((jQ l0_0 x8_1).f0)] ?_;(with_reducible refine (jNa.calls k1 ((jQ l0_0 x8_1).f0) true _ A11.out).mono ?_);rintro e w' ⟨rfl,⟨nd,rfl⟩⟩;refine ⟨_,rfl,?_⟩;have hcz47_0:=bc0 BK237.out;have hfz47_0:=jd BK237.out 0) |(go_at_call 79;(with_reducible refine (jPa.calls _ _ l0_0 ((jQ l0_0 x8_1).f0) t242 _ ?side1 ?side2 A13.out).mono ?_);(case side1=>exact Kd.jka HR0_0.out (Y9));(case side2=>exact HC0_0.out);rintro e w48 ⟨rfl,hb⟩;replace BK237:=am (je (g:=gb237) (o:=.cells #[.slice (some ad239) l0_0.length c0_0] 31 (0,0)) (Y52) hb);replace BK240:=am (je (g:=gb240) (o:=.cells #[.string ((jQ l0_0 x8_1).f0), .int .i64 ((jQ l0_0 x8_1).f1)] 106 (0,0)) (Y53) hb);replace HB:=am (jk (Y9) hb);(try clear hb);(try clear hb2);(try clear hk);(try clear hi)))
         go_meet
         case rel=>exact ⟨_,(true),(sq),H',⟨by have:=HK1.out;first | omega | exact Nat.le_refl _⟩,⟨kq BK237.out⟩,⟨kq BK240.out⟩,⟨Y9⟩⟩
       ·replace c12:=Bool.eq_false_iff.mpr c12
        subst c12
        have H1:(jI.j1 k1 l0_0 (l0_0.length:Int) x8_1 true l0_0)=some r:=by rw [if_neg (show ¬ (false=true) by decide)] at H;exact H
        clear H
        have H:=H1
        clear H1
        have H':=am H
        clear H
        have hnb49:=NB240_237.out
        have hnc49:=NB237_240.out
        have hcz50_0:=bc0 BK240.out
        have hcz50_1:=bc1 BK240.out
        have hfz50_0:=jd BK240.out 0
        have hfz50_1:=jd BK240.out 1
        go_wp2_with (first |((with_reducible refine jy (f:=78) rfl ?_);refine gL (some 15) Try.func78 #[.string ((jQ l0_0 x8_1).f0)] ?_;(with_reducible refine (jNa.calls k1 ((jQ l0_0 x8_1).f0) false _ A11.out).mono ?_);rintro e w' ⟨rfl,⟨nd,rfl⟩⟩;refine ⟨_,rfl,?_⟩))
        go_meet
        case rel=>exact ⟨_,(true),(sq),H',⟨by have:=HK1.out;first | omega | exact Nat.le_refl _⟩,⟨by (with_reducible repeat (first | refine jb ?_ _ | refine jc ?_ | refine ja ?_ _));refine jr ?_ NB237_240.out _;(with_reducible repeat (first | refine jb ?_ _ | refine jc ?_ | refine ja ?_ _));refine jr ?_ NB237_240.out _;(with_reducible repeat (first | refine jb ?_ _ | refine jc ?_ | refine ja ?_ _));exact BK237.out⟩,⟨by (with_reducible repeat (first | refine jb ?_ _ | refine jc ?_ | refine ja ?_ _));refine jO (cs:=#[.string ((jQ l0_0 x8_1).f0), .int .i64 0]) ?_ 1 _ rfl;(with_reducible repeat (first | refine jb ?_ _ | refine jc ?_ | refine ja ?_ _));refine jO (cs:=#[.string (⟨#[]⟩:ByteArray), .int .i64 0]) ?_ 0 _ rfl;(with_reducible repeat (first | refine jb ?_ _ | refine jc ?_ | refine ja ?_ _));exact BK240.out⟩,⟨Y9⟩⟩
      case rest =>
       clear HC7
       try clear c1
       try clear c2
       try clear p2
       try clear q2
       try clear hx2
       try clear c3
       try clear c4
       try clear c4b0
       try clear c5
       try clear c5b0
       try clear c6
       try clear c6b0
       try clear p6
       try clear c7
       try clear c9
       try clear c12
       try clear c14
       try clear c14b0
       try clear c14b1
       try clear c15
       try clear c15b0
       try clear c15b1
       try clear c16
       try clear c16b0
       try clear c16b1
       try clear c17
       try clear c17b0
       try clear c19
       try clear p23
       try clear q23
       try clear hx23
       try clear c24
       try clear c29
       try clear c34
       try clear c34b0
       try clear c36
       try clear c41
       try clear c45
       try clear c48
       try clear c49
       try clear hcz10_0
       try clear hcz10_1
       try clear hcz20_0
       try clear hcz20_1
       try clear hcz21_0
       try clear hcz23_0
       try clear hcz23_1
       try clear hcz25_0
       try clear hcz25_1
       try clear hcz26_0
       try clear hcz28_0
       try clear hcz28_1
       try clear hcz30_0
       try clear hcz30_1
       try clear hcz31_0
       try clear hcz33_0
       try clear hcz33_1
       try clear hcz37_0
       try clear hcz37_1
       try clear hcz38_0
       try clear hcz3_0
       try clear hcz40_0
       try clear hcz40_1
       try clear hcz42_0
       try clear hcz42_1
       try clear hcz43_0
       try clear hcz46_0
       try clear hcz46_1
       try clear hcz47_0
       try clear hcz50_0
       try clear hcz50_1
       try clear hfz10_0
       try clear hfz10_1
       try clear hfz20_0
       try clear hfz20_1
       try clear hfz21_0
       try clear hfz23_0
       try clear hfz23_1
       try clear hfz25_0
       try clear hfz25_1
       try clear hfz26_0
       try clear hfz28_0
       try clear hfz28_1
       try clear hfz30_0
       try clear hfz30_1
       try clear hfz31_0
       try clear hfz33_0
       try clear hfz33_1
       try clear hfz37_0
       try clear hfz37_1
       try clear hfz38_0
       try clear hfz3_0
       try clear hfz40_0
       try clear hfz40_1
       try clear hfz42_0
       try clear hfz42_1
       try clear hfz43_0
       try clear hfz46_0
       try clear hfz46_1
       try clear hfz47_0
       try clear hfz50_0
       try clear hfz50_1
       try clear hx239_0
       try clear hx239_1
       try clear p2
       try clear p239
       try clear q239
       obtain ⟨kq,x45_6,rfl,HA,HJ6,BK237,BK240,HB⟩:=hcut
       cases kq with
       | zero=>exact absurd HA.out (by simp [jI.j1])
       | succ kj6 =>
        have H:=HA.out
        clear HA
        simp only [jI.j1] at H
        by_cases c51:x45_6=true
        ·subst c51
         have H1:(some false)=some r:=by rw [if_pos rfl] at H;exact H
         clear H
         have H:=H1
         clear H1
         obtain rfl:=Option.some.inj H
         go_wp2
         go_ret
         exact ⟨Y0,Y9⟩
        ·replace c51:=Bool.eq_false_iff.mpr c51
         subst c51
         have H1:(jI.l0 kj6 l0_0 (l0_0.length:Int) (wrap64 (x8_1+1)) l0_0)=some r:=by rw [if_neg (show ¬ (false=true) by decide)] at H;exact H
         clear H
         have H:=H1
         clear H1
         have H':=am H
         clear H
         go_wp2
         go_roundg kj6
         case measure=>have:=HK1.out;have:=HJ6.out;omega
         case rel=>exact ⟨(wrap64 (x8_1+1)),(sq),H',⟨by have:=HK1.out;have:=HJ6.out;omega⟩,⟨kq BK237.out⟩,⟨Y9⟩⟩
     ·rw [if_neg c6] at H
      exact absurd H (by simp)
    ·rw [if_neg c5] at H
     exact absurd H (by simp)
   ·rw [if_neg c4] at H
    have c4b0:decide (x8_1<(l0_0.length:Int))=false:=dzF c4
    clear c4
    replace H:=bzS H
    obtain ⟨t238,A520,H⟩:=H
    replace H:(some t238)=some r:=H
    have A52:=am A520
    clear A520
    obtain rfl:=Option.some.inj H
    have hcz53_0:=bc0 BK237.out
    have hfz53_0:=jd BK237.out 0
    go_wp2_with (first |((with_reducible refine jy (f:=80) rfl ?_);refine gL (some 50) Try.func80 #[.int .i64 (l0_0.length:Int), .int .i64 1, .int .i64 8] ?_;(with_reducible refine (jza.calls (l0_0.length:Int) 1 8 t238 _ A52.out).mono ?_);rintro e w' ⟨rfl,⟨nd,rfl⟩⟩;refine ⟨_,rfl,?_⟩))
    go_ret
    exact ⟨Y0,Y96⟩
def jAa.f (a0 : Int) : Option (Bool) := (jza.f a0 0 99).bind fun t245 => (some t245)
set_option maxHeartbeats 8000000 in
set_option maxRecDepth 100000 in
theorem jAa.calls (a0 : Int) (r : Bool) (w : World) (h : jAa.f a0 = some r) :
  Calls Try.prog 82 #[.int .i64 a0] w fun e w'=>e=.returned (.bool r)∧jrb w w':=by
 have H:((jza.f a0 0 99).bind fun t245=>(some t245))=some r:=h
 clear h
 replace H:=bzS H
 obtain ⟨t245,A20,H⟩:=H
 replace H:(some t245)=some r:=H
 have A2:=am A20
 clear A20
 obtain rfl:=Option.some.inj H
 go_enter Try.func82,Try.ntmps82
 go_wp2_with (first |((with_reducible refine jy (f:=80) rfl ?_);refine gL (some 4) Try.func80 #[.int .i64 a0, .int .i64 0, .int .i64 99] ?_;(with_reducible refine (jza.calls a0 0 99 t245 _ A2.out).mono ?_);rintro e w' ⟨rfl,⟨nd,rfl⟩⟩;refine ⟨_,rfl,?_⟩))
 go_ret
 exact ⟨sq,Y4⟩
def jra.f (l0_0 : List (S106)) (a1 : Int) : Option (Bool) := (jza.f a1 0 (wrap64 ((l0_0.length : Int) - 1))).bind fun t247 => (some t247)
set_option maxHeartbeats 8000000 in
set_option maxRecDepth 100000 in
theorem jra.calls (A0_0 : Option Addr) (c0_0 : Nat) (l0_0 : List (S106)) (a1 : Int) (r : Bool) (w : World) (hr0_0 : Kd.C k106 w A0_0 l0_0.length l0_0) (hc0_0 : l0_0.length ≤ c0_0) (h : jra.f l0_0 a1 = some r) :
  Calls Try.prog 83 #[.agg #[.slice A0_0 l0_0.length c0_0], .int .i64 a1] w fun e w'=>e=.returned (.bool r)∧Below w.heap.size w w':=by
 have hu31:=Try.underlying31
 have HR0_0:=am hr0_0
 have HC0_0:=am hc0_0
 clear hr0_0 hc0_0
 have HB:=am (Below.refl w.heap.size w)
 have H:((jza.f a1 0 (wrap64 ((l0_0.length:Int) - 1))).bind fun t247=>(some t247))=some r:=h
 clear h
 replace H:=bzS H
 obtain ⟨t247,A30,H⟩:=H
 replace H:(some t247)=some r:=H
 have A3:=am A30
 clear A30
 obtain rfl:=Option.some.inj H
 go_enter Try.func83,Try.ntmps83
 go_wp2_with (first |((with_reducible refine jP (N:=2) rfl ?_);refine bE (N:=2) (cs:=#[.slice A0_0 l0_0.length c0_0]) (t:=31) ?_;intro gb246 hg w4 hbox hb;have BK246:=am (hbox);have GW246:=am ((Y3:w.heap.size≤gb246));have GE246:=am ((Y3:w.heap.size≤gb246));replace HB:=am (jk (bq) hb);clear hb hbox hg;have hcz5_0:=bc0 BK246.out;have hfz5_0:=jd BK246.out 0) |((with_reducible refine jy (f:=80) rfl ?_);refine gL (some 10) Try.func80 #[.int .i64 a1, .int .i64 0, .int .i64 (wrap64 ((l0_0.length:Int) - 1))] ?_;(with_reducible refine (jza.calls a1 0 (wrap64 ((l0_0.length:Int) - 1)) t247 _ A3.out).mono ?_);rintro e w' ⟨rfl,⟨nd,rfl⟩⟩;refine ⟨_,rfl,?_⟩))
 go_ret
 exact ⟨Y0,by repeat (first |(with_reducible first | exact HB.out | apply jJ | apply jw | apply jF | refine jq ?_ GE246.out) | exact HB.out)⟩
def jya.j0 : Nat → Int → Bool → Int → Int → Int → List (S106) → Option (Bool)
 | 0,_,_,_,_,_,_=>none
 | k+1,x6,x7,x249000,x249001,x249002,x250000=>if x7=true then ((jAa.f x249001).bind fun t250=>(if t250=true then (some (x249002 == 0)) else (some false))) else (if x6=2 then ((jra.f x250000 x249001).bind fun t251=>(if t251=true then (some (x249002 == 0)) else (some false))) else (if x6=3 then ((jra.f x250000 x249001).bind fun t252=>(if t252=true then ((jAa.f x249002).bind fun t253=>(some t253)) else (some false))) else (some false)))
def jya.f (k : Nat) (a0_0 : Int) (a0_1 : Int) (a0_2 : Int) (l1_0 : List (S106)) : Option (Bool) := if a0_0 = 0 then (jya.j0 k a0_0 (a0_0 == 0) a0_0 a0_1 a0_2 l1_0) else (jya.j0 k a0_0 (a0_0 == 1) a0_0 a0_1 a0_2 l1_0)
set_option maxHeartbeats 8000000 in
set_option maxRecDepth 100000 in
theorem jya.calls (k : Nat) (a0_0 : Int) (a0_1 : Int) (a0_2 : Int) (A1_0 : Option Addr) (c1_0 : Nat) (l1_0 : List (S106)) (r : Bool) (w : World) (hr1_0 : Kd.C k106 w A1_0 l1_0.length l1_0) (hc1_0 : l1_0.length ≤ c1_0) (h : jya.f k a0_0 a0_1 a0_2 l1_0 = some r) :
  Calls Try.prog 51 #[.agg #[.int .i64 a0_0, .int .i64 a0_1, .int .i64 a0_2], .agg #[.slice A1_0 l1_0.length c1_0]] w fun e w'=>e=.returned (.bool r)∧Below w.heap.size w w':=by
 have hu44:=Try.underlying44
 have hu31:=Try.underlying31
 have HR1_0:=am hr1_0
 have HC1_0:=am hc1_0
 clear hr1_0 hc1_0
 have HB:=am (Below.refl w.heap.size w)
 have H:(if a0_0=0 then (jya.j0 k a0_0 (a0_0 == 0) a0_0 a0_1 a0_2 l1_0) else (jya.j0 k a0_0 (a0_0 == 1) a0_0 a0_1 a0_2 l1_0))=some r:=h
 clear h
 have HC3:=am H
 clear H
 go_enter Try.func51,Try.ntmps51
 go_upto_if 7 with (first |((with_reducible refine jP (N:=2) rfl ?_);refine bE (N:=2) (cs:=#[.int .i64 a0_0, .int .i64 a0_1, .int .i64 a0_2]) (t:=44) ?_;intro gb248 hg w4 hbox hb;have BK248:=am (hbox);have GW248:=am ((Y3:w.heap.size≤gb248));have GE248:=am ((Y3:w.heap.size≤gb248));replace HB:=am (jk (bq) hb);clear hb hbox hg) |((with_reducible refine jP (N:=3) rfl ?_);refine bE (N:=3) (cs:=#[.slice A1_0 l1_0.length c1_0]) (t:=31) ?_;intro gb249 hg w5 hbox hb;have BK249:=am (hbox);have GW249:=am ((Y107:w.heap.size≤gb249));have GE249:=am ((Y107:w.heap.size≤gb249));have NB248_249:=am ((by rw [hg];exact Nat.ne_of_lt (jta (g:=gb248) (o:=.cells #[.int .i64 a0_0, .int .i64 a0_1, .int .i64 a0_2] 44 (0,0)) (kq BK248.out)):gb248≠gb249));have NB249_248:=am ((by rw [hg];exact Nat.ne_of_gt (jta (g:=gb248) (o:=.cells #[.int .i64 a0_0, .int .i64 a0_1, .int .i64 a0_2] 44 (0,0)) (kq BK248.out)):gb249≠gb248));replace BK248:=am (je (g:=gb248) (o:=.cells #[.int .i64 a0_0, .int .i64 a0_1, .int .i64 a0_2] 44 (0,0)) (kq BK248.out) hb);replace HB:=am (jk (by repeat (first |(with_reducible first | exact HB.out | apply jJ | apply jw | apply jF | refine jq ?_ GE248.out) | exact HB.out)) hb);clear hb hbox hg;have hnb6:=NB248_249.out;have hnc6:=NB249_248.out;have hcz7_0:=bc0 BK248.out;have hcz7_1:=bc1 BK248.out;have hcz7_2:=bc2 BK248.out;have hfz7_0:=jd BK248.out 0;have hfz7_1:=jd BK248.out 1;have hfz7_2:=jd BK248.out 2))
 (try simp only [Act.put,List.setIfInBounds_toArray,List.set_cons_zero,List.set_cons_succ])
 go_cut [7] (fun v7 wc=>∃ (kq:Nat) (x7_2:Bool),v7=.bool x7_2∧jv (jya.j0 kq a0_0 x7_2 a0_0 a0_1 a0_2 l1_0=some r)∧jv (kq≤k)∧jv (wc.heap[gb248]?=some (.cells #[.int .i64 a0_0, .int .i64 a0_1, .int .i64 a0_2] 44 (0,0)))∧jv (wc.heap[gb249]?=some (.cells #[(.slice A1_0 l1_0.length c1_0)] 31 (0,0)))∧jv (Below w.heap.size w wc))
 case first =>
  have H:=HC3.out
  clear HC3
  by_cases c8:a0_0=0
  ·rw [if_pos c8] at H
   have c8b0:(a0_0 == 0)=true:=beq_iff_eq.mpr c8
   have c8b1:(a0_0 != 0)=false:=bne_eq_false_iff_eq.mpr c8
   clear c8
   (first | rw [c8b0] |(simp only [jyb,jBb];rw [c8b0]) | skip)
   have H':=am H
   clear H
   go_wp2
   go_meet
   case rel=>exact ⟨_,((a0_0 == 0)),(sq),H',⟨Y16⟩,⟨kq BK248.out⟩,⟨kq BK249.out⟩,⟨Y22⟩⟩
  ·rw [if_neg c8] at H
   have c8b0:(a0_0 == 0)=false:=beq_eq_false_iff_ne.mpr c8
   have c8b1:(a0_0 != 0)=true:=bne_iff_ne.mpr c8
   (first | rw [c8b0] |(simp only [jyb,jBb];rw [c8b0]) | skip)
   have H':=am H
   clear H
   go_wp2
   go_meet
   case rel=>exact ⟨_,((a0_0 == 1)),(sq),H',⟨Y16⟩,⟨kq BK248.out⟩,⟨kq BK249.out⟩,⟨Y22⟩⟩
 case rest =>
  clear HC3
  try clear c1
  try clear p2
  try clear c5
  try clear c6
  try clear c8
  try clear c8b0
  try clear c8b1
  try clear hcz7_0
  try clear hcz7_1
  try clear hcz7_2
  try clear hfz7_0
  try clear hfz7_1
  try clear hfz7_2
  obtain ⟨kq,x7_2,rfl,HA,HJ2,BK248,BK249,HB⟩:=hcut
  cases kq with
  | zero=>exact absurd HA.out (by simp [jya.j0])
  | succ kj2 =>
   have H:=HA.out
   clear HA
   simp only [jya.j0] at H
   by_cases c9:x7_2=true
   ·subst c9
    have H1:((jAa.f a0_1).bind fun t250=>(if t250=true then (some (a0_2 == 0)) else (some false)))=some r:=by rw [if_pos rfl] at H;exact H
    clear H
    have H:=H1
    clear H1
    replace H:=bzS H
    obtain ⟨t250,A100,H⟩:=H
    replace H:(if t250=true then (some (a0_2 == 0)) else (some false))=some r:=H
    have A10:=am A100
    clear A100
    by_cases c11:t250=true
    ·subst c11
     have H1:(some (a0_2 == 0))=some r:=by rw [if_pos rfl] at H;exact H
     clear H
     have H:=H1
     clear H1
     obtain rfl:=Option.some.inj H
     have hnb12:=NB248_249.out
     have hnc12:=NB249_248.out
     have hcz13_0:=bc0 BK248.out
     have hcz13_1:=bc1 BK248.out
     have hcz13_2:=bc2 BK248.out
     have hfz13_0:=jd BK248.out 0
     have hfz13_1:=jd BK248.out 1
     have hfz13_2:=jd BK248.out 2
     go_wp2_with (first |((with_reducible refine jy (f:=82) rfl ?_);refine gL (some 12) Try.func82 #[.int .i64 a0_1] ?_;(with_reducible refine (jAa.calls a0_1 true _ A10.out).mono ?_);rintro e w' ⟨rfl,⟨nd,rfl⟩⟩;refine ⟨_,rfl,?_⟩))
     go_ret
     exact ⟨Y0,Y22⟩
    ·replace c11:=Bool.eq_false_iff.mpr c11
     subst c11
     have H1:(some false)=some r:=by rw [if_neg (show ¬ (false=true) by decide)] at H;exact H
     clear H
     have H:=H1
     clear H1
     obtain rfl:=Option.some.inj H
     have hnb14:=NB248_249.out
     have hnc14:=NB249_248.out
     have hcz15_0:=bc0 BK248.out
     have hcz15_1:=bc1 BK248.out
     have hcz15_2:=bc2 BK248.out
     have hfz15_0:=jd BK248.out 0
     have hfz15_1:=jd BK248.out 1
     have hfz15_2:=jd BK248.out 2
     go_wp2_with (first |((with_reducible refine jy (f:=82) rfl ?_);refine gL (some 12) Try.func82 #[.int .i64 a0_1] ?_;(with_reducible refine (jAa.calls a0_1 false _ A10.out).mono ?_);rintro e w' ⟨rfl,⟨nd,rfl⟩⟩;refine ⟨_,rfl,?_⟩))
     go_ret
     exact ⟨Y0,Y22⟩
   ·replace c9:=Bool.eq_false_iff.mpr c9
    subst c9
    have H1:(if a0_0=2 then ((jra.f l1_0 a0_1).bind fun t251=>(if t251=true then (some (a0_2 == 0)) else (some false))) else (if a0_0=3 then ((jra.f l1_0 a0_1).bind fun t252=>(if t252=true then ((jAa.f a0_2).bind fun t253=>(some t253)) else (some false))) else (some false)))=some r:=by rw [if_neg (show ¬ (false=true) by decide)] at H;exact H
    clear H
    have H:=H1
    clear H1
    by_cases c16:a0_0=2
    ·rw [if_pos c16] at H
     have c16b0:(a0_0 == 2)=true:=beq_iff_eq.mpr c16
     have c16b1:(a0_0 != 2)=false:=bne_eq_false_iff_eq.mpr c16
     clear c16
     replace H:=bzS H
     obtain ⟨t251,A170,H⟩:=H
     replace H:(if t251=true then (some (a0_2 == 0)) else (some false))=some r:=H
     have A17:=am A170
     clear A170
     by_cases c18:t251=true
     ·subst c18
      have H1:(some (a0_2 == 0))=some r:=by rw [if_pos rfl] at H;exact H
      clear H
      have H:=H1
      clear H1
      obtain rfl:=Option.some.inj H
      have hnb19:=NB249_248.out
      have hnc19:=NB248_249.out
      have hcz20_0:=bc0 BK249.out
      have hfz20_0:=jd BK249.out 0
      have hcz21_0:=bc0 BK248.out
      have hcz21_1:=bc1 BK248.out
      have hcz21_2:=bc2 BK248.out
      have hfz21_0:=jd BK248.out 0
      have hfz21_1:=jd BK248.out 1
      have hfz21_2:=jd BK248.out 2
      go_wp2_with (first |((with_reducible refine jy (f:=83) rfl ?_);refine gL (some 23) Try.func83 #[.agg #[.slice A1_0 l1_0.length c1_0], .int .i64 a0_1] ?_;(with_reducible refine (jra.calls _ _ l1_0 a0_1 true _ ?side1 ?side2 A17.out).mono ?_);(case side1=>exact cq (Kd.jka HR1_0.out HB.out));(case side2=>exact HC1_0.out);rintro e w22 ⟨rfl,hb⟩;refine ⟨_,rfl,?_⟩;replace BK248:=am (je (g:=gb248) (o:=.cells #[.int .i64 a0_0, .int .i64 a0_1, .int .i64 a0_2] 44 (0,0)) (kq BK248.out) hb);replace BK249:=am (je (g:=gb249) (o:=.cells #[.slice A1_0 l1_0.length c1_0] 31 (0,0)) (kq BK249.out) hb);replace HB:=am (jk (Y22) hb);(try clear hb);(try clear hb2);(try clear hk);(try clear hi);have hcz23_0:=bc0 BK248.out;have hcz23_1:=bc1 BK248.out;have hcz23_2:=bc2 BK248.out;have hfz23_0:=jd BK248.out 0;have hfz23_1:=jd BK248.out 1;have hfz23_2:=jd BK248.out 2))
      go_ret
      exact ⟨Y0,Y22⟩
     ·replace c18:=Bool.eq_false_iff.mpr c18
      subst c18
      have H1:(some false)=some r:=by rw [if_neg (show ¬ (false=true) by decide)] at H;exact H
      clear H
      have H:=H1
      clear H1
      obtain rfl:=Option.some.inj H
      have hnb24:=NB249_248.out
      have hnc24:=NB248_249.out
      have hcz25_0:=bc0 BK249.out
      have hfz25_0:=jd BK249.out 0
      have hcz26_0:=bc0 BK248.out
      have hcz26_1:=bc1 BK248.out
      have hcz26_2:=bc2 BK248.out
      have hfz26_0:=jd BK248.out 0
      have hfz26_1:=jd BK248.out 1
      have hfz26_2:=jd BK248.out 2
      go_wp2_with (first |((with_reducible refine jy (f:=83) rfl ?_);refine gL (some 23) Try.func83 #[.agg #[.slice A1_0 l1_0.length c1_0], .int .i64 a0_1] ?_;(with_reducible refine (jra.calls _ _ l1_0 a0_1 false _ ?side1 ?side2 A17.out).mono ?_);(case side1=>exact cq (Kd.jka HR1_0.out HB.out));(case side2=>exact HC1_0.out);rintro e w27 ⟨rfl,hb⟩;refine ⟨_,rfl,?_⟩;replace BK248:=am (je (g:=gb248) (o:=.cells #[.int .i64 a0_0, .int .i64 a0_1, .int .i64 a0_2] 44 (0,0)) (kq BK248.out) hb);replace BK249:=am (je (g:=gb249) (o:=.cells #[.slice A1_0 l1_0.length c1_0] 31 (0,0)) (kq BK249.out) hb);replace HB:=am (jk (Y22) hb);(try clear hb);(try clear hb2);(try clear hk);(try clear hi)))
      go_ret
      exact ⟨Y0,Y22⟩
    ·rw [if_neg c16] at H
     have c16b0:(a0_0 == 2)=false:=beq_eq_false_iff_ne.mpr c16
     have c16b1:(a0_0 != 2)=true:=bne_iff_ne.mpr c16
     by_cases c28:a0_0=3
     ·rw [if_pos c28] at H
      have c28b0:(a0_0 == 3)=true:=beq_iff_eq.mpr c28
      have c28b1:(a0_0 != 3)=false:=bne_eq_false_iff_eq.mpr c28
      clear c28
      replace H:=bzS H
      obtain ⟨t252,A290,H⟩:=H
      replace H:(if t252=true then ((jAa.f a0_2).bind fun t253=>(some t253)) else (some false))=some r:=H
      have A29:=am A290
      clear A290
      by_cases c30:t252=true
      ·subst c30
       have H1:((jAa.f a0_2).bind fun t253=>(some t253))=some r:=by rw [if_pos rfl] at H;exact H
       clear H
       have H:=H1
       clear H1
       replace H:=bzS H
       obtain ⟨t253,A310,H⟩:=H
       replace H:(some t253)=some r:=H
       have A31:=am A310
       clear A310
       obtain rfl:=Option.some.inj H
       have hnb32:=NB249_248.out
       have hnc32:=NB248_249.out
       have hcz33_0:=bc0 BK249.out
       have hfz33_0:=jd BK249.out 0
       have hcz34_0:=bc0 BK248.out
       have hcz34_1:=bc1 BK248.out
       have hcz34_2:=bc2 BK248.out
       have hfz34_0:=jd BK248.out 0
       have hfz34_1:=jd BK248.out 1
       have hfz34_2:=jd BK248.out 2
       go_wp2_with (first |((with_reducible refine jy (f:=83) rfl ?_);refine gL (some 34) Try.func83 #[.agg #[.slice A1_0 l1_0.length c1_0], .int .i64 a0_1] ?_;(with_reducible refine (jra.calls _ _ l1_0 a0_1 true _ ?side1 ?side2 A29.out).mono ?_);(case side1=>exact cq (Kd.jka HR1_0.out HB.out));(case side2=>exact HC1_0.out);rintro e w35 ⟨rfl,hb⟩;refine ⟨_,rfl,?_⟩;replace BK248:=am (je (g:=gb248) (o:=.cells #[.int .i64 a0_0, .int .i64 a0_1, .int .i64 a0_2] 44 (0,0)) (kq BK248.out) hb);replace BK249:=am (je (g:=gb249) (o:=.cells #[.slice A1_0 l1_0.length c1_0] 31 (0,0)) (kq BK249.out) hb);replace HB:=am (jk (Y22) hb);(try clear hb);(try clear hb2);(try clear hk);(try clear hi);have hcz36_0:=bc0 BK248.out;have hcz36_1:=bc1 BK248.out;have hcz36_2:=bc2 BK248.out;have hfz36_0:=jd BK248.out 0;have hfz36_1:=jd BK248.out 1;have hfz36_2:=jd BK248.out 2) |(go_at_call 82;(with_reducible refine (jAa.calls a0_2 t253 _ A31.out).mono ?_);rintro e w' ⟨rfl,⟨nd,rfl⟩⟩))
       go_ret
       exact ⟨Y0,Y22⟩
      ·replace c30:=Bool.eq_false_iff.mpr c30
       subst c30
       have H1:(some false)=some r:=by rw [if_neg (show ¬ (false=true) by decide)] at H;exact H
       clear H
       have H:=H1
       clear H1
       obtain rfl:=Option.some.inj H
       have hnb37:=NB249_248.out
       have hnc37:=NB248_249.out
       have hcz38_0:=bc0 BK249.out
       have hfz38_0:=jd BK249.out 0
       have hcz39_0:=bc0 BK248.out
       have hcz39_1:=bc1 BK248.out
       have hcz39_2:=bc2 BK248.out
       have hfz39_0:=jd BK248.out 0
       have hfz39_1:=jd BK248.out 1
       have hfz39_2:=jd BK248.out 2
       go_wp2_with (first |((with_reducible refine jy (f:=83) rfl ?_);refine gL (some 34) Try.func83 #[.agg #[.slice A1_0 l1_0.length c1_0], .int .i64 a0_1] ?_;(with_reducible refine (jra.calls _ _ l1_0 a0_1 false _ ?side1 ?side2 A29.out).mono ?_);(case side1=>exact cq (Kd.jka HR1_0.out HB.out));(case side2=>exact HC1_0.out);rintro e w40 ⟨rfl,hb⟩;refine ⟨_,rfl,?_⟩;replace BK248:=am (je (g:=gb248) (o:=.cells #[.int .i64 a0_0, .int .i64 a0_1, .int .i64 a0_2] 44 (0,0)) (kq BK248.out) hb);replace BK249:=am (je (g:=gb249) (o:=.cells #[.slice A1_0 l1_0.length c1_0] 31 (0,0)) (kq BK249.out) hb);replace HB:=am (jk (Y22) hb);(try clear hb);(try clear hb2);(try clear hk);(try clear hi)))
       go_ret
       exact ⟨Y0,Y22⟩
     ·rw [if_neg c28] at H
      have c28b0:(a0_0 == 3)=false:=beq_eq_false_iff_ne.mpr c28
      have c28b1:(a0_0 != 3)=true:=bne_iff_ne.mpr c28
      obtain rfl:=Option.some.inj H
      go_wp2
      go_ret
      exact ⟨Y0,Y22⟩
theorem impl_ValidExits1_calls (k : Nat) (l : List S106) (A_ : Option Addr) (c_ : Nat) (x : S44) (b : Bool) (B : Nat) (w : World) (hr : Kd.C k106 w A_ l.length l) (hcc : l.length ≤ c_) (hc : w.cell? ⟨B, 0, none⟩ = some (.slice A_ l.length c_)) (h : ((jya.f k x.f0 x.f1 x.f2 l).bind fun b => some (!b)) = some b) :
  Calls Try.prog 50 #[.agg #[.int .i64 x.f0, .int .i64 x.f1, .int .i64 x.f2], .pointer (some ⟨B,0,none⟩)] w fun e w'=>e=.returned (.bool b)∧Below w.heap.size w w':=by
 obtain ⟨b0,h0,h1⟩:=bzS h
 obtain rfl:=Option.some.inj h1
 have hB:B<w.heap.size:=World.block_lt_of_cell? w ⟨B,0,none⟩ hc
 have HF:=am (fun W (hb:Below w.heap.size w W)=>jya.calls k x.f0 x.f1 x.f2 A_ c_ l b0 W (Kd.jka hr hb) hcc h0)
 have HB:=am (Below.refl w.heap.size w)
 clear h h0 h1 hr
 have hu31:=Try.underlying31
 have hu44:=Try.underlying44
 have hne:B≠w.heap.size:=by omega
 go_enter Try.func50,Try.ntmps50
 go_wp2_with (go_at_call 51;refine (HF.out _ (bq)).mono ?_;rintro e w' ⟨rfl,hb2⟩)
 go_ret
 exact ⟨rfl,jk (bq) hb2⟩
set_option maxHeartbeats 8000000 in
set_option maxRecDepth 100000 in
theorem impl_ValidExits_idx (A_ : Option Addr) (c_ : Nat) (l : List (S44)) (B0_ : Nat) (p : S44 → Option Bool) (r : Int) (w : World) (hr : Kd.C k44 w A_ l.length l) (h : idxFrom p l 0 = some r)
  (hp:∀ W,Below w.heap.size w W→∀ (x:S44) (b:Bool),p x=some b→Calls Try.prog 50 #[.agg #[.int .i64 x.f0, .int .i64 x.f1, .int .i64 x.f2], .pointer (some ⟨B0_,0,none⟩)] W fun e w'=>e=.returned (.bool b)∧Below W.heap.size W w') :
  Calls Try.prog 81 #[.slice A_ l.length c_, .func (.func 50) #[] #[.pointer (some ⟨B0_,0,none⟩)]] w fun e w'=>e=.returned (.int .i64 r)∧Below w.heap.size w w':=by
 have hm:l.length≤9223372036854775807:=Kd.C_max hr
 have HR:=am hr
 have HP:=am hp
 have H0:=am h
 clear hr hp h
 go_enter Try.func81,Try.ntmps81
 go_wp2
 go_loopw [5,8] (fun i5 i8 wr=>∃ k:Nat,k≤l.length∧i8=.int .i64 k∧jv (idxFrom p (l.drop k) k=some r)∧Below w.heap.size w wr) (fun _ i8 _=>l.length - (intOf i8).toNat)
 case atStart=>exact ⟨0,Nat.zero_le _,rfl,H0,Below.refl _ _⟩
 case round =>
  clear H0
  obtain ⟨k,hk,rfl,HA,hb⟩:=hrel
  by_cases hlt:k<l.length
  ·have HB:=am (idxFrom_step hlt HA.out)
   clear HA
   obtain ⟨ad,rfl,hx0,hx1,hx2⟩:=at_T44 HR.out (k:Int) (by omega) (by omega)
   have hrd:jZ l (k:Int)=l[k]:=by simp [jZ,List.getD_eq_getElem?_getD,hlt]
   replace hx0:=jia hb hx0
   replace hx1:=jia hb hx1
   replace hx2:=jia hb hx2
   rw [hrd] at hx0 hx1 hx2
   simp only [Int.toNat_natCast] at hx0 hx1 hx2
   clear hrd
   obtain ⟨b,hb1,hb0⟩:=HB.out
   have HQ:=am hb1
   clear hb1 HB
   cases b with
   | true =>
    have HZ:=am (by simpa using hb0:(k:Int)=r)
    clear hb0
    go_wp2_with (go_at_call 50;refine (HP.out _ hb _ _ HQ.out).mono ?_;rintro e w' ⟨rfl,hb2⟩)
    go_ret
    exact ⟨by rw [← HZ.out];rfl,job hb hb.size hb2⟩
   | false =>
    have HZ:=am (by simpa using hb0:idxFrom p (l.drop (k+1)) (k+1)=some r)
    clear hb0
    go_wp2_with (go_at_call 50;refine (HP.out _ hb _ _ HQ.out).mono ?_;rintro e w' ⟨rfl,hb2⟩)
    go_roundw
    case rel=>exact ⟨k+1,hlt,by go_num,HZ,job hb hb.size hb2⟩
    case measure=>simp [intOf];omega
  ·have HZ:=am (idxFrom_end (by omega) HA.out)
   clear HA
   go_wp2
   go_ret
   exact ⟨by rw [HZ.out];rfl,hb⟩
set_option maxHeartbeats 8000000 in
set_option maxRecDepth 100000 in
theorem impl_ValidExits_any (A_ : Option Addr) (c_ : Nat) (l : List S44) (B0_ : Nat) (p : S44 → Option Bool) (r : Int) (w : World) (hr : Kd.C k44 w A_ l.length l) (h : idxFrom p l 0 = some r)
  (hp:∀ W,Below w.heap.size w W→∀ (x:S44) (b:Bool),p x=some b→Calls Try.prog 50 #[.agg #[.int .i64 x.f0, .int .i64 x.f1, .int .i64 x.f2], .pointer (some ⟨B0_,0,none⟩)] W fun e w'=>e=.returned (.bool b)∧Below W.heap.size W w') :
  Calls Try.prog 49 #[.slice A_ l.length c_, .func (.func 50) #[] #[.pointer (some ⟨B0_,0,none⟩)]] w fun e w'=>e=.returned (.bool (decide (0≤r)))∧Below w.heap.size w w':=by
 have HF:=am (impl_ValidExits_idx A_ c_ l B0_ p r w hr h hp)
 clear hr h hp
 go_enter Try.func49,Try.ntmps49
 go_wp2_with (go_at_call 81;refine HF.out.mono ?_;rintro e w' ⟨rfl,hb2⟩)
 go_ret
 exact ⟨rfl,hb2⟩
def jxa.f (k : Nat) (l0_0 : List S106) (l1 : List S44) : Option Bool := (jI.f k l0_0).bind fun v => if v = true then (if (l1.length : Int) ≤ 8 then (idxFrom (fun x => (jya.f k x.f0 x.f1 x.f2 l0_0).bind fun b => some (!b)) l1 0).bind fun r => some (!decide (0 ≤ r)) else some false) else some false
set_option maxHeartbeats 8000000 in
set_option maxRecDepth 100000 in
theorem jxa.calls (k : Nat) (A0_0 : Option Addr) (c0_0 : Nat) (l0_0 : List (S106)) (A1 : Option Addr) (c1 : Nat) (l1 : List (S44)) (r : Bool) (w : World) (hr0_0 : Kd.C k106 w A0_0 l0_0.length l0_0) (hc0_0 : l0_0.length ≤ c0_0) (hr1 : Kd.C k44 w A1 l1.length l1) (hc1 : l1.length ≤ c1) (h : jxa.f k l0_0 l1 = some r) :
  Calls Try.prog 17 #[.agg #[.slice A0_0 l0_0.length c0_0], .slice A1 l1.length c1] w fun e w'=>e=.returned (.bool r)∧Below w.heap.size w w':=by
 obtain ⟨v,hv,h⟩:=bzS h
 have hu31:=Try.underlying31
 have HV:=am (fun W (hb:Below w.heap.size w W)=>jI.calls k A0_0 c0_0 l0_0 v W (Kd.jka hr0_0 hb) hc0_0 hv)
 cases v with
 | false =>
  obtain rfl:false=r:=by simpa using h
  clear hv h hr0_0 hr1
  go_enter Try.func17,Try.ntmps17
  go_wp2_with (go_at_call 48;refine (HV.out _ ((Below.refl _ _).alloc (Nat.le_refl _) _)).mono ?_;rintro e w' ⟨rfl,hb2⟩)
  go_ret
  exact ⟨rfl,((Below.refl _ _).alloc (Nat.le_refl _) _).trans (hb2.mono (by simp))⟩
 | true =>
  rw [if_pos rfl] at h
  by_cases hlen:(l1.length:Int)≤8
  ·rw [if_pos hlen] at h
   have hlb:=dzT hlen
   obtain ⟨q,hq,h⟩:=bzS h
   have HZ:=am (Option.some.inj h)
   have HF:=am (fun W (hb:Below w.heap.size w W) (B:Nat) (hc:W.cell? ⟨B,0,none⟩=some (.slice A0_0 l0_0.length c0_0))=>impl_ValidExits_any A1 c1 l1 B (fun x=>(jya.f k x.f0 x.f1 x.f2 l0_0).bind fun b=>some (!b)) q W (Kd.jka hr1 hb) hq (fun W' hb' x b hx =>
    impl_ValidExits1_calls k l0_0 A0_0 c0_0 x b B W' (Kd.jka (Kd.jka hr0_0 hb) hb') hc0_0 (jia hb' hc) hx))
   clear hv h hq hr0_0 hr1 hlen
   go_enter Try.func17,Try.ntmps17
   go_wp2_with (first |(go_at_call 48;refine (HV.out _ ((Below.refl _ _).alloc (Nat.le_refl _) _)).mono ?_;rintro e w1 ⟨rfl,hb2⟩;have hb1:=((Below.refl w.heap.size w).alloc (Nat.le_refl _) (.cells #[.slice A0_0 l0_0.length c0_0] 31)).trans (hb2.mono (by simp));have hcell:=jia hb2 (show (w.alloc (.cells #[.slice A0_0 l0_0.length c0_0] 31)).cell? ⟨w.heap.size,0,none⟩=some (.slice A0_0 l0_0.length c0_0) by simp)) |(go_at_call 49;refine (HF.out _ hb1 _ hcell).mono ?_;rintro e w2 ⟨rfl,hb3⟩))
   go_ret
   exact ⟨by rw [← HZ.out];rfl,job hb1 hb1.size hb3⟩
  ·rw [if_neg hlen] at h
   obtain rfl:=Option.some.inj h
   have hlb:=dzF hlen
   clear hv hr0_0 hr1 hlen
   go_enter Try.func17,Try.ntmps17
   go_wp2_with (go_at_call 48;refine (HV.out _ ((Below.refl _ _).alloc (Nat.le_refl _) _)).mono ?_;rintro e w' ⟨rfl,hb2⟩)
   go_ret
   exact ⟨rfl,((Below.refl _ _).alloc (Nat.le_refl _) _).trans (hb2.mono (by simp))⟩
set_option maxHeartbeats 8000000 in
theorem mm_new (At : Option Addr) (ct : Nat) (t : List S106) (Ap : Option Addr) (lp cp : Nat) (w : World) :
  Calls Try.prog 39 #[.agg #[.slice At t.length ct], .slice Ap lp cp] w fun e w'=>e=.returned (.pointer (some ⟨w.heap.size+1,0,none⟩))∧w'=(w.alloc (.cells #[.slice At t.length ct] 31)).alloc (.cells #[.slice At t.length ct, .slice Ap lp cp, .slice none 0 0, .slice none 0 0, .int .i64 (-1)] 110):=by
 have hu31:=Try.underlying31
 have hu110:=Try.underlying110
 go_enter Try.func39,Try.ntmps39
 go_wp2
 go_ret
 exact ⟨rfl,rfl⟩
def jg (w0 W : World) (g : Nat) (f0 : List Int) (f1 : Int) : Prop := ∃ A0 c0, W.heap[g]? = some (.cells #[.slice A0 f0.length c0, .int .i64 f1] 118 (0, 0)) ∧ w0.heap.size ≤ g ∧ Kd.C (Kd.int .u8) w0 A0 f0.length f0
theorem jg.grown {w0 W : World} {g : Nat} {f0 : List Int} {f1 : Int} {W1 : World} {row : Option Nat} (h : jg w0 W g f0 f1) (hw : W.grownBy W1 row) (hne : some g ≠ row) : jg w0 W1 g f0 f1 := by
 obtain ⟨A0,c0,hb,hg,hr0⟩:=h
 exact ⟨A0,c0,jla hb hw hne,hg,hr0⟩
theorem jg.kept {w0 W : World} {g : Nat} {f0 : List Int} {f1 : Int} {W1 : World} {S : Nat → Prop} (h : jg w0 W g f0 f1) (hk : Kept W W1 S) (hne : ¬ S g) : jg w0 W1 g f0 f1 := by
 obtain ⟨A0,c0,hb,hg,hr0⟩:=h
 exact ⟨A0,c0,jcc hb hk hne,hg,hr0⟩
theorem jg.below {w0 W : World} {g : Nat} {f0 : List Int} {f1 : Int} {W1 : World} (h : jg w0 W g f0 f1) (hw : Below W.heap.size W W1) : jg w0 W1 g f0 f1 := h.grown (grown_of_below hw none) (by simp)
theorem jg.alloc {w0 W : World} {g : Nat} {f0 : List Int} {f1 : Int} (h : jg w0 W g f0 f1) (o : Obj) : jg w0 (W.alloc o) g f0 f1 := h.below (jJ (Below.refl _ _) o)
theorem jg.drewN {w0 W : World} {g : Nat} {f0 : List Int} {f1 : Int} (h : jg w0 W g f0 f1) (m : Nat) : jg w0 (W.drewN m) g f0 f1 := h
theorem jg.drew {w0 W : World} {g : Nat} {f0 : List Int} {f1 : Int} (h : jg w0 W g f0 f1) : jg w0 W.drew g f0 f1 := h
theorem jg.at_ {w0 W : World} {g : Nat} {f0 : List Int} {f1 : Int} {w' : World} {m : Nat} (hq : W.drewN m = w') (h : jg w0 W g f0 f1) : jg w0 w' g f0 f1 := by subst hq; exact jg.drewN h m
theorem jg.apart {w0 W : World} {g : Nat} {f0 : List Int} {f1 : Int} {α : Type} {d : Kd α} {e : Nat} {base : Nat} {ok : Nat → Prop} {v : Value} {xs : List α} (h : jg w0 W g f0 f1) (ho : d.R e W base ok v xs) (ht : ∀ q, q ∈ e :: d.E → q ≠ 118) : d.R e W base (fun k => ok k ∧ k ≠ g) v xs := by
 obtain ⟨A0,c0,hb,hg,hr0⟩:=h
 exact Kd.jN ho hb ht
theorem jg.own_ne {w0 W : World} {g : Nat} {f0 : List Int} {f1 : Int} {α : Type} {d : Kd α} {e : Nat} {base : Nat} {ok : Nat → Prop} {v : Value} {xs : List α} (h : jg w0 W g f0 f1) (ho : d.R e W base ok v xs) (ht : e ≠ 118) : some g ≠ v.ownBlock := by
 obtain ⟨A0,c0,hb,hg,hr0⟩:=h
 exact Kd.R_ne ho hb ht
theorem jg.lt {w0 W : World} {g : Nat} {f0 : List Int} {f1 : Int} (h : jg w0 W g f0 f1) : g < W.heap.size := by
 obtain ⟨A0,c0,hb,hg,hr0⟩:=h
 exact jta hb
theorem jg.ge {w0 W : World} {g : Nat} {f0 : List Int} {f1 : Int} (h : jg w0 W g f0 f1) : w0.heap.size ≤ g := by
 obtain ⟨A0,c0,hb,hg,hr0⟩:=h
 exact hg
theorem jg.ne_blk {w0 W : World} {g : Nat} {f0 : List Int} {f1 : Int} {a : Nat} {cs : Array Value} {t : TypeId} {fr : Nat × Nat} (h : jg w0 W g f0 f1) (hb2 : W.heap[a]? = some (.cells cs t fr)) (ht : t ≠ 118) : g ≠ a := by
 obtain ⟨A0,c0,hb,hg,hr0⟩:=h
 rintro rfl
 rw [hb] at hb2
 injection hb2 with hb2
 injection hb2 with _ ht2
 exact ht ht2.symm
theorem jg.far {w0 W : World} {g : Nat} {f0 : List Int} {f1 : Int} {p : Addr} (h : jg w0 W g f0 f1) (hne : g ≠ p.block) (u : Value) : jg w0 (W.setCell p u) g f0 f1 := by
 obtain ⟨A0,c0,hb,hg,hr0⟩:=h
 exact ⟨A0,c0,jr hb hne u,hg,hr0⟩
theorem cellS118_0 {W : World} {g : Nat} {A0 : Option Addr} {c0 : Nat} {f0 : List Int} {f1 : Int} (h : W.heap[g]? = some (.cells #[.slice A0 f0.length c0, .int .i64 f1] 118 (0, 0))) : W.cell? ⟨g, 0, none⟩ = some (.slice A0 f0.length c0) := (jh h 0).trans rfl
theorem cellS118_1 {W : World} {g : Nat} {A0 : Option Addr} {c0 : Nat} {f0 : List Int} {f1 : Int} (h : W.heap[g]? = some (.cells #[.slice A0 f0.length c0, .int .i64 f1] 118 (0, 0))) : W.cell? ⟨g, 1, none⟩ = some (.int .i64 f1) := (jh h 1).trans rfl
theorem jg.jTb {w0 W : World} {g : Nat} {f0 : List Int} {f1 : Int} (h : jg w0 W g f0 f1) (x : Int) : jg w0 (W.setCell ⟨g, 1, none⟩ (.int .i64 x)) g f0 x := by
 obtain ⟨A0,c0,hb,hg,hr0⟩:=h
 exact ⟨A0,c0,by simpa using blk_set hb 1 (.int .i64 x),hg,hr0⟩
theorem jg.new (w0 W : World) (A0 : Option Addr) (c0 : Nat) (f0 : List Int) (f1 : Int) (hB : Below w0.heap.size w0 W) (hr0 : Kd.C (Kd.int .u8) w0 A0 f0.length f0) : jg w0 (W.alloc (.cells #[.slice A0 f0.length c0, .int .i64 f1] 118)) W.heap.size f0 f1 := ⟨A0, c0, by simpa using heap_alloc_new W _, hB.size, hr0⟩
def jsb.f (l0 : List Int) : Option (List Int × Int) := if (l0.length : Int) > 2000 then (if 2000 ≤ (l0.length : Int) then (some (l0.take 2000, 0)) else (none)) else (some (l0, 0))
set_option maxHeartbeats 8000000 in
set_option maxRecDepth 100000 in
theorem jsb.calls (A0 : Option Addr) (c0 : Nat) (l0 : List Int) (r1 : List Int) (r2 : Int) (w0 w : World) (hB : Below w0.heap.size w0 w) (hr0 : Kd.C (Kd.int .u8) w0 A0 l0.length l0) (hc0 : l0.length ≤ c0) (h : jsb.f l0 = some (r1, r2)) :
  Calls Try.prog 45 #[.slice A0 l0.length c0] w fun e w'=>∃ g_:Nat,e=.returned (.pointer (some ⟨g_,0,none⟩))∧jg w0 w' g_ r1 r2∧Below w0.heap.size w0 w'∧Below w.heap.size w w':=by
 have hu118:=Try.underlying118
 have HR0:=am hr0
 have HC0:=am hc0
 clear hr0 hc0
 have HBW:=am (Below.refl w.heap.size w)
 have HW0:=am hB.size
 have HB:=am hB
 clear hB
 have H:(if (l0.length:Int) > 2000 then (if 2000≤(l0.length:Int) then (some (l0.take 2000,0)) else (none)) else (some (l0,0)))=some (r1,r2):=h
 clear h
 by_cases c2:(l0.length:Int) > 2000
 ·rw [if_pos c2] at H
  have c2b0:decide (2000<(l0.length:Int))=true:=dzT c2
  have c2b1:decide (2000<l0.length)=true:=dzT (by omega)
  clear c2
  by_cases c3:2000≤(l0.length:Int)
  ·rw [if_pos c3] at H
   have c3b0:=ezT c3
   have c3b1:decide (2000≤(l0.length:Int))=true:=dzT c3
   clear c3
   simp only [Option.some.injEq,Prod.mk.injEq] at H
   obtain ⟨rfl,rfl⟩:=H
   obtain ⟨i04,hi04,_,hsz4,_⟩:=info_parts info5
   obtain ⟨hcut4,hA4,hC4⟩:=print_take_of (P:=Try.prog) (Value.int .u8) 0 38 5 .i64 Try.underlying38 hi04 hsz4 A0 c0 l0 2000 (by omega) (ozD (uq)) HC0.out
   have HR314:=am (Kd.C_of_reads (h1:=fun _=>rfl) (hA4 _ (Kd.reads_of_C HR0.out)))
   have HC314:=am hC4
   clear hA4 hC4 hi04 hsz4
   go_enter Try.func45,Try.ntmps45
   go_wp2_with (first |((with_reducible refine jP (N:=10) rfl ?_);refine bE (N:=10) (cs:=#[.slice A0 (l0.take 2000).length c0, .int .i64 0]) (t:=118) ?_;intro gb315 hg w5 hbox hb;have BK315:=am (hbox);have GW315:=am ((Y76:w.heap.size≤gb315));have GE315:=am ((Nat.le_trans HW0.out (Y76:w.heap.size≤gb315):w0.heap.size≤gb315));replace HBW:=am (jk HBW.out hb);replace HB:=am (jk (bq) hb);clear hb hbox hg))
   go_ret
   exact ⟨_,rfl,(show jg w0 _ gb315 (l0.take 2000) 0 from ⟨_,_,kq BK315.out,GE315.out,HR314.out⟩),by repeat (first |(with_reducible first | exact HB.out | apply jJ | apply jw | apply jF | refine jq ?_ GE315.out) | exact HB.out),by repeat (first |(with_reducible first | exact HBW.out | apply jJ | apply jw | apply jF | refine jq ?_ GW315.out) | exact HBW.out)⟩
  ·rw [if_neg c3] at H
   exact absurd H (by simp)
 ·rw [if_neg c2] at H
  have c2b0:decide (2000<(l0.length:Int))=false:=dzF c2
  have c2b1:decide (2000<l0.length)=false:=dzF (by omega)
  clear c2
  simp only [Option.some.injEq,Prod.mk.injEq] at H
  obtain ⟨rfl,rfl⟩:=H
  go_enter Try.func45,Try.ntmps45
  go_wp2_with (first |((with_reducible refine jP (N:=10) rfl ?_);refine bE (N:=10) (cs:=#[.slice A0 l0.length c0, .int .i64 0]) (t:=118) ?_;intro gb316 hg w6 hbox hb;have BK316:=am (hbox);have GW316:=am ((Y76:w.heap.size≤gb316));have GE316:=am ((Nat.le_trans HW0.out (Y76:w.heap.size≤gb316):w0.heap.size≤gb316));replace HBW:=am (jk HBW.out hb);replace HB:=am (jk (bq) hb);clear hb hbox hg))
  go_ret
  exact ⟨_,rfl,(show jg w0 _ gb316 l0 0 from ⟨_,_,kq BK316.out,GE316.out,HR0.out⟩),by repeat (first |(with_reducible first | exact HB.out | apply jJ | apply jw | apply jF | refine jq ?_ GE316.out) | exact HB.out),by repeat (first |(with_reducible first | exact HBW.out | apply jJ | apply jw | apply jF | refine jq ?_ GW316.out) | exact HBW.out)⟩
def jA.j0 : Nat → Int → Bool → List Int → Int → Option (Int × Int)
 | 0,_,_,_,_=>none
 | k+1,x1,x24,x1000,x1001=>if x24=true then (some (0,x1001)) else (if (wrap64 (x1001 - 1))<(x1000.length:Int) then (if 0≤(wrap64 (x1001 - 1)) then (if x1=0 then (none) else (some (Int.tmod (wrap64 (rd x1000 (wrap64 (x1001 - 1)))) x1,x1001))) else (none)) else (if (x1000.length:Int)=0 then (none) else (if 0≤(Int.tmod (wrap64 (x1001 - 1)) (x1000.length:Int)) then (if (Int.tmod (wrap64 (x1001 - 1)) (x1000.length:Int))<(x1000.length:Int) then (if 0≤(Int.tmod (wrap64 ((wrap64 ((wrap64 (x1001 - 1)) * 7))+3)) (x1000.length:Int)) then (if (Int.tmod (wrap64 ((wrap64 ((wrap64 (x1001 - 1)) * 7))+3)) (x1000.length:Int))<(x1000.length:Int) then (if x1=0 then (none) else (some (Int.tmod (Go.bits .xor .i64 (wrap64 ((wrap64 ((wrap64 ((wrap64 ((wrap64 (rd x1000 (Int.tmod (wrap64 (x1001 - 1)) (x1000.length:Int)))) * 131))+(wrap64 ((wrap64 (rd x1000 (Int.tmod (wrap64 ((wrap64 ((wrap64 (x1001 - 1)) * 7))+3)) (x1000.length:Int)))) * 1117))))+(wrap64 ((wrap64 (x1001 - 1)) * 29))))+(wrap64 ((wrap64 (Int.tdiv (wrap64 (x1001 - 1)) (x1000.length:Int))) * 53)))) (wrap64 (Int.tdiv (wrap64 ((wrap64 ((wrap64 ((wrap64 ((wrap64 (rd x1000 (Int.tmod (wrap64 (x1001 - 1)) (x1000.length:Int)))) * 131))+(wrap64 ((wrap64 (rd x1000 (Int.tmod (wrap64 ((wrap64 ((wrap64 (x1001 - 1)) * 7))+3)) (x1000.length:Int)))) * 1117))))+(wrap64 ((wrap64 (x1001 - 1)) * 29))))+(wrap64 ((wrap64 (Int.tdiv (wrap64 (x1001 - 1)) (x1000.length:Int))) * 53)))) 64))) x1,x1001))) else (none)) else (none)) else (none)) else (none))))
def jA.f (k : Nat) (s0_0 : List Int) (s0_1 : Int) (a1 : Int) : Option (Int × Int) := if a1 < 1 then (jA.j0 k a1 true s0_0 (wrap64 (s0_1 + 1))) else (jA.j0 k a1 ((s0_0.length : Int) == 0) s0_0 (wrap64 (s0_1 + 1)))
set_option maxHeartbeats 8000000 in
set_option maxRecDepth 100000 in
theorem jA.calls (k : Nat) (g : Nat) (s0_0 : List Int) (s0_1 : Int) (a1 : Int) (r1 : Int) (r2 : Int) (w0 w : World) (hI : jg w0 w g s0_0 s0_1) (hB : Below w0.heap.size w0 w) (h : jA.f k s0_0 s0_1 a1 = some (r1, r2)) :
  Calls Try.prog 47 #[.pointer (some ⟨g,0,none⟩), .int .i64 a1] w fun e w'=>e=.returned (.int .i64 r1)∧jg w0 w' g s0_0 r2∧Below w0.heap.size w0 w'∧jm w w' g none:=by
 have HI0:=am hI
 have HK:=am (jm.refl w g none)
 have HL:=am hB.size
 clear hI
 have HW0:=am hB.size
 have HB:=am hB
 clear hB
 have H:(if a1<1 then (jA.j0 k a1 true s0_0 (wrap64 (s0_1+1))) else (jA.j0 k a1 ((s0_0.length:Int) == 0) s0_0 (wrap64 (s0_1+1))))=some (r1,r2):=h
 clear h
 have HC3:=am H
 clear H
 obtain ⟨ASz4_0,cSz4_0,HGz4,hgz4,HSz4_0⟩:=HI0.out
 have hcz4_0:=cellS118_0 HGz4
 have hcz4_1:=cellS118_1 HGz4
 have hfz4_1:=jd HGz4 1
 clear HGz4 hgz4
 go_enter Try.func47,Try.ntmps47
 go_upto_region 2 with (fail)
 repeat (go_quiet (fail);go_upto_region 2 with (fail))
 go_cut [24] (fun v24 wc=>∃ (kq:Nat) (x24_2:Bool),v24=.bool x24_2∧jv (jA.j0 kq a1 x24_2 s0_0 (wrap64 (s0_1+1))=some (r1,r2))∧jv (kq≤k)∧jv (jg w0 wc g s0_0 (wrap64 (s0_1+1)))∧jv (jm w wc g none)∧jv (Below w0.heap.size w0 wc))
 case first =>
  have H:=HC3.out
  clear HC3
  by_cases c5:a1<1
  ·rw [if_pos c5] at H
   have c5b0:decide (a1<1)=true:=dzT c5
   clear c5
   (first | rw [c5b0] |(simp only [jyb,jBb];rw [c5b0]) | skip)
   have H':=am H
   clear H
   go_wp2
   repeat (go_quiet (fail);try go_wp2)
   go_meet
   case rel=>exact ⟨_,(true),(sq),H',⟨Y16⟩,⟨Y10⟩,⟨Y11⟩,⟨Y12⟩⟩
  ·rw [if_neg c5] at H
   have c5b0:decide (a1<1)=false:=dzF c5
   clear c5
   (first | rw [c5b0] |(simp only [jyb,jBb];rw [c5b0]) | skip)
   have H':=am H
   clear H
   obtain ⟨ASz6_0,cSz6_0,HGz6,hgz6,HSz6_0⟩:=HI0.out
   have hcz6_0:=cellS118_0 HGz6
   have hcz6_1:=cellS118_1 HGz6
   have hfz6_1:=jd HGz6 1
   clear HGz6 hgz6
   go_wp2
   repeat (go_quiet (fail);try go_wp2)
   go_meet
   case rel=>exact ⟨_,(((s0_0.length:Int) == 0)),(sq),H',⟨Y16⟩,⟨Y10⟩,⟨Y11⟩,⟨Y12⟩⟩
 case rest =>
  clear HC3
  try clear p2
  try clear c4
  try clear c5
  try clear c5b0
  try clear p6
  try clear hcz4_0
  try clear hcz4_1
  try clear hcz6_0
  try clear hcz6_1
  try clear hfz4_1
  try clear hfz6_1
  obtain ⟨kq,x24_2,rfl,HA,HJ2,HI0,HK,HB⟩:=hcut
  cases kq with
  | zero=>exact absurd HA.out (by simp [jA.j0])
  | succ kj2 =>
   have H:=HA.out
   clear HA
   simp only [jA.j0] at H
   by_cases c7:x24_2=true
   ·subst c7
    have H1:(some (0,(wrap64 (s0_1+1))))=some (r1,r2):=by rw [if_pos rfl] at H;exact H
    clear H
    have H:=H1
    clear H1
    simp only [Option.some.injEq,Prod.mk.injEq] at H
    obtain ⟨rfl,rfl⟩:=H
    go_wp2
    repeat (go_quiet (fail);try go_wp2)
    go_ret
    exact ⟨Y0,Y10,Y12,Y11⟩
   ·replace c7:=Bool.eq_false_iff.mpr c7
    subst c7
    have H1:(if (wrap64 ((wrap64 (s0_1+1)) - 1))<(s0_0.length:Int) then (if 0≤(wrap64 ((wrap64 (s0_1+1)) - 1)) then (if a1=0 then (none) else (some (Int.tmod (wrap64 (rd s0_0 (wrap64 ((wrap64 (s0_1+1)) - 1)))) a1,(wrap64 (s0_1+1))))) else (none)) else (if (s0_0.length:Int)=0 then (none) else (if 0≤(Int.tmod (wrap64 ((wrap64 (s0_1+1)) - 1)) (s0_0.length:Int)) then (if (Int.tmod (wrap64 ((wrap64 (s0_1+1)) - 1)) (s0_0.length:Int))<(s0_0.length:Int) then (if 0≤(Int.tmod (wrap64 ((wrap64 ((wrap64 ((wrap64 (s0_1+1)) - 1)) * 7))+3)) (s0_0.length:Int)) then (if (Int.tmod (wrap64 ((wrap64 ((wrap64 ((wrap64 (s0_1+1)) - 1)) * 7))+3)) (s0_0.length:Int))<(s0_0.length:Int) then (if a1=0 then (none) else (some (Int.tmod (Go.bits .xor .i64 (wrap64 ((wrap64 ((wrap64 ((wrap64 ((wrap64 (rd s0_0 (Int.tmod (wrap64 ((wrap64 (s0_1+1)) - 1)) (s0_0.length:Int)))) * 131))+(wrap64 ((wrap64 (rd s0_0 (Int.tmod (wrap64 ((wrap64 ((wrap64 ((wrap64 (s0_1+1)) - 1)) * 7))+3)) (s0_0.length:Int)))) * 1117))))+(wrap64 ((wrap64 ((wrap64 (s0_1+1)) - 1)) * 29))))+(wrap64 ((wrap64 (Int.tdiv (wrap64 ((wrap64 (s0_1+1)) - 1)) (s0_0.length:Int))) * 53)))) (wrap64 (Int.tdiv (wrap64 ((wrap64 ((wrap64 ((wrap64 ((wrap64 (rd s0_0 (Int.tmod (wrap64 ((wrap64 (s0_1+1)) - 1)) (s0_0.length:Int)))) * 131))+(wrap64 ((wrap64 (rd s0_0 (Int.tmod (wrap64 ((wrap64 ((wrap64 ((wrap64 (s0_1+1)) - 1)) * 7))+3)) (s0_0.length:Int)))) * 1117))))+(wrap64 ((wrap64 ((wrap64 (s0_1+1)) - 1)) * 29))))+(wrap64 ((wrap64 (Int.tdiv (wrap64 ((wrap64 (s0_1+1)) - 1)) (s0_0.length:Int))) * 53)))) 64))) a1,(wrap64 (s0_1+1))))) else (none)) else (none)) else (none)) else (none))))=some (r1,r2):=by rw [if_neg (show ¬ (false=true) by decide)] at H;exact H
    clear H
    have H:=H1
    clear H1
    by_cases c8:(wrap64 ((wrap64 (s0_1+1)) - 1))<(s0_0.length:Int)
    ·rw [if_pos c8] at H
     have c8b0:decide ((wrap64 ((wrap64 (s0_1+1)) - 1))<(s0_0.length:Int))=true:=dzT c8
     clear c8
     obtain ⟨ji9,hji9⟩:∃ j_:Int,(wrap64 ((wrap64 (s0_1+1)) - 1))=j_:=⟨_,rfl⟩
     replace H:(if 0≤(ji9) then (if a1=0 then (none) else (some (Int.tmod (wrap64 (rd s0_0 (ji9))) a1,(wrap64 (s0_1+1))))) else (none))=some (r1,r2):=by first |(rw [hji9] at H;exact H) |(simp only [hji9] at H ⊢;exact H)
     (try rw [hji9] at c8b0)
     have hji9w:(IntKind.i64.wrap ((wrap64 (s0_1+1)) - 1))=ji9:=(jyb _).trans hji9
     by_cases c10:0≤(ji9)
     ·rw [if_pos c10] at H
      have c10b0:decide (0≤(ji9))=true:=dzT c10
      clear c10
      by_cases c11:a1=0
      ·rw [if_pos c11] at H
       exact absurd H (by simp)
      ·rw [if_neg c11] at H
       have c11b0:(a1 == 0)=false:=beq_eq_false_iff_ne.mpr c11
       have c11b1:(a1 != 0)=true:=bne_iff_ne.mpr c11
       simp only [Option.some.injEq,Prod.mk.injEq] at H
       obtain ⟨rfl,rfl⟩:=H
       obtain ⟨ASz12_0,cSz12_0,HGz12,hgz12,HSz12_0⟩:=HI0.out
       have hcz12_0:=cellS118_0 HGz12
       have hcz12_1:=cellS118_1 HGz12
       have hfz12_1:=jd HGz12 1
       clear HGz12 hgz12
       have p317:0≤((ji9):Int):=ozD (uq)
       have q317:(ji9)<(s0_0.length:Int):=ozD (uq)
       obtain ⟨ad317,e317,hx317_0⟩:=Kd.jXb HSz12_0 (ji9) p317 q317
       cases e317
       replace hx317_0:=jia HB.out hx317_0
       replace p317:=ezT p317
       replace q317:=ezT q317
       go_wp2
       repeat (go_quiet (fail);try go_wp2)
       go_ret
       exact ⟨by first | rfl |(simp [jWb,jVb] <;> rfl) |(simp only [← hji9];first | rfl |(simp [jWb,jVb] <;> rfl)) |(simp [*,jWb,jVb] <;> rfl),Y10,Y12,Y11⟩
     ·rw [if_neg c10] at H
      exact absurd H (by simp)
    ·rw [if_neg c8] at H
     have c8b0:decide ((wrap64 ((wrap64 (s0_1+1)) - 1))<(s0_0.length:Int))=false:=dzF c8
     clear c8
     by_cases c13:(s0_0.length:Int)=0
     ·rw [if_pos c13] at H
      exact absurd H (by simp)
     ·rw [if_neg c13] at H
      have c13b0:((s0_0.length:Int) == 0)=false:=beq_eq_false_iff_ne.mpr c13
      have c13b1:((s0_0.length:Int) != 0)=true:=bne_iff_ne.mpr c13
      have c13b2:¬ (s0_0=[]):=fun h_=>c13 (by rw [h_];rfl)
      obtain ⟨ji14,hji14⟩:∃ j_:Int,(Int.tmod (wrap64 ((wrap64 (s0_1+1)) - 1)) (s0_0.length:Int))=j_:=⟨_,rfl⟩
      replace H:(if 0≤(ji14) then (if (ji14)<(s0_0.length:Int) then (if 0≤(Int.tmod (wrap64 ((wrap64 ((wrap64 ((wrap64 (s0_1+1)) - 1)) * 7))+3)) (s0_0.length:Int)) then (if (Int.tmod (wrap64 ((wrap64 ((wrap64 ((wrap64 (s0_1+1)) - 1)) * 7))+3)) (s0_0.length:Int))<(s0_0.length:Int) then (if a1=0 then (none) else (some (Int.tmod (Go.bits .xor .i64 (wrap64 ((wrap64 ((wrap64 ((wrap64 ((wrap64 (rd s0_0 (ji14))) * 131))+(wrap64 ((wrap64 (rd s0_0 (Int.tmod (wrap64 ((wrap64 ((wrap64 ((wrap64 (s0_1+1)) - 1)) * 7))+3)) (s0_0.length:Int)))) * 1117))))+(wrap64 ((wrap64 ((wrap64 (s0_1+1)) - 1)) * 29))))+(wrap64 ((wrap64 (Int.tdiv (wrap64 ((wrap64 (s0_1+1)) - 1)) (s0_0.length:Int))) * 53)))) (wrap64 (Int.tdiv (wrap64 ((wrap64 ((wrap64 ((wrap64 ((wrap64 (rd s0_0 (ji14))) * 131))+(wrap64 ((wrap64 (rd s0_0 (Int.tmod (wrap64 ((wrap64 ((wrap64 ((wrap64 (s0_1+1)) - 1)) * 7))+3)) (s0_0.length:Int)))) * 1117))))+(wrap64 ((wrap64 ((wrap64 (s0_1+1)) - 1)) * 29))))+(wrap64 ((wrap64 (Int.tdiv (wrap64 ((wrap64 (s0_1+1)) - 1)) (s0_0.length:Int))) * 53)))) 64))) a1,(wrap64 (s0_1+1))))) else (none)) else (none)) else (none)) else (none))=some (r1,r2):=by first |(rw [hji14] at H;exact H) |(simp only [hji14] at H ⊢;exact H)
      by_cases c15:0≤(ji14)
      ·rw [if_pos c15] at H
       have c15b0:decide (0≤(ji14))=true:=dzT c15
       clear c15
       by_cases c16:(ji14)<(s0_0.length:Int)
       ·rw [if_pos c16] at H
        have c16b0:decide ((ji14)<(s0_0.length:Int))=true:=dzT c16
        clear c16
        obtain ⟨ji17,hji17⟩:∃ j_:Int,(Int.tmod (wrap64 ((wrap64 ((wrap64 ((wrap64 (s0_1+1)) - 1)) * 7))+3)) (s0_0.length:Int))=j_:=⟨_,rfl⟩
        replace H:(if 0≤(ji17) then (if (ji17)<(s0_0.length:Int) then (if a1=0 then (none) else (some (Int.tmod (Go.bits .xor .i64 (wrap64 ((wrap64 ((wrap64 ((wrap64 ((wrap64 (rd s0_0 (ji14))) * 131))+(wrap64 ((wrap64 (rd s0_0 (ji17))) * 1117))))+(wrap64 ((wrap64 ((wrap64 (s0_1+1)) - 1)) * 29))))+(wrap64 ((wrap64 (Int.tdiv (wrap64 ((wrap64 (s0_1+1)) - 1)) (s0_0.length:Int))) * 53)))) (wrap64 (Int.tdiv (wrap64 ((wrap64 ((wrap64 ((wrap64 ((wrap64 (rd s0_0 (ji14))) * 131))+(wrap64 ((wrap64 (rd s0_0 (ji17))) * 1117))))+(wrap64 ((wrap64 ((wrap64 (s0_1+1)) - 1)) * 29))))+(wrap64 ((wrap64 (Int.tdiv (wrap64 ((wrap64 (s0_1+1)) - 1)) (s0_0.length:Int))) * 53)))) 64))) a1,(wrap64 (s0_1+1))))) else (none)) else (none))=some (r1,r2):=by first |(rw [hji17] at H;exact H) |(simp only [hji17] at H ⊢;exact H)
        by_cases c18:0≤(ji17)
        ·rw [if_pos c18] at H
         have c18b0:decide (0≤(ji17))=true:=dzT c18
         clear c18
         by_cases c19:(ji17)<(s0_0.length:Int)
         ·rw [if_pos c19] at H
          have c19b0:decide ((ji17)<(s0_0.length:Int))=true:=dzT c19
          clear c19
          by_cases c20:a1=0
          ·rw [if_pos c20] at H
           exact absurd H (by simp)
          ·rw [if_neg c20] at H
           have c20b0:(a1 == 0)=false:=beq_eq_false_iff_ne.mpr c20
           have c20b1:(a1 != 0)=true:=bne_iff_ne.mpr c20
           simp only [Option.some.injEq,Prod.mk.injEq] at H
           obtain ⟨rfl,rfl⟩:=H
           obtain ⟨ASz21_0,cSz21_0,HGz21,hgz21,HSz21_0⟩:=HI0.out
           have hcz21_0:=cellS118_0 HGz21
           have hcz21_1:=cellS118_1 HGz21
           have hfz21_1:=jd HGz21 1
           clear HGz21 hgz21
           have p318:0≤((ji14):Int):=ozD (uq)
           have q318:(ji14)<(s0_0.length:Int):=ozD (uq)
           obtain ⟨ad318,e318,hx318_0⟩:=Kd.jXb HSz21_0 (ji14) p318 q318
           cases e318
           replace hx318_0:=jia HB.out hx318_0
           replace p318:=ezT p318
           replace q318:=ezT q318
           have p319:0≤((ji17):Int):=ozD (uq)
           have q319:(ji17)<(s0_0.length:Int):=ozD (uq)
           obtain ⟨ad319,e319,hx319_0⟩:=Kd.jXb HSz21_0 (ji17) p319 q319
           obtain rfl:ad318=ad319:=(by injection e319)
           replace hx319_0:=jia HB.out hx319_0
           replace p319:=ezT p319
           replace q319:=ezT q319
           go_wp2
           repeat (go_quiet (fail);try go_wp2)
           go_ret
           exact ⟨by first | rfl |(simp [jWb,jVb] <;> rfl) |(simp only [← hji14,← hji17];first | rfl |(simp [jWb,jVb] <;> rfl)) |(simp [*,jWb,jVb] <;> rfl),Y10,Y12,Y11⟩
         ·rw [if_neg c19] at H
          exact absurd H (by simp)
        ·rw [if_neg c18] at H
         exact absurd H (by simp)
       ·rw [if_neg c16] at H
        exact absurd H (by simp)
      ·rw [if_neg c15] at H
       exact absurd H (by simp)
def jG.f (k : Nat) (s0_0 : List Int) (s0_1 : Int) (l1 : List Int) : Option (Int × Int) := (jA.f k s0_0 s0_1 (l1.length : Int)).bind fun bt320 => (if 0 ≤ bt320.1 then (if bt320.1 < (l1.length : Int) then (some (rd l1 bt320.1, bt320.2)) else (none)) else (none))
set_option maxHeartbeats 8000000 in
set_option maxRecDepth 100000 in
theorem jG.calls (k : Nat) (g : Nat) (s0_0 : List Int) (s0_1 : Int) (A1 : Option Addr) (c1 : Nat) (l1 : List Int) (r1 : Int) (r2 : Int) (w0 w : World) (hI : jg w0 w g s0_0 s0_1) (hB : Below w0.heap.size w0 w) (hr1 : Kd.C (Kd.int .i64) w A1 l1.length l1) (hc1 : l1.length ≤ c1) (hf1 : ∀ ad, A1 = some ad → 0 < l1.length → ad.block ≠ g) (h : jG.f k s0_0 s0_1 l1 = some (r1, r2)) :
  Calls Try.prog 77 #[.pointer (some ⟨g,0,none⟩), .slice A1 l1.length c1] w fun e w'=>e=.returned (.int .i64 r1)∧jg w0 w' g s0_0 r2∧Below w0.heap.size w0 w'∧jm w w' g none:=by
 have HR1:=am hr1
 have HC1:=am hc1
 clear hr1 hc1
 have HI0:=am hI
 have HK:=am (jm.refl w g none)
 have HL:=am hB.size
 clear hI
 have HW0:=am hB.size
 have HB:=am hB
 clear hB
 have H:((jA.f k s0_0 s0_1 (l1.length:Int)).bind fun bt320=>(if 0≤bt320.1 then (if bt320.1<(l1.length:Int) then (some (rd l1 bt320.1,bt320.2)) else (none)) else (none)))=some (r1,r2):=h
 clear h
 replace H:=bzS H
 obtain ⟨⟨t320,t321⟩,A30,H⟩:=H
 replace H:(if 0≤t320 then (if t320<(l1.length:Int) then (some (rd l1 t320,t321)) else (none)) else (none))=some (r1,r2):=H
 have A3:=am A30
 clear A30
 by_cases c4:0≤t320
 ·rw [if_pos c4] at H
  have c4b0:decide (0≤t320)=true:=dzT c4
  clear c4
  by_cases c5:t320<(l1.length:Int)
  ·rw [if_pos c5] at H
   have c5b0:decide (t320<(l1.length:Int))=true:=dzT c5
   clear c5
   simp only [Option.some.injEq,Prod.mk.injEq] at H
   obtain ⟨rfl,rfl⟩:=H
   go_enter Try.func77,Try.ntmps77
   go_wp2_with (first |((with_reducible refine jy (f:=47) rfl ?_);refine gL (some 9) Try.func47 #[.pointer (some ⟨g,0,none⟩), .int .i64 (l1.length:Int)] ?_;(with_reducible refine (jA.calls k g s0_0 s0_1 (l1.length:Int) t320 t321 w0 _ ?side1 ?side2 A3.out).mono ?_);(case side1=>exact Y10);(case side2=>exact Y12);rintro e w6 ⟨rfl,hi,hb,hk⟩;refine ⟨_,rfl,?_⟩;replace HK:=am (jm.trans (Y11) hk (.inl rfl));replace HB:=am (hb);replace HI0:=am (hi);(try clear hb);(try clear hb2);(try clear hk);(try clear hi);have p322:0≤(t320:Int):=ozD (uq);have q322:t320<(l1.length:Int):=ozD (uq);obtain ⟨ad322,e322,hx322_0⟩:=Kd.jXb HR1.out t320 p322 q322;cases e322;replace hx322_0:=keep_cell HK.out hx322_0 (by first |(rw [add_block];exact hf1 _ rfl (by omega)) | exact hf1 _ rfl (by omega) | exact hf1 ad322 rfl (by omega));replace p322:=ezT p322;replace q322:=ezT q322))
   go_ret
   exact ⟨Y0,Y10,Y12,Y11⟩
  ·rw [if_neg c5] at H
   exact absurd H (by simp)
 ·rw [if_neg c4] at H
  exact absurd H (by simp)
def jIa.j0 : Nat → List Int → Int → Int → Int → Int → Option (Int × Int × Int × Int)
 | 0,_,_,_,_,_=>none
 | k+1,x1000,x1001,x328000,x328001,x328002=>if x328000=3 then ((jG.f k x1000 x1001 (([1,2,3]:List Int))).bind fun bt338=>(some (x328000,x328001,bt338.1,bt338.2))) else (some (x328000,x328001,x328002,x1001))
def jIa.f (k : Nat) (s0_0 : List Int) (s0_1 : Int) (l1_0 : List (S106)) : Option (Int × Int × Int × Int) := (jA.f k s0_0 s0_1 4).bind fun bt325 => (if bt325.1 ≥ 2 then ((jA.f k s0_0 bt325.2 (l1_0.length : Int)).bind fun bt328 => (jIa.j0 k s0_0 bt328.2 bt325.1 bt328.1 0)) else ((jG.f k s0_0 bt325.2 (([1, 2, 3, 0, 99] : List Int))).bind fun bt333 => (jIa.j0 k s0_0 bt333.2 bt325.1 bt333.1 0)))
set_option maxHeartbeats 8000000 in
set_option maxRecDepth 100000 in
theorem jIa.calls (k : Nat) (g : Nat) (s0_0 : List Int) (s0_1 : Int) (A1_0 : Option Addr) (c1_0 : Nat) (l1_0 : List (S106)) (r1 : Int) (r2 : Int) (r3 : Int) (r4 : Int) (w0 w : World) (hI : jg w0 w g s0_0 s0_1) (hB : Below w0.heap.size w0 w) (hr1_0 : ∀ W_, jm w W_ g none → Kd.C k106 W_ A1_0 l1_0.length l1_0) (hc1_0 : l1_0.length ≤ c1_0) (h : jIa.f k s0_0 s0_1 l1_0 = some (r1, r2, r3, r4)) :
  Calls Try.prog 61 #[.pointer (some ⟨g,0,none⟩), .agg #[.slice A1_0 l1_0.length c1_0]] w fun e w'=>e=.returned (.agg #[.int .i64 r1, .int .i64 r2, .int .i64 r3])∧jg w0 w' g s0_0 r4∧Below w0.heap.size w0 w'∧jm w w' g none:=by
 have hu31:=Try.underlying31
 have hu44:=Try.underlying44
 have HR1_0:=am hr1_0
 have HC1_0:=am hc1_0
 clear hr1_0 hc1_0
 have HI0:=am hI
 have HK:=am (jm.refl w g none)
 have HL:=am hB.size
 clear hI
 have HW0:=am hB.size
 have HB:=am hB
 clear hB
 have H:((jA.f k s0_0 s0_1 4).bind fun bt325=>(if bt325.1≥2 then ((jA.f k s0_0 bt325.2 (l1_0.length:Int)).bind fun bt328=>(jIa.j0 k s0_0 bt328.2 bt325.1 bt328.1 0)) else ((jG.f k s0_0 bt325.2 (([1,2,3,0,99]:List Int))).bind fun bt333=>(jIa.j0 k s0_0 bt333.2 bt325.1 bt333.1 0))))=some (r1,r2,r3,r4):=h
 clear h
 replace H:=bzS H
 obtain ⟨⟨t325,t326⟩,A30,H⟩:=H
 replace H:(if t325≥2 then ((jA.f k s0_0 t326 (l1_0.length:Int)).bind fun bt328=>(jIa.j0 k s0_0 bt328.2 t325 bt328.1 0)) else ((jG.f k s0_0 t326 (([1,2,3,0,99]:List Int))).bind fun bt333=>(jIa.j0 k s0_0 bt333.2 t325 bt333.1 0)))=some (r1,r2,r3,r4):=H
 have A3:=am A30
 clear A30
 have HC4:=am H
 clear H
 go_enter Try.func61,Try.ntmps61
 go_upto_if 11 with (first |((with_reducible refine jP (N:=3) rfl ?_);refine bE (N:=3) (cs:=#[.slice A1_0 l1_0.length c1_0]) (t:=31) ?_;intro gb323 hg w5 hbox hb;have BK323:=am (hbox);have GW323:=am ((Y7:w.heap.size≤gb323));have GE323:=am ((Nat.le_trans HW0.out (Y7:w.heap.size≤gb323):w0.heap.size≤gb323));have NB0_323:=am ((Y24:g≠gb323));have NB323_0:=am ((Y25:gb323≠g));replace HK:=am (jm.trans (Y11) (jm.of_below hb g none) (.inl rfl));replace HB:=am (jk (Y12) hb);replace HI0:=am (jg.below (Y10) hb);clear hb hbox hg) |((with_reducible refine jP (N:=4) rfl ?_);refine bE (N:=4) (cs:=#[.int .i64 0, .int .i64 0, .int .i64 0]) (t:=44) ?_;intro gb324 hg w6 hbox hb;have BK324:=am (hbox);have GW324:=am ((Y108:w.heap.size≤gb324));have GE324:=am ((Nat.le_trans HW0.out (Y108:w.heap.size≤gb324):w0.heap.size≤gb324));have NB323_324:=am ((by rw [hg];exact Nat.ne_of_lt (jta (g:=gb323) (o:=.cells #[.slice A1_0 l1_0.length c1_0] 31 (0,0)) (kq BK323.out)):gb323≠gb324));have NB324_323:=am ((by rw [hg];exact Nat.ne_of_gt (jta (g:=gb323) (o:=.cells #[.slice A1_0 l1_0.length c1_0] 31 (0,0)) (kq BK323.out)):gb324≠gb323));have NB0_324:=am ((by rw [hg];exact Nat.ne_of_lt (jg.lt (show jg w0 _ g s0_0 s0_1 from by repeat (first |(with_reducible first | exact HI0.out | apply jg.alloc | apply jg.drewN | apply jg.drew | apply jg.jTb | refine jg.far ?_ NB0_323.out _) | exact HI0.out))):g≠gb324));have NB324_0:=am ((by rw [hg];exact Nat.ne_of_gt (jg.lt (show jg w0 _ g s0_0 s0_1 from by repeat (first |(with_reducible first | exact HI0.out | apply jg.alloc | apply jg.drewN | apply jg.drew | apply jg.jTb | refine jg.far ?_ NB0_323.out _) | exact HI0.out))):gb324≠g));replace BK323:=am (je (g:=gb323) (o:=.cells #[.slice A1_0 l1_0.length c1_0] 31 (0,0)) (kq BK323.out) hb);replace HK:=am (jm.trans (by repeat (first |(with_reducible first | exact HK.out | apply jm.set_ | apply jXa | apply jZa | apply jYa | refine jTa ?_ GW323.out _) | exact HK.out)) (jm.of_below hb g none) (.inl rfl));replace HB:=am (jk (by repeat (first |(with_reducible first | exact HB.out | apply jJ | apply jw | apply jF | refine jq ?_ (jg.ge HI0.out) | refine jq ?_ GE323.out) | exact HB.out)) hb);replace HI0:=am (jg.below (by repeat (first |(with_reducible first | exact HI0.out | apply jg.alloc | apply jg.drewN | apply jg.drew | apply jg.jTb | refine jg.far ?_ NB0_323.out _) | exact HI0.out)) hb);clear hb hbox hg) |((with_reducible refine jy (f:=47) rfl ?_);refine gL (some 7) Try.func47 #[.pointer (some ⟨g,0,none⟩), .int .i64 4] ?_;(with_reducible refine (jA.calls k g s0_0 s0_1 4 t325 t326 w0 _ ?side1 ?side2 A3.out).mono ?_);(case side1=>exact Y109);(case side2=>exact Y110);rintro e w7 ⟨rfl,hi,hb,hk⟩;refine ⟨_,rfl,?_⟩;replace BK323:=am (jm.blk hk (g':=gb323) (o:=.cells #[.slice A1_0 l1_0.length c1_0] 31 (0,0)) (kq BK323.out) NB323_0.out (by simp));replace BK324:=am (jm.blk hk (g':=gb324) (o:=.cells #[.int .i64 0, .int .i64 0, .int .i64 0] 44 (0,0)) (kq BK324.out) NB324_0.out (by simp));replace HK:=am (jm.trans (Y111) hk (.inl rfl));replace HB:=am (hb);replace HI0:=am (hi);(try clear hb);(try clear hb2);(try clear hk);(try clear hi)) |((with_reducible refine jP (N:=5) rfl ?_);refine bE (N:=5) (cs:=#[.int .i64 0, .int .i64 0, .int .i64 0]) (t:=44) ?_;intro gb327 hg w8 hbox hb;have BK327:=am (hbox);have GW327:=am ((Y112:w.heap.size≤gb327));have GE327:=am ((Nat.le_trans HW0.out (Y112:w.heap.size≤gb327):w0.heap.size≤gb327));have NB323_327:=am ((by rw [hg];exact Nat.ne_of_lt (jta (g:=gb323) (o:=.cells #[.slice A1_0 l1_0.length c1_0] 31 (0,0)) (kq BK323.out)):gb323≠gb327));have NB327_323:=am ((by rw [hg];exact Nat.ne_of_gt (jta (g:=gb323) (o:=.cells #[.slice A1_0 l1_0.length c1_0] 31 (0,0)) (kq BK323.out)):gb327≠gb323));have NB324_327:=am ((by rw [hg];exact Nat.ne_of_lt (jta (g:=gb324) (o:=.cells #[.int .i64 0, .int .i64 0, .int .i64 0] 44 (0,0)) (kq BK324.out)):gb324≠gb327));have NB327_324:=am ((by rw [hg];exact Nat.ne_of_gt (jta (g:=gb324) (o:=.cells #[.int .i64 0, .int .i64 0, .int .i64 0] 44 (0,0)) (kq BK324.out)):gb327≠gb324));have NB0_327:=am ((by rw [hg];exact Nat.ne_of_lt (jg.lt (show jg w0 _ g s0_0 t326 from by repeat (first |(with_reducible first | exact HI0.out | apply jg.alloc | apply jg.drewN | apply jg.drew | apply jg.jTb | refine jg.far ?_ NB0_323.out _ | refine jg.far ?_ NB0_324.out _) | exact HI0.out))):g≠gb327));have NB327_0:=am ((by rw [hg];exact Nat.ne_of_gt (jg.lt (show jg w0 _ g s0_0 t326 from by repeat (first |(with_reducible first | exact HI0.out | apply jg.alloc | apply jg.drewN | apply jg.drew | apply jg.jTb | refine jg.far ?_ NB0_323.out _ | refine jg.far ?_ NB0_324.out _) | exact HI0.out))):gb327≠g));replace BK323:=am (je (g:=gb323) (o:=.cells #[.slice A1_0 l1_0.length c1_0] 31 (0,0)) (kq BK323.out) hb);replace BK324:=am (je (g:=gb324) (o:=.cells #[.int .i64 0, .int .i64 0, .int .i64 0] 44 (0,0)) (kq BK324.out) hb);replace HK:=am (jm.trans (Y111) (jm.of_below hb g none) (.inl rfl));replace HB:=am (jk (Y110) hb);replace HI0:=am (jg.below (Y109) hb);clear hb hbox hg;have hnb9:=NB327_323.out;have hnc9:=NB323_327.out;have hnb10:=NB327_324.out;have hnc10:=NB324_327.out;have hnb11:=NB327_0.out;have hnc11:=NB0_327.out;have hcz12_0:=bc0 BK327.out;have hcz12_1:=bc1 BK327.out;have hcz12_2:=bc2 BK327.out;have hfz12_0:=jd BK327.out 0;have hfz12_1:=jd BK327.out 1;have hfz12_2:=jd BK327.out 2))
 (try simp only [Act.put,List.setIfInBounds_toArray,List.set_cons_zero,List.set_cons_succ])
 go_cut [] (fun wc=>∃ (kq:Nat) (x1001_3:Int) (x328001_3:Int),jv (jIa.j0 kq s0_0 x1001_3 t325 x328001_3 0=some (r1,r2,r3,r4))∧jv (kq≤k)∧jv (wc.heap[gb323]?=some (.cells #[(.slice A1_0 l1_0.length c1_0)] 31 (0,0)))∧jv (wc.heap[gb324]?=some (.cells #[.int .i64 0, .int .i64 0, .int .i64 0] 44 (0,0)))∧jv (wc.heap[gb327]?=some (.cells #[.int .i64 t325, .int .i64 x328001_3, .int .i64 0] 44 (0,0)))∧jv (jg w0 wc g s0_0 x1001_3)∧jv (jm w wc g none)∧jv (Below w0.heap.size w0 wc))
 case first =>
  have H:=HC4.out
  clear HC4
  by_cases c13:t325≥2
  ·rw [if_pos c13] at H
   have c13b0:decide (2≤t325)=true:=dzT c13
   clear c13
   (first | rw [c13b0] |(simp only [jyb,jBb];rw [c13b0]) | skip)
   replace H:=bzS H
   obtain ⟨⟨t328,t329⟩,A140,H⟩:=H
   replace H:(jIa.j0 k s0_0 t329 t325 t328 0)=some (r1,r2,r3,r4):=H
   have A14:=am A140
   clear A140
   have H':=am H
   clear H
   have hnb15:=NB323_324.out
   have hnc15:=NB324_323.out
   have hnb16:=NB323_327.out
   have hnc16:=NB327_323.out
   have hnb17:=NB323_0.out
   have hnc17:=NB0_323.out
   have hcz18_0:=bc0 BK323.out
   have hfz18_0:=jd BK323.out 0
   go_wp2_with (first |((with_reducible refine jy (f:=47) rfl ?_);refine gL (some 16) Try.func47 #[.pointer (some ⟨g,0,none⟩), .int .i64 (l1_0.length:Int)] ?_;(with_reducible refine (jA.calls k g s0_0 t326 (l1_0.length:Int) t328 t329 w0 _ ?side1 ?side2 A14.out).mono ?_);(case side1=>exact Y31);(case side2=>exact Y41);rintro e w19 ⟨rfl,hi,hb,hk⟩;refine ⟨_,rfl,?_⟩;replace BK323:=am (jm.blk hk (g':=gb323) (o:=.cells #[.slice A1_0 l1_0.length c1_0] 31 (0,0)) (Y113) NB323_0.out (by simp));replace BK324:=am (jm.blk hk (g':=gb324) (o:=.cells #[.int .i64 0, .int .i64 0, .int .i64 0] 44 (0,0)) (Y114) NB324_0.out (by simp));replace BK327:=am (jm.blk hk (g':=gb327) (o:=.cells #[.int .i64 t325, .int .i64 0, .int .i64 0] 44 (0,0)) (Y115) NB327_0.out (by simp));replace HK:=am (jm.trans (Y32) hk (.inl rfl));replace HB:=am (hb);replace HI0:=am (hi);(try clear hb);(try clear hb2);(try clear hk);(try clear hi);have hnb20:=NB327_324.out;have hnc20:=NB324_327.out;have hnb21:=NB327_0.out;have hnc21:=NB0_327.out;have hcz22_0:=bc0 BK327.out;have hcz22_1:=bc1 BK327.out;have hcz22_2:=bc2 BK327.out;have hfz22_0:=jd BK327.out 0;have hfz22_1:=jd BK327.out 1;have hfz22_2:=jd BK327.out 2))
   go_meet
   case rel=>exact ⟨_,(t329),(t328),H',⟨Y16⟩,⟨by (with_reducible repeat (first | refine jb ?_ _ | refine jc ?_ | refine ja ?_ _));refine jr ?_ NB323_327.out _;(with_reducible repeat (first | refine jb ?_ _ | refine jc ?_ | refine ja ?_ _));exact BK323.out⟩,⟨by (with_reducible repeat (first | refine jb ?_ _ | refine jc ?_ | refine ja ?_ _));refine jr ?_ NB324_327.out _;(with_reducible repeat (first | refine jb ?_ _ | refine jc ?_ | refine ja ?_ _));exact BK324.out⟩,⟨by (with_reducible repeat (first | refine jb ?_ _ | refine jc ?_ | refine ja ?_ _));refine jO (cs:=#[.int .i64 t325, .int .i64 0, .int .i64 0]) ?_ 1 _ rfl;(with_reducible repeat (first | refine jb ?_ _ | refine jc ?_ | refine ja ?_ _));exact BK327.out⟩,⟨Y31⟩,⟨Y32⟩,⟨Y41⟩⟩
  ·rw [if_neg c13] at H
   have c13b0:decide (2≤t325)=false:=dzF c13
   clear c13
   (first | rw [c13b0] |(simp only [jyb,jBb];rw [c13b0]) | skip)
   obtain ⟨y330,hy330⟩:∃ y_:List Int,y_=(([1,2,3,0,99]:List Int)):=⟨_,rfl⟩
   replace H:((jG.f k s0_0 t326 y330).bind fun bt333=>(jIa.j0 k s0_0 bt333.2 t325 bt333.1 0))=some (r1,r2,r3,r4):=by first |(rw [hy330];with_reducible exact H) |(have H2_:=(Option.bind_some _ _).symm.trans H;rw [hy330];with_reducible exact H2_) |(have H2_:=(Option.bind_some _ _).symm.trans H;with_reducible exact H2_) | with_reducible exact H |(rw [hy330];exact H) | exact H
   have Ny330:=am hy330
   clear hy330
   replace H:=bzS H
   obtain ⟨⟨t333,t334⟩,A230,H⟩:=H
   replace H:(jIa.j0 k s0_0 t334 t325 t333 0)=some (r1,r2,r3,r4):=H
   have A23:=am A230
   clear A230
   have H':=am H
   clear H
   go_wp2_with (first |((with_reducible refine jP (N:=19) rfl ?_);refine Kd.R_lit (Kd.int .i64) _ 3 ?hg (N:=19) ?hd (xs:=([1,2,3,0,99]:List Int)) (inner:=[.int .i64 1, .int .i64 2, .int .i64 3, .int .i64 0, .int .i64 99]) (ok:=fun _=>True) (okp:=fun _=>True) ?hr ?hp (fun _ hk=>hk) trivial (Below.refl _ _) (Nat.le_refl _) (by simp) ?_;(case hd=>rfl);(case hg=>rfl);(case hr=>exact Y2);(case hp=>exact (Reps.one (show Kd.M (Kd.int .i64) _ _ _ 1 [.int .i64 1] from rfl) (Reps.one (show Kd.M (Kd.int .i64) _ _ _ 2 [.int .i64 2] from rfl) (Reps.one (show Kd.M (Kd.int .i64) _ _ _ 3 [.int .i64 3] from rfl) (Reps.one (show Kd.M (Kd.int .i64) _ _ _ 0 [.int .i64 0] from rfl) (Reps.one (show Kd.M (Kd.int .i64) _ _ _ 99 [.int .i64 99] from rfl) (Reps.none _ _)))))));intro v331 w24 ho25 hb hg_ hnew_;clear hg_ hnew_;(first | rw [← Ny330.out] at ho25 |(simp only [Int.reduceToNat] at ho25;rw [← Ny330.out] at ho25));have HO332:=am (Kd.jua ho25 (jBa (w:=w) (g:=g) (row:=none) (Y32)));replace BK323:=am (je (g:=gb323) (o:=.cells #[.slice A1_0 l1_0.length c1_0] 31 (0,0)) (Y113) hb);replace BK324:=am (je (g:=gb324) (o:=.cells #[.int .i64 0, .int .i64 0, .int .i64 0] 44 (0,0)) (Y114) hb);replace BK327:=am (je (g:=gb327) (o:=.cells #[.int .i64 t325, .int .i64 0, .int .i64 0] 44 (0,0)) (Y115) hb);replace HK:=am (jm.trans (Y32) (jm.of_below hb g none) (.inl rfl));replace HB:=am (jk (Y41) hb);replace HI0:=am (jg.below (show jg w0 (((w8.setCell ⟨gb327,0,none⟩ (.int .i64 t325)).setCell ⟨gb327,1,none⟩ (.int .i64 0)).setCell ⟨gb327,2,none⟩ (.int .i64 0)) g s0_0 t326 from Y31) hb);clear hb ho25;obtain ⟨Ao26,co26,eo26⟩:=Kd.jja HO332.out;subst eo26) |((with_reducible refine jy (f:=77) rfl ?_);refine gL (some 20) Try.func77 #[.pointer (some ⟨g,0,none⟩), .slice Ao26 y330.length co26] ?_;(with_reducible refine (jG.calls k g s0_0 t326 _ _ y330 t333 t334 w0 _ ?side1 ?side2 ?side3 ?side4 ?side5 A23.out).mono ?_);(case side1=>exact Y31);(case side2=>exact Y41);(case side3=>exact cq (Kd.jE HO332.out).2.2);(case side4=>exact (Kd.jE HO332.out).2.1);(case side5=>exact jQb (jg.own_ne HI0.out HO332.out (by decide)));rintro e w27 ⟨rfl,hi,hb,hk⟩;refine ⟨_,rfl,?_⟩;replace BK323:=am (jm.blk hk (g':=gb323) (o:=.cells #[.slice A1_0 l1_0.length c1_0] 31 (0,0)) (kq BK323.out) NB323_0.out (by simp));replace BK324:=am (jm.blk hk (g':=gb324) (o:=.cells #[.int .i64 0, .int .i64 0, .int .i64 0] 44 (0,0)) (kq BK324.out) NB324_0.out (by simp));replace BK327:=am (jm.blk hk (g':=gb327) (o:=.cells #[.int .i64 t325, .int .i64 0, .int .i64 0] 44 (0,0)) (kq BK327.out) NB327_0.out (by simp));replace HO332:=am (Kd.jD (Kd.jLa (jg.apart (show jg w0 _ g s0_0 t326 from Y31) (rq HO332.out) (by decide)) hk (fun _ h=>h.2)) (fun _ h=>h.1));replace HK:=am (jm.trans (Y32) hk (.inl rfl));replace HB:=am (hb);replace HI0:=am (hi);(try clear hb);(try clear hb2);(try clear hk);(try clear hi);have hnb28:=NB327_323.out;have hnc28:=NB323_327.out;have hnb29:=NB327_324.out;have hnc29:=NB324_327.out;have hnb30:=NB327_0.out;have hnc30:=NB0_327.out;have hcz31_0:=bc0 BK327.out;have hcz31_1:=bc1 BK327.out;have hcz31_2:=bc2 BK327.out;have hfz31_0:=jd BK327.out 0;have hfz31_1:=jd BK327.out 1;have hfz31_2:=jd BK327.out 2))
   go_meet
   case rel=>exact ⟨_,(t334),(t333),H',⟨Y16⟩,⟨by (with_reducible repeat (first | refine jb ?_ _ | refine jc ?_ | refine ja ?_ _));refine jr ?_ NB323_327.out _;(with_reducible repeat (first | refine jb ?_ _ | refine jc ?_ | refine ja ?_ _));exact BK323.out⟩,⟨by (with_reducible repeat (first | refine jb ?_ _ | refine jc ?_ | refine ja ?_ _));refine jr ?_ NB324_327.out _;(with_reducible repeat (first | refine jb ?_ _ | refine jc ?_ | refine ja ?_ _));exact BK324.out⟩,⟨by (with_reducible repeat (first | refine jb ?_ _ | refine jc ?_ | refine ja ?_ _));refine jO (cs:=#[.int .i64 t325, .int .i64 0, .int .i64 0]) ?_ 1 _ rfl;(with_reducible repeat (first | refine jb ?_ _ | refine jc ?_ | refine ja ?_ _));exact BK327.out⟩,⟨Y31⟩,⟨Y32⟩,⟨Y41⟩⟩
 case rest =>
  clear HC4
  try clear c1
  try clear c2
  try clear p2
  try clear c3
  try clear c4
  try clear c6
  try clear c7
  try clear c9
  try clear c10
  try clear c11
  try clear c13
  try clear c13b0
  try clear c15
  try clear c16
  try clear c17
  try clear c20
  try clear c21
  try clear c28
  try clear c29
  try clear c30
  try clear hcz12_0
  try clear hcz12_1
  try clear hcz12_2
  try clear hcz18_0
  try clear hcz22_0
  try clear hcz22_1
  try clear hcz22_2
  try clear hcz31_0
  try clear hcz31_1
  try clear hcz31_2
  try clear hfz12_0
  try clear hfz12_1
  try clear hfz12_2
  try clear hfz18_0
  try clear hfz22_0
  try clear hfz22_1
  try clear hfz22_2
  try clear hfz31_0
  try clear hfz31_1
  try clear hfz31_2
  obtain ⟨kq,x1001_3,x328001_3,HA,HJ3,BK323,BK324,BK327,HI0,HK,HB⟩:=hcut
  cases kq with
  | zero=>exact absurd HA.out (by simp [jIa.j0])
  | succ kj3 =>
   have H:=HA.out
   clear HA
   simp only [jIa.j0] at H
   by_cases c32:t325=3
   ·rw [if_pos c32] at H
    have c32b0:(t325 == 3)=true:=beq_iff_eq.mpr c32
    have c32b1:(t325 != 3)=false:=bne_eq_false_iff_eq.mpr c32
    clear c32
    obtain ⟨y335,hy335⟩:∃ y_:List Int,y_=(([1,2,3]:List Int)):=⟨_,rfl⟩
    replace H:((jG.f kj3 s0_0 x1001_3 y335).bind fun bt338=>(some (t325,x328001_3,bt338.1,bt338.2)))=some (r1,r2,r3,r4):=by first |(rw [hy335];with_reducible exact H) |(have H2_:=(Option.bind_some _ _).symm.trans H;rw [hy335];with_reducible exact H2_) |(have H2_:=(Option.bind_some _ _).symm.trans H;with_reducible exact H2_) | with_reducible exact H |(rw [hy335];exact H) | exact H
    have Ny335:=am hy335
    clear hy335
    replace H:=bzS H
    obtain ⟨⟨t338,t339⟩,A330,H⟩:=H
    replace H:(some (t325,x328001_3,t338,t339))=some (r1,r2,r3,r4):=H
    have A33:=am A330
    clear A330
    simp only [Option.some.injEq,Prod.mk.injEq] at H
    obtain ⟨rfl,rfl,rfl,rfl⟩:=H
    have hnb34:=NB327_323.out
    have hnc34:=NB323_327.out
    have hnb35:=NB327_324.out
    have hnc35:=NB324_327.out
    have hnb36:=NB327_0.out
    have hnc36:=NB0_327.out
    have hcz37_0:=bc0 BK327.out
    have hcz37_1:=bc1 BK327.out
    have hcz37_2:=bc2 BK327.out
    have hfz37_0:=jd BK327.out 0
    have hfz37_1:=jd BK327.out 1
    have hfz37_2:=jd BK327.out 2
    go_wp2_with (first |((with_reducible refine jP (N:=26) rfl ?_);refine Kd.R_lit (Kd.int .i64) _ 3 ?hg (N:=26) ?hd (xs:=([1,2,3]:List Int)) (inner:=[.int .i64 1, .int .i64 2, .int .i64 3]) (ok:=fun _=>True) (okp:=fun _=>True) ?hr ?hp (fun _ hk=>hk) trivial (Below.refl _ _) (Nat.le_refl _) (by simp) ?_;(case hd=>rfl);(case hg=>rfl);(case hr=>exact Y2);(case hp=>exact (Reps.one (show Kd.M (Kd.int .i64) _ _ _ 1 [.int .i64 1] from rfl) (Reps.one (show Kd.M (Kd.int .i64) _ _ _ 2 [.int .i64 2] from rfl) (Reps.one (show Kd.M (Kd.int .i64) _ _ _ 3 [.int .i64 3] from rfl) (Reps.none _ _)))));intro v336 w38 ho39 hb hg_ hnew_;clear hg_ hnew_;(first | rw [← Ny335.out] at ho39 |(simp only [Int.reduceToNat] at ho39;rw [← Ny335.out] at ho39));have HO337:=am (Kd.jua ho39 (jBa (w:=w) (g:=g) (row:=none) (Y32)));replace BK323:=am (je (g:=gb323) (o:=.cells #[.slice A1_0 l1_0.length c1_0] 31 (0,0)) (kq BK323.out) hb);replace BK324:=am (je (g:=gb324) (o:=.cells #[.int .i64 0, .int .i64 0, .int .i64 0] 44 (0,0)) (kq BK324.out) hb);replace BK327:=am (je (g:=gb327) (o:=.cells #[.int .i64 t325, .int .i64 x328001_3, .int .i64 0] 44 (0,0)) (kq BK327.out) hb);replace HK:=am (jm.trans (Y32) (jm.of_below hb g none) (.inl rfl));replace HB:=am (jk (Y41) hb);replace HI0:=am (jg.below (Y31) hb);clear hb ho39;obtain ⟨Ao40,co40,eo40⟩:=Kd.jja HO337.out;subst eo40) |((with_reducible refine jy (f:=77) rfl ?_);refine gL (some 27) Try.func77 #[.pointer (some ⟨g,0,none⟩), .slice Ao40 y335.length co40] ?_;(with_reducible refine (jG.calls kj3 g s0_0 x1001_3 _ _ y335 t338 t339 w0 _ ?side1 ?side2 ?side3 ?side4 ?side5 A33.out).mono ?_);(case side1=>exact Y31);(case side2=>exact Y41);(case side3=>exact cq (Kd.jE HO337.out).2.2);(case side4=>exact (Kd.jE HO337.out).2.1);(case side5=>exact jQb (jg.own_ne HI0.out HO337.out (by decide)));rintro e w41 ⟨rfl,hi,hb,hk⟩;refine ⟨_,rfl,?_⟩;replace BK323:=am (jm.blk hk (g':=gb323) (o:=.cells #[.slice A1_0 l1_0.length c1_0] 31 (0,0)) (kq BK323.out) NB323_0.out (by simp));replace BK324:=am (jm.blk hk (g':=gb324) (o:=.cells #[.int .i64 0, .int .i64 0, .int .i64 0] 44 (0,0)) (kq BK324.out) NB324_0.out (by simp));replace BK327:=am (jm.blk hk (g':=gb327) (o:=.cells #[.int .i64 t325, .int .i64 x328001_3, .int .i64 0] 44 (0,0)) (kq BK327.out) NB327_0.out (by simp));replace HO337:=am (Kd.jD (Kd.jLa (jg.apart (show jg w0 _ g s0_0 x1001_3 from Y31) (rq HO337.out) (by decide)) hk (fun _ h=>h.2)) (fun _ h=>h.1));replace HK:=am (jm.trans (Y32) hk (.inl rfl));replace HB:=am (hb);replace HI0:=am (hi);(try clear hb);(try clear hb2);(try clear hk);(try clear hi);have hcz42_0:=bc0 BK327.out;have hcz42_1:=bc1 BK327.out;have hcz42_2:=bc2 BK327.out;have hfz42_0:=jd BK327.out 0;have hfz42_1:=jd BK327.out 1;have hfz42_2:=jd BK327.out 2;have hnb43:=NB324_323.out;have hnc43:=NB323_324.out;have hnb44:=NB324_0.out;have hnc44:=NB0_324.out;have hcz45_0:=bc0 BK324.out;have hcz45_1:=bc1 BK324.out;have hcz45_2:=bc2 BK324.out;have hfz45_0:=jd BK324.out 0;have hfz45_1:=jd BK324.out 1;have hfz45_2:=jd BK324.out 2))
    refine bodyPost_ret (results_cell_row rfl _ _ gb324 44 #[.int .i64 t325, .int .i64 x328001_3, .int .i64 t338] (0,0) _ rfl (by (with_reducible repeat (first | refine jb ?_ _ | refine jc ?_ | refine ja ?_ _));refine jO (cs:=#[.int .i64 t325, .int .i64 x328001_3, .int .i64 0]) ?_ 2 _ rfl;(with_reducible repeat (first | refine jb ?_ _ | refine jc ?_ | refine ja ?_ _));refine jO (cs:=#[.int .i64 t325, .int .i64 0, .int .i64 0]) ?_ 1 _ rfl;(with_reducible repeat (first | refine jb ?_ _ | refine jc ?_ | refine ja ?_ _));refine jO (cs:=#[.int .i64 0, .int .i64 0, .int .i64 0]) ?_ 0 _ rfl;(with_reducible repeat (first | refine jb ?_ _ | refine jc ?_ | refine ja ?_ _));refine jr ?_ NB324_327.out _;(with_reducible repeat (first | refine jb ?_ _ | refine jc ?_ | refine ja ?_ _));exact BK324.out) Try.underlying44 rfl (by kernel_rfl)) rfl ?_
    exact ⟨Y0,Y31,Y41,Y32⟩
   ·rw [if_neg c32] at H
    have c32b0:(t325 == 3)=false:=beq_eq_false_iff_ne.mpr c32
    have c32b1:(t325 != 3)=true:=bne_iff_ne.mpr c32
    simp only [Option.some.injEq,Prod.mk.injEq] at H
    obtain ⟨rfl,rfl,rfl,rfl⟩:=H
    have hnb46:=NB327_323.out
    have hnc46:=NB323_327.out
    have hnb47:=NB327_324.out
    have hnc47:=NB324_327.out
    have hnb48:=NB327_0.out
    have hnc48:=NB0_327.out
    have hcz49_0:=bc0 BK327.out
    have hcz49_1:=bc1 BK327.out
    have hcz49_2:=bc2 BK327.out
    have hfz49_0:=jd BK327.out 0
    have hfz49_1:=jd BK327.out 1
    have hfz49_2:=jd BK327.out 2
    have hnb50:=NB324_323.out
    have hnc50:=NB323_324.out
    have hnb51:=NB324_0.out
    have hnc51:=NB0_324.out
    have hcz52_0:=bc0 BK324.out
    have hcz52_1:=bc1 BK324.out
    have hcz52_2:=bc2 BK324.out
    have hfz52_0:=jd BK324.out 0
    have hfz52_1:=jd BK324.out 1
    have hfz52_2:=jd BK324.out 2
    go_wp2
    refine bodyPost_ret (results_cell_row rfl _ _ gb324 44 #[.int .i64 t325, .int .i64 x328001_3, .int .i64 0] (0,0) _ rfl (by (with_reducible repeat (first | refine jb ?_ _ | refine jc ?_ | refine ja ?_ _));refine jO (cs:=#[.int .i64 t325, .int .i64 x328001_3, .int .i64 0]) ?_ 2 _ rfl;(with_reducible repeat (first | refine jb ?_ _ | refine jc ?_ | refine ja ?_ _));refine jO (cs:=#[.int .i64 t325, .int .i64 0, .int .i64 0]) ?_ 1 _ rfl;(with_reducible repeat (first | refine jb ?_ _ | refine jc ?_ | refine ja ?_ _));refine jO (cs:=#[.int .i64 0, .int .i64 0, .int .i64 0]) ?_ 0 _ rfl;(with_reducible repeat (first | refine jb ?_ _ | refine jc ?_ | refine ja ?_ _));exact BK324.out) Try.underlying44 rfl (by kernel_rfl)) rfl ?_
    exact ⟨Y0,Y31,Y41,Y32⟩
def jca.l0 : Nat → List (S44) → Int → List Int → Int → List (S106) → Option ((List (S44)) × Int)
 | 0,_,_,_,_,_=>none
 | k+1,x5,x6,x1000,x1001,x341000=>if x6 > 0 then ((jIa.f k x1000 x1001 x341000).bind fun bt349=>(if x5.length<5864062014805 then (jca.l0 k (x5 ++ [(⟨bt349.1,bt349.2.1,bt349.2.2.1⟩:S44)]) (wrap64 (x6 - 1)) x1000 bt349.2.2.2 x341000) else (none))) else (some (x5,x1001))
def jca.f (k : Nat) (s0_0 : List Int) (s0_1 : Int) (l1_0 : List (S106)) : Option ((List (S44)) × Int) := (jG.f k s0_0 s0_1 (([3, 4, 2, 1, 5, 0, 8] : List Int))).bind fun bt347 => (jca.l0 k (([] : List (S44))) bt347.1 s0_0 bt347.2 l1_0)
set_option maxHeartbeats 8000000 in
set_option maxRecDepth 100000 in
theorem jca.calls (k : Nat) (g : Nat) (s0_0 : List Int) (s0_1 : Int) (A1_0 : Option Addr) (c1_0 : Nat) (l1_0 : List (S106)) (r1 : List (S44)) (r2 : Int) (w0 w : World) (hI : jg w0 w g s0_0 s0_1) (hB : Below w0.heap.size w0 w) (hr1_0 : ∀ W_, jm w W_ g none → Kd.C k106 W_ A1_0 l1_0.length l1_0) (hc1_0 : l1_0.length ≤ c1_0) (h : jca.f k s0_0 s0_1 l1_0 = some (r1, r2)) :
  Calls Try.prog 64 #[.pointer (some ⟨g,0,none⟩), .agg #[.slice A1_0 l1_0.length c1_0]] w fun e w'=>∃ v0_:Value,e=.returned (v0_)∧Kd.R k44 44 w' w.heap.size (fun _=>True) v0_ r1∧jg w0 w' g s0_0 r2∧Below w0.heap.size w0 w'∧jm w w' g none:=by
 have hu31:=Try.underlying31
 have HR1_0:=am hr1_0
 have HC1_0:=am hc1_0
 clear hr1_0 hc1_0
 have HI0:=am hI
 have HK:=am (jm.refl w g none)
 have HL:=am hB.size
 clear hI
 have HW0:=am hB.size
 have HB:=am hB
 clear hB
 have H:((jG.f k s0_0 s0_1 (([3,4,2,1,5,0,8]:List Int))).bind fun bt347=>(jca.l0 k (([]:List (S44))) bt347.1 s0_0 bt347.2 l1_0))=some (r1,r2):=h
 clear h
 obtain ⟨y341,hy341⟩:∃ y_:List (S44),y_=(([]:List (S44))):=⟨_,rfl⟩
 replace H:((jG.f k s0_0 s0_1 (([3,4,2,1,5,0,8]:List Int))).bind fun bt347=>(jca.l0 k y341 bt347.1 s0_0 bt347.2 l1_0))=some (r1,r2):=by first |(rw [hy341];with_reducible exact H) |(have H2_:=(Option.bind_some _ _).symm.trans H;rw [hy341];with_reducible exact H2_) |(have H2_:=(Option.bind_some _ _).symm.trans H;with_reducible exact H2_) | with_reducible exact H |(rw [hy341];exact H) | exact H
 have Ny341:=am hy341
 clear hy341
 obtain ⟨y344,hy344⟩:∃ y_:List Int,y_=(([3,4,2,1,5,0,8]:List Int)):=⟨_,rfl⟩
 replace H:((jG.f k s0_0 s0_1 y344).bind fun bt347=>(jca.l0 k y341 bt347.1 s0_0 bt347.2 l1_0))=some (r1,r2):=by first |(rw [hy344];with_reducible exact H) |(have H2_:=(Option.bind_some _ _).symm.trans H;rw [hy344];with_reducible exact H2_) |(have H2_:=(Option.bind_some _ _).symm.trans H;with_reducible exact H2_) | with_reducible exact H |(rw [hy344];exact H) | exact H
 have Ny344:=am hy344
 clear hy344
 replace H:=bzS H
 obtain ⟨⟨t347,t348⟩,A30,H⟩:=H
 replace H:(jca.l0 k y341 t347 s0_0 t348 l1_0)=some (r1,r2):=H
 have A3:=am A30
 clear A30
 have H':=am H
 clear H
 go_enter Try.func64,Try.ntmps64
 go_wp2_with (first |((with_reducible refine jP (N:=3) rfl ?_);refine bE (N:=3) (cs:=#[.slice A1_0 l1_0.length c1_0]) (t:=31) ?_;intro gb340 hg w4 hbox hb;have BK340:=am (hbox);have GW340:=am ((Y7:w.heap.size≤gb340));have GE340:=am ((Nat.le_trans HW0.out (Y7:w.heap.size≤gb340):w0.heap.size≤gb340));have NB0_340:=am ((Y24:g≠gb340));have NB340_0:=am ((Y25:gb340≠g));replace HK:=am (jm.trans (Y11) (jm.of_below hb g none) (.inl rfl));replace HB:=am (jk (Y12) hb);replace HI0:=am (jg.below (Y10) hb);clear hb hbox hg) |((with_reducible refine jP (N:=7) rfl ?_);refine Kd.R_lit k44 _ 44 ?hg (N:=7) ?hd (xs:=([]:List (S44))) (inner:=[]) (ok:=fun _=>True) (okp:=fun _=>True) ?hr ?hp (fun _ hk=>hk) trivial (Below.refl _ _) (Nat.le_refl _) (by simp) ?_;(case hd=>rfl);(case hg=>rfl);(case hr=>exact Y2);(case hp=>exact (Reps.none _ _));intro v342 w5 ho6 hb hg_ hnew_;clear hg_ hnew_;(first | rw [← Ny341.out] at ho6 |(simp only [Int.reduceToNat] at ho6;rw [← Ny341.out] at ho6));have HO343:=am (Kd.jua ho6 (jBa (w:=w) (g:=g) (row:=none) (Y26)));replace BK340:=am (je (g:=gb340) (o:=.cells #[.slice A1_0 l1_0.length c1_0] 31 (0,0)) (kq BK340.out) hb);replace HK:=am (jm.trans (Y26) (jm.of_below hb g none) (.inl rfl));replace HB:=am (jk (Y44) hb);replace HI0:=am (jg.below (Y33) hb);clear hb ho6) |((with_reducible refine jP (N:=9) rfl ?_);refine Kd.R_lit (Kd.int .i64) _ 3 ?hg (N:=9) ?hd (xs:=([3,4,2,1,5,0,8]:List Int)) (inner:=[.int .i64 3, .int .i64 4, .int .i64 2, .int .i64 1, .int .i64 5, .int .i64 0, .int .i64 8]) (ok:=fun _=>True) (okp:=fun _=>True) ?hr ?hp (fun _ hk=>hk) trivial (Below.refl _ _) (Nat.le_refl _) (by simp) ?_;(case hd=>rfl);(case hg=>rfl);(case hr=>exact Y2);(case hp=>exact (Reps.one (show Kd.M (Kd.int .i64) _ _ _ 3 [.int .i64 3] from rfl) (Reps.one (show Kd.M (Kd.int .i64) _ _ _ 4 [.int .i64 4] from rfl) (Reps.one (show Kd.M (Kd.int .i64) _ _ _ 2 [.int .i64 2] from rfl) (Reps.one (show Kd.M (Kd.int .i64) _ _ _ 1 [.int .i64 1] from rfl) (Reps.one (show Kd.M (Kd.int .i64) _ _ _ 5 [.int .i64 5] from rfl) (Reps.one (show Kd.M (Kd.int .i64) _ _ _ 0 [.int .i64 0] from rfl) (Reps.one (show Kd.M (Kd.int .i64) _ _ _ 8 [.int .i64 8] from rfl) (Reps.none _ _)))))))));intro v345 w7 ho8 hb hg_ hnew_;clear hg_ hnew_;(first | rw [← Ny344.out] at ho8 |(simp only [Int.reduceToNat] at ho8;rw [← Ny344.out] at ho8));have HO346:=am (Kd.jua ho8 (jBa (w:=w) (g:=g) (row:=none) (Y26)));replace HO343:=am (Kd.jM (rq HO343.out) hb);replace BK340:=am (je (g:=gb340) (o:=.cells #[.slice A1_0 l1_0.length c1_0] 31 (0,0)) (kq BK340.out) hb);replace HK:=am (jm.trans (Y26) (jm.of_below hb g none) (.inl rfl));replace HB:=am (jk (Y44) hb);replace HI0:=am (jg.below (Y33) hb);clear hb ho8;obtain ⟨Ao9,co9,eo9⟩:=Kd.jja HO346.out;subst eo9) |((with_reducible refine jy (f:=77) rfl ?_);refine gL (some 10) Try.func77 #[.pointer (some ⟨g,0,none⟩), .slice Ao9 y344.length co9] ?_;(with_reducible refine (jG.calls k g s0_0 s0_1 _ _ y344 t347 t348 w0 _ ?side1 ?side2 ?side3 ?side4 ?side5 A3.out).mono ?_);(case side1=>exact Y33);(case side2=>exact Y44);(case side3=>exact cq (Kd.jE HO346.out).2.2);(case side4=>exact (Kd.jE HO346.out).2.1);(case side5=>exact jQb (jg.own_ne HI0.out HO346.out (by decide)));rintro e w10 ⟨rfl,hi,hb,hk⟩;refine ⟨_,rfl,?_⟩;replace BK340:=am (jm.blk hk (g':=gb340) (o:=.cells #[.slice A1_0 l1_0.length c1_0] 31 (0,0)) (kq BK340.out) NB340_0.out (by simp));replace HO343:=am (Kd.jD (Kd.jLa (jg.apart (show jg w0 _ g s0_0 s0_1 from Y33) (rq HO343.out) (by decide)) hk (fun _ h=>h.2)) (fun _ h=>h.1));replace HO346:=am (Kd.jD (Kd.jLa (jg.apart (show jg w0 _ g s0_0 s0_1 from Y33) (rq HO346.out) (by decide)) hk (fun _ h=>h.2)) (fun _ h=>h.1));replace HK:=am (jm.trans (Y26) hk (.inl rfl));replace HB:=am (hb);replace HI0:=am (hi);(try clear hb);(try clear hb2);(try clear hk);(try clear hi)))
 go_loopg [5,6] k (fun kq v5 v6 w'=>∃ (x5_1:List (S44)) (x6_1:Int) (x1001_1:Int),v6=.int .i64 x6_1∧jv (jca.l0 kq x5_1 x6_1 s0_0 x1001_1 l1_0=some (r1,r2))∧jv (kq≤k)∧jv (Kd.R k44 44 w' w.heap.size (fun _=>True) v5 x5_1)∧jv (w'.heap[gb340]?=some (.cells #[(.slice A1_0 l1_0.length c1_0)] 31 (0,0)))∧jv (jg w0 w' g s0_0 x1001_1)∧jv (jm w w' g none)∧jv (Below w0.heap.size w0 w'))
 case atStart=>exact ⟨(y341),(t347),(t348),(sq),H',⟨Nat.le_refl _⟩,⟨rq HO343.out⟩,⟨kq BK340.out⟩,⟨Y33⟩,⟨Y26⟩,⟨Y44⟩⟩
 case round =>
  clear H'
  try clear c1
  try clear p2
  try clear c6
  try clear c7
  obtain ⟨x5_1,x6_1,x1001_1,rfl,HA,HK1,HO_5,BK340,HI0,HK,HB⟩:=hrel
  cases gk with
  | zero=>exact absurd HA.out (by simp [jca.l0])
  | succ k1 =>
   have H:=HA.out
   clear HA
   simp only [jca.l0] at H
   by_cases c11:x6_1 > 0
   ·rw [if_pos c11] at H
    have c11b0:decide (0<x6_1)=true:=dzT c11
    clear c11
    replace H:=bzS H
    obtain ⟨⟨t349,t350,t351,t352⟩,A120,H⟩:=H
    replace H:(if x5_1.length<5864062014805 then (jca.l0 k1 (x5_1 ++ [(⟨t349,t350,t351⟩:S44)]) (wrap64 (x6_1 - 1)) s0_0 t352 l1_0) else (none))=some (r1,r2):=H
    have A12:=am A120
    clear A120
    by_cases c13:x5_1.length<5864062014805
    ·rw [if_pos c13] at H
     have LMc13:=am c13
     clear c13
     obtain ⟨y353,hy353⟩:∃ y_:List (S44),y_=(x5_1 ++ [(⟨t349,t350,t351⟩:S44)]):=⟨_,rfl⟩
     replace H:(jca.l0 k1 y353 (wrap64 (x6_1 - 1)) s0_0 t352 l1_0)=some (r1,r2):=by first |(rw [hy353];with_reducible exact H) |(have H2_:=(Option.bind_some _ _).symm.trans H;rw [hy353];with_reducible exact H2_) |(have H2_:=(Option.bind_some _ _).symm.trans H;with_reducible exact H2_) | with_reducible exact H |(rw [hy353];exact H) | exact H
     have Ny353:=am hy353
     clear hy353
     have H':=am H
     clear H
     have hnb14:=NB340_0.out
     have hnc14:=NB0_340.out
     have hcz15_0:=bc0 BK340.out
     have hfz15_0:=jd BK340.out 0
     go_wp2_with (first |((with_reducible refine jy (f:=61) rfl ?_);refine gL (some 18) Try.func61 #[.pointer (some ⟨g,0,none⟩), .agg #[.slice A1_0 l1_0.length c1_0]] ?_;(with_reducible refine (jIa.calls k1 g s0_0 x1001_1 _ _ l1_0 t349 t350 t351 t352 w0 _ ?side1 ?side2 ?side3 ?side4 A12.out).mono ?_);(case side1=>exact Y33);(case side2=>exact Y44);(case side3=>exact Kd.C_foot_step HR1_0.out (Y26));(case side4=>exact HC1_0.out);rintro e w16 ⟨rfl,hi,hb,hk⟩;refine ⟨_,rfl,?_⟩;replace HO_5:=am (Kd.jD (Kd.jLa (jg.apart (show jg w0 _ g s0_0 x1001_1 from Y33) (rq HO_5.out) (by decide)) hk (fun _ h=>h.2)) (fun _ h=>h.1));replace BK340:=am (jm.blk hk (g':=gb340) (o:=.cells #[.slice A1_0 l1_0.length c1_0] 31 (0,0)) (kq BK340.out) NB340_0.out (by simp));replace HK:=am (jm.trans (Y26) hk (.inl rfl));replace HB:=am (hb);replace HI0:=am (hi);(try clear hb);(try clear hb2);(try clear hk);(try clear hi)) |((with_reducible refine jCb (b:=.append) (xs:=#[.tmp 15, .tmp 19]) rfl ?_);at_builtin;refine Kd.R_append k44 w.heap.size rfl (.tmp 15) (.tmp 19) 33 44 (.agg #[(.int .i64 0),(.int .i64 0),(.int .i64 0)]) 24 rfl Try.underlying33 info44 rfl (by decide) (by omega) u5 x5_1 (⟨t349,t350,t351⟩:S44) [.int .i64 t349, .int .i64 t350, .int .i64 t351] (fun _=>True) (fun _=>False) rfl rfl ?aP (fun _ hk=>hk.elim) ?aF ?aO (Below.refl _ _) ?aS ?aL ?_;(case aP=>exact k44_mkM _ _ _ (⟨t349,t350,t351⟩:S44));(case aF=>exact (fun _ _=>trivial));(case aO=>exact (rq HO_5.out));(case aS=>exact (jBa (w:=w) (g:=g) (row:=none) (Y26)));(case aL=>have:=LMc13.out;omega);intro v354 w17 ho hb hg hat;rw [← Ny353.out] at ho;have n0_:=am (jla (g:=gb340) (o:=.cells #[.slice A1_0 l1_0.length c1_0] 31 (0,0)) (kq BK340.out) hg (Kd.R_ne HO_5.out BK340.out (by decide)));have n1_:=am (jg.grown (Y33) hg (jg.own_ne HI0.out HO_5.out (by decide)));have n2_:=am (below_weaken (Y44) HL.out hb);have n3_:=am (jm.trans (Y26) (jm.jOb hg g) (Kd.R_base2 HO_5.out));have n4_:=am (ho);clear BK340 HI0 HB HK HO_5;have BK340:=n0_;have HI0:=n1_;have HB:=n2_;have HK:=n3_;have HO355:=n4_;clear n0_ n1_ n2_ n3_ n4_ ho hb hg hat))
     go_roundg k1
     case measure=>have:=HK1.out;omega
     case rel=>exact ⟨(y353),(wrap64 (x6_1 - 1)),(t352),(sq),H',⟨by have:=HK1.out;omega⟩,⟨rq HO355.out⟩,⟨kq BK340.out⟩,⟨Y33⟩,⟨Y26⟩,⟨Y44⟩⟩
    ·rw [if_neg c13] at H
     exact absurd H (by simp)
   ·rw [if_neg c11] at H
    have c11b0:decide (0<x6_1)=false:=dzF c11
    clear c11
    simp only [Option.some.injEq,Prod.mk.injEq] at H
    obtain ⟨rfl,rfl⟩:=H
    go_wp2
    go_ret
    exact ⟨_,Y0,rq HO_5.out,Y33,Y44,Y26⟩
def jba.l0 : Nat → List ByteArray → Int → Int → List Int → Int → List (S106) → Option ((List (S106)) × Int)
 | 0,_,_,_,_,_,_=>none
 | k+1,x3,x5,x6,x1000,x1001,x364000=>if x6<x5 then (if 0≤x6 then (if x6<(x3.length:Int) then ((jA.f k x1000 x1001 x6).bind fun bt370=>((jG.f k x1000 bt370.2 (([0,bt370.1,wrap64 (x6 - 1)]:List Int))).bind fun bt375=>(if x364000.length<5864062014805 then (jba.l0 k x3 x5 (wrap64 (x6+1)) x1000 bt375.2 (x364000 ++ [(⟨rdOf ByteArray.empty x3 x6,bt375.1⟩:S106)])) else (none)))) else (none)) else (none)) else (some (x364000,x1001))
def jba.f (k : Nat) (s0_0 : List Int) (s0_1 : Int) : Option ((List (S106)) × Int) := (jG.f k s0_0 s0_1 (([4, 5, 3, 6, 2, 1, 8] : List Int))).bind fun bt367 => (jba.l0 k (([(⟨#[97, 110, 121]⟩ : ByteArray), (⟨#[105, 111]⟩ : ByteArray), (⟨#[107, 101, 121]⟩ : ByteArray), (⟨#[116, 105, 109, 101]⟩ : ByteArray), (⟨#[110, 101, 116]⟩ : ByteArray), (⟨#[100, 105, 115, 107]⟩ : ByteArray), (⟨#[116, 121, 112, 101]⟩ : ByteArray), (⟨#[111, 100, 100]⟩ : ByteArray)] : List ByteArray)) bt367.1 1 s0_0 bt367.2 (([(⟨(⟨#[97, 110, 121]⟩ : ByteArray), (-1)⟩ : S106)] : List (S106))))
def jba.T7 : Bool × List (List Nat × List Nat) := (true, [([], []), ([0], [0]), ([], []), ([], []), ([2, 3], [2, 3]), ([4], [4]), ([], []), ([], []), ([], []), ([7, 8], [7, 8]), ([], []), ([10], [10]), ([9, 11], [9, 11]), ([6, 12, 9], [6, 12]), ([5, 13], [5, 13]), ([14], [14]), ([1, 15, 13], [1, 15]), ([0, 1, 2, 3, 4, 5, 6, 7, 8, 9, 10, 11, 12, 13, 14, 15, 16], []), ([17, 16, 16, 0, 1, 2, 3, 4, 5, 6, 7, 8, 9, 10, 11, 12, 13, 14, 15, 16], [16, 17])])
def jba.B7 : List Nat := [0, 1, 0, 0, 12, 28, 0, 0, 0, 384, 0, 1024, 3968, 8128, 16380, 32764, 65535, 131071, 262143]
theorem jba.tab7 : rtab .any (opsOf Try.f107 7) = jba.T7 := by kernel_rfl
theorem jba.bits7 : jec jba.T7.2 jba.B7 = true := by kernel_rfl
set_option maxHeartbeats 8000000 in
set_option maxRecDepth 100000 in
theorem jba.calls (k : Nat) (g : Nat) (s0_0 : List Int) (s0_1 : Int) (r1 : List (S106)) (r2 : Int) (w0 w : World) (hI : jg w0 w g s0_0 s0_1) (hB : Below w0.heap.size w0 w) (h : jba.f k s0_0 s0_1 = some (r1, r2)) :
  Calls Try.prog 107 #[.pointer (some ⟨g,0,none⟩)] w fun e w'=>∃ v0_:Value,e=.returned (.agg #[v0_])∧Kd.R k106 106 w' w.heap.size (fun _=>True) v0_ r1∧jg w0 w' g s0_0 r2∧Below w0.heap.size w0 w'∧jm w w' g none:=by
 have hu31:=Try.underlying31
 have hu106:=Try.underlying106
 have HI0:=am hI
 have HK:=am (jm.refl w g none)
 have HL:=am hB.size
 clear hI
 have HW0:=am hB.size
 have HB:=am hB
 clear hB
 have H:((jG.f k s0_0 s0_1 (([4,5,3,6,2,1,8]:List Int))).bind fun bt367=>(jba.l0 k (([(⟨#[97,110,121]⟩:ByteArray),(⟨#[105,111]⟩:ByteArray),(⟨#[107,101,121]⟩:ByteArray),(⟨#[116,105,109,101]⟩:ByteArray),(⟨#[110,101,116]⟩:ByteArray),(⟨#[100,105,115,107]⟩:ByteArray),(⟨#[116,121,112,101]⟩:ByteArray),(⟨#[111,100,100]⟩:ByteArray)]:List ByteArray)) bt367.1 1 s0_0 bt367.2 (([(⟨(⟨#[97,110,121]⟩:ByteArray),(-1)⟩:S106)]:List (S106)))))=some (r1,r2):=h
 clear h
 obtain ⟨y357,hy357⟩:∃ y_:List ByteArray,y_=(([(⟨#[97,110,121]⟩:ByteArray),(⟨#[105,111]⟩:ByteArray),(⟨#[107,101,121]⟩:ByteArray),(⟨#[116,105,109,101]⟩:ByteArray),(⟨#[110,101,116]⟩:ByteArray),(⟨#[100,105,115,107]⟩:ByteArray),(⟨#[116,121,112,101]⟩:ByteArray),(⟨#[111,100,100]⟩:ByteArray)]:List ByteArray)):=⟨_,rfl⟩
 replace H:((jG.f k s0_0 s0_1 (([4,5,3,6,2,1,8]:List Int))).bind fun bt367=>(jba.l0 k y357 bt367.1 1 s0_0 bt367.2 (([(⟨(⟨#[97,110,121]⟩:ByteArray),(-1)⟩:S106)]:List (S106)))))=some (r1,r2):=by first |(rw [hy357];with_reducible exact H) |(have H2_:=(Option.bind_some _ _).symm.trans H;rw [hy357];with_reducible exact H2_) |(have H2_:=(Option.bind_some _ _).symm.trans H;with_reducible exact H2_) | with_reducible exact H |(rw [hy357];exact H) | exact H
 have Ny357:=am hy357
 clear hy357
 obtain ⟨y360,hy360⟩:∃ y_:List (S106),y_=(([(⟨(⟨#[97,110,121]⟩:ByteArray),(-1)⟩:S106)]:List (S106))):=⟨_,rfl⟩
 replace H:((jG.f k s0_0 s0_1 (([4,5,3,6,2,1,8]:List Int))).bind fun bt367=>(jba.l0 k y357 bt367.1 1 s0_0 bt367.2 y360))=some (r1,r2):=by first |(rw [hy360];with_reducible exact H) |(have H2_:=(Option.bind_some _ _).symm.trans H;rw [hy360];with_reducible exact H2_) |(have H2_:=(Option.bind_some _ _).symm.trans H;with_reducible exact H2_) | with_reducible exact H |(rw [hy360];exact H) | exact H
 have Ny360:=am hy360
 clear hy360
 obtain ⟨y364,hy364⟩:∃ y_:List Int,y_=(([4,5,3,6,2,1,8]:List Int)):=⟨_,rfl⟩
 replace H:((jG.f k s0_0 s0_1 y364).bind fun bt367=>(jba.l0 k y357 bt367.1 1 s0_0 bt367.2 y360))=some (r1,r2):=by first |(rw [hy364];with_reducible exact H) |(have H2_:=(Option.bind_some _ _).symm.trans H;rw [hy364];with_reducible exact H2_) |(have H2_:=(Option.bind_some _ _).symm.trans H;with_reducible exact H2_) | with_reducible exact H |(rw [hy364];exact H) | exact H
 have Ny364:=am hy364
 clear hy364
 replace H:=bzS H
 obtain ⟨⟨t367,t368⟩,A20,H⟩:=H
 replace H:(jba.l0 k y357 t367 1 s0_0 t368 y360)=some (r1,r2):=H
 have A2:=am A20
 clear A20
 have H':=am H
 clear H
 go_enter Try.func107,Try.ntmps107
 go_wp2_with (first |((with_reducible refine jP (N:=2) rfl ?_);refine bE (N:=2) (cs:=#[.slice none 0 0]) (t:=31) ?_;intro gb356 hg w3 hbox hb;have BK356:=am (hbox);have GW356:=am ((Y7:w.heap.size≤gb356));have GE356:=am ((Nat.le_trans HW0.out (Y7:w.heap.size≤gb356):w0.heap.size≤gb356));have NB0_356:=am ((Y24:g≠gb356));have NB356_0:=am ((Y25:gb356≠g));replace HK:=am (jm.trans (Y11) (jm.of_below hb g none) (.inl rfl));replace HB:=am (jk (Y12) hb);replace HI0:=am (jg.below (Y10) hb);clear hb hbox hg) |((with_reducible refine jP (N:=7) rfl ?_);refine Kd.R_lit Kd.string _ 9 ?hg (N:=7) ?hd (xs:=([(⟨#[97,110,121]⟩:ByteArray),(⟨#[105,111]⟩:ByteArray),(⟨#[107,101,121]⟩:ByteArray),(⟨#[116,105,109,101]⟩:ByteArray),(⟨#[110,101,116]⟩:ByteArray),(⟨#[100,105,115,107]⟩:ByteArray),(⟨#[116,121,112,101]⟩:ByteArray),(⟨#[111,100,100]⟩:ByteArray)]:List ByteArray)) (inner:=[.string (⟨#[97,110,121]⟩:ByteArray), .string (⟨#[105,111]⟩:ByteArray), .string (⟨#[107,101,121]⟩:ByteArray), .string (⟨#[116,105,109,101]⟩:ByteArray), .string (⟨#[110,101,116]⟩:ByteArray), .string (⟨#[100,105,115,107]⟩:ByteArray), .string (⟨#[116,121,112,101]⟩:ByteArray), .string (⟨#[111,100,100]⟩:ByteArray)]) (ok:=fun _=>True) (okp:=fun _=>True) ?hr ?hp (fun _ hk=>hk) trivial (Below.refl _ _) (Nat.le_refl _) (by simp) ?_;(case hd=>rfl);(case hg=>rfl);(case hr=>exact Y2);(case hp=>exact (Reps.one (show Kd.M Kd.string _ _ _ (⟨#[97,110,121]⟩:ByteArray) [.string (⟨#[97,110,121]⟩:ByteArray)] from rfl) (Reps.one (show Kd.M Kd.string _ _ _ (⟨#[105,111]⟩:ByteArray) [.string (⟨#[105,111]⟩:ByteArray)] from rfl) (Reps.one (show Kd.M Kd.string _ _ _ (⟨#[107,101,121]⟩:ByteArray) [.string (⟨#[107,101,121]⟩:ByteArray)] from rfl) (Reps.one (show Kd.M Kd.string _ _ _ (⟨#[116,105,109,101]⟩:ByteArray) [.string (⟨#[116,105,109,101]⟩:ByteArray)] from rfl) (Reps.one (show Kd.M Kd.string _ _ _ (⟨#[110,101,116]⟩:ByteArray) [.string (⟨#[110,101,116]⟩:ByteArray)] from rfl) (Reps.one (show Kd.M Kd.string _ _ _ (⟨#[100,105,115,107]⟩:ByteArray) [.string (⟨#[100,105,115,107]⟩:ByteArray)] from rfl) (Reps.one (show Kd.M Kd.string _ _ _ (⟨#[116,121,112,101]⟩:ByteArray) [.string (⟨#[116,121,112,101]⟩:ByteArray)] from rfl) (Reps.one (show Kd.M Kd.string _ _ _ (⟨#[111,100,100]⟩:ByteArray) [.string (⟨#[111,100,100]⟩:ByteArray)] from rfl) (Reps.none _ _))))))))));intro v358 w4 ho5 hb hg_ hnew_;clear hg_ hnew_;(first | rw [← Ny357.out] at ho5 |(simp only [Int.reduceToNat] at ho5;rw [← Ny357.out] at ho5));have HO359:=am (Kd.jua ho5 (jBa (w:=w) (g:=g) (row:=none) (Y58)));replace BK356:=am (je (g:=gb356) (o:=.cells #[.slice none 0 0] 31 (0,0)) (kq BK356.out) hb);replace HK:=am (jm.trans (Y58) (jm.of_below hb g none) (.inl rfl));replace HB:=am (jk (Y97) hb);replace HI0:=am (jg.below (Y98) hb);clear hb ho5) |((with_reducible refine jP (N:=9) rfl ?_);refine Kd.R_lit k106 _ 106 ?hg (N:=9) ?hd (xs:=([(⟨(⟨#[97,110,121]⟩:ByteArray),(-1)⟩:S106)]:List (S106))) (inner:=[.string (⟨#[97,110,121]⟩:ByteArray), .int .i64 (-1)]) (ok:=fun _=>True) (okp:=fun _=>True) ?hr ?hp (fun _ hk=>hk) trivial (Below.refl _ _) (Nat.le_refl _) (by simp) ?_;(case hd=>rfl);(case hg=>rfl);(case hr=>exact Y2);(case hp=>exact (Reps.c2 (show Kd.M k106 _ _ _ (⟨(⟨#[97,110,121]⟩:ByteArray),(-1)⟩:S106) [.string (⟨#[97,110,121]⟩:ByteArray), .int .i64 (-1)] from (k106_mkM _ _ _ (⟨(⟨#[97,110,121]⟩:ByteArray),(-1)⟩:S106) )) (Reps.none _ _)));intro v361 w6 ho7 hb hg_ hnew_;clear hg_ hnew_;(first | rw [← Ny360.out] at ho7 |(simp only [Int.reduceToNat] at ho7;rw [← Ny360.out] at ho7));have HO362:=am (Kd.jua ho7 (jBa (w:=w) (g:=g) (row:=none) (Y58)));replace HO359:=am (Kd.jM (rq HO359.out) hb);replace BK356:=am (je (g:=gb356) (o:=.cells #[.slice none 0 0] 31 (0,0)) (kq BK356.out) hb);replace HK:=am (jm.trans (Y58) (jm.of_below hb g none) (.inl rfl));replace HB:=am (jk (Y97) hb);replace HI0:=am (jg.below (Y98) hb);clear hb ho7;obtain ⟨Ao8,co8,eo8⟩:=Kd.jja HO362.out;subst eo8) |((with_reducible refine jP (N:=4) rfl ?_);refine bE (N:=4) (cs:=#[.slice none 0 0]) (t:=31) ?_;intro gb363 hg w9 hbox hb;have BK363:=am (hbox);have GW363:=am ((Y116:w.heap.size≤gb363));have GE363:=am ((Nat.le_trans HW0.out (Y116:w.heap.size≤gb363):w0.heap.size≤gb363));have NB356_363:=am ((by rw [hg];exact Nat.ne_of_lt (jta (g:=gb356) (o:=.cells #[.slice none 0 0] 31 (0,0)) (kq BK356.out)):gb356≠gb363));have NB363_356:=am ((by rw [hg];exact Nat.ne_of_gt (jta (g:=gb356) (o:=.cells #[.slice none 0 0] 31 (0,0)) (kq BK356.out)):gb363≠gb356));have NB0_363:=am ((by rw [hg];exact Nat.ne_of_lt (jg.lt (show jg w0 _ g s0_0 s0_1 from by repeat (first |(with_reducible first | exact HI0.out | apply jg.alloc | apply jg.drewN | apply jg.drew | apply jg.jTb | refine jg.far ?_ NB0_356.out _) | exact HI0.out))):g≠gb363));have NB363_0:=am ((by rw [hg];exact Nat.ne_of_gt (jg.lt (show jg w0 _ g s0_0 s0_1 from by repeat (first |(with_reducible first | exact HI0.out | apply jg.alloc | apply jg.drewN | apply jg.drew | apply jg.jTb | refine jg.far ?_ NB0_356.out _) | exact HI0.out))):gb363≠g));replace HO359:=am (Kd.jM (rq HO359.out) hb);replace HO362:=am (Kd.jM (rq HO362.out) hb);replace BK356:=am (je (g:=gb356) (o:=.cells #[.slice none 0 0] 31 (0,0)) (kq BK356.out) hb);replace HK:=am (jm.trans (Y58) (jm.of_below hb g none) (.inl rfl));replace HB:=am (jk (Y97) hb);replace HI0:=am (jg.below (Y98) hb);clear hb hbox hg;have hnb10:=NB363_356.out;have hnc10:=NB356_363.out;have hnb11:=NB363_0.out;have hnc11:=NB0_363.out;have hcz12_0:=bc0 BK363.out;have hfz12_0:=jd BK363.out 0) |((with_reducible refine jP (N:=12) rfl ?_);refine Kd.R_lit (Kd.int .i64) _ 3 ?hg (N:=12) ?hd (xs:=([4,5,3,6,2,1,8]:List Int)) (inner:=[.int .i64 4, .int .i64 5, .int .i64 3, .int .i64 6, .int .i64 2, .int .i64 1, .int .i64 8]) (ok:=fun _=>True) (okp:=fun _=>True) ?hr ?hp (fun _ hk=>hk) trivial (Below.refl _ _) (Nat.le_refl _) (by simp) ?_;(case hd=>rfl);(case hg=>rfl);(case hr=>exact Y2);(case hp=>exact (Reps.one (show Kd.M (Kd.int .i64) _ _ _ 4 [.int .i64 4] from rfl) (Reps.one (show Kd.M (Kd.int .i64) _ _ _ 5 [.int .i64 5] from rfl) (Reps.one (show Kd.M (Kd.int .i64) _ _ _ 3 [.int .i64 3] from rfl) (Reps.one (show Kd.M (Kd.int .i64) _ _ _ 6 [.int .i64 6] from rfl) (Reps.one (show Kd.M (Kd.int .i64) _ _ _ 2 [.int .i64 2] from rfl) (Reps.one (show Kd.M (Kd.int .i64) _ _ _ 1 [.int .i64 1] from rfl) (Reps.one (show Kd.M (Kd.int .i64) _ _ _ 8 [.int .i64 8] from rfl) (Reps.none _ _)))))))));intro v365 w13 ho14 hb hg_ hnew_;clear hg_ hnew_;(first | rw [← Ny364.out] at ho14 |(simp only [Int.reduceToNat] at ho14;rw [← Ny364.out] at ho14));have HO366:=am (Kd.jua ho14 (jBa (w:=w) (g:=g) (row:=none) (Y27)));replace HO359:=am (Kd.jM (by (with_reducible repeat (first | apply Kd.jK | apply Kd.jL | apply Kd.jH));exact (Kd.jD (Kd.jB (p:=⟨gb363,0,none⟩) (Kd.jN HO359.out BK363.out (by decide)) (fun _ hk=>hk.2) (.slice Ao8 y360.length co8)) (fun _ h_=>h_.1))) hb);replace HO362:=am (Kd.jM (by (with_reducible repeat (first | apply Kd.jK | apply Kd.jL | apply Kd.jH));exact (Kd.jD (Kd.jB (p:=⟨gb363,0,none⟩) (Kd.jN HO362.out BK363.out (by decide)) (fun _ hk=>hk.2) (.slice Ao8 y360.length co8)) (fun _ h_=>h_.1))) hb);replace BK356:=am (je (g:=gb356) (o:=.cells #[.slice none 0 0] 31 (0,0)) (by (with_reducible repeat (first | refine jb ?_ _ | refine jc ?_ | refine ja ?_ _));refine jr ?_ NB356_363.out _;(with_reducible repeat (first | refine jb ?_ _ | refine jc ?_ | refine ja ?_ _));exact BK356.out) hb);replace BK363:=am (je (g:=gb363) (o:=.cells #[.slice Ao8 y360.length co8] 31 (0,0)) (by (with_reducible repeat (first | refine jb ?_ _ | refine jc ?_ | refine ja ?_ _));refine jO (cs:=#[.slice none 0 0]) ?_ 0 _ rfl;(with_reducible repeat (first | refine jb ?_ _ | refine jc ?_ | refine ja ?_ _));exact BK363.out) hb);replace HK:=am (jm.trans (Y27) (jm.of_below hb g none) (.inl rfl));replace HB:=am (jk (Y42) hb);replace HI0:=am (jg.below (show jg w0 (w9.setCell ⟨gb363,0,none⟩ (.slice Ao8 y360.length co8)) g s0_0 s0_1 from Y14) hb);clear hb ho14;obtain ⟨Ao15,co15,eo15⟩:=Kd.jja HO366.out;subst eo15) |((with_reducible refine jy (f:=77) rfl ?_);refine gL (some 13) Try.func77 #[.pointer (some ⟨g,0,none⟩), .slice Ao15 y364.length co15] ?_;(with_reducible refine (jG.calls k g s0_0 s0_1 _ _ y364 t367 t368 w0 _ ?side1 ?side2 ?side3 ?side4 ?side5 A2.out).mono ?_);(case side1=>exact Y14);(case side2=>exact Y42);(case side3=>exact cq (Kd.jE HO366.out).2.2);(case side4=>exact (Kd.jE HO366.out).2.1);(case side5=>exact jQb (jg.own_ne HI0.out HO366.out (by decide)));rintro e w16 ⟨rfl,hi,hb,hk⟩;refine ⟨_,rfl,?_⟩;replace BK356:=am (jm.blk hk (g':=gb356) (o:=.cells #[.slice none 0 0] 31 (0,0)) (kq BK356.out) NB356_0.out (by simp));replace HO359:=am (Kd.jD (Kd.jLa (jg.apart (show jg w0 _ g s0_0 s0_1 from Y14) (rq HO359.out) (by decide)) hk (fun _ h=>h.2)) (fun _ h=>h.1));replace HO362:=am (Kd.jD (Kd.jLa (jg.apart (show jg w0 _ g s0_0 s0_1 from Y14) (rq HO362.out) (by decide)) hk (fun _ h=>h.2)) (fun _ h=>h.1));replace BK363:=am (jm.blk hk (g':=gb363) (o:=.cells #[.slice Ao8 y360.length co8] 31 (0,0)) (kq BK363.out) NB363_0.out (by simp));replace HO366:=am (Kd.jD (Kd.jLa (jg.apart (show jg w0 _ g s0_0 s0_1 from Y14) (rq HO366.out) (by decide)) hk (fun _ h=>h.2)) (fun _ h=>h.1));replace HK:=am (jm.trans (Y27) hk (.inl rfl));replace HB:=am (hb);replace HI0:=am (hi);(try clear hb);(try clear hb2);(try clear hk);(try clear hi)))
 go_loopg [6] k (fun kq v6 w'=>∃ (x6_1:Int) (x1001_1:Int) (x364000_1:List (S106)) (u364000:Value),v6=.int .i64 x6_1∧jv (jba.l0 kq y357 t367 x6_1 s0_0 x1001_1 x364000_1=some (r1,r2))∧jv (kq≤k)∧jv (Kd.R Kd.string 9 w' w.heap.size (fun _=>True) v358 y357)∧jv (Kd.R k106 106 w' w.heap.size (fun _=>True) u364000 x364000_1)∧jv (w'.heap[gb356]?=some (.cells #[(.slice none 0 0)] 31 (0,0)))∧jv (w'.heap[gb363]?=some (.cells #[u364000] 31 (0,0)))∧jv (jg w0 w' g s0_0 x1001_1)∧jv (jm w w' g none)∧jv (Below w0.heap.size w0 w'))
 case atStart=>exact ⟨(1),(t368),(y360),(.slice Ao8 y360.length co8),(sq),H',⟨Nat.le_refl _⟩,⟨rq HO359.out⟩,⟨rq HO362.out⟩,⟨kq BK356.out⟩,⟨kq BK363.out⟩,⟨Y14⟩,⟨Y27⟩,⟨Y42⟩⟩
 case round =>
  clear H'
  try clear c1
  try clear c2
  try clear p2
  try clear c7
  try clear c10
  try clear c11
  try clear hcz12_0
  try clear hfz12_0
  obtain ⟨x6_1,x1001_1,x364000_1,u364000,rfl,HA,HK1,HO_3,HO_364000,BK356,BK363,HI0,HK,HB⟩:=hrel
  cases gk with
  | zero=>exact absurd HA.out (by simp [jba.l0])
  | succ k1 =>
   have H:=HA.out
   clear HA
   simp only [jba.l0] at H
   by_cases c17:x6_1<t367
   ·rw [if_pos c17] at H
    have c17b0:decide (x6_1<t367)=true:=dzT c17
    clear c17
    by_cases c18:0≤x6_1
    ·rw [if_pos c18] at H
     have c18b0:decide (0≤x6_1)=true:=dzT c18
     clear c18
     by_cases c19:x6_1<(y357.length:Int)
     ·rw [if_pos c19] at H
      have c19b0:decide (x6_1<(y357.length:Int))=true:=dzT c19
      clear c19
      replace H:=bzS H
      obtain ⟨⟨t370,t371⟩,A200,H⟩:=H
      replace H:((jG.f k1 s0_0 t371 (([0,t370,wrap64 (x6_1 - 1)]:List Int))).bind fun bt375=>(if x364000_1.length<5864062014805 then (jba.l0 k1 y357 t367 (wrap64 (x6_1+1)) s0_0 bt375.2 (x364000_1 ++ [(⟨rdOf ByteArray.empty y357 x6_1,bt375.1⟩:S106)])) else (none)))=some (r1,r2):=H
      have A20:=am A200
      clear A200
      obtain ⟨y372,hy372⟩:∃ y_:List Int,y_=(([0,t370,wrap64 (x6_1 - 1)]:List Int)):=⟨_,rfl⟩
      replace H:((jG.f k1 s0_0 t371 y372).bind fun bt375=>(if x364000_1.length<5864062014805 then (jba.l0 k1 y357 t367 (wrap64 (x6_1+1)) s0_0 bt375.2 (x364000_1 ++ [(⟨rdOf ByteArray.empty y357 x6_1,bt375.1⟩:S106)])) else (none)))=some (r1,r2):=by first |(rw [hy372];with_reducible exact H) |(have H2_:=(Option.bind_some _ _).symm.trans H;rw [hy372];with_reducible exact H2_) |(have H2_:=(Option.bind_some _ _).symm.trans H;with_reducible exact H2_) | with_reducible exact H |(rw [hy372];exact H) | exact H
      have Ny372:=am hy372
      clear hy372
      replace H:=bzS H
      obtain ⟨⟨t375,t376⟩,A210,H⟩:=H
      replace H:(if x364000_1.length<5864062014805 then (jba.l0 k1 y357 t367 (wrap64 (x6_1+1)) s0_0 t376 (x364000_1 ++ [(⟨rdOf ByteArray.empty y357 x6_1,t375⟩:S106)])) else (none))=some (r1,r2):=H
      have A21:=am A210
      clear A210
      by_cases c22:x364000_1.length<5864062014805
      ·rw [if_pos c22] at H
       have LMc22:=am c22
       clear c22
       obtain ⟨y377,hy377⟩:∃ y_:List (S106),y_=(x364000_1 ++ [(⟨rdOf ByteArray.empty y357 x6_1,t375⟩:S106)]):=⟨_,rfl⟩
       replace H:(jba.l0 k1 y357 t367 (wrap64 (x6_1+1)) s0_0 t376 y377)=some (r1,r2):=by first |(rw [hy377];with_reducible exact H) |(have H2_:=(Option.bind_some _ _).symm.trans H;rw [hy377];with_reducible exact H2_) |(have H2_:=(Option.bind_some _ _).symm.trans H;with_reducible exact H2_) | with_reducible exact H |(rw [hy377];exact H) | exact H
       have Ny377:=am hy377
       clear hy377
       have H':=am H
       clear H
       try go_wp2
       replace HO_3:=am (Kd.jH HO_3.out)
       replace HO_364000:=am (Kd.jH HO_364000.out)
       replace BK356:=am (jc BK356.out)
       replace BK363:=am (jc BK363.out)
       replace HI0:=am (jg.drew HI0.out)
       replace HK:=am (jZa HK.out)
       replace HB:=am (jF HB.out)
       obtain ⟨Ao24,co24,eo24⟩:=Kd.jja HO_3.out
       (first | subst eo24 |(injection eo24 with f1_ f2_ f3_;have f4_:=f1_.symm;have f5_:=f3_.symm;clear f1_ f2_ f3_;subst f4_;subst f5_))
       have p369:0≤(x6_1:Int):=ozD (uq)
       have q369:x6_1<(y357.length:Int):=ozD (uq)
       obtain ⟨ad369,e369,hx369_0⟩:=Kd.at_string (Kd.jE HO_3.out).2.2 x6_1 p369 q369
       cases e369
       replace p369:=ezT p369
       replace q369:=ezT q369
       refine jkc (n:=19) (S:=fun w'=>w'.cell? ⟨gb363,0,none⟩=some (u364000)∧w'.cell? (ad369.add (x6_1).toNat)=some (.string (rdOf ByteArray.empty y357 x6_1))) (ds:=[16,18]) #[false,false,false,false,false,false,false,false,false,false,false,false,false,false,false,false,false,false,false] (by kernel_rfl) rfl rfl ⟨(jh BK363.out 0).trans rfl,hx369_0⟩ (fun hHeld=>?_);refine jJb jba.tab7 jba.bits7 (fun HT_ HW_=>?_)
       generalize wr.drew=w23 at HO_3 HO_364000 BK356 BK363 HI0 HK HB hx369_0 hHeld ⊢
       refine pq (i:=0) (N:=some 19) #[true,false,false,false,false,false,false,false,false,false,false,false,false,false,false,false,false,false,false] ?_
       refine pq (i:=2) (N:=some 21) #[true,false,true,false,false,false,false,false,false,false,false,false,false,false,false,false,false,false,false] ?_
       refine pq (i:=3) (N:=some 22) #[true,false,true,true,false,false,false,false,false,false,false,false,false,false,false,false,false,false,false] ?_
       refine pq (i:=4) (N:=some 23) #[true,false,true,true,true,false,false,false,false,false,false,false,false,false,false,false,false,false,false] ?_
       refine pq (i:=6) (N:=some 25) #[true,false,true,true,true,false,true,false,false,false,false,false,false,false,false,false,false,false,false] ?_
       refine pq (i:=7) (N:=some 26) #[true,false,true,true,true,false,true,true,false,false,false,false,false,false,false,false,false,false,false] ?_
       refine pq (i:=8) (N:=some 27) #[true,false,true,true,true,false,true,true,true,false,false,false,false,false,false,false,false,false,false] ?_
       refine pq (i:=10) (N:=some 29) #[true,false,true,true,true,false,true,true,true,false,true,false,false,false,false,false,false,false,false] ?_
       refine pq (i:=11) (N:=some 30) #[true,false,true,true,true,false,true,true,true,false,true,true,false,false,false,false,false,false,false] ?_
       refine jYb (i:=1) (N:=some 20) (v:=?_) (a':=?_) #[true,true,true,true,true,false,true,true,true,false,true,true,false,false,false,false,false,false,false] rfl rfl (jvb HT_.out HW_.out (by kernel_rfl)) (fun _ _ _ h=>h) (Or.inl ⟨by rfl,?_⟩) hHeld ?_ ?_
       rotate_left
       ·rintro w' ⟨s0,s1⟩
        go_simp
        with_reducible rfl
       rotate_left
       ·exact sa
       refine jYb (i:=5) (N:=some 24) (v:=?_) (a':=?_) #[true,true,true,true,true,true,true,true,true,false,true,true,false,false,false,false,false,false,false] rfl rfl (jvb HT_.out HW_.out (by kernel_rfl)) (fun _ _ _ h=>h) (Or.inl ⟨by rfl,?_⟩) hHeld ?_ ?_
       rotate_left
       ·rintro w' ⟨s0,s1⟩
        go_simp
        with_reducible rfl
       rotate_left
       ·exact sa
       refine one_ (i:=9) (N:=some 28) #[true,true,true,true,true,true,true,true,true,true,true,true,false,false,false,false,false,false,false] rfl rfl (jFb HT_.out (by kernel_rfl)) (by decide) (fun K hK=>?_)
       refine goes_ Try.func47 (by kernel_rfl) rfl #[.pointer (some ⟨g,0,none⟩), .int .i64 x6_1] (by rfl) rfl rfl (aq) ?_
       with_reducible refine (jA.calls k1 g s0_0 x1001_1 x6_1 t370 t371 w0 _ ?side1 ?side2 A20.out).mono ?_
       (case side1=>exact Y14)
       (case side2=>exact Y42)
       rintro e w25 ⟨rfl,hi,hb,hk⟩
       have HS1_:=keep_cell hk (hHeld.2) (Y117)
       refine ⟨_,rfl,?_⟩
       replace HO_3:=am (Kd.jD (Kd.jLa (jg.apart (show jg w0 _ g s0_0 x1001_1 from Y14) (rq HO_3.out) (by decide)) hk (fun _ h=>h.2)) (fun _ h=>h.1))
       replace HO_364000:=am (Kd.jD (Kd.jLa (jg.apart (show jg w0 _ g s0_0 x1001_1 from Y14) (rq HO_364000.out) (by decide)) hk (fun _ h=>h.2)) (fun _ h=>h.1))
       replace BK356:=am (jm.blk hk (g':=gb356) (o:=.cells #[.slice none 0 0] 31 (0,0)) (kq BK356.out) NB356_0.out (by simp))
       replace BK363:=am (jm.blk hk (g':=gb363) (o:=.cells #[u364000] 31 (0,0)) (kq BK363.out) NB363_0.out (by simp))
       replace HK:=am (jm.trans (Y27) hk (.inl rfl))
       replace HB:=am (hb)
       replace HI0:=am (hi)
       (try clear hb)
       (try clear hb2)
       (try clear hk)
       (try clear hi)
       refine hK.out _ _ ⟨(jh BK363.out 0).trans rfl,HS1_⟩ (fun hHeld=>?_)
       clear hK K
       refine jjc (a':=?_) ?_ ?_
       rotate_left
       ·show Act.put _ (some 28) _=_
        simp only [Act.put,List.setIfInBounds_toArray,List.set_cons_zero,List.set_cons_succ,jyb,jBb]
        rfl
       refine one_ (i:=12) (N:=some 31) #[true,true,true,true,true,true,true,true,true,true,true,true,true,false,false,false,false,false,false] rfl rfl (jFb HT_.out (by kernel_rfl)) (by decide) (fun K hK=>?_)
       refine Kd.jvc (Kd.int .i64) _ 3 ?hg (N:=31) ?hd (xs:=([0,t370,wrap64 (x6_1 - 1)]:List Int)) (inner:=[.int .i64 0, .int .i64 t370, .int .i64 (wrap64 (x6_1 - 1))]) (ok:=fun _=>True) (okp:=fun _=>True) ?hr ?hp (fun _ hk=>hk) trivial (Below.refl _ _) (Nat.le_refl _) (by simp) ?_;(case hd=>rfl);(case hg=>rfl);(case hr=>exact Y2);(case hp=>exact (Reps.one (show Kd.M (Kd.int .i64) _ _ _ 0 [.int .i64 0] from rfl) (Reps.one (show Kd.M (Kd.int .i64) _ _ _ t370 [.int .i64 t370] from rfl) (Reps.one (show Kd.M (Kd.int .i64) _ _ _ (wrap64 (x6_1 - 1)) [.int .i64 (wrap64 (x6_1 - 1))] from rfl) (Reps.none _ _)))))
       intro v373 w26 ho27 hb hg_ hnew_
       have HS1_:=(hb.cell (World.block_lt_of_cell? _ _ (hHeld.2))).trans (hHeld.2)
       clear hg_ hnew_
       (first | rw [← Ny372.out] at ho27 |(simp only [Int.reduceToNat] at ho27;rw [← Ny372.out] at ho27))
       have HO374:=am (Kd.jua ho27 (jBa (w:=w) (g:=g) (row:=none) (Y27)))
       replace HO_3:=am (Kd.jM (rq HO_3.out) hb)
       replace HO_364000:=am (Kd.jM (rq HO_364000.out) hb)
       replace BK356:=am (je (g:=gb356) (o:=.cells #[.slice none 0 0] 31 (0,0)) (kq BK356.out) hb)
       replace BK363:=am (je (g:=gb363) (o:=.cells #[u364000] 31 (0,0)) (kq BK363.out) hb)
       replace HK:=am (jm.trans (Y27) (jm.of_below hb g none) (.inl rfl))
       replace HB:=am (jk (Y42) hb)
       replace HI0:=am (jg.below (Y14) hb)
       clear hb ho27
       obtain ⟨Ao28,co28,eo28⟩:=Kd.jja HO374.out
       (first | subst eo28 |(injection eo28 with f1_ f2_ f3_;have f4_:=f1_.symm;have f5_:=f3_.symm;clear f1_ f2_ f3_;subst f4_;subst f5_))
       refine hK.out _ _ ⟨(jh BK363.out 0).trans rfl,HS1_⟩ (fun hHeld=>?_)
       clear hK K
       refine jjc (a':=?_) ?_ ?_
       rotate_left
       ·show Act.put _ (some 31) _=_
        simp only [Act.put,List.setIfInBounds_toArray,List.set_cons_zero,List.set_cons_succ,jyb,jBb]
        rfl
       refine one_ (i:=13) (N:=some 32) #[true,true,true,true,true,true,true,true,true,true,true,true,true,true,false,false,false,false,false] rfl rfl (jFb HT_.out (by kernel_rfl)) (by decide) (fun K hK=>?_)
       refine goes_ Try.func77 (by kernel_rfl) rfl #[.pointer (some ⟨g,0,none⟩), .slice Ao28 y372.length co28] (by rfl) rfl rfl (aq) ?_
       with_reducible refine (jG.calls k1 g s0_0 t371 _ _ y372 t375 t376 w0 _ ?side1 ?side2 ?side3 ?side4 ?side5 A21.out).mono ?_
       (case side1=>exact Y14)
       (case side2=>exact Y42)
       (case side3=>exact cq (Kd.jE HO374.out).2.2)
       (case side4=>exact (Kd.jE HO374.out).2.1)
       (case side5=>exact jQb (jg.own_ne HI0.out HO374.out (by decide)))
       rintro e w29 ⟨rfl,hi,hb,hk⟩
       have HS1_:=keep_cell hk (hHeld.2) (Y117)
       refine ⟨_,rfl,?_⟩
       replace HO_3:=am (Kd.jD (Kd.jLa (jg.apart (show jg w0 _ g s0_0 t371 from Y14) (rq HO_3.out) (by decide)) hk (fun _ h=>h.2)) (fun _ h=>h.1))
       replace HO_364000:=am (Kd.jD (Kd.jLa (jg.apart (show jg w0 _ g s0_0 t371 from Y14) (rq HO_364000.out) (by decide)) hk (fun _ h=>h.2)) (fun _ h=>h.1))
       replace BK356:=am (jm.blk hk (g':=gb356) (o:=.cells #[.slice none 0 0] 31 (0,0)) (kq BK356.out) NB356_0.out (by simp))
       replace BK363:=am (jm.blk hk (g':=gb363) (o:=.cells #[u364000] 31 (0,0)) (kq BK363.out) NB363_0.out (by simp))
       replace HO374:=am (Kd.jD (Kd.jLa (jg.apart (show jg w0 _ g s0_0 t371 from Y14) (rq HO374.out) (by decide)) hk (fun _ h=>h.2)) (fun _ h=>h.1))
       replace HK:=am (jm.trans (Y27) hk (.inl rfl))
       replace HB:=am (hb)
       replace HI0:=am (hi)
       (try clear hb)
       (try clear hb2)
       (try clear hk)
       (try clear hi)
       refine hK.out _ _ ⟨(jh BK363.out 0).trans rfl,HS1_⟩ (fun hHeld=>?_)
       clear hK K
       refine jjc (a':=?_) ?_ ?_
       rotate_left
       ·show Act.put _ (some 32) _=_
        simp only [Act.put,List.setIfInBounds_toArray,List.set_cons_zero,List.set_cons_succ,jyb,jBb]
        rfl
       refine pq (i:=14) (N:=some 33) #[true,true,true,true,true,true,true,true,true,true,true,true,true,true,true,false,false,false,false] ?_
       refine one_ (i:=15) (N:=some 34) #[true,true,true,true,true,true,true,true,true,true,true,true,true,true,true,true,false,false,false] rfl rfl (jFb HT_.out (by kernel_rfl)) (by decide) (fun K hK=>?_)
       refine value_ (w1:=?_) (v:=?_) (by rfl) rfl ?_ ?_
       rotate_left 2
       ·go_simp
        constructor
        ·rfl
        ·rfl
       refine hK.out _ _ ⟨(jh (ja BK363.out _) 0).trans rfl,(World.cell?_alloc_lt _ _ _ (World.block_lt_of_cell? _ _ (hHeld.2))).trans (hHeld.2)⟩ (fun hHeld=>?_)
       clear hK K
       refine jjc (a':=?_) ?_ ?_
       rotate_left
       ·show Act.put _ (some 34) _=_
        simp only [Act.put,List.setIfInBounds_toArray,List.set_cons_zero,List.set_cons_succ,jyb,jBb]
        rfl
       refine last_ (i:=16) (N:=some 35) #[true,true,true,true,true,true,true,true,true,true,true,true,true,true,true,true,true,false,false] rfl rfl (jFb HT_.out (by kernel_rfl)) (by decide) (fun K hK=>?_)
       refine Kd.jUb k106 w.heap.size (by rfl) (.tmp 20) (.tmp 34) 29 106 (.agg #[(.string ⟨#[]⟩),(.int .i64 0)]) 24 rfl Try.underlying29 info106 rfl (by decide) (by omega) u364000 x364000_1 (⟨rdOf ByteArray.empty y357 x6_1,t375⟩:S106) [.string (rdOf ByteArray.empty y357 x6_1), .int .i64 t375] (fun _=>True) (fun _=>False) rfl rfl ?aP (fun _ hk=>hk.elim) ?aF ?aO (Below.refl _ _) ?aS ?aL ?_
       (case aP=>exact k106_mkM _ _ _ (⟨rdOf ByteArray.empty y357 x6_1,t375⟩:S106))
       (case aF=>exact (fun _ _=>trivial))
       (case aO=>exact (rq HO_364000.out))
       (case aS=>exact (jBa (w:=w) (g:=g) (row:=none) (Y27)))
       (case aL=>have:=LMc22.out;omega)
       intro v378 w30 ho hb hg hat
       rw [← Ny377.out] at ho
       have n0_:=am (Kd.jhb (rq HO_3.out) (Kd.jfb (rq HO_364000.out)) (by decide) hg)
       have n1_:=am (jla (g:=gb356) (o:=.cells #[.slice none 0 0] 31 (0,0)) (kq BK356.out) hg (Kd.R_ne HO_364000.out BK356.out (by decide)))
       have n2_:=am (jla (g:=gb363) (o:=.cells #[u364000] 31 (0,0)) (kq BK363.out) hg (Kd.R_ne HO_364000.out BK363.out (by decide)))
       have n3_:=am (jg.grown (Y14) hg (jg.own_ne HI0.out HO_364000.out (by decide)))
       have n4_:=am (Kd.jhb (rq HO374.out) (Kd.jfb (rq HO_364000.out)) (by decide) hg)
       have n5_:=am (below_weaken (Y42) HL.out hb)
       have n6_:=am (jm.trans (Y27) (jm.jOb hg g) (Kd.R_base2 HO_364000.out))
       have n7_:=am (ho)
       clear HO_3
       clear BK356
       clear BK363
       clear HI0
       clear HO374
       clear HB
       clear HK
       clear HO_364000
       have HO_3:=n0_
       have BK356:=n1_
       have BK363:=n2_
       have HI0:=n3_
       have HO374:=n4_
       have HB:=n5_
       have HK:=n6_
       have HO379:=n7_
       clear n0_ n1_ n2_ n3_ n4_ n5_ n6_ n7_
       clear ho hb hg hat
       obtain ⟨Ao31,co31,eo31⟩:=Kd.jja HO379.out
       (first | subst eo31 |(injection eo31 with f1_ f2_ f3_;have f4_:=f1_.symm;have f5_:=f3_.symm;clear f1_ f2_ f3_;subst f4_;subst f5_))
       refine hK.out _ _ ?_
       clear hK K
       refine jjc (a':=?_) ?_ ?_
       rotate_left
       ·show Act.put _ (some 35) _=_
        simp only [Act.put,List.setIfInBounds_toArray,List.set_cons_zero,List.set_cons_succ,jyb,jBb]
        rfl
       refine pq (i:=17) (N:=some 36) #[true,true,true,true,true,true,true,true,true,true,true,true,true,true,true,true,true,true,false] ?_
       refine last_ (i:=18) (N:=none) #[true,true,true,true,true,true,true,true,true,true,true,true,true,true,true,true,true,true,true] rfl rfl (jFb HT_.out (by kernel_rfl)) (by decide) (fun K hK=>?_)
       have hs32:w30.cell? ⟨gb363,0,none⟩=some (u364000):=(jh BK363.out 0).trans rfl
       have hfs32:=jd BK363.out 0
       have hns32_0:=NB356_363.out
       have hms32_0:=NB363_356.out
       refine skip_ (w1:=?_) (by rfl) rfl ?_ ?_
       rotate_left
       ·go_simp
        rfl
       refine hK.out _ _ ?_
       clear hK K
       refine done_ (jgc HT_.out (by kernel_rfl)) ?_
       try go_wp2
       go_roundg k1
       case measure=>have:=HK1.out;omega
       case rel=>exact ⟨(wrap64 (x6_1+1)),(t376),(y377),(.slice Ao31 y377.length co31),(sq),H',⟨by have:=HK1.out;omega⟩,⟨by (with_reducible repeat (first | apply Kd.jK | apply Kd.jL | apply Kd.jH));exact Kd.jD (Kd.jB (p:=⟨gb363,0,none⟩) (Kd.jN HO_3.out BK363.out (by decide)) (fun _ hk=>hk.2) (.slice Ao31 y377.length co31)) (fun _ hk=>trivial)⟩,⟨by (with_reducible repeat (first | apply Kd.jK | apply Kd.jL | apply Kd.jH));exact Kd.jD (Kd.jB (p:=⟨gb363,0,none⟩) (Kd.jN HO379.out BK363.out (by decide)) (fun _ hk=>hk.2) (.slice Ao31 y377.length co31)) (fun _ hk=>trivial)⟩,⟨by (with_reducible repeat (first | refine jb ?_ _ | refine jc ?_ | refine ja ?_ _));refine jr ?_ NB356_363.out _;(with_reducible repeat (first | refine jb ?_ _ | refine jc ?_ | refine ja ?_ _));exact BK356.out⟩,⟨by (with_reducible repeat (first | refine jb ?_ _ | refine jc ?_ | refine ja ?_ _));refine jO (cs:=#[u364000]) ?_ 0 _ rfl;(with_reducible repeat (first | refine jb ?_ _ | refine jc ?_ | refine ja ?_ _));exact BK363.out⟩,⟨Y14⟩,⟨Y27⟩,⟨Y42⟩⟩
      ·rw [if_neg c22] at H
       exact absurd H (by simp)
     ·rw [if_neg c19] at H
      exact absurd H (by simp)
    ·rw [if_neg c18] at H
     exact absurd H (by simp)
   ·rw [if_neg c17] at H
    have c17b0:decide (x6_1<t367)=false:=dzF c17
    clear c17
    simp only [Option.some.injEq,Prod.mk.injEq] at H
    obtain ⟨rfl,rfl⟩:=H
    have hnb33:=NB363_356.out
    have hnc33:=NB356_363.out
    have hnb34:=NB363_0.out
    have hnc34:=NB0_363.out
    have hcz35_0:=bc0 BK363.out
    have hfz35_0:=jd BK363.out 0
    obtain ⟨Ao36,co36,eo36⟩:=Kd.jja HO_364000.out
    subst eo36
    have hnb37:=NB356_0.out
    have hnc37:=NB0_356.out
    have hcz38_0:=bc0 BK356.out
    have hfz38_0:=jd BK356.out 0
    go_wp2
    refine bodyPost_ret (results_cell_row rfl _ _ gb356 31 #[.slice Ao36 x364000_1.length co36] (0,0) _ rfl (by (with_reducible repeat (first | refine jb ?_ _ | refine jc ?_ | refine ja ?_ _));refine jO (cs:=#[.slice none 0 0]) ?_ 0 _ rfl;(with_reducible repeat (first | refine jb ?_ _ | refine jc ?_ | refine ja ?_ _));exact BK356.out) Try.underlying31 rfl (by kernel_rfl)) rfl ?_
    exact ⟨_,Y0,by (with_reducible repeat (first | apply Kd.jK | apply Kd.jL | apply Kd.jH));exact Kd.jD (Kd.jB (p:=⟨gb356,0,none⟩) (Kd.jN HO_364000.out BK356.out (by decide)) (fun _ hk=>hk.2) (.slice Ao36 x364000_1.length co36)) (fun _ hk=>trivial),Y14,Y42,Y27⟩
def jab.f (k : Nat) (s0_0 : List Int) (s0_1 : Int) (l1 : List ByteArray) : Option (ByteArray × Int) := (jA.f k s0_0 s0_1 (l1.length : Int)).bind fun bt380 => (if 0 ≤ bt380.1 then (if bt380.1 < (l1.length : Int) then (some (rdOf ByteArray.empty l1 bt380.1, bt380.2)) else (none)) else (none))
set_option maxHeartbeats 8000000 in
set_option maxRecDepth 100000 in
theorem jab.calls (k : Nat) (g : Nat) (s0_0 : List Int) (s0_1 : Int) (A1 : Option Addr) (c1 : Nat) (l1 : List ByteArray) (r1 : ByteArray) (r2 : Int) (w0 w : World) (hI : jg w0 w g s0_0 s0_1) (hB : Below w0.heap.size w0 w) (hr1 : Kd.C Kd.string w A1 l1.length l1) (hc1 : l1.length ≤ c1) (hf1 : ∀ ad, A1 = some ad → 0 < l1.length → ad.block ≠ g) (h : jab.f k s0_0 s0_1 l1 = some (r1, r2)) :
  Calls Try.prog 108 #[.pointer (some ⟨g,0,none⟩), .slice A1 l1.length c1] w fun e w'=>e=.returned (.string r1)∧jg w0 w' g s0_0 r2∧Below w0.heap.size w0 w'∧jm w w' g none:=by
 have HR1:=am hr1
 have HC1:=am hc1
 clear hr1 hc1
 have HI0:=am hI
 have HK:=am (jm.refl w g none)
 have HL:=am hB.size
 clear hI
 have HW0:=am hB.size
 have HB:=am hB
 clear hB
 have H:((jA.f k s0_0 s0_1 (l1.length:Int)).bind fun bt380=>(if 0≤bt380.1 then (if bt380.1<(l1.length:Int) then (some (rdOf ByteArray.empty l1 bt380.1,bt380.2)) else (none)) else (none)))=some (r1,r2):=h
 clear h
 replace H:=bzS H
 obtain ⟨⟨t380,t381⟩,A30,H⟩:=H
 replace H:(if 0≤t380 then (if t380<(l1.length:Int) then (some (rdOf ByteArray.empty l1 t380,t381)) else (none)) else (none))=some (r1,r2):=H
 have A3:=am A30
 clear A30
 by_cases c4:0≤t380
 ·rw [if_pos c4] at H
  have c4b0:decide (0≤t380)=true:=dzT c4
  clear c4
  by_cases c5:t380<(l1.length:Int)
  ·rw [if_pos c5] at H
   have c5b0:decide (t380<(l1.length:Int))=true:=dzT c5
   clear c5
   simp only [Option.some.injEq,Prod.mk.injEq] at H
   obtain ⟨rfl,rfl⟩:=H
   go_enter Try.func108,Try.ntmps108
   go_wp2_with (first |((with_reducible refine jy (f:=47) rfl ?_);refine gL (some 9) Try.func47 #[.pointer (some ⟨g,0,none⟩), .int .i64 (l1.length:Int)] ?_;(with_reducible refine (jA.calls k g s0_0 s0_1 (l1.length:Int) t380 t381 w0 _ ?side1 ?side2 A3.out).mono ?_);(case side1=>exact Y10);(case side2=>exact Y12);rintro e w6 ⟨rfl,hi,hb,hk⟩;refine ⟨_,rfl,?_⟩;replace HK:=am (jm.trans (Y11) hk (.inl rfl));replace HB:=am (hb);replace HI0:=am (hi);(try clear hb);(try clear hb2);(try clear hk);(try clear hi);have p382:0≤(t380:Int):=ozD (uq);have q382:t380<(l1.length:Int):=ozD (uq);obtain ⟨ad382,e382,hx382_0⟩:=Kd.at_string HR1.out t380 p382 q382;cases e382;replace hx382_0:=keep_cell HK.out hx382_0 (by first |(rw [add_block];exact hf1 _ rfl (by omega)) | exact hf1 _ rfl (by omega) | exact hf1 ad382 rfl (by omega));replace p382:=ezT p382;replace q382:=ezT q382))
   go_ret
   exact ⟨Y0,Y10,Y12,Y11⟩
  ·rw [if_neg c5] at H
   exact absurd H (by simp)
 ·rw [if_neg c4] at H
  exact absurd H (by simp)
def joa.f (k : Nat) (s0_0 : List Int) (s0_1 : Int) : Option ((List (S106)) × Int) := (jba.f k s0_0 s0_1).bind fun bt384 => ((jA.f k s0_0 bt384.2 (bt384.1.length : Int)).bind fun bt389 => ((jA.f k s0_0 bt389.2 24).bind fun bt391 => (if bt391.1 = 0 then ((jab.f k s0_0 bt391.2 (([(⟨#[]⟩ : ByteArray), (⟨#[97, 110, 121]⟩ : ByteArray), (⟨#[65]⟩ : ByteArray), (⟨#[116, 111, 111, 108, 111, 110, 103]⟩ : ByteArray)] : List ByteArray))).bind fun bt396 => (if 0 ≤ bt389.1 then (if bt389.1 < (bt384.1.length : Int) then (some ((bt384.1.set (bt389.1 : Int).toNat (⟨bt396.1, (jQ bt384.1 bt389.1).f1⟩ : S106)), bt396.2)) else (none)) else (none))) else (if bt391.1 = 1 then ((jG.f k s0_0 bt391.2 (([bt389.1, (-1), 8, (-2)] : List Int))).bind fun bt402 => (if 0 ≤ bt389.1 then (if bt389.1 < (bt384.1.length : Int) then (some ((bt384.1.set (bt389.1 : Int).toNat (⟨(jQ bt384.1 bt389.1).f0, bt402.1⟩ : S106)), bt402.2)) else (none)) else (none))) else (if bt391.1 = 2 then (some (([] : List (S106)), bt391.2)) else (some (bt384.1, bt391.2)))))))
def joa.T5 : Bool × List (List Nat × List Nat) := (true, [([], []), ([0], [0]), ([], []), ([], []), ([], []), ([3, 4], [3, 4]), ([1, 2, 0, 1, 2, 3, 4, 5], [1, 2]), ([6, 0, 1, 2, 3, 4, 5], [6]), ([7, 5, 5, 0, 1, 2, 3, 4, 5], [5, 7])])
def joa.B5 : List Nat := [0, 1, 0, 0, 0, 24, 63, 127, 255]
theorem joa.tab5 : rtab .any (opsOf Try.f76 5) = joa.T5 := by kernel_rfl
theorem joa.bits5 : jec joa.T5.2 joa.B5 = true := by kernel_rfl
def joa.T7 : Bool × List (List Nat × List Nat) := (true, [([], []), ([0], [0]), ([], []), ([], []), ([], []), ([4], [4]), ([3, 5], [3, 5]), ([1, 2, 0, 1, 2, 3, 4, 5, 6], [1, 2]), ([7, 0, 1, 2, 3, 4, 5, 6], [7]), ([8, 6, 6, 0, 1, 2, 3, 4, 5, 6], [6, 8])])
def joa.B7 : List Nat := [0, 1, 0, 0, 0, 16, 56, 127, 255, 511]
theorem joa.tab7 : rtab .any (opsOf Try.f76 7) = joa.T7 := by kernel_rfl
theorem joa.bits7 : jec joa.T7.2 joa.B7 = true := by kernel_rfl
set_option maxHeartbeats 8000000 in
set_option maxRecDepth 100000 in
theorem joa.calls (k : Nat) (g : Nat) (s0_0 : List Int) (s0_1 : Int) (r1 : List (S106)) (r2 : Int) (w0 w : World) (hI : jg w0 w g s0_0 s0_1) (hB : Below w0.heap.size w0 w) (h : joa.f k s0_0 s0_1 = some (r1, r2)) :
  Calls Try.prog 76 #[.pointer (some ⟨g,0,none⟩)] w fun e w'=>∃ v0_:Value,e=.returned (.agg #[v0_])∧Kd.R k106 106 w' w.heap.size (fun _=>True) v0_ r1∧jg w0 w' g s0_0 r2∧Below w0.heap.size w0 w'∧jm w w' g none:=by
 have hu31:=Try.underlying31
 have HI0:=am hI
 have HK:=am (jm.refl w g none)
 have HL:=am hB.size
 clear hI
 have HW0:=am hB.size
 have HB:=am hB
 clear hB
 have H:((jba.f k s0_0 s0_1).bind fun bt384=>((jA.f k s0_0 bt384.2 (bt384.1.length:Int)).bind fun bt389=>((jA.f k s0_0 bt389.2 24).bind fun bt391=>(if bt391.1=0 then ((jab.f k s0_0 bt391.2 (([(⟨#[]⟩:ByteArray),(⟨#[97,110,121]⟩:ByteArray),(⟨#[65]⟩:ByteArray),(⟨#[116,111,111,108,111,110,103]⟩:ByteArray)]:List ByteArray))).bind fun bt396=>(if 0≤bt389.1 then (if bt389.1<(bt384.1.length:Int) then (some ((bt384.1.set (bt389.1:Int).toNat (⟨bt396.1,(jQ bt384.1 bt389.1).f1⟩:S106)),bt396.2)) else (none)) else (none))) else (if bt391.1=1 then ((jG.f k s0_0 bt391.2 (([bt389.1,(-1),8,(-2)]:List Int))).bind fun bt402=>(if 0≤bt389.1 then (if bt389.1<(bt384.1.length:Int) then (some ((bt384.1.set (bt389.1:Int).toNat (⟨(jQ bt384.1 bt389.1).f0,bt402.1⟩:S106)),bt402.2)) else (none)) else (none))) else (if bt391.1=2 then (some (([]:List (S106)),bt391.2)) else (some (bt384.1,bt391.2))))))))=some (r1,r2):=h
 clear h
 replace H:=bzS H
 obtain ⟨⟨t384,t387⟩,A20,H⟩:=H
 replace H:((jA.f k s0_0 t387 (t384.length:Int)).bind fun bt389=>((jA.f k s0_0 bt389.2 24).bind fun bt391=>(if bt391.1=0 then ((jab.f k s0_0 bt391.2 (([(⟨#[]⟩:ByteArray),(⟨#[97,110,121]⟩:ByteArray),(⟨#[65]⟩:ByteArray),(⟨#[116,111,111,108,111,110,103]⟩:ByteArray)]:List ByteArray))).bind fun bt396=>(if 0≤bt389.1 then (if bt389.1<(t384.length:Int) then (some ((t384.set (bt389.1:Int).toNat (⟨bt396.1,(jQ t384 bt389.1).f1⟩:S106)),bt396.2)) else (none)) else (none))) else (if bt391.1=1 then ((jG.f k s0_0 bt391.2 (([bt389.1,(-1),8,(-2)]:List Int))).bind fun bt402=>(if 0≤bt389.1 then (if bt389.1<(t384.length:Int) then (some ((t384.set (bt389.1:Int).toNat (⟨(jQ t384 bt389.1).f0,bt402.1⟩:S106)),bt402.2)) else (none)) else (none))) else (if bt391.1=2 then (some (([]:List (S106)),bt391.2)) else (some (t384,bt391.2)))))))=some (r1,r2):=H
 have A2:=am A20
 clear A20
 replace H:=bzS H
 obtain ⟨⟨t389,t390⟩,A30,H⟩:=H
 replace H:((jA.f k s0_0 t390 24).bind fun bt391=>(if bt391.1=0 then ((jab.f k s0_0 bt391.2 (([(⟨#[]⟩:ByteArray),(⟨#[97,110,121]⟩:ByteArray),(⟨#[65]⟩:ByteArray),(⟨#[116,111,111,108,111,110,103]⟩:ByteArray)]:List ByteArray))).bind fun bt396=>(if 0≤t389 then (if t389<(t384.length:Int) then (some ((t384.set (t389:Int).toNat (⟨bt396.1,(jQ t384 t389).f1⟩:S106)),bt396.2)) else (none)) else (none))) else (if bt391.1=1 then ((jG.f k s0_0 bt391.2 (([t389,(-1),8,(-2)]:List Int))).bind fun bt402=>(if 0≤t389 then (if t389<(t384.length:Int) then (some ((t384.set (t389:Int).toNat (⟨(jQ t384 t389).f0,bt402.1⟩:S106)),bt402.2)) else (none)) else (none))) else (if bt391.1=2 then (some (([]:List (S106)),bt391.2)) else (some (t384,bt391.2))))))=some (r1,r2):=H
 have A3:=am A30
 clear A30
 replace H:=bzS H
 obtain ⟨⟨t391,t392⟩,A40,H⟩:=H
 replace H:(if t391=0 then ((jab.f k s0_0 t392 (([(⟨#[]⟩:ByteArray),(⟨#[97,110,121]⟩:ByteArray),(⟨#[65]⟩:ByteArray),(⟨#[116,111,111,108,111,110,103]⟩:ByteArray)]:List ByteArray))).bind fun bt396=>(if 0≤t389 then (if t389<(t384.length:Int) then (some ((t384.set (t389:Int).toNat (⟨bt396.1,(jQ t384 t389).f1⟩:S106)),bt396.2)) else (none)) else (none))) else (if t391=1 then ((jG.f k s0_0 t392 (([t389,(-1),8,(-2)]:List Int))).bind fun bt402=>(if 0≤t389 then (if t389<(t384.length:Int) then (some ((t384.set (t389:Int).toNat (⟨(jQ t384 t389).f0,bt402.1⟩:S106)),bt402.2)) else (none)) else (none))) else (if t391=2 then (some (([]:List (S106)),t392)) else (some (t384,t392)))))=some (r1,r2):=H
 have A4:=am A40
 clear A40
 by_cases c5:t391=0
 ·rw [if_pos c5] at H
  have c5b0:(t391 == 0)=true:=beq_iff_eq.mpr c5
  have c5b1:(t391 != 0)=false:=bne_eq_false_iff_eq.mpr c5
  clear c5
  obtain ⟨y393,hy393⟩:∃ y_:List ByteArray,y_=(([(⟨#[]⟩:ByteArray),(⟨#[97,110,121]⟩:ByteArray),(⟨#[65]⟩:ByteArray),(⟨#[116,111,111,108,111,110,103]⟩:ByteArray)]:List ByteArray)):=⟨_,rfl⟩
  replace H:((jab.f k s0_0 t392 y393).bind fun bt396=>(if 0≤t389 then (if t389<(t384.length:Int) then (some ((t384.set (t389:Int).toNat (⟨bt396.1,(jQ t384 t389).f1⟩:S106)),bt396.2)) else (none)) else (none)))=some (r1,r2):=by first |(rw [hy393];with_reducible exact H) |(have H2_:=(Option.bind_some _ _).symm.trans H;rw [hy393];with_reducible exact H2_) |(have H2_:=(Option.bind_some _ _).symm.trans H;with_reducible exact H2_) | with_reducible exact H |(rw [hy393];exact H) | exact H
  have Ny393:=am hy393
  clear hy393
  replace H:=bzS H
  obtain ⟨⟨t396,t397⟩,A60,H⟩:=H
  replace H:(if 0≤t389 then (if t389<(t384.length:Int) then (some ((t384.set (t389:Int).toNat (⟨t396,(jQ t384 t389).f1⟩:S106)),t397)) else (none)) else (none))=some (r1,r2):=H
  have A6:=am A60
  clear A60
  by_cases c7:0≤t389
  ·rw [if_pos c7] at H
   have c7b0:decide (0≤t389)=true:=dzT c7
   clear c7
   by_cases c8:t389<(t384.length:Int)
   ·rw [if_pos c8] at H
    have c8b0:decide (t389<(t384.length:Int))=true:=dzT c8
    clear c8
    obtain ⟨y398,hy398⟩:∃ y_:List (S106),y_=(t384.set (t389:Int).toNat (⟨t396,(jQ t384 t389).f1⟩:S106)):=⟨_,rfl⟩
    replace H:(some (y398,t397))=some (r1,r2):=by first |(rw [hy398];with_reducible exact H) |(have H2_:=(Option.bind_some _ _).symm.trans H;rw [hy398];with_reducible exact H2_) |(have H2_:=(Option.bind_some _ _).symm.trans H;with_reducible exact H2_) | with_reducible exact H |(rw [hy398];exact H) | exact H
    have Ny398:=am hy398
    clear hy398
    simp only [Option.some.injEq,Prod.mk.injEq] at H
    obtain ⟨rfl,rfl⟩:=H
    go_enter Try.func76,Try.ntmps76
    try go_wp2_with (first |((with_reducible refine jP (N:=2) rfl ?_);refine bE (N:=2) (cs:=#[.slice none 0 0]) (t:=31) ?_;intro gb383 hg w10 hbox hb;have BK383:=am (hbox);have GW383:=am ((Y7:w.heap.size≤gb383));have GE383:=am ((Nat.le_trans HW0.out (Y7:w.heap.size≤gb383):w0.heap.size≤gb383));have NB0_383:=am ((Y24:g≠gb383));have NB383_0:=am ((Y25:gb383≠g));replace HK:=am (jm.trans (Y11) (jm.of_below hb g none) (.inl rfl));replace HB:=am (jk (Y12) hb);replace HI0:=am (jg.below (Y10) hb);clear hb hbox hg) |((with_reducible refine jy (f:=107) rfl ?_);refine gL (some 6) Try.func107 #[.pointer (some ⟨g,0,none⟩)] ?_;(with_reducible refine (jba.calls k g s0_0 s0_1 t384 t387 w0 _ ?side1 ?side2 A2.out).mono ?_);(case side1=>exact Y45);(case side2=>exact Y46);rintro e w11 ⟨v385,rfl,ho0,hi,hb,hk⟩;refine ⟨_,rfl,?_⟩;have HO386:=am (Kd.jua ho0 (jBa (w:=w) (g:=g) (row:=none) (Y28)));replace BK383:=am (jm.blk hk (g':=gb383) (o:=.cells #[.slice none 0 0] 31 (0,0)) (kq BK383.out) NB383_0.out (by simp));replace HK:=am (jm.trans (Y28) hk (.inl rfl));replace HB:=am (hb);replace HI0:=am (hi);(try clear hb);(try clear hb2);(try clear hk);(try clear hi);(try clear ho0)) |((with_reducible refine jP (N:=3) rfl ?_);refine bE (N:=3) (cs:=#[.slice none 0 0]) (t:=31) ?_;intro gb388 hg w12 hbox hb;have BK388:=am (hbox);have GW388:=am ((Y47:w.heap.size≤gb388));have GE388:=am ((Nat.le_trans HW0.out (Y47:w.heap.size≤gb388):w0.heap.size≤gb388));have NB383_388:=am ((Y77:gb383≠gb388));have NB388_383:=am ((Y78:gb388≠gb383));have NB0_388:=am ((Y79:g≠gb388));have NB388_0:=am ((Y80:gb388≠g));replace HO386:=am (Kd.jM (rq HO386.out) hb);replace BK383:=am (je (g:=gb383) (o:=.cells #[.slice none 0 0] 31 (0,0)) (kq BK383.out) hb);replace HK:=am (jm.trans (Y28) (jm.of_below hb g none) (.inl rfl));replace HB:=am (jk (Y46) hb);replace HI0:=am (jg.below (Y45) hb);clear hb hbox hg;obtain ⟨Ao13,co13,eo13⟩:=Kd.jja HO386.out;subst eo13;have hnb14:=NB388_383.out;have hnc14:=NB383_388.out;have hnb15:=NB388_0.out;have hnc15:=NB0_388.out;have hcz16_0:=bc0 BK388.out;have hfz16_0:=jd BK388.out 0) |((with_reducible refine jy (f:=47) rfl ?_);refine gL (some 11) Try.func47 #[.pointer (some ⟨g,0,none⟩), .int .i64 (t384.length:Int)] ?_;(with_reducible refine (jA.calls k g s0_0 t387 (t384.length:Int) t389 t390 w0 _ ?side1 ?side2 A3.out).mono ?_);(case side1=>exact Y6);(case side2=>exact Y17);rintro e w17 ⟨rfl,hi,hb,hk⟩;refine ⟨_,rfl,?_⟩;replace BK383:=am (jm.blk hk (g':=gb383) (o:=.cells #[.slice none 0 0] 31 (0,0)) (Y81) NB383_0.out (by simp));replace HO386:=am (Kd.jD (Kd.jLa (jg.apart (show jg w0 _ g s0_0 t387 from Y6) (by (with_reducible repeat (first | apply Kd.jK | apply Kd.jL | apply Kd.jH));exact (Kd.jD (Kd.jB (p:=⟨gb388,0,none⟩) (Kd.jN HO386.out BK388.out (by decide)) (fun _ hk=>hk.2) (.slice Ao13 t384.length co13)) (fun _ h_=>h_.1))) (by decide)) hk (fun _ h=>h.2)) (fun _ h=>h.1));replace BK388:=am (jm.blk hk (g':=gb388) (o:=.cells #[.slice Ao13 t384.length co13] 31 (0,0)) (Y82) NB388_0.out (by simp));replace HK:=am (jm.trans (Y13) hk (.inl rfl));replace HB:=am (hb);replace HI0:=am (hi);(try clear hb);(try clear hb2);(try clear hk);(try clear hi)) |((with_reducible refine jy (f:=47) rfl ?_);refine gL (some 13) Try.func47 #[.pointer (some ⟨g,0,none⟩), .int .i64 24] ?_;(with_reducible refine (jA.calls k g s0_0 t390 24 t391 t392 w0 _ ?side1 ?side2 A4.out).mono ?_);(case side1=>exact Y6);(case side2=>exact Y17);rintro e w18 ⟨rfl,hi,hb,hk⟩;refine ⟨_,rfl,?_⟩;replace BK383:=am (jm.blk hk (g':=gb383) (o:=.cells #[.slice none 0 0] 31 (0,0)) (kq BK383.out) NB383_0.out (by simp));replace HO386:=am (Kd.jD (Kd.jLa (jg.apart (show jg w0 _ g s0_0 t390 from Y6) (rq HO386.out) (by decide)) hk (fun _ h=>h.2)) (fun _ h=>h.1));replace BK388:=am (jm.blk hk (g':=gb388) (o:=.cells #[.slice Ao13 t384.length co13] 31 (0,0)) (kq BK388.out) NB388_0.out (by simp));replace HK:=am (jm.trans (Y13) hk (.inl rfl));replace HB:=am (hb);replace HI0:=am (hi);(try clear hb);(try clear hb2);(try clear hk);(try clear hi)))
    replace HO386:=am (Kd.jH HO386.out)
    replace BK383:=am (jc BK383.out)
    replace BK388:=am (jc BK388.out)
    replace HI0:=am (jg.drew HI0.out)
    replace HK:=am (jZa HK.out)
    replace HB:=am (jF HB.out)
    refine jkc (n:=9) (S:=fun w'=>w'.cell? ⟨gb388,0,none⟩=some (.slice Ao13 t384.length co13)) (ds:=[8]) #[false,false,false,false,false,false,false,false,false] (by kernel_rfl) rfl rfl ((jh BK388.out 0).trans rfl) (fun hHeld=>?_);refine jJb joa.tab5 joa.bits5 (fun HT_ HW_=>?_)
    generalize w18.drew=w19 at HO386 BK383 BK388 HI0 HK HB hHeld ⊢
    refine pq (i:=0) (N:=some 16) #[true,false,false,false,false,false,false,false,false] ?_
    refine pq (i:=2) (N:=some 18) #[true,false,true,false,false,false,false,false,false] ?_
    refine pq (i:=3) (N:=some 19) #[true,false,true,true,false,false,false,false,false] ?_
    refine jYb (i:=1) (N:=some 17) (v:=?_) (a':=?_) #[true,true,true,true,false,false,false,false,false] rfl rfl (jvb HT_.out HW_.out (by kernel_rfl)) (fun _ _ _ h=>h) (Or.inl ⟨by rfl,?_⟩) hHeld ?_ ?_
    rotate_left
    ·intro w' s0
     go_simp
     with_reducible rfl
    rotate_left
    ·exact sa
    refine one_ (i:=4) (N:=some 20) #[true,true,true,true,true,false,false,false,false] rfl rfl (jFb HT_.out (by kernel_rfl)) (by decide) (fun K hK=>?_)
    refine Kd.jvc Kd.string _ 9 ?hg (N:=20) ?hd (xs:=([(⟨#[]⟩:ByteArray),(⟨#[97,110,121]⟩:ByteArray),(⟨#[65]⟩:ByteArray),(⟨#[116,111,111,108,111,110,103]⟩:ByteArray)]:List ByteArray)) (inner:=[.string (⟨#[]⟩:ByteArray), .string (⟨#[97,110,121]⟩:ByteArray), .string (⟨#[65]⟩:ByteArray), .string (⟨#[116,111,111,108,111,110,103]⟩:ByteArray)]) (ok:=fun _=>True) (okp:=fun _=>True) ?hr ?hp (fun _ hk=>hk) trivial (Below.refl _ _) (Nat.le_refl _) (by simp) ?_;(case hd=>rfl);(case hg=>rfl);(case hr=>exact Y2);(case hp=>exact (Reps.one (show Kd.M Kd.string _ _ _ (⟨#[]⟩:ByteArray) [.string (⟨#[]⟩:ByteArray)] from rfl) (Reps.one (show Kd.M Kd.string _ _ _ (⟨#[97,110,121]⟩:ByteArray) [.string (⟨#[97,110,121]⟩:ByteArray)] from rfl) (Reps.one (show Kd.M Kd.string _ _ _ (⟨#[65]⟩:ByteArray) [.string (⟨#[65]⟩:ByteArray)] from rfl) (Reps.one (show Kd.M Kd.string _ _ _ (⟨#[116,111,111,108,111,110,103]⟩:ByteArray) [.string (⟨#[116,111,111,108,111,110,103]⟩:ByteArray)] from rfl) (Reps.none _ _))))))
    intro v394 w20 ho21 hb hg_ hnew_
    clear hg_ hnew_
    (first | rw [← Ny393.out] at ho21 |(simp only [Int.reduceToNat] at ho21;rw [← Ny393.out] at ho21))
    have HO395:=am (Kd.jua ho21 (jBa (w:=w) (g:=g) (row:=none) (Y13)))
    replace HO386:=am (Kd.jM (rq HO386.out) hb)
    replace BK383:=am (je (g:=gb383) (o:=.cells #[.slice none 0 0] 31 (0,0)) (kq BK383.out) hb)
    replace BK388:=am (je (g:=gb388) (o:=.cells #[.slice Ao13 t384.length co13] 31 (0,0)) (kq BK388.out) hb)
    replace HK:=am (jm.trans (Y13) (jm.of_below hb g none) (.inl rfl))
    replace HB:=am (jk (Y17) hb)
    replace HI0:=am (jg.below (Y6) hb)
    clear hb ho21
    obtain ⟨Ao22,co22,eo22⟩:=Kd.jja HO395.out
    (first | subst eo22 |(injection eo22 with f1_ f2_ f3_;have f4_:=f1_.symm;have f5_:=f3_.symm;clear f1_ f2_ f3_;subst f4_;subst f5_))
    refine hK.out _ _ ((jh BK388.out 0).trans rfl) (fun hHeld=>?_)
    clear hK K
    refine jjc (a':=?_) ?_ ?_
    rotate_left
    ·show Act.put _ (some 20) _=_
     simp only [Act.put,List.setIfInBounds_toArray,List.set_cons_zero,List.set_cons_succ,jyb,jBb]
     rfl
    refine one_ (i:=5) (N:=some 21) #[true,true,true,true,true,true,false,false,false] rfl rfl (jFb HT_.out (by kernel_rfl)) (by decide) (fun K hK=>?_)
    refine goes_ Try.func108 (by kernel_rfl) rfl #[.pointer (some ⟨g,0,none⟩), .slice Ao22 y393.length co22] (by rfl) rfl rfl (aq) ?_
    with_reducible refine (jab.calls k g s0_0 t392 _ _ y393 t396 t397 w0 _ ?side1 ?side2 ?side3 ?side4 ?side5 A6.out).mono ?_
    (case side1=>exact Y6)
    (case side2=>exact Y17)
    (case side3=>exact cq (Kd.jE HO395.out).2.2)
    (case side4=>exact (Kd.jE HO395.out).2.1)
    (case side5=>exact jQb (jg.own_ne HI0.out HO395.out (by decide)))
    rintro e w23 ⟨rfl,hi,hb,hk⟩
    refine ⟨_,rfl,?_⟩
    replace BK383:=am (jm.blk hk (g':=gb383) (o:=.cells #[.slice none 0 0] 31 (0,0)) (kq BK383.out) NB383_0.out (by simp))
    replace HO386:=am (Kd.jD (Kd.jLa (jg.apart (show jg w0 _ g s0_0 t392 from Y6) (rq HO386.out) (by decide)) hk (fun _ h=>h.2)) (fun _ h=>h.1))
    replace BK388:=am (jm.blk hk (g':=gb388) (o:=.cells #[.slice Ao13 t384.length co13] 31 (0,0)) (kq BK388.out) NB388_0.out (by simp))
    replace HO395:=am (Kd.jD (Kd.jLa (jg.apart (show jg w0 _ g s0_0 t392 from Y6) (rq HO395.out) (by decide)) hk (fun _ h=>h.2)) (fun _ h=>h.1))
    replace HK:=am (jm.trans (Y13) hk (.inl rfl))
    replace HB:=am (hb)
    replace HI0:=am (hi)
    (try clear hb)
    (try clear hb2)
    (try clear hk)
    (try clear hi)
    have p9:0≤(t389:Int):=ozD (uq)
    have q9:(t389:Int)<((t384.length:Int):Int):=ozD (uq)
    obtain ⟨go9,co9,eo9,gb9,gl9,cl9,HG9⟩:=Kd.R_form HO386.out (by omega)
    (first | cases eo9 |(injection eo9 with ea_ en_ ec_;(first | subst ea_ |(injection ea_ with ea_;subst ea_));subst ec_;clear en_))
    have GB9:=am gb9
    have GG9:=am HG9
    clear gb9 gl9 HG9
    obtain ⟨ce9,hcl9,hM9,hcc9,hfr9⟩:=Kd.R_elem HO386.out z106 (t389:Int) p9 q9
    obtain rfl:=k106_openM hM9
    have hx9_0:World.cell? _ ⟨go9,(t389:Int).toNat * 2,none⟩=some (.string ((jQ t384 t389).f0)):=hcc9 0 _ rfl
    have hx9_1:World.cell? _ ⟨go9,(t389:Int).toNat * 2+1,none⟩=some (.int .i64 ((jQ t384 t389).f1)):=hcc9 1 _ rfl
    have hf9_0:World.frozen? _ ⟨go9,(t389:Int).toNat * 2,none⟩=false:=hfr9 0
    have hf9_1:World.frozen? _ ⟨go9,(t389:Int).toNat * 2+1,none⟩=false:=hfr9 1
    clear hcl9 hcc9 hfr9 hM9
    replace p9:=ezT p9
    replace q9:=ezT q9
    have HN0_go9:=am (show g≠go9 from by have h_:=jg.own_ne HI0.out HO386.out (by decide);intro e_;exact h_ (by rw [e_];rfl))
    obtain ⟨ce24,hcl24,hM24,hcc24,hfr24⟩:=Kd.R_elem HO386.out z106 (t389:Int) (ozD (uq)) (by have h_:(t389:Int)<((t384.length:Int):Int):=ozD (uq);first | exact h_ |(have e_:=(Kd.jE HO386.out).1;omega) | simpa using h_)
    obtain rfl:=k106_openM hM24
    have HP24:=(Kd.R_seg HO386.out (t389:Int) (ozD (uq)) (by have h_:(t389:Int)<((t384.length:Int):Int):=ozD (uq);first | exact h_ |(have e_:=(Kd.jE HO386.out).1;omega) | simpa using h_) (seg:=[.string t396]) (j:=0) hcl24 hcc24 (show 1≤2 from by decide) (x':=(⟨t396,(jQ t384 t389).f1⟩:S106)) (k106_mkM _ _ _ (⟨t396,(jQ t384 t389).f1⟩:S106) ) (fun _ hk=>hk)).1
    rw [← Ny398.out] at HP24
    have HQ24:=am HP24
    clear hcl24 hcc24 hfr24 hM24 HP24
    refine hK.out _ _ ((jh BK388.out 0).trans rfl) (fun hHeld=>?_)
    clear hK K
    refine jjc (a':=?_) ?_ ?_
    rotate_left
    ·show Act.put _ (some 21) _=_
     simp only [Act.put,List.setIfInBounds_toArray,List.set_cons_zero,List.set_cons_succ,jyb,jBb]
     rfl
    refine pq (i:=6) (N:=some 22) #[true,true,true,true,true,true,true,false,false] ?_
    refine pq (i:=7) (N:=some 23) #[true,true,true,true,true,true,true,true,false] ?_
    refine last_ (i:=8) (N:=none) #[true,true,true,true,true,true,true,true,true] rfl rfl (jFb HT_.out (by kernel_rfl)) (by decide) (fun K hK=>?_)
    refine skip_ (w1:=?_) (by rfl) rfl ?_ ?_
    rotate_left
    ·go_simp
     rfl
    refine hK.out _ _ ?_
    clear hK K
    refine done_ (jgc HT_.out (by kernel_rfl)) ?_
    have n0_:jv (Kd.R k106 106 (w23.setCell ⟨go9,(t389:Int).toNat * 2,none⟩ (.string t396)) w.heap.size (fun _=>True) (.slice (some ⟨go9,0,none⟩) t384.length co13) y398):=⟨rq HQ24.out⟩
    have n1_:jv (Kd.R Kd.string 9 (w23.setCell ⟨go9,(t389:Int).toNat * 2,none⟩ (.string t396)) w.heap.size (fun _=>True) (.slice Ao22 y393.length co22) y393):=⟨by (with_reducible repeat (first | apply Kd.jK | apply Kd.jL | apply Kd.jH));exact Kd.jD (Kd.jB (p:=⟨go9,(t389:Int).toNat * 2,none⟩) (Kd.jN HO395.out GG9.out (by decide)) (fun _ hk=>hk.2) (.string t396)) (fun _ hk=>trivial)⟩
    have n2_:jv ((w23.setCell ⟨go9,(t389:Int).toNat * 2,none⟩ (.string t396)).heap[gb383]?=some (.cells #[.slice none 0 0] 31 (0,0))):=⟨by (with_reducible repeat (first | refine jb ?_ _ | refine jc ?_ | refine ja ?_ _));refine jr ?_ (by have h_:=Kd.R_ne HO386.out BK383.out (by decide);intro e_;exact h_ (by rw [e_];rfl)) _;(with_reducible repeat (first | refine jb ?_ _ | refine jc ?_ | refine ja ?_ _));exact BK383.out⟩
    have n3_:jv ((w23.setCell ⟨go9,(t389:Int).toNat * 2,none⟩ (.string t396)).heap[gb388]?=some (.cells #[.slice (some ⟨go9,0,none⟩) t384.length co13] 31 (0,0))):=⟨by (with_reducible repeat (first | refine jb ?_ _ | refine jc ?_ | refine ja ?_ _));refine jr ?_ (by have h_:=Kd.R_ne HO386.out BK388.out (by decide);intro e_;exact h_ (by rw [e_];rfl)) _;(with_reducible repeat (first | refine jb ?_ _ | refine jc ?_ | refine ja ?_ _));exact BK388.out⟩
    have n4_:jv (jg w0 (w23.setCell ⟨go9,(t389:Int).toNat * 2,none⟩ (.string t396)) g s0_0 t397):=⟨by repeat (first |(with_reducible first | exact HI0.out | apply jg.alloc | apply jg.drewN | apply jg.drew | apply jg.jTb | refine jg.far ?_ HN0_go9.out _ | refine jg.far ?_ NB0_383.out _ | refine jg.far ?_ NB0_388.out _) | exact HI0.out)⟩
    have n5_:jv (jm w (w23.setCell ⟨go9,(t389:Int).toNat * 2,none⟩ (.string t396)) g none):=⟨by repeat (first |(with_reducible first | exact HK.out | apply jm.set_ | apply jXa | apply jZa | apply jYa | refine jTa ?_ GB9.out _ | refine jTa ?_ GW383.out _ | refine jTa ?_ GW388.out _) | exact HK.out)⟩
    have n6_:jv (Below w0.heap.size w0 (w23.setCell ⟨go9,(t389:Int).toNat * 2,none⟩ (.string t396))):=⟨by repeat (first |(with_reducible first | exact HB.out | apply jJ | apply jw | apply jF | refine jq ?_ (Nat.le_trans HL.out GB9.out) | refine jq ?_ (jg.ge HI0.out) | refine jq ?_ GE383.out | refine jq ?_ GE388.out) | exact HB.out)⟩
    (try clear HO386)
    (try clear HO395)
    (try clear BK383)
    (try clear BK388)
    (try clear HI0)
    (try clear HK)
    (try clear HB)
    generalize (w23.setCell ⟨go9,(t389:Int).toNat * 2,none⟩ (.string t396))=w25 at n0_ n1_ n2_ n3_ n4_ n5_ n6_ ⊢
    have HO386:=n0_
    have HO395:=n1_
    have BK383:=n2_
    have BK388:=n3_
    have HI0:=n4_
    have HK:=n5_
    have HB:=n6_
    clear n0_ n1_ n2_ n3_ n4_ n5_ n6_
    have hcz26_0:=bc0 BK388.out
    have hfz26_0:=jd BK388.out 0
    have hnb27:=NB383_0.out
    have hnc27:=NB0_383.out
    have hcz28_0:=bc0 BK383.out
    have hfz28_0:=jd BK383.out 0
    try go_wp2
    refine bodyPost_ret (results_cell_row rfl _ _ gb383 31 #[.slice (some ⟨go9,0,none⟩) t384.length co13] (0,0) _ rfl (Y83) Try.underlying31 rfl (by kernel_rfl)) rfl ?_
    exact ⟨_,Y0,by (with_reducible repeat (first | apply Kd.jK | apply Kd.jL | apply Kd.jH));exact Kd.jD (Kd.jB (p:=⟨gb383,0,none⟩) (Kd.jN HO386.out BK383.out (by decide)) (fun _ hk=>hk.2) (.slice (some ⟨go9,0,none⟩) t384.length co13)) (fun _ hk=>trivial),Y6,Y17,Y13⟩
   ·rw [if_neg c8] at H
    exact absurd H (by simp)
  ·rw [if_neg c7] at H
   exact absurd H (by simp)
 ·rw [if_neg c5] at H
  have c5b0:(t391 == 0)=false:=beq_eq_false_iff_ne.mpr c5
  have c5b1:(t391 != 0)=true:=bne_iff_ne.mpr c5
  by_cases c29:t391=1
  ·rw [if_pos c29] at H
   have c29b0:(t391 == 1)=true:=beq_iff_eq.mpr c29
   have c29b1:(t391 != 1)=false:=bne_eq_false_iff_eq.mpr c29
   clear c29
   obtain ⟨y399,hy399⟩:∃ y_:List Int,y_=(([t389,(-1),8,(-2)]:List Int)):=⟨_,rfl⟩
   replace H:((jG.f k s0_0 t392 y399).bind fun bt402=>(if 0≤t389 then (if t389<(t384.length:Int) then (some ((t384.set (t389:Int).toNat (⟨(jQ t384 t389).f0,bt402.1⟩:S106)),bt402.2)) else (none)) else (none)))=some (r1,r2):=by first |(rw [hy399];with_reducible exact H) |(have H2_:=(Option.bind_some _ _).symm.trans H;rw [hy399];with_reducible exact H2_) |(have H2_:=(Option.bind_some _ _).symm.trans H;with_reducible exact H2_) | with_reducible exact H |(rw [hy399];exact H) | exact H
   have Ny399:=am hy399
   clear hy399
   replace H:=bzS H
   obtain ⟨⟨t402,t403⟩,A300,H⟩:=H
   replace H:(if 0≤t389 then (if t389<(t384.length:Int) then (some ((t384.set (t389:Int).toNat (⟨(jQ t384 t389).f0,t402⟩:S106)),t403)) else (none)) else (none))=some (r1,r2):=H
   have A30:=am A300
   clear A300
   by_cases c31:0≤t389
   ·rw [if_pos c31] at H
    have c31b0:decide (0≤t389)=true:=dzT c31
    clear c31
    by_cases c32:t389<(t384.length:Int)
    ·rw [if_pos c32] at H
     have c32b0:decide (t389<(t384.length:Int))=true:=dzT c32
     clear c32
     obtain ⟨y404,hy404⟩:∃ y_:List (S106),y_=(t384.set (t389:Int).toNat (⟨(jQ t384 t389).f0,t402⟩:S106)):=⟨_,rfl⟩
     replace H:(some (y404,t403))=some (r1,r2):=by first |(rw [hy404];with_reducible exact H) |(have H2_:=(Option.bind_some _ _).symm.trans H;rw [hy404];with_reducible exact H2_) |(have H2_:=(Option.bind_some _ _).symm.trans H;with_reducible exact H2_) | with_reducible exact H |(rw [hy404];exact H) | exact H
     have Ny404:=am hy404
     clear hy404
     simp only [Option.some.injEq,Prod.mk.injEq] at H
     obtain ⟨rfl,rfl⟩:=H
     go_enter Try.func76,Try.ntmps76
     try go_wp2_with (first |((with_reducible refine jP (N:=2) rfl ?_);refine bE (N:=2) (cs:=#[.slice none 0 0]) (t:=31) ?_;intro gb383 hg w34 hbox hb;have BK383:=am (hbox);have GW383:=am ((Y7:w.heap.size≤gb383));have GE383:=am ((Nat.le_trans HW0.out (Y7:w.heap.size≤gb383):w0.heap.size≤gb383));have NB0_383:=am ((Y24:g≠gb383));have NB383_0:=am ((Y25:gb383≠g));replace HK:=am (jm.trans (Y11) (jm.of_below hb g none) (.inl rfl));replace HB:=am (jk (Y12) hb);replace HI0:=am (jg.below (Y10) hb);clear hb hbox hg) |((with_reducible refine jy (f:=107) rfl ?_);refine gL (some 6) Try.func107 #[.pointer (some ⟨g,0,none⟩)] ?_;(with_reducible refine (jba.calls k g s0_0 s0_1 t384 t387 w0 _ ?side1 ?side2 A2.out).mono ?_);(case side1=>exact Y45);(case side2=>exact Y46);rintro e w35 ⟨v385,rfl,ho0,hi,hb,hk⟩;refine ⟨_,rfl,?_⟩;have HO386:=am (Kd.jua ho0 (jBa (w:=w) (g:=g) (row:=none) (Y28)));replace BK383:=am (jm.blk hk (g':=gb383) (o:=.cells #[.slice none 0 0] 31 (0,0)) (kq BK383.out) NB383_0.out (by simp));replace HK:=am (jm.trans (Y28) hk (.inl rfl));replace HB:=am (hb);replace HI0:=am (hi);(try clear hb);(try clear hb2);(try clear hk);(try clear hi);(try clear ho0)) |((with_reducible refine jP (N:=3) rfl ?_);refine bE (N:=3) (cs:=#[.slice none 0 0]) (t:=31) ?_;intro gb388 hg w36 hbox hb;have BK388:=am (hbox);have GW388:=am ((Y47:w.heap.size≤gb388));have GE388:=am ((Nat.le_trans HW0.out (Y47:w.heap.size≤gb388):w0.heap.size≤gb388));have NB383_388:=am ((Y77:gb383≠gb388));have NB388_383:=am ((Y78:gb388≠gb383));have NB0_388:=am ((Y79:g≠gb388));have NB388_0:=am ((Y80:gb388≠g));replace HO386:=am (Kd.jM (rq HO386.out) hb);replace BK383:=am (je (g:=gb383) (o:=.cells #[.slice none 0 0] 31 (0,0)) (kq BK383.out) hb);replace HK:=am (jm.trans (Y28) (jm.of_below hb g none) (.inl rfl));replace HB:=am (jk (Y46) hb);replace HI0:=am (jg.below (Y45) hb);clear hb hbox hg;obtain ⟨Ao37,co37,eo37⟩:=Kd.jja HO386.out;subst eo37;have hnb38:=NB388_383.out;have hnc38:=NB383_388.out;have hnb39:=NB388_0.out;have hnc39:=NB0_388.out;have hcz40_0:=bc0 BK388.out;have hfz40_0:=jd BK388.out 0) |((with_reducible refine jy (f:=47) rfl ?_);refine gL (some 11) Try.func47 #[.pointer (some ⟨g,0,none⟩), .int .i64 (t384.length:Int)] ?_;(with_reducible refine (jA.calls k g s0_0 t387 (t384.length:Int) t389 t390 w0 _ ?side1 ?side2 A3.out).mono ?_);(case side1=>exact Y6);(case side2=>exact Y17);rintro e w41 ⟨rfl,hi,hb,hk⟩;refine ⟨_,rfl,?_⟩;replace BK383:=am (jm.blk hk (g':=gb383) (o:=.cells #[.slice none 0 0] 31 (0,0)) (Y81) NB383_0.out (by simp));replace HO386:=am (Kd.jD (Kd.jLa (jg.apart (show jg w0 _ g s0_0 t387 from Y6) (by (with_reducible repeat (first | apply Kd.jK | apply Kd.jL | apply Kd.jH));exact (Kd.jD (Kd.jB (p:=⟨gb388,0,none⟩) (Kd.jN HO386.out BK388.out (by decide)) (fun _ hk=>hk.2) (.slice Ao37 t384.length co37)) (fun _ h_=>h_.1))) (by decide)) hk (fun _ h=>h.2)) (fun _ h=>h.1));replace BK388:=am (jm.blk hk (g':=gb388) (o:=.cells #[.slice Ao37 t384.length co37] 31 (0,0)) (Y82) NB388_0.out (by simp));replace HK:=am (jm.trans (Y13) hk (.inl rfl));replace HB:=am (hb);replace HI0:=am (hi);(try clear hb);(try clear hb2);(try clear hk);(try clear hi)) |((with_reducible refine jy (f:=47) rfl ?_);refine gL (some 13) Try.func47 #[.pointer (some ⟨g,0,none⟩), .int .i64 24] ?_;(with_reducible refine (jA.calls k g s0_0 t390 24 t391 t392 w0 _ ?side1 ?side2 A4.out).mono ?_);(case side1=>exact Y6);(case side2=>exact Y17);rintro e w42 ⟨rfl,hi,hb,hk⟩;refine ⟨_,rfl,?_⟩;replace BK383:=am (jm.blk hk (g':=gb383) (o:=.cells #[.slice none 0 0] 31 (0,0)) (kq BK383.out) NB383_0.out (by simp));replace HO386:=am (Kd.jD (Kd.jLa (jg.apart (show jg w0 _ g s0_0 t390 from Y6) (rq HO386.out) (by decide)) hk (fun _ h=>h.2)) (fun _ h=>h.1));replace BK388:=am (jm.blk hk (g':=gb388) (o:=.cells #[.slice Ao37 t384.length co37] 31 (0,0)) (kq BK388.out) NB388_0.out (by simp));replace HK:=am (jm.trans (Y13) hk (.inl rfl));replace HB:=am (hb);replace HI0:=am (hi);(try clear hb);(try clear hb2);(try clear hk);(try clear hi)))
     replace HO386:=am (Kd.jH HO386.out)
     replace BK383:=am (jc BK383.out)
     replace BK388:=am (jc BK388.out)
     replace HI0:=am (jg.drew HI0.out)
     replace HK:=am (jZa HK.out)
     replace HB:=am (jF HB.out)
     refine jkc (n:=10) (S:=fun w'=>w'.cell? ⟨gb388,0,none⟩=some (.slice Ao37 t384.length co37)) (ds:=[9]) #[false,false,false,false,false,false,false,false,false,false] (by kernel_rfl) rfl rfl ((jh BK388.out 0).trans rfl) (fun hHeld=>?_);refine jJb joa.tab7 joa.bits7 (fun HT_ HW_=>?_)
     generalize w42.drew=w43 at HO386 BK383 BK388 HI0 HK HB hHeld ⊢
     refine pq (i:=0) (N:=some 26) #[true,false,false,false,false,false,false,false,false,false] ?_
     refine pq (i:=2) (N:=some 28) #[true,false,true,false,false,false,false,false,false,false] ?_
     refine pq (i:=3) (N:=some 29) #[true,false,true,true,false,false,false,false,false,false] ?_
     refine pq (i:=4) (N:=some 30) #[true,false,true,true,true,false,false,false,false,false] ?_
     refine jYb (i:=1) (N:=some 27) (v:=?_) (a':=?_) #[true,true,true,true,true,false,false,false,false,false] rfl rfl (jvb HT_.out HW_.out (by kernel_rfl)) (fun _ _ _ h=>h) (Or.inl ⟨by rfl,?_⟩) hHeld ?_ ?_
     rotate_left
     ·intro w' s0
      go_simp
      with_reducible rfl
     rotate_left
     ·exact sa
     refine one_ (i:=5) (N:=some 31) #[true,true,true,true,true,true,false,false,false,false] rfl rfl (jFb HT_.out (by kernel_rfl)) (by decide) (fun K hK=>?_)
     refine Kd.jvc (Kd.int .i64) _ 3 ?hg (N:=31) ?hd (xs:=([t389,(-1),8,(-2)]:List Int)) (inner:=[.int .i64 t389, .int .i64 (-1), .int .i64 8, .int .i64 (-2)]) (ok:=fun _=>True) (okp:=fun _=>True) ?hr ?hp (fun _ hk=>hk) trivial (Below.refl _ _) (Nat.le_refl _) (by simp) ?_;(case hd=>rfl);(case hg=>rfl);(case hr=>exact Y2);(case hp=>exact (Reps.one (show Kd.M (Kd.int .i64) _ _ _ t389 [.int .i64 t389] from rfl) (Reps.one (show Kd.M (Kd.int .i64) _ _ _ (-1) [.int .i64 (-1)] from rfl) (Reps.one (show Kd.M (Kd.int .i64) _ _ _ 8 [.int .i64 8] from rfl) (Reps.one (show Kd.M (Kd.int .i64) _ _ _ (-2) [.int .i64 (-2)] from rfl) (Reps.none _ _))))))
     intro v400 w44 ho45 hb hg_ hnew_
     clear hg_ hnew_
     (first | rw [← Ny399.out] at ho45 |(simp only [Int.reduceToNat] at ho45;rw [← Ny399.out] at ho45))
     have HO401:=am (Kd.jua ho45 (jBa (w:=w) (g:=g) (row:=none) (Y13)))
     replace HO386:=am (Kd.jM (rq HO386.out) hb)
     replace BK383:=am (je (g:=gb383) (o:=.cells #[.slice none 0 0] 31 (0,0)) (kq BK383.out) hb)
     replace BK388:=am (je (g:=gb388) (o:=.cells #[.slice Ao37 t384.length co37] 31 (0,0)) (kq BK388.out) hb)
     replace HK:=am (jm.trans (Y13) (jm.of_below hb g none) (.inl rfl))
     replace HB:=am (jk (Y17) hb)
     replace HI0:=am (jg.below (Y6) hb)
     clear hb ho45
     obtain ⟨Ao46,co46,eo46⟩:=Kd.jja HO401.out
     (first | subst eo46 |(injection eo46 with f1_ f2_ f3_;have f4_:=f1_.symm;have f5_:=f3_.symm;clear f1_ f2_ f3_;subst f4_;subst f5_))
     refine hK.out _ _ ((jh BK388.out 0).trans rfl) (fun hHeld=>?_)
     clear hK K
     refine jjc (a':=?_) ?_ ?_
     rotate_left
     ·show Act.put _ (some 31) _=_
      simp only [Act.put,List.setIfInBounds_toArray,List.set_cons_zero,List.set_cons_succ,jyb,jBb]
      rfl
     refine one_ (i:=6) (N:=some 32) #[true,true,true,true,true,true,true,false,false,false] rfl rfl (jFb HT_.out (by kernel_rfl)) (by decide) (fun K hK=>?_)
     refine goes_ Try.func77 (by kernel_rfl) rfl #[.pointer (some ⟨g,0,none⟩), .slice Ao46 y399.length co46] (by rfl) rfl rfl (aq) ?_
     with_reducible refine (jG.calls k g s0_0 t392 _ _ y399 t402 t403 w0 _ ?side1 ?side2 ?side3 ?side4 ?side5 A30.out).mono ?_
     (case side1=>exact Y6)
     (case side2=>exact Y17)
     (case side3=>exact cq (Kd.jE HO401.out).2.2)
     (case side4=>exact (Kd.jE HO401.out).2.1)
     (case side5=>exact jQb (jg.own_ne HI0.out HO401.out (by decide)))
     rintro e w47 ⟨rfl,hi,hb,hk⟩
     refine ⟨_,rfl,?_⟩
     replace BK383:=am (jm.blk hk (g':=gb383) (o:=.cells #[.slice none 0 0] 31 (0,0)) (kq BK383.out) NB383_0.out (by simp))
     replace HO386:=am (Kd.jD (Kd.jLa (jg.apart (show jg w0 _ g s0_0 t392 from Y6) (rq HO386.out) (by decide)) hk (fun _ h=>h.2)) (fun _ h=>h.1))
     replace BK388:=am (jm.blk hk (g':=gb388) (o:=.cells #[.slice Ao37 t384.length co37] 31 (0,0)) (kq BK388.out) NB388_0.out (by simp))
     replace HO401:=am (Kd.jD (Kd.jLa (jg.apart (show jg w0 _ g s0_0 t392 from Y6) (rq HO401.out) (by decide)) hk (fun _ h=>h.2)) (fun _ h=>h.1))
     replace HK:=am (jm.trans (Y13) hk (.inl rfl))
     replace HB:=am (hb)
     replace HI0:=am (hi)
     (try clear hb)
     (try clear hb2)
     (try clear hk)
     (try clear hi)
     have p33:0≤(t389:Int):=ozD (uq)
     have q33:(t389:Int)<((t384.length:Int):Int):=ozD (uq)
     obtain ⟨go33,co33,eo33,gb33,gl33,cl33,HG33⟩:=Kd.R_form HO386.out (by omega)
     (first | cases eo33 |(injection eo33 with ea_ en_ ec_;(first | subst ea_ |(injection ea_ with ea_;subst ea_));subst ec_;clear en_))
     have GB33:=am gb33
     have GG33:=am HG33
     clear gb33 gl33 HG33
     obtain ⟨ce33,hcl33,hM33,hcc33,hfr33⟩:=Kd.R_elem HO386.out z106 (t389:Int) p33 q33
     obtain rfl:=k106_openM hM33
     have hx33_0:World.cell? _ ⟨go33,(t389:Int).toNat * 2,none⟩=some (.string ((jQ t384 t389).f0)):=hcc33 0 _ rfl
     have hx33_1:World.cell? _ ⟨go33,(t389:Int).toNat * 2+1,none⟩=some (.int .i64 ((jQ t384 t389).f1)):=hcc33 1 _ rfl
     have hf33_0:World.frozen? _ ⟨go33,(t389:Int).toNat * 2,none⟩=false:=hfr33 0
     have hf33_1:World.frozen? _ ⟨go33,(t389:Int).toNat * 2+1,none⟩=false:=hfr33 1
     clear hcl33 hcc33 hfr33 hM33
     replace p33:=ezT p33
     replace q33:=ezT q33
     have HN0_go33:=am (show g≠go33 from by have h_:=jg.own_ne HI0.out HO386.out (by decide);intro e_;exact h_ (by rw [e_];rfl))
     obtain ⟨ce48,hcl48,hM48,hcc48,hfr48⟩:=Kd.R_elem HO386.out z106 (t389:Int) (ozD (uq)) (by have h_:(t389:Int)<((t384.length:Int):Int):=ozD (uq);first | exact h_ |(have e_:=(Kd.jE HO386.out).1;omega) | simpa using h_)
     obtain rfl:=k106_openM hM48
     have HP48:=(Kd.R_seg HO386.out (t389:Int) (ozD (uq)) (by have h_:(t389:Int)<((t384.length:Int):Int):=ozD (uq);first | exact h_ |(have e_:=(Kd.jE HO386.out).1;omega) | simpa using h_) (seg:=[.int .i64 t402]) (j:=1) hcl48 hcc48 (show 2≤2 from by decide) (x':=(⟨(jQ t384 t389).f0,t402⟩:S106)) (k106_mkM _ _ _ (⟨(jQ t384 t389).f0,t402⟩:S106) ) (fun _ hk=>hk)).1
     rw [← Ny404.out] at HP48
     have HQ48:=am HP48
     clear hcl48 hcc48 hfr48 hM48 HP48
     refine hK.out _ _ ((jh BK388.out 0).trans rfl) (fun hHeld=>?_)
     clear hK K
     refine jjc (a':=?_) ?_ ?_
     rotate_left
     ·show Act.put _ (some 32) _=_
      simp only [Act.put,List.setIfInBounds_toArray,List.set_cons_zero,List.set_cons_succ,jyb,jBb]
      rfl
     refine pq (i:=7) (N:=some 33) #[true,true,true,true,true,true,true,true,false,false] ?_
     refine pq (i:=8) (N:=some 34) #[true,true,true,true,true,true,true,true,true,false] ?_
     refine last_ (i:=9) (N:=none) #[true,true,true,true,true,true,true,true,true,true] rfl rfl (jFb HT_.out (by kernel_rfl)) (by decide) (fun K hK=>?_)
     refine skip_ (w1:=?_) (by rfl) rfl ?_ ?_
     rotate_left
     ·go_simp
      rfl
     refine hK.out _ _ ?_
     clear hK K
     refine done_ (jgc HT_.out (by kernel_rfl)) ?_
     have n0_:jv (Kd.R k106 106 (w47.setCell ⟨go33,(t389:Int).toNat * 2+1,none⟩ (.int .i64 t402)) w.heap.size (fun _=>True) (.slice (some ⟨go33,0,none⟩) t384.length co37) y404):=⟨rq HQ48.out⟩
     have n1_:jv (Kd.R (Kd.int .i64) 3 (w47.setCell ⟨go33,(t389:Int).toNat * 2+1,none⟩ (.int .i64 t402)) w.heap.size (fun _=>True) (.slice Ao46 y399.length co46) y399):=⟨by (with_reducible repeat (first | apply Kd.jK | apply Kd.jL | apply Kd.jH));exact Kd.jD (Kd.jB (p:=⟨go33,(t389:Int).toNat * 2+1,none⟩) (Kd.jN HO401.out GG33.out (by decide)) (fun _ hk=>hk.2) (.int .i64 t402)) (fun _ hk=>trivial)⟩
     have n2_:jv ((w47.setCell ⟨go33,(t389:Int).toNat * 2+1,none⟩ (.int .i64 t402)).heap[gb383]?=some (.cells #[.slice none 0 0] 31 (0,0))):=⟨by (with_reducible repeat (first | refine jb ?_ _ | refine jc ?_ | refine ja ?_ _));refine jr ?_ (by have h_:=Kd.R_ne HO386.out BK383.out (by decide);intro e_;exact h_ (by rw [e_];rfl)) _;(with_reducible repeat (first | refine jb ?_ _ | refine jc ?_ | refine ja ?_ _));exact BK383.out⟩
     have n3_:jv ((w47.setCell ⟨go33,(t389:Int).toNat * 2+1,none⟩ (.int .i64 t402)).heap[gb388]?=some (.cells #[.slice (some ⟨go33,0,none⟩) t384.length co37] 31 (0,0))):=⟨by (with_reducible repeat (first | refine jb ?_ _ | refine jc ?_ | refine ja ?_ _));refine jr ?_ (by have h_:=Kd.R_ne HO386.out BK388.out (by decide);intro e_;exact h_ (by rw [e_];rfl)) _;(with_reducible repeat (first | refine jb ?_ _ | refine jc ?_ | refine ja ?_ _));exact BK388.out⟩
     have n4_:jv (jg w0 (w47.setCell ⟨go33,(t389:Int).toNat * 2+1,none⟩ (.int .i64 t402)) g s0_0 t403):=⟨by repeat (first |(with_reducible first | exact HI0.out | apply jg.alloc | apply jg.drewN | apply jg.drew | apply jg.jTb | refine jg.far ?_ HN0_go33.out _ | refine jg.far ?_ NB0_383.out _ | refine jg.far ?_ NB0_388.out _) | exact HI0.out)⟩
     have n5_:jv (jm w (w47.setCell ⟨go33,(t389:Int).toNat * 2+1,none⟩ (.int .i64 t402)) g none):=⟨by repeat (first |(with_reducible first | exact HK.out | apply jm.set_ | apply jXa | apply jZa | apply jYa | refine jTa ?_ GB33.out _ | refine jTa ?_ GW383.out _ | refine jTa ?_ GW388.out _) | exact HK.out)⟩
     have n6_:jv (Below w0.heap.size w0 (w47.setCell ⟨go33,(t389:Int).toNat * 2+1,none⟩ (.int .i64 t402))):=⟨by repeat (first |(with_reducible first | exact HB.out | apply jJ | apply jw | apply jF | refine jq ?_ (Nat.le_trans HL.out GB33.out) | refine jq ?_ (jg.ge HI0.out) | refine jq ?_ GE383.out | refine jq ?_ GE388.out) | exact HB.out)⟩
     (try clear HO386)
     (try clear HO401)
     (try clear BK383)
     (try clear BK388)
     (try clear HI0)
     (try clear HK)
     (try clear HB)
     generalize (w47.setCell ⟨go33,(t389:Int).toNat * 2+1,none⟩ (.int .i64 t402))=w49 at n0_ n1_ n2_ n3_ n4_ n5_ n6_ ⊢
     have HO386:=n0_
     have HO401:=n1_
     have BK383:=n2_
     have BK388:=n3_
     have HI0:=n4_
     have HK:=n5_
     have HB:=n6_
     clear n0_ n1_ n2_ n3_ n4_ n5_ n6_
     have hcz50_0:=bc0 BK388.out
     have hfz50_0:=jd BK388.out 0
     have hnb51:=NB383_0.out
     have hnc51:=NB0_383.out
     have hcz52_0:=bc0 BK383.out
     have hfz52_0:=jd BK383.out 0
     try go_wp2
     refine bodyPost_ret (results_cell_row rfl _ _ gb383 31 #[.slice (some ⟨go33,0,none⟩) t384.length co37] (0,0) _ rfl (Y83) Try.underlying31 rfl (by kernel_rfl)) rfl ?_
     exact ⟨_,Y0,by (with_reducible repeat (first | apply Kd.jK | apply Kd.jL | apply Kd.jH));exact Kd.jD (Kd.jB (p:=⟨gb383,0,none⟩) (Kd.jN HO386.out BK383.out (by decide)) (fun _ hk=>hk.2) (.slice (some ⟨go33,0,none⟩) t384.length co37)) (fun _ hk=>trivial),Y6,Y17,Y13⟩
    ·rw [if_neg c32] at H
     exact absurd H (by simp)
   ·rw [if_neg c31] at H
    exact absurd H (by simp)
  ·rw [if_neg c29] at H
   have c29b0:(t391 == 1)=false:=beq_eq_false_iff_ne.mpr c29
   have c29b1:(t391 != 1)=true:=bne_iff_ne.mpr c29
   by_cases c53:t391=2
   ·rw [if_pos c53] at H
    have c53b0:(t391 == 2)=true:=beq_iff_eq.mpr c53
    have c53b1:(t391 != 2)=false:=bne_eq_false_iff_eq.mpr c53
    clear c53
    simp only [Option.some.injEq,Prod.mk.injEq] at H
    obtain ⟨rfl,rfl⟩:=H
    go_enter Try.func76,Try.ntmps76
    go_wp2_with (first |((with_reducible refine jP (N:=2) rfl ?_);refine bE (N:=2) (cs:=#[.slice none 0 0]) (t:=31) ?_;intro gb383 hg w54 hbox hb;have BK383:=am (hbox);have GW383:=am ((Y7:w.heap.size≤gb383));have GE383:=am ((Nat.le_trans HW0.out (Y7:w.heap.size≤gb383):w0.heap.size≤gb383));have NB0_383:=am ((Y24:g≠gb383));have NB383_0:=am ((Y25:gb383≠g));replace HK:=am (jm.trans (Y11) (jm.of_below hb g none) (.inl rfl));replace HB:=am (jk (Y12) hb);replace HI0:=am (jg.below (Y10) hb);clear hb hbox hg) |((with_reducible refine jy (f:=107) rfl ?_);refine gL (some 6) Try.func107 #[.pointer (some ⟨g,0,none⟩)] ?_;(with_reducible refine (jba.calls k g s0_0 s0_1 t384 t387 w0 _ ?side1 ?side2 A2.out).mono ?_);(case side1=>exact Y45);(case side2=>exact Y46);rintro e w55 ⟨v385,rfl,ho0,hi,hb,hk⟩;refine ⟨_,rfl,?_⟩;have HO386:=am (Kd.jua ho0 (jBa (w:=w) (g:=g) (row:=none) (Y28)));replace BK383:=am (jm.blk hk (g':=gb383) (o:=.cells #[.slice none 0 0] 31 (0,0)) (kq BK383.out) NB383_0.out (by simp));replace HK:=am (jm.trans (Y28) hk (.inl rfl));replace HB:=am (hb);replace HI0:=am (hi);(try clear hb);(try clear hb2);(try clear hk);(try clear hi);(try clear ho0)) |((with_reducible refine jP (N:=3) rfl ?_);refine bE (N:=3) (cs:=#[.slice none 0 0]) (t:=31) ?_;intro gb388 hg w56 hbox hb;have BK388:=am (hbox);have GW388:=am ((Y47:w.heap.size≤gb388));have GE388:=am ((Nat.le_trans HW0.out (Y47:w.heap.size≤gb388):w0.heap.size≤gb388));have NB383_388:=am ((Y77:gb383≠gb388));have NB388_383:=am ((Y78:gb388≠gb383));have NB0_388:=am ((Y79:g≠gb388));have NB388_0:=am ((Y80:gb388≠g));replace HO386:=am (Kd.jM (rq HO386.out) hb);replace BK383:=am (je (g:=gb383) (o:=.cells #[.slice none 0 0] 31 (0,0)) (kq BK383.out) hb);replace HK:=am (jm.trans (Y28) (jm.of_below hb g none) (.inl rfl));replace HB:=am (jk (Y46) hb);replace HI0:=am (jg.below (Y45) hb);clear hb hbox hg;obtain ⟨Ao57,co57,eo57⟩:=Kd.jja HO386.out;subst eo57;have hnb58:=NB388_383.out;have hnc58:=NB383_388.out;have hnb59:=NB388_0.out;have hnc59:=NB0_388.out;have hcz60_0:=bc0 BK388.out;have hfz60_0:=jd BK388.out 0) |((with_reducible refine jy (f:=47) rfl ?_);refine gL (some 11) Try.func47 #[.pointer (some ⟨g,0,none⟩), .int .i64 (t384.length:Int)] ?_;(with_reducible refine (jA.calls k g s0_0 t387 (t384.length:Int) t389 t390 w0 _ ?side1 ?side2 A3.out).mono ?_);(case side1=>exact Y6);(case side2=>exact Y17);rintro e w61 ⟨rfl,hi,hb,hk⟩;refine ⟨_,rfl,?_⟩;replace BK383:=am (jm.blk hk (g':=gb383) (o:=.cells #[.slice none 0 0] 31 (0,0)) (Y81) NB383_0.out (by simp));replace HO386:=am (Kd.jD (Kd.jLa (jg.apart (show jg w0 _ g s0_0 t387 from Y6) (by (with_reducible repeat (first | apply Kd.jK | apply Kd.jL | apply Kd.jH));exact (Kd.jD (Kd.jB (p:=⟨gb388,0,none⟩) (Kd.jN HO386.out BK388.out (by decide)) (fun _ hk=>hk.2) (.slice Ao57 t384.length co57)) (fun _ h_=>h_.1))) (by decide)) hk (fun _ h=>h.2)) (fun _ h=>h.1));replace BK388:=am (jm.blk hk (g':=gb388) (o:=.cells #[.slice Ao57 t384.length co57] 31 (0,0)) (Y82) NB388_0.out (by simp));replace HK:=am (jm.trans (Y13) hk (.inl rfl));replace HB:=am (hb);replace HI0:=am (hi);(try clear hb);(try clear hb2);(try clear hk);(try clear hi)) |((with_reducible refine jy (f:=47) rfl ?_);refine gL (some 13) Try.func47 #[.pointer (some ⟨g,0,none⟩), .int .i64 24] ?_;(with_reducible refine (jA.calls k g s0_0 t390 24 t391 t392 w0 _ ?side1 ?side2 A4.out).mono ?_);(case side1=>exact Y6);(case side2=>exact Y17);rintro e w62 ⟨rfl,hi,hb,hk⟩;refine ⟨_,rfl,?_⟩;replace BK383:=am (jm.blk hk (g':=gb383) (o:=.cells #[.slice none 0 0] 31 (0,0)) (kq BK383.out) NB383_0.out (by simp));replace HO386:=am (Kd.jD (Kd.jLa (jg.apart (show jg w0 _ g s0_0 t390 from Y6) (rq HO386.out) (by decide)) hk (fun _ h=>h.2)) (fun _ h=>h.1));replace BK388:=am (jm.blk hk (g':=gb388) (o:=.cells #[.slice Ao57 t384.length co57] 31 (0,0)) (kq BK388.out) NB388_0.out (by simp));replace HK:=am (jm.trans (Y13) hk (.inl rfl));replace HB:=am (hb);replace HI0:=am (hi);(try clear hb);(try clear hb2);(try clear hk);(try clear hi);have hnb63:=NB383_0.out;have hnc63:=NB0_383.out;have hcz64_0:=bc0 BK383.out;have hfz64_0:=jd BK383.out 0))
    refine bodyPost_ret (results_cell_row rfl _ _ gb383 31 #[.slice none 0 0] (0,0) _ rfl (Y83) Try.underlying31 rfl (by kernel_rfl)) rfl ?_
    exact ⟨_,Y0,Y84,Y6,Y17,Y13⟩
   ·rw [if_neg c53] at H
    have c53b0:(t391 == 2)=false:=beq_eq_false_iff_ne.mpr c53
    have c53b1:(t391 != 2)=true:=bne_iff_ne.mpr c53
    simp only [Option.some.injEq,Prod.mk.injEq] at H
    obtain ⟨rfl,rfl⟩:=H
    go_enter Try.func76,Try.ntmps76
    go_wp2_with (first |((with_reducible refine jP (N:=2) rfl ?_);refine bE (N:=2) (cs:=#[.slice none 0 0]) (t:=31) ?_;intro gb383 hg w65 hbox hb;have BK383:=am (hbox);have GW383:=am ((Y7:w.heap.size≤gb383));have GE383:=am ((Nat.le_trans HW0.out (Y7:w.heap.size≤gb383):w0.heap.size≤gb383));have NB0_383:=am ((Y24:g≠gb383));have NB383_0:=am ((Y25:gb383≠g));replace HK:=am (jm.trans (Y11) (jm.of_below hb g none) (.inl rfl));replace HB:=am (jk (Y12) hb);replace HI0:=am (jg.below (Y10) hb);clear hb hbox hg) |((with_reducible refine jy (f:=107) rfl ?_);refine gL (some 6) Try.func107 #[.pointer (some ⟨g,0,none⟩)] ?_;(with_reducible refine (jba.calls k g s0_0 s0_1 t384 t387 w0 _ ?side1 ?side2 A2.out).mono ?_);(case side1=>exact Y45);(case side2=>exact Y46);rintro e w66 ⟨v385,rfl,ho0,hi,hb,hk⟩;refine ⟨_,rfl,?_⟩;have HO386:=am (Kd.jua ho0 (jBa (w:=w) (g:=g) (row:=none) (Y28)));replace BK383:=am (jm.blk hk (g':=gb383) (o:=.cells #[.slice none 0 0] 31 (0,0)) (kq BK383.out) NB383_0.out (by simp));replace HK:=am (jm.trans (Y28) hk (.inl rfl));replace HB:=am (hb);replace HI0:=am (hi);(try clear hb);(try clear hb2);(try clear hk);(try clear hi);(try clear ho0)) |((with_reducible refine jP (N:=3) rfl ?_);refine bE (N:=3) (cs:=#[.slice none 0 0]) (t:=31) ?_;intro gb388 hg w67 hbox hb;have BK388:=am (hbox);have GW388:=am ((Y47:w.heap.size≤gb388));have GE388:=am ((Nat.le_trans HW0.out (Y47:w.heap.size≤gb388):w0.heap.size≤gb388));have NB383_388:=am ((Y77:gb383≠gb388));have NB388_383:=am ((Y78:gb388≠gb383));have NB0_388:=am ((Y79:g≠gb388));have NB388_0:=am ((Y80:gb388≠g));replace HO386:=am (Kd.jM (rq HO386.out) hb);replace BK383:=am (je (g:=gb383) (o:=.cells #[.slice none 0 0] 31 (0,0)) (kq BK383.out) hb);replace HK:=am (jm.trans (Y28) (jm.of_below hb g none) (.inl rfl));replace HB:=am (jk (Y46) hb);replace HI0:=am (jg.below (Y45) hb);clear hb hbox hg;obtain ⟨Ao68,co68,eo68⟩:=Kd.jja HO386.out;subst eo68;have hnb69:=NB388_383.out;have hnc69:=NB383_388.out;have hnb70:=NB388_0.out;have hnc70:=NB0_388.out;have hcz71_0:=bc0 BK388.out;have hfz71_0:=jd BK388.out 0) |((with_reducible refine jy (f:=47) rfl ?_);refine gL (some 11) Try.func47 #[.pointer (some ⟨g,0,none⟩), .int .i64 (t384.length:Int)] ?_;(with_reducible refine (jA.calls k g s0_0 t387 (t384.length:Int) t389 t390 w0 _ ?side1 ?side2 A3.out).mono ?_);(case side1=>exact Y6);(case side2=>exact Y17);rintro e w72 ⟨rfl,hi,hb,hk⟩;refine ⟨_,rfl,?_⟩;replace BK383:=am (jm.blk hk (g':=gb383) (o:=.cells #[.slice none 0 0] 31 (0,0)) (Y81) NB383_0.out (by simp));replace HO386:=am (Kd.jD (Kd.jLa (jg.apart (show jg w0 _ g s0_0 t387 from Y6) (by (with_reducible repeat (first | apply Kd.jK | apply Kd.jL | apply Kd.jH));exact (Kd.jD (Kd.jB (p:=⟨gb388,0,none⟩) (Kd.jN HO386.out BK388.out (by decide)) (fun _ hk=>hk.2) (.slice Ao68 t384.length co68)) (fun _ h_=>h_.1))) (by decide)) hk (fun _ h=>h.2)) (fun _ h=>h.1));replace BK388:=am (jm.blk hk (g':=gb388) (o:=.cells #[.slice Ao68 t384.length co68] 31 (0,0)) (Y82) NB388_0.out (by simp));replace HK:=am (jm.trans (Y13) hk (.inl rfl));replace HB:=am (hb);replace HI0:=am (hi);(try clear hb);(try clear hb2);(try clear hk);(try clear hi)) |((with_reducible refine jy (f:=47) rfl ?_);refine gL (some 13) Try.func47 #[.pointer (some ⟨g,0,none⟩), .int .i64 24] ?_;(with_reducible refine (jA.calls k g s0_0 t390 24 t391 t392 w0 _ ?side1 ?side2 A4.out).mono ?_);(case side1=>exact Y6);(case side2=>exact Y17);rintro e w73 ⟨rfl,hi,hb,hk⟩;refine ⟨_,rfl,?_⟩;replace BK383:=am (jm.blk hk (g':=gb383) (o:=.cells #[.slice none 0 0] 31 (0,0)) (kq BK383.out) NB383_0.out (by simp));replace HO386:=am (Kd.jD (Kd.jLa (jg.apart (show jg w0 _ g s0_0 t390 from Y6) (rq HO386.out) (by decide)) hk (fun _ h=>h.2)) (fun _ h=>h.1));replace BK388:=am (jm.blk hk (g':=gb388) (o:=.cells #[.slice Ao68 t384.length co68] 31 (0,0)) (kq BK388.out) NB388_0.out (by simp));replace HK:=am (jm.trans (Y13) hk (.inl rfl));replace HB:=am (hb);replace HI0:=am (hi);(try clear hb);(try clear hb2);(try clear hk);(try clear hi);have hcz74_0:=bc0 BK388.out;have hfz74_0:=jd BK388.out 0;have hnb75:=NB383_0.out;have hnc75:=NB0_383.out;have hcz76_0:=bc0 BK383.out;have hfz76_0:=jd BK383.out 0))
    refine bodyPost_ret (results_cell_row rfl _ _ gb383 31 #[.slice Ao68 t384.length co68] (0,0) _ rfl (Y83) Try.underlying31 rfl (by kernel_rfl)) rfl ?_
    exact ⟨_,Y0,by (with_reducible repeat (first | apply Kd.jK | apply Kd.jL | apply Kd.jH));exact Kd.jD (Kd.jB (p:=⟨gb383,0,none⟩) (Kd.jN HO386.out BK383.out (by decide)) (fun _ hk=>hk.2) (.slice Ao68 t384.length co68)) (fun _ hk=>trivial),Y6,Y17,Y13⟩
end Go.Proofs.Ytlhfcmbkjddgiaa.P
end
