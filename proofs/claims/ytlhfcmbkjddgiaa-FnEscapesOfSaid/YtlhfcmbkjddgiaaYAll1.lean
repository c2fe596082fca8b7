/- One part of the proofs on this program: functions of the program as plain functions, that the code comes to them, and facts on them. -/
import Derived.ArgAppend
import Derived.Below
import Derived.BigQuiet
import Derived.Deep.AppendLies
import Derived.Deep.CutBlock
import Derived.Deep.DeepCutAuto
import Derived.Deep.Draws
import Derived.Deep.LoopGhost
import Derived.Deep.OwnRows
import Derived.Deep.QuietTactic
import Derived.Deep.RegionHeld3
import Derived.KernelRfl
import Derived.Laws.BitsLemmas
import Derived.Laws.BytesArg
import Derived.Laws.IdiomCopy
import Derived.Laws.MakeOwn
import Derived.Laws.OwnMore
import Derived.Laws.Rows
import Derived.Laws.Slices
import Derived.Lib.AppendStr
import Derived.Lib.ConvBytes
import Derived.LoopTactic
import Derived.Maps.AppendAt
import Derived.OrdersHeld
import Derived.OwnWalk
import Derived.RowKit
import Derived.RowKit3
import Derived.Tactics
import Derived.WalkKit
import Derived.WideLaws
import Derived.Test.YtlhfcmbkjddgiaaProg
import Derived.Test.YtlhfcmbkjddgiaaYWApart
import Derived.Test.YtlhfcmbkjddgiaaYWAuto
import Derived.Test.YtlhfcmbkjddgiaaYWClip
import Derived.Test.YtlhfcmbkjddgiaaYWEqStruct
import Derived.Test.YtlhfcmbkjddgiaaYWFoot
import Derived.Test.YtlhfcmbkjddgiaaYWGuard
import Derived.Test.YtlhfcmbkjddgiaaYWIdx
import Derived.Test.YtlhfcmbkjddgiaaYWKept
import Derived.Test.YtlhfcmbkjddgiaaYWLast
import Derived.Test.YtlhfcmbkjddgiaaYWMkcap
import Derived.Test.YtlhfcmbkjddgiaaYWMore
import Derived.Test.YtlhfcmbkjddgiaaYWN
import Derived.Test.YtlhfcmbkjddgiaaYWRepsOne
import Derived.Test.YtlhfcmbkjddgiaaYWShare
import Derived.Test.YtlhfcmbkjddgiaaYWSome
import Derived.Test.YtlhfcmbkjddgiaaYWTab
import Derived.Test.YtlhfcmbkjddgiaaYWWords
section
namespace Go.Proofs.Ytlhfcmbkjddgiaa.P
open Go.RowKit Go.Proofs.YtlhfcmbkjddgiaaW.PrintWords Go.Proofs.YtlhfcmbkjddgiaaW.PrintLast Go.Proofs.YtlhfcmbkjddgiaaW.PrintMore
attribute [local go_sem] jX jV jka jja jN jM jW jU jh
set_option linter.unusedVariables false
set_option linter.unusedSimpArgs false
def errW : Option Int → Value
 | none=>.nilIface
 | some c=>.iface 0 (.int .i64 c)
theorem jTb : errW none = .nilIface := rfl
theorem jSb (c : Int) : errW (some c) = .iface 0 (.int .i64 c) := rfl
theorem info3 : (Try.prog.info? 3).map (fun i => (i.zero, i.size, i.bytes)) = some (some (.int .i64 0), 1, 8) := by kernel_rfl
theorem info5 : (Try.prog.info? 5).map (fun i => (i.zero, i.size, i.bytes)) = some (some (.int .u8 0), 1, 1) := by kernel_rfl
theorem info44 : (Try.prog.info? 44).map (fun i => (i.zero, i.size, i.bytes)) = some (some (.agg #[(.int .i64 0), (.int .i64 0), (.int .i64 0)]), 3, 24) := by kernel_rfl
theorem info90 : (Try.prog.info? 90).map (fun i => (i.zero, i.size, i.bytes)) = some (some (.agg #[(.int .i64 0), (.int .i64 0), (.int .i64 0), (.int .i64 0), (.bool false)]), 5, 40) := by kernel_rfl
theorem info106 : (Try.prog.info? 106).map (fun i => (i.zero, i.size, i.bytes)) = some (some (.agg #[(.string ⟨#[]⟩), (.int .i64 0)]), 2, 24) := by kernel_rfl
structure S106 where
 f0:ByteArray
 f1:Int
def z106 : S106 := ⟨(⟨#[]⟩ : ByteArray), (0 : Int)⟩
def k106 : Kd S106 := Kd.iso (Kd.pair Kd.string (Kd.int .i64)) (fun x : S106 => (x.f0, x.f1))
theorem k106_heap : Kd.Heap k106 := Kd.heap_iso _ (Kd.heap_pair Kd.heap_string (Kd.heap_int .i64))
theorem k106_open {w : World} {x : S106} {cs : List Value} (h : k106.K w x cs) : cs = [.string x.f0, .int .i64 x.f1] := by
 obtain ⟨_,_,rfl,rfl,rfl⟩:=h
 exact rfl
theorem k106_openM {w : World} {base : Nat} {ok : Nat → Prop} {x : S106} {cs : List Value} (h : k106.M w base ok x cs) : cs = [.string x.f0, .int .i64 x.f1] := by
 obtain ⟨_,_,rfl,rfl,rfl⟩:=h
 exact rfl
theorem k106_mkM (w : World) (base : Nat) (ok : Nat → Prop) (x : S106)  : k106.M w base ok x [.string x.f0, .int .i64 x.f1] := ⟨[.string x.f0], [.int .i64 x.f1], rfl, rfl, rfl⟩
def jH (xs : List S106) (i : Int) : S106 := xs.getD i.toNat z106
theorem at_T106 {w : World} {A : Option Addr} {n : Nat} {xs : List S106} (h : Kd.C k106 w A n xs) (i : Int) (h0 : 0 ≤ i) (h1 : i < n) : ∃ ad , A = some ad ∧ w.cell? (ad.add (i.toNat * 2)) = some (.string (jH xs i).f0) ∧ w.cell? ⟨(ad.add (i.toNat * 2)).block, (ad.add (i.toNat * 2)).off + 1, none⟩ = some (.int .i64 (jH xs i).f1) := by
 obtain ⟨ad,c,e,_,hK,hc0⟩:=Kd.C_get h z106 i h0 h1
 have hc:∀ j u,c[j]?=some u→w.cell? (ad.add (i.toNat * 2+j))=some u:=hc0
 obtain rfl:=k106_open hK
 exact ⟨ad,e,hc 0 _ rfl,by rw [← jac _ _ 1 (by omega)];exact hc 1 _ rfl⟩
structure S44 where
 f0:Int
 f1:Int
 f2:Int
def z44 : S44 := ⟨(0 : Int), (0 : Int), (0 : Int)⟩
def k44 : Kd S44 := Kd.iso (Kd.pair (Kd.int .i64) (Kd.pair (Kd.int .i64) (Kd.int .i64))) (fun x : S44 => (x.f0, x.f1, x.f2))
theorem k44_heap : Kd.Heap k44 := Kd.heap_iso _ (Kd.heap_pair (Kd.heap_int .i64) (Kd.heap_pair (Kd.heap_int .i64) (Kd.heap_int .i64)))
theorem k44_open {w : World} {x : S44} {cs : List Value} (h : k44.K w x cs) : cs = [.int .i64 x.f0, .int .i64 x.f1, .int .i64 x.f2] := by
 obtain ⟨_,_,rfl,rfl,⟨_,_,rfl,rfl,rfl⟩⟩:=h
 exact rfl
theorem jmc {w : World} {base : Nat} {ok : Nat → Prop} {x : S44} {cs : List Value} (h : k44.M w base ok x cs) : cs = [.int .i64 x.f0, .int .i64 x.f1, .int .i64 x.f2] := by
 obtain ⟨_,_,rfl,rfl,⟨_,_,rfl,rfl,rfl⟩⟩:=h
 exact rfl
theorem k44_mkM (w : World) (base : Nat) (ok : Nat → Prop) (x : S44)  : k44.M w base ok x [.int .i64 x.f0, .int .i64 x.f1, .int .i64 x.f2] := ⟨[.int .i64 x.f0], [.int .i64 x.f1, .int .i64 x.f2], rfl, rfl, ⟨[.int .i64 x.f1], [.int .i64 x.f2], rfl, rfl, rfl⟩⟩
def jL (xs : List S44) (i : Int) : S44 := xs.getD i.toNat z44
theorem at_T44 {w : World} {A : Option Addr} {n : Nat} {xs : List S44} (h : Kd.C k44 w A n xs) (i : Int) (h0 : 0 ≤ i) (h1 : i < n) : ∃ ad , A = some ad ∧ w.cell? (ad.add (i.toNat * 3)) = some (.int .i64 (jL xs i).f0) ∧ w.cell? ⟨(ad.add (i.toNat * 3)).block, (ad.add (i.toNat * 3)).off + 1, none⟩ = some (.int .i64 (jL xs i).f1) ∧ w.cell? ⟨(ad.add (i.toNat * 3)).block, (ad.add (i.toNat * 3)).off + 2, none⟩ = some (.int .i64 (jL xs i).f2) := by
 obtain ⟨ad,c,e,_,hK,hc0⟩:=Kd.C_get h z44 i h0 h1
 have hc:∀ j u,c[j]?=some u→w.cell? (ad.add (i.toNat * 3+j))=some u:=hc0
 obtain rfl:=k44_open hK
 exact ⟨ad,e,hc 0 _ rfl,by rw [← jac _ _ 1 (by omega)];exact hc 1 _ rfl,by rw [← jac _ _ 2 (by omega)];exact hc 2 _ rfl⟩
structure S90 where
 f0:Int
 f1:Int
 f2:Int
 f3:Int
 f4:Bool
def z90 : S90 := ⟨(0 : Int), (0 : Int), (0 : Int), (0 : Int), false⟩
def k90 : Kd S90 := Kd.iso (Kd.pair (Kd.int .i64) (Kd.pair (Kd.int .i64) (Kd.pair (Kd.int .i64) (Kd.pair (Kd.int .i64) Kd.bool)))) (fun x : S90 => (x.f0, x.f1, x.f2, x.f3, x.f4))
theorem k90_open {w : World} {x : S90} {cs : List Value} (h : k90.K w x cs) : cs = [.int .i64 x.f0, .int .i64 x.f1, .int .i64 x.f2, .int .i64 x.f3, .bool x.f4] := by
 obtain ⟨_,_,rfl,rfl,⟨_,_,rfl,rfl,⟨_,_,rfl,rfl,⟨_,_,rfl,rfl,rfl⟩⟩⟩⟩:=h
 exact rfl
theorem k90_openM {w : World} {base : Nat} {ok : Nat → Prop} {x : S90} {cs : List Value} (h : k90.M w base ok x cs) : cs = [.int .i64 x.f0, .int .i64 x.f1, .int .i64 x.f2, .int .i64 x.f3, .bool x.f4] := by
 obtain ⟨_,_,rfl,rfl,⟨_,_,rfl,rfl,⟨_,_,rfl,rfl,⟨_,_,rfl,rfl,rfl⟩⟩⟩⟩:=h
 exact rfl
theorem k90_mkM (w : World) (base : Nat) (ok : Nat → Prop) (x : S90)  : k90.M w base ok x [.int .i64 x.f0, .int .i64 x.f1, .int .i64 x.f2, .int .i64 x.f3, .bool x.f4] := ⟨[.int .i64 x.f0], [.int .i64 x.f1, .int .i64 x.f2, .int .i64 x.f3, .bool x.f4], rfl, rfl, ⟨[.int .i64 x.f1], [.int .i64 x.f2, .int .i64 x.f3, .bool x.f4], rfl, rfl, ⟨[.int .i64 x.f2], [.int .i64 x.f3, .bool x.f4], rfl, rfl, ⟨[.int .i64 x.f3], [.bool x.f4], rfl, rfl, rfl⟩⟩⟩⟩
def jl (xs : List S90) (i : Int) : S90 := xs.getD i.toNat z90
theorem at_T90 {w : World} {A : Option Addr} {n : Nat} {xs : List S90} (h : Kd.C k90 w A n xs) (i : Int) (h0 : 0 ≤ i) (h1 : i < n) : ∃ ad , A = some ad ∧ w.cell? (ad.add (i.toNat * 5)) = some (.int .i64 (jl xs i).f0) ∧ w.cell? ⟨(ad.add (i.toNat * 5)).block, (ad.add (i.toNat * 5)).off + 1, none⟩ = some (.int .i64 (jl xs i).f1) ∧ w.cell? ⟨(ad.add (i.toNat * 5)).block, (ad.add (i.toNat * 5)).off + 2, none⟩ = some (.int .i64 (jl xs i).f2) ∧ w.cell? ⟨(ad.add (i.toNat * 5)).block, (ad.add (i.toNat * 5)).off + 3, none⟩ = some (.int .i64 (jl xs i).f3) ∧ w.cell? ⟨(ad.add (i.toNat * 5)).block, (ad.add (i.toNat * 5)).off + 4, none⟩ = some (.bool (jl xs i).f4) := by
 obtain ⟨ad,c,e,_,hK,hc0⟩:=Kd.C_get h z90 i h0 h1
 have hc:∀ j u,c[j]?=some u→w.cell? (ad.add (i.toNat * 5+j))=some u:=hc0
 obtain rfl:=k90_open hK
 exact ⟨ad,e,hc 0 _ rfl,by rw [← jac _ _ 1 (by omega)];exact hc 1 _ rfl,by rw [← jac _ _ 2 (by omega)];exact hc 2 _ rfl,by rw [← jac _ _ 3 (by omega)];exact hc 3 _ rfl,by rw [← jac _ _ 4 (by omega)];exact hc 4 _ rfl⟩
structure S53 where
 f0:(List S90)
def z53 : S53 := ⟨([] : List S90)⟩
theorem eqA50 (d : Nat) (w : World) (x0 y0 : Bool) (x1 y1 : Int) (x2 y2 : Int) :
  (Op.equalIn (d+2) 50 (.agg #[.bool x0, .int .i64 x1, .int .i64 x2]) (.agg #[.bool y0, .int .i64 y1, .int .i64 y2])).run Try.prog w=.ok (x0 == y0 && (x1 == y1 && (x2 == y2))) w:=by
 refine eqA_of Try.underlying50 (by kernel_rfl) ?_
 refine eqf_cons (by rfl) (by go_simp;rfl) (by go_simp;rfl) (by go_simp) ?_
 refine eqf_cons (by rfl) (by go_simp;rfl) (by go_simp;rfl) (by go_simp) ?_
 exact eqf_last (by rfl) (by go_simp;rfl) (by go_simp;rfl) (by go_simp)
def jwa.f (a0 : Int) (a1 : Int) (a2 : Int) : Option (Bool) := if a0 ≥ a1 then (some (decide (a0 ≤ a2))) else (some false)
set_option maxHeartbeats 8000000 in
set_option maxRecDepth 100000 in
theorem jwa.calls (a0 : Int) (a1 : Int) (a2 : Int) (r : Bool) (w : World) (h : jwa.f a0 a1 a2 = some r) :
  Calls Try.prog 80 #[.int .i64 a0, .int .i64 a1, .int .i64 a2] w fun e w'=>e=.returned (.bool r)∧jhb w w':=by
 have H:(if a0≥a1 then (some (decide (a0≤a2))) else (some false))=some r:=h
 clear h
 by_cases c4:a0≥a1
 ·rw [if_pos c4] at H
  have c4b0:decide (a1≤a0)=true:=dzT c4
  clear c4
  obtain rfl:=Option.some.inj H
  go_enter Try.func80,Try.ntmps80
  go_wp2
  go_ret
  exact ⟨sq,Y4⟩
 ·rw [if_neg c4] at H
  have c4b0:decide (a1≤a0)=false:=dzF c4
  clear c4
  obtain rfl:=Option.some.inj H
  go_enter Try.func80,Try.ntmps80
  go_wp2
  go_ret
  exact ⟨sq,Y4⟩
def jGa.l0 : Nat → ByteArray → Int → Int → Option (Bool)
 | 0,_,_,_=>none
 | k+1,x0,x5,x6=>if x6<x5 then (if 0≤x6 then (if x6<(x0.size:Int) then (if (bt x0 x6)<97 then (some false) else (if (bt x0 x6) > 122 then (some false) else (jGa.l0 k x0 x5 (wrap64 (x6+1))))) else (none)) else (none)) else ((jwa.f (x0.size:Int) 1 6).bind fun t236=>(some t236))
def jGa.f (k : Nat) (a0 : ByteArray) : Option (Bool) := jGa.l0 k a0 (a0.size : Int) 0
set_option maxHeartbeats 8000000 in
set_option maxRecDepth 100000 in
theorem jGa.calls (k : Nat) (a0 : ByteArray) (r : Bool) (w : World) (h : jGa.f k a0 = some r) :
  Calls Try.prog 78 #[.string a0] w fun e w'=>e=.returned (.bool r)∧jhb w w':=by
 have H:(jGa.l0 k a0 (a0.size:Int) 0)=some r:=h
 clear h
 have H':=am H
 clear H
 go_enter Try.func78,Try.ntmps78
 go_wp2
 go_loopg [6] k (fun kq v6 w'=>∃ (x6_1:Int),v6=.int .i64 x6_1∧jE (jGa.l0 kq a0 (a0.size:Int) x6_1=some r)∧jE (kq≤k)∧jhb w w')
 case atStart=>exact ⟨(0),(sq),H',⟨Nat.le_refl _⟩,Y4⟩
 case round =>
  clear H'
  obtain ⟨x6_1,rfl,HA,HK1,⟨m1,rfl⟩⟩:=hrel
  cases gk with
  | zero=>exact absurd HA.out (by simp [jGa.l0])
  | succ k1 =>
   have H:=HA.out
   clear HA
   simp only [jGa.l0] at H
   by_cases c2:x6_1<(a0.size:Int)
   ·rw [if_pos c2] at H
    have c2b0:decide (x6_1<(a0.size:Int))=true:=dzT c2
    clear c2
    by_cases c3:0≤x6_1
    ·rw [if_pos c3] at H
     have c3b0:decide (0≤x6_1)=true:=dzT c3
     clear c3
     by_cases c4:x6_1<(a0.size:Int)
     ·rw [if_pos c4] at H
      have c4b0:decide (x6_1<(a0.size:Int))=true:=dzT c4
      clear c4
      by_cases c6:(bt a0 x6_1)<97
      ·rw [if_pos c6] at H
       have c6b0:decide ((bt a0 x6_1)<97)=true:=dzT c6
       clear c6
       obtain rfl:=Option.some.inj H
       have p5:0≤(x6_1:Int):=ozD (uq)
       have q5:x6_1<(a0.size:Int):=ozD (uq)
       have hx5:=bt_at a0 x6_1
       replace p5:=ezT p5
       replace q5:=ezT q5
       go_wp2
       go_ret
       exact ⟨sq,Y4⟩
      ·rw [if_neg c6] at H
       have c6b0:decide ((bt a0 x6_1)<97)=false:=dzF c6
       clear c6
       by_cases c8:(bt a0 x6_1) > 122
       ·rw [if_pos c8] at H
        have c8b0:decide (122<(bt a0 x6_1))=true:=dzT c8
        clear c8
        obtain rfl:=Option.some.inj H
        have p5:0≤(x6_1:Int):=ozD (uq)
        have q5:x6_1<(a0.size:Int):=ozD (uq)
        have hx5:=bt_at a0 x6_1
        replace p5:=ezT p5
        replace q5:=ezT q5
        have p7:0≤(x6_1:Int):=ozD (uq)
        have q7:x6_1<(a0.size:Int):=ozD (uq)
        have hx7:=bt_at a0 x6_1
        replace p7:=ezT p7
        replace q7:=ezT q7
        go_wp2
        go_ret
        exact ⟨sq,Y4⟩
       ·rw [if_neg c8] at H
        have c8b0:decide (122<(bt a0 x6_1))=false:=dzF c8
        clear c8
        have H':=am H
        clear H
        have p5:0≤(x6_1:Int):=ozD (uq)
        have q5:x6_1<(a0.size:Int):=ozD (uq)
        have hx5:=bt_at a0 x6_1
        replace p5:=ezT p5
        replace q5:=ezT q5
        have p7:0≤(x6_1:Int):=ozD (uq)
        have q7:x6_1<(a0.size:Int):=ozD (uq)
        have hx7:=bt_at a0 x6_1
        replace p7:=ezT p7
        replace q7:=ezT q7
        go_wp2
        go_roundg k1
        case measure=>have:=HK1.out;omega
        case rel=>exact ⟨(wrap64 (x6_1+1)),(sq),H',⟨by have:=HK1.out;omega⟩,Y4⟩
     ·rw [if_neg c4] at H
      exact absurd H (by simp)
    ·rw [if_neg c3] at H
     exact absurd H (by simp)
   ·rw [if_neg c2] at H
    have c2b0:decide (x6_1<(a0.size:Int))=false:=dzF c2
    clear c2
    replace H:=bzS H
    obtain ⟨t236,A90,H⟩:=H
    replace H:(some t236)=some r:=H
    have A9:=am A90
    clear A90
    obtain rfl:=Option.some.inj H
    go_wp2_with (first |((with_reducible refine jo (f:=80) rfl ?_);refine gL (some 22) Try.func80 #[.int .i64 (a0.size:Int), .int .i64 1, .int .i64 6] ?_;(with_reducible refine (jwa.calls (a0.size:Int) 1 6 t236 _ A9.out).mono ?_);rintro e w' ⟨rfl,⟨nd,rfl⟩⟩;refine ⟨_,rfl,?_⟩))
    go_ret
    exact ⟨sq,Y4⟩

theorem impl_named1_calls (a b : ByteArray) (p : Int) (B : Nat) (w : World) (hB : B < w.heap.size) (hc : w.cell? ⟨B, 0, none⟩ = some (.string b)) :
  Calls Try.prog 110 #[.agg #[.string a, .int .i64 p], .pointer (some ⟨B,0,none⟩)] w fun e w'=>e=.returned (.bool (a.toList == b.toList))∧Below w.heap.size w w':=by
 have hne:B≠w.heap.size:=by omega
 go_enter Try.func110,Try.ntmps110
 go_wp2
 go_ret
 exact ⟨rfl,(Below.refl _ _).alloc (Nat.le_refl _) _⟩
set_option maxHeartbeats 8000000 in
set_option maxRecDepth 100000 in
theorem impl_named_idx (A_ : Option Addr) (c_ : Nat) (l : List (S106)) (B0_ : Nat) (p : S106 → Option Bool) (r : Int) (w : World) (hr : Kd.C k106 w A_ l.length l) (h : idxFrom p l 0 = some r)
  (hp:∀ W,Below w.heap.size w W→∀ (x:S106) (b:Bool),p x=some b→Calls Try.prog 110 #[.agg #[.string x.f0, .int .i64 x.f1], .pointer (some ⟨B0_,0,none⟩)] W fun e w'=>e=.returned (.bool b)∧Below W.heap.size W w') :
  Calls Try.prog 109 #[.slice A_ l.length c_, .func (.func 110) #[] #[.pointer (some ⟨B0_,0,none⟩)]] w fun e w'=>e=.returned (.int .i64 r)∧Below w.heap.size w w':=by
 have hm:l.length≤9223372036854775807:=Kd.C_max hr
 have HR:=am hr
 have HP:=am hp
 have H0:=am h
 clear hr hp h
 go_enter Try.func109,Try.ntmps109
 go_wp2
 go_loopw [5,8] (fun i5 i8 wr=>∃ k:Nat,k≤l.length∧i8=.int .i64 k∧jE (idxFrom p (l.drop k) k=some r)∧Below w.heap.size w wr) (fun _ i8 _=>l.length - (intOf i8).toNat)
 case atStart=>exact ⟨0,Nat.zero_le _,rfl,H0,Below.refl _ _⟩
 case round =>
  clear H0
  obtain ⟨k,hk,rfl,HA,hb⟩:=hrel
  by_cases hlt:k<l.length
  ·have HB:=am (jfc hlt HA.out)
   clear HA
   obtain ⟨ad,rfl,hx0,hx1⟩:=at_T106 HR.out (k:Int) (by omega) (by omega)
   have hrd:jH l (k:Int)=l[k]:=by simp [jH,List.getD_eq_getElem?_getD,hlt]
   replace hx0:=jP hb hx0
   replace hx1:=jP hb hx1
   rw [hrd] at hx0 hx1
   simp only [Int.toNat_natCast] at hx0 hx1
   clear hrd
   obtain ⟨b,hb1,hb0⟩:=HB.out
   have HQ:=am hb1
   clear hb1 HB
   cases b with
   | true =>
    have HZ:=am (by simpa using hb0:(k:Int)=r)
    clear hb0
    go_wp2_with (go_at_call 110;refine (HP.out _ hb _ _ HQ.out).mono ?_;rintro e w' ⟨rfl,hb2⟩)
    go_ret
    exact ⟨by rw [← HZ.out];rfl,jdb hb hb.size hb2⟩
   | false =>
    have HZ:=am (by simpa using hb0:idxFrom p (l.drop (k+1)) (k+1)=some r)
    clear hb0
    go_wp2_with (go_at_call 110;refine (HP.out _ hb _ _ HQ.out).mono ?_;rintro e w' ⟨rfl,hb2⟩)
    go_roundw
    case rel=>exact ⟨k+1,hlt,by go_num,HZ,jdb hb hb.size hb2⟩
    case measure=>simp [intOf];omega
  ·have HZ:=am (jtc (by omega) HA.out)
   clear HA
   go_wp2
   go_ret
   exact ⟨by rw [HZ.out];rfl,hb⟩
def jKa.f (l0_0 : List S106) (a1 : ByteArray) : Option Int := idxFrom (fun x : S106 => some (x.f0.toList == a1.toList)) l0_0 0
set_option maxHeartbeats 8000000 in
set_option maxRecDepth 100000 in
theorem jKa.calls (A0_0 : Option Addr) (c0_0 : Nat) (l0_0 : List (S106)) (a1 : ByteArray) (r : Int) (w : World) (hr0_0 : Kd.C k106 w A0_0 l0_0.length l0_0) (hc0_0 : l0_0.length ≤ c0_0) (h : jKa.f l0_0 a1 = some r) :
  Calls Try.prog 79 #[.agg #[.slice A0_0 l0_0.length c0_0], .string a1] w fun e w'=>e=.returned (.int .i64 r)∧Below w.heap.size w w':=by
 have hu31:=Try.underlying31
 have HF:=am (fun W (hb:Below w.heap.size w W) (B:Nat) (hB:B<W.heap.size) (hc:W.cell? ⟨B,0,none⟩=some (.string a1))=>impl_named_idx A0_0 c0_0 l0_0 B (fun x:S106=>some (x.f0.toList == a1.toList)) r W (Kd.jZ hr0_0 hb) h (fun W' hb' x b hx=>by
  obtain rfl:=Option.some.inj hx
  exact impl_named1_calls x.f0 a1 x.f1 B W' (Nat.lt_of_lt_of_le hB hb'.size) (jP hb' hc)))
 clear h hr0_0
 go_enter Try.func79,Try.ntmps79
 go_wp2_with (go_at_call 109;refine (HF.out _ (((Below.refl _ _).alloc (Nat.le_refl _) _).alloc (by simp) _) _ (by simp) (by simp)).mono ?_;rintro e w' ⟨rfl,hb2⟩)
 go_ret
 exact ⟨rfl,(((Below.refl _ _).alloc (Nat.le_refl _) _).alloc (by simp) _).trans (hb2.mono (by simp;omega))⟩
mutual
def jA.l0 : Nat → List (S106) → Int → Int → List (S106) → Option (Bool)
 | 0,_,_,_,_=>none
 | k+1,x6,x7,x8,x238000=>if x8<x7 then (if 0≤x8 then (if x8<(x6.length:Int) then ((jGa.f k ((jH x6 x8).f0)).bind fun t241=>(if t241=true then ((jKa.f x238000 ((jH x6 x8).f0)).bind fun t242=>(if t242=x8 then (if x8=0 then (if ((jH x6 x8).f1)=(-1) then (if x8 > 0 then ((jwa.f ((jH x6 x8).f1) 0 (wrap64 (x8 - 1))).bind fun t243=>(jA.j1 k x6 x7 x8 (!t243) x238000)) else (jA.j1 k x6 x7 x8 false x238000)) else (jA.j1 k x6 x7 x8 true x238000)) else (if x8 > 0 then ((jwa.f ((jH x6 x8).f1) 0 (wrap64 (x8 - 1))).bind fun t244=>(jA.j1 k x6 x7 x8 (!t244) x238000)) else (jA.j1 k x6 x7 x8 false x238000))) else (jA.j1 k x6 x7 x8 true x238000))) else (jA.j1 k x6 x7 x8 true x238000))) else (none)) else (none)) else ((jwa.f (x238000.length:Int) 1 8).bind fun t238=>(some t238))
def jA.j1 : Nat → List (S106) → Int → Int → Bool → List (S106) → Option (Bool)
 | 0,_,_,_,_,_=>none
 | k+1,x6,x7,x8,x45,x238000=>if x45=true then (some false) else (jA.l0 k x6 x7 (wrap64 (x8+1)) x238000)
end
def jA.f (k : Nat) (l0_0 : List (S106)) : Option (Bool) := jA.l0 k l0_0 (l0_0.length : Int) 0 l0_0
set_option maxHeartbeats 8000000 in
set_option maxRecDepth 100000 in
theorem jA.calls (k : Nat) (A0_0 : Option Addr) (c0_0 : Nat) (l0_0 : List (S106)) (r : Bool) (w : World) (hr0_0 : Kd.C k106 w A0_0 l0_0.length l0_0) (hc0_0 : l0_0.length ≤ c0_0) (h : jA.f k l0_0 = some r) :
  Calls Try.prog 48 #[.agg #[.slice A0_0 l0_0.length c0_0]] w fun e w'=>e=.returned (.bool r)∧Below w.heap.size w w':=by
 have hu31:=Try.underlying31
 have hu106:=Try.underlying106
 have HR0_0:=am hr0_0
 have HC0_0:=am hc0_0
 clear hr0_0 hc0_0
 have HB:=am (Below.refl w.heap.size w)
 have H:(jA.l0 k l0_0 (l0_0.length:Int) 0 l0_0)=some r:=h
 clear h
 have H':=am H
 clear H
 go_enter Try.func48,Try.ntmps48
 go_wp2_with (first |((with_reducible refine jG (N:=1) rfl ?_);refine bE (N:=1) (cs:=#[.slice A0_0 l0_0.length c0_0]) (t:=31) ?_;intro gb237 hg w2 hbox hb;have BK237:=am (hbox);have GW237:=am ((Y2:w.heap.size≤gb237));have GE237:=am ((Y2:w.heap.size≤gb237));replace HB:=am (jg (bq) hb);clear hb hbox hg;have hcz3_0:=bc0 BK237.out;have hfz3_0:=ja BK237.out 0))
 go_loopg [8] k (fun kq v8 w'=>∃ (x8_1:Int),v8=.int .i64 x8_1∧jE (jA.l0 kq l0_0 (l0_0.length:Int) x8_1 l0_0=some r)∧jE (kq≤k)∧jE (w'.heap[gb237]?=some (.cells #[(.slice A0_0 l0_0.length c0_0)] 31 (0,0)))∧jE (Below w.heap.size w w'))
 case atStart=>exact ⟨(0),(sq),H',⟨Nat.le_refl _⟩,⟨kq BK237.out⟩,⟨Y81⟩⟩
 case round =>
  clear H'
  try clear p2
  try clear hcz3_0
  try clear hfz3_0
  obtain ⟨x8_1,rfl,HA,HK1,BK237,HB⟩:=hrel
  cases gk with
  | zero=>exact absurd HA.out (by simp [jA.l0])
  | succ k1 =>
   have H:=HA.out
   clear HA
   simp only [jA.l0] at H
   by_cases c4:x8_1<(l0_0.length:Int)
   ·rw [if_pos c4] at H
    have c4b0:decide (x8_1<(l0_0.length:Int))=true:=dzT c4
    clear c4
    by_cases c5:0≤x8_1
    ·rw [if_pos c5] at H
     have c5b0:decide (0≤x8_1)=true:=dzT c5
     clear c5
     by_cases c6:x8_1<(l0_0.length:Int)
     ·rw [if_pos c6] at H
      have c6b0:decide (x8_1<(l0_0.length:Int))=true:=dzT c6
      clear c6
      have HC7:=am H
      clear H
      have p239:0≤(x8_1:Int):=ozD (uq)
      have q239:x8_1<(l0_0.length:Int):=ozD (uq)
      obtain ⟨ad239,e239,hx239_0,hx239_1⟩:=at_T106 HR0_0.out x8_1 p239 q239
      cases e239
      replace hx239_0:=cb HB.out hx239_0
      replace hx239_1:=cb HB.out hx239_1
      replace p239:=ezT p239
      replace q239:=ezT q239
      go_upto_region 4 with (first |((with_reducible refine jG (N:=4) rfl ?_);refine bE (N:=4) (cs:=#[.string (⟨#[]⟩:ByteArray), .int .i64 0]) (t:=106) ?_;intro gb240 hg w8 hbox hb;have BK240:=am (hbox);have GW240:=am ((Y93:w.heap.size≤gb240));have GE240:=am ((Y93:w.heap.size≤gb240));have NB237_240:=am ((by rw [hg];exact Nat.ne_of_lt (jva (g:=gb237) (o:=.cells #[.slice (some ad239) l0_0.length c0_0] 31 (0,0)) (kq BK237.out)):gb237≠gb240));have NB240_237:=am ((by rw [hg];exact Nat.ne_of_gt (jva (g:=gb237) (o:=.cells #[.slice (some ad239) l0_0.length c0_0] 31 (0,0)) (kq BK237.out)):gb240≠gb237));replace BK237:=am (jc (g:=gb237) (o:=.cells #[.slice (some ad239) l0_0.length c0_0] 31 (0,0)) (kq BK237.out) hb);replace HB:=am (jg (Y81) hb);clear hb hbox hg;have hnb9:=NB240_237.out;have hnc9:=NB237_240.out;have hcz10_0:=bc0 BK240.out;have hcz10_1:=bc1 BK240.out;have hfz10_0:=ja BK240.out 0;have hfz10_1:=ja BK240.out 1))
      (try simp only [Act.put,List.setIfInBounds_toArray,List.set_cons_zero,List.set_cons_succ])
      go_cut [45] (fun v45 wc=>∃ (kq:Nat) (x45_6:Bool),v45=.bool x45_6∧jE (jA.j1 kq l0_0 (l0_0.length:Int) x8_1 x45_6 l0_0=some r)∧jE (kq≤k1)∧jE (wc.heap[gb237]?=some (.cells #[(.slice (some ad239) l0_0.length c0_0)] 31 (0,0)))∧jE (wc.heap[gb240]?=some (.cells #[.string ((jH l0_0 x8_1).f0), .int .i64 ((jH l0_0 x8_1).f1)] 106 (0,0)))∧jE (Below w.heap.size w wc))
      case first =>
       have H:=HC7.out
       clear HC7
       replace H:=bzS H
       obtain ⟨t241,A110,H⟩:=H
       replace H:(if t241=true then ((jKa.f l0_0 ((jH l0_0 x8_1).f0)).bind fun t242=>(if t242=x8_1 then (if x8_1=0 then (if ((jH l0_0 x8_1).f1)=(-1) then (if x8_1 > 0 then ((jwa.f ((jH l0_0 x8_1).f1) 0 (wrap64 (x8_1 - 1))).bind fun t243=>(jA.j1 k1 l0_0 (l0_0.length:Int) x8_1 (!t243) l0_0)) else (jA.j1 k1 l0_0 (l0_0.length:Int) x8_1 false l0_0)) else (jA.j1 k1 l0_0 (l0_0.length:Int) x8_1 true l0_0)) else (if x8_1 > 0 then ((jwa.f ((jH l0_0 x8_1).f1) 0 (wrap64 (x8_1 - 1))).bind fun t244=>(jA.j1 k1 l0_0 (l0_0.length:Int) x8_1 (!t244) l0_0)) else (jA.j1 k1 l0_0 (l0_0.length:Int) x8_1 false l0_0))) else (jA.j1 k1 l0_0 (l0_0.length:Int) x8_1 true l0_0))) else (jA.j1 k1 l0_0 (l0_0.length:Int) x8_1 true l0_0))=some r:=H
       have A11:=am A110
       clear A110
       by_cases c12:t241=true
       ·subst c12
        have H1:((jKa.f l0_0 ((jH l0_0 x8_1).f0)).bind fun t242=>(if t242=x8_1 then (if x8_1=0 then (if ((jH l0_0 x8_1).f1)=(-1) then (if x8_1 > 0 then ((jwa.f ((jH l0_0 x8_1).f1) 0 (wrap64 (x8_1 - 1))).bind fun t243=>(jA.j1 k1 l0_0 (l0_0.length:Int) x8_1 (!t243) l0_0)) else (jA.j1 k1 l0_0 (l0_0.length:Int) x8_1 false l0_0)) else (jA.j1 k1 l0_0 (l0_0.length:Int) x8_1 true l0_0)) else (if x8_1 > 0 then ((jwa.f ((jH l0_0 x8_1).f1) 0 (wrap64 (x8_1 - 1))).bind fun t244=>(jA.j1 k1 l0_0 (l0_0.length:Int) x8_1 (!t244) l0_0)) else (jA.j1 k1 l0_0 (l0_0.length:Int) x8_1 false l0_0))) else (jA.j1 k1 l0_0 (l0_0.length:Int) x8_1 true l0_0)))=some r:=by rw [if_pos rfl] at H;exact H
        clear H
        have H:=H1
        clear H1
        replace H:=bzS H
        obtain ⟨t242,A130,H⟩:=H
        replace H:(if t242=x8_1 then (if x8_1=0 then (if ((jH l0_0 x8_1).f1)=(-1) then (if x8_1 > 0 then ((jwa.f ((jH l0_0 x8_1).f1) 0 (wrap64 (x8_1 - 1))).bind fun t243=>(jA.j1 k1 l0_0 (l0_0.length:Int) x8_1 (!t243) l0_0)) else (jA.j1 k1 l0_0 (l0_0.length:Int) x8_1 false l0_0)) else (jA.j1 k1 l0_0 (l0_0.length:Int) x8_1 true l0_0)) else (if x8_1 > 0 then ((jwa.f ((jH l0_0 x8_1).f1) 0 (wrap64 (x8_1 - 1))).bind fun t244=>(jA.j1 k1 l0_0 (l0_0.length:Int) x8_1 (!t244) l0_0)) else (jA.j1 k1 l0_0 (l0_0.length:Int) x8_1 false l0_0))) else (jA.j1 k1 l0_0 (l0_0.length:Int) x8_1 true l0_0))=some r:=H
        have A13:=am A130
        clear A130
        by_cases c14:t242=x8_1
        ·rw [if_pos c14] at H
         have c14b0:(t242 == x8_1)=true:=beq_iff_eq.mpr c14
         have c14b1:(t242 != x8_1)=false:=bne_eq_false_iff_eq.mpr c14
         clear c14
         (first | rw [c14b0] |(simp only [jHb,jLb];rw [c14b0]) | skip)
         by_cases c15:x8_1=0
         ·rw [if_pos c15] at H
          have c15b0:(x8_1 == 0)=true:=beq_iff_eq.mpr c15
          have c15b1:(x8_1 != 0)=false:=bne_eq_false_iff_eq.mpr c15
          clear c15
          by_cases c16:((jH l0_0 x8_1).f1)=(-1)
          ·rw [if_pos c16] at H
           have c16b0:(((jH l0_0 x8_1).f1) == (-1))=true:=beq_iff_eq.mpr c16
           have c16b1:(((jH l0_0 x8_1).f1) != (-1))=false:=bne_eq_false_iff_eq.mpr c16
           clear c16
           by_cases c17:x8_1 > 0
           ·rw [if_pos c17] at H
            have c17b0:decide (0<x8_1)=true:=dzT c17
            clear c17
            replace H:=bzS H
            obtain ⟨t243,A180,H⟩:=H
            replace H:(jA.j1 k1 l0_0 (l0_0.length:Int) x8_1 (!t243) l0_0)=some r:=H
            have A18:=am A180
            clear A180
            have H':=am H
            clear H
            have hnb19:=NB240_237.out
            have hnc19:=NB237_240.out
            have hcz20_0:=bc0 BK240.out
            have hcz20_1:=bc1 BK240.out
            have hfz20_0:=ja BK240.out 0
            have hfz20_1:=ja BK240.out 1
            go_wp2_with (first |((with_reducible refine jo (f:=78) rfl ?_);refine gL (some 15) Try.func78 #[.string ((jH l0_0 x8_1).f0)] ?_;(with_reducible refine (jGa.calls k1 ((jH l0_0 x8_1).f0) true _ A11.out).mono ?_);rintro e w' ⟨rfl,⟨nd,rfl⟩⟩;refine ⟨_,rfl,?_⟩;have hcz21_0:=bc0 BK237.out;have hfz21_0:=ja BK237.out 0) |(go_at_call 79;(with_reducible refine (jKa.calls _ _ l0_0 ((jH l0_0 x8_1).f0) t242 _ ?side1 ?side2 A13.out).mono ?_);(case side1=>exact Kd.jZ HR0_0.out (Y9));(case side2=>exact HC0_0.out);rintro e w22 ⟨rfl,hb⟩;replace BK237:=am (jc (g:=gb237) (o:=.cells #[.slice (some ad239) l0_0.length c0_0] 31 (0,0)) (Y52) hb);replace BK240:=am (jc (g:=gb240) (o:=.cells #[.string ((jH l0_0 x8_1).f0), .int .i64 ((jH l0_0 x8_1).f1)] 106 (0,0)) (Y53) hb);replace HB:=am (jg (Y9) hb);(try clear hb);(try clear hb2);(try clear hk);(try clear hi);have hcz23_0:=bc0 BK240.out;have hcz23_1:=bc1 BK240.out;have hfz23_0:=ja BK240.out 0;have hfz23_1:=ja BK240.out 1) |(go_at_call 80;(with_reducible refine (jwa.calls ((jH l0_0 x8_1).f1) 0 (wrap64 (x8_1 - 1)) t243 _ A18.out).mono ?_);rintro e w' ⟨rfl,⟨nd,rfl⟩⟩))
            go_meet
            case rel=>exact ⟨_,(!t243),(sq),H',⟨by have:=HK1.out;first | omega | exact Nat.le_refl _⟩,⟨kq BK237.out⟩,⟨kq BK240.out⟩,⟨Y9⟩⟩
           ·rw [if_neg c17] at H
            have c17b0:decide (0<x8_1)=false:=dzF c17
            clear c17
            have H':=am H
            clear H
            have hnb24:=NB240_237.out
            have hnc24:=NB237_240.out
            have hcz25_0:=bc0 BK240.out
            have hcz25_1:=bc1 BK240.out
            have hfz25_0:=ja BK240.out 0
            have hfz25_1:=ja BK240.out 1
            go_wp2_with (first |((with_reducible refine jo (f:=78) rfl ?_);refine gL (some 15) Try.func78 #[.string ((jH l0_0 x8_1).f0)] ?_;(with_reducible refine (jGa.calls k1 ((jH l0_0 x8_1).f0) true _ A11.out).mono ?_);rintro e w' ⟨rfl,⟨nd,rfl⟩⟩;refine ⟨_,rfl,?_⟩;have hcz26_0:=bc0 BK237.out;have hfz26_0:=ja BK237.out 0) |(go_at_call 79;(with_reducible refine (jKa.calls _ _ l0_0 ((jH l0_0 x8_1).f0) t242 _ ?side1 ?side2 A13.out).mono ?_);(case side1=>exact Kd.jZ HR0_0.out (Y9));(case side2=>exact HC0_0.out);rintro e w27 ⟨rfl,hb⟩;replace BK237:=am (jc (g:=gb237) (o:=.cells #[.slice (some ad239) l0_0.length c0_0] 31 (0,0)) (Y52) hb);replace BK240:=am (jc (g:=gb240) (o:=.cells #[.string ((jH l0_0 x8_1).f0), .int .i64 ((jH l0_0 x8_1).f1)] 106 (0,0)) (Y53) hb);replace HB:=am (jg (Y9) hb);(try clear hb);(try clear hb2);(try clear hk);(try clear hi);have hcz28_0:=bc0 BK240.out;have hcz28_1:=bc1 BK240.out;have hfz28_0:=ja BK240.out 0;have hfz28_1:=ja BK240.out 1))
            go_meet
            case rel=>exact ⟨_,(false),(sq),H',⟨by have:=HK1.out;first | omega | exact Nat.le_refl _⟩,⟨kq BK237.out⟩,⟨kq BK240.out⟩,⟨Y9⟩⟩
          ·rw [if_neg c16] at H
           have c16b0:(((jH l0_0 x8_1).f1) == (-1))=false:=beq_eq_false_iff_ne.mpr c16
           have c16b1:(((jH l0_0 x8_1).f1) != (-1))=true:=bne_iff_ne.mpr c16
           have H':=am H
           clear H
           have hnb29:=NB240_237.out
           have hnc29:=NB237_240.out
           have hcz30_0:=bc0 BK240.out
           have hcz30_1:=bc1 BK240.out
           have hfz30_0:=ja BK240.out 0
           have hfz30_1:=ja BK240.out 1
           go_wp2_with (first |((with_reducible refine jo (f:=78) rfl ?_);refine gL (some 15) Try.func78 #[.string ((jH l0_0 x8_1).f0)] ?_;(with_reducible refine (jGa.calls k1 ((jH l0_0 x8_1).f0) true _ A11.out).mono ?_);rintro e w' ⟨rfl,⟨nd,rfl⟩⟩;refine ⟨_,rfl,?_⟩;have hcz31_0:=bc0 BK237.out;have hfz31_0:=ja BK237.out 0) |(go_at_call 79;(with_reducible refine (jKa.calls _ _ l0_0 ((jH l0_0 x8_1).f0) t242 _ ?side1 ?side2 A13.out).mono ?_);(case side1=>exact Kd.jZ HR0_0.out (Y9));(case side2=>exact HC0_0.out);rintro e w32 ⟨rfl,hb⟩;replace BK237:=am (jc (g:=gb237) (o:=.cells #[.slice (some ad239) l0_0.length c0_0] 31 (0,0)) (Y52) hb);replace BK240:=am (jc (g:=gb240) (o:=.cells #[.string ((jH l0_0 x8_1).f0), .int .i64 ((jH l0_0 x8_1).f1)] 106 (0,0)) (Y53) hb);replace HB:=am (jg (Y9) hb);(try clear hb);(try clear hb2);(try clear hk);(try clear hi);have hcz33_0:=bc0 BK240.out;have hcz33_1:=bc1 BK240.out;have hfz33_0:=ja BK240.out 0;have hfz33_1:=ja BK240.out 1))
           go_meet
           case rel=>exact ⟨_,(true),(sq),H',⟨by have:=HK1.out;first | omega | exact Nat.le_refl _⟩,⟨kq BK237.out⟩,⟨kq BK240.out⟩,⟨Y9⟩⟩
         ·rw [if_neg c15] at H
          have c15b0:(x8_1 == 0)=false:=beq_eq_false_iff_ne.mpr c15
          have c15b1:(x8_1 != 0)=true:=bne_iff_ne.mpr c15
          by_cases c34:x8_1 > 0
          ·rw [if_pos c34] at H
           have c34b0:decide (0<x8_1)=true:=dzT c34
           clear c34
           replace H:=bzS H
           obtain ⟨t244,A350,H⟩:=H
           replace H:(jA.j1 k1 l0_0 (l0_0.length:Int) x8_1 (!t244) l0_0)=some r:=H
           have A35:=am A350
           clear A350
           have H':=am H
           clear H
           have hnb36:=NB240_237.out
           have hnc36:=NB237_240.out
           have hcz37_0:=bc0 BK240.out
           have hcz37_1:=bc1 BK240.out
           have hfz37_0:=ja BK240.out 0
           have hfz37_1:=ja BK240.out 1
           go_wp2_with (first |((with_reducible refine jo (f:=78) rfl ?_);refine gL (some 15) Try.func78 #[.string ((jH l0_0 x8_1).f0)] ?_;(with_reducible refine (jGa.calls k1 ((jH l0_0 x8_1).f0) true _ A11.out).mono ?_);rintro e w' ⟨rfl,⟨nd,rfl⟩⟩;refine ⟨_,rfl,?_⟩;have hcz38_0:=bc0 BK237.out;have hfz38_0:=ja BK237.out 0) |(go_at_call 79;(with_reducible refine (jKa.calls _ _ l0_0 ((jH l0_0 x8_1).f0) t242 _ ?side1 ?side2 A13.out).mono ?_);(case side1=>exact Kd.jZ HR0_0.out (Y9));(case side2=>exact HC0_0.out);rintro e w39 ⟨rfl,hb⟩;replace BK237:=am (jc (g:=gb237) (o:=.cells #[.slice (some ad239) l0_0.length c0_0] 31 (0,0)) (Y52) hb);replace BK240:=am (jc (g:=gb240) (o:=.cells #[.string ((jH l0_0 x8_1).f0), .int .i64 ((jH l0_0 x8_1).f1)] 106 (0,0)) (Y53) hb);replace HB:=am (jg (Y9) hb);(try clear hb);(try clear hb2);(try clear hk);(try clear hi);have hcz40_0:=bc0 BK240.out;have hcz40_1:=bc1 BK240.out;have hfz40_0:=ja BK240.out 0;have hfz40_1:=ja BK240.out 1) |(go_at_call 80;(with_reducible refine (jwa.calls ((jH l0_0 x8_1).f1) 0 (wrap64 (x8_1 - 1)) t244 _ A35.out).mono ?_);rintro e w' ⟨rfl,⟨nd,rfl⟩⟩))
           go_meet
           case rel=>exact ⟨_,(!t244),(sq),H',⟨by have:=HK1.out;first | omega | exact Nat.le_refl _⟩,⟨kq BK237.out⟩,⟨kq BK240.out⟩,⟨Y9⟩⟩
          ·rw [if_neg c34] at H
           have c34b0:decide (0<x8_1)=false:=dzF c34
           clear c34
           have H':=am H
           clear H
           have hnb41:=NB240_237.out
           have hnc41:=NB237_240.out
           have hcz42_0:=bc0 BK240.out
           have hcz42_1:=bc1 BK240.out
           have hfz42_0:=ja BK240.out 0
           have hfz42_1:=ja BK240.out 1
           go_wp2_with (first |((with_reducible refine jo (f:=78) rfl ?_);refine gL (some 15) Try.func78 #[.string ((jH l0_0 x8_1).f0)] ?_;(with_reducible refine (jGa.calls k1 ((jH l0_0 x8_1).f0) true _ A11.out).mono ?_);rintro e w' ⟨rfl,⟨nd,rfl⟩⟩;refine ⟨_,rfl,?_⟩;have hcz43_0:=bc0 BK237.out;have hfz43_0:=ja BK237.out 0) |(go_at_call 79;(with_reducible refine (jKa.calls _ _ l0_0 ((jH l0_0 x8_1).f0) t242 _ ?side1 ?side2 A13.out).mono ?_);(case side1=>exact Kd.jZ HR0_0.out (Y9));(case side2=>exact HC0_0.out);rintro e w44 ⟨rfl,hb⟩;replace BK237:=am (jc (g:=gb237) (o:=.cells #[.slice (some ad239) l0_0.length c0_0] 31 (0,0)) (Y52) hb);replace BK240:=am (jc (g:=gb240) (o:=.cells #[.string ((jH l0_0 x8_1).f0), .int .i64 ((jH l0_0 x8_1).f1)] 106 (0,0)) (Y53) hb);replace HB:=am (jg (Y9) hb);(try clear hb);(try clear hb2);(try clear hk);(try clear hi)))
           go_meet
           case rel=>exact ⟨_,(false),(sq),H',⟨by have:=HK1.out;first | omega | exact Nat.le_refl _⟩,⟨kq BK237.out⟩,⟨kq BK240.out⟩,⟨Y9⟩⟩
        ·rw [if_neg c14] at H
         have c14b0:(t242 == x8_1)=false:=beq_eq_false_iff_ne.mpr c14
         have c14b1:(t242 != x8_1)=true:=bne_iff_ne.mpr c14
         (first | rw [c14b0] |(simp only [jHb,jLb];rw [c14b0]) | skip)
         have H':=am H
         clear H
         have hnb45:=NB240_237.out
         have hnc45:=NB237_240.out
         have hcz46_0:=bc0 BK240.out
         have hcz46_1:=bc1 BK240.out
         have hfz46_0:=ja BK240.out 0
         have hfz46_1:=ja BK240.out 1
         go_wp2_with (first |((with_reducible refine jo (f:=78) rfl ?_);refine gL (some 15) Try.func78 #[.string ((jH l0_0 x8_1).f0)] ?_;(with_reducible refine (jGa.calls k1 ((jH l0_0 x8_1).f0) true _ A11.out).mono ?_);rintro e w' ⟨rfl,⟨nd,rfl⟩⟩;refine ⟨_,rfl,?_⟩;have hcz47_0:=bc0 BK237.out;have hfz47_0:=ja BK237.out 0) |(go_at_call 79;(with_reducible refine (jKa.calls _ _ l0_0 ((jH l0_0 x8_1).f0) t242 _ ?side1 ?side2 A13.out).mono ?_);(case side1=>exact Kd.jZ HR0_0.out (Y9));(case side2=>exact HC0_0.out);rintro e w48 ⟨rfl,hb⟩;replace BK237:=am (jc (g:=gb237) (o:=.cells #[.slice (some ad239) l0_0.length c0_0] 31 (0,0)) (Y52) hb);replace BK240:=am (jc (g:=gb240) (o:=.cells #[.string ((jH l0_0 x8_1).f0), .int .i64 ((jH l0_0 x8_1).f1)] 106 (0,0)) (Y53) hb);replace HB:=am (jg (Y9) hb);(try clear hb);(try clear hb2);(try clear hk);(try clear hi)))
         go_meet
         case rel=>exact ⟨_,(true),(sq),H',⟨by have:=HK1.out;first | omega | exact Nat.le_refl _⟩,⟨kq BK237.out⟩,⟨kq BK240.out⟩,⟨Y9⟩⟩
       ·replace c12:=Bool.eq_false_iff.mpr c12
        subst c12
        have H1:(jA.j1 k1 l0_0 (l0_0.length:Int) x8_1 true l0_0)=some r:=by rw [if_neg (show ¬ (false=true) by decide)] at H;exact H
        clear H
        have H:=H1
        clear H1
        have H':=am H
        clear H
        have hnb49:=NB240_237.out
        have hnc49:=NB237_240.out
        have hcz50_0:=bc0 BK240.out
        have hcz50_1:=bc1 BK240.out
        have hfz50_0:=ja BK240.out 0
        have hfz50_1:=ja BK240.out 1
        go_wp2_with (first |((with_reducible refine jo (f:=78) rfl ?_);refine gL (some 15) Try.func78 #[.string ((jH l0_0 x8_1).f0)] ?_;(with_reducible refine (jGa.calls k1 ((jH l0_0 x8_1).f0) false _ A11.out).mono ?_);rintro e w' ⟨rfl,⟨nd,rfl⟩⟩;refine ⟨_,rfl,?_⟩))
        go_meet
        case rel=>exact ⟨_,(true),(sq),H',⟨by have:=HK1.out;first | omega | exact Nat.le_refl _⟩,⟨by (with_reducible repeat (first | refine jd ?_ _ | refine jf ?_ | refine jb ?_ _));refine jT ?_ NB237_240.out _;(with_reducible repeat (first | refine jd ?_ _ | refine jf ?_ | refine jb ?_ _));refine jT ?_ NB237_240.out _;(with_reducible repeat (first | refine jd ?_ _ | refine jf ?_ | refine jb ?_ _));exact BK237.out⟩,⟨by (with_reducible repeat (first | refine jd ?_ _ | refine jf ?_ | refine jb ?_ _));refine jS (cs:=#[.string ((jH l0_0 x8_1).f0), .int .i64 0]) ?_ 1 _ rfl;(with_reducible repeat (first | refine jd ?_ _ | refine jf ?_ | refine jb ?_ _));refine jS (cs:=#[.string (⟨#[]⟩:ByteArray), .int .i64 0]) ?_ 0 _ rfl;(with_reducible repeat (first | refine jd ?_ _ | refine jf ?_ | refine jb ?_ _));exact BK240.out⟩,⟨Y9⟩⟩
      case rest =>
       clear HC7
       try clear c1
       try clear c2
       try clear p2
       try clear q2
       try clear hx2
       try clear c3
       try clear c4
       try clear c4b0
       try clear c5
       try clear c5b0
       try clear c6
       try clear c6b0
       try clear p6
       try clear c7
       try clear c9
       try clear c12
       try clear c14
       try clear c14b0
       try clear c14b1
       try clear c15
       try clear c15b0
       try clear c15b1
       try clear c16
       try clear c16b0
       try clear c16b1
       try clear c17
       try clear c17b0
       try clear c19
       try clear p23
       try clear q23
       try clear hx23
       try clear c24
       try clear c29
       try clear c34
       try clear c34b0
       try clear c36
       try clear c41
       try clear c45
       try clear c48
       try clear c49
       try clear hcz10_0
       try clear hcz10_1
       try clear hcz20_0
       try clear hcz20_1
       try clear hcz21_0
       try clear hcz23_0
       try clear hcz23_1
       try clear hcz25_0
       try clear hcz25_1
       try clear hcz26_0
       try clear hcz28_0
       try clear hcz28_1
       try clear hcz30_0
       try clear hcz30_1
       try clear hcz31_0
       try clear hcz33_0
       try clear hcz33_1
       try clear hcz37_0
       try clear hcz37_1
       try clear hcz38_0
       try clear hcz3_0
       try clear hcz40_0
       try clear hcz40_1
       try clear hcz42_0
       try clear hcz42_1
       try clear hcz43_0
       try clear hcz46_0
       try clear hcz46_1
       try clear hcz47_0
       try clear hcz50_0
       try clear hcz50_1
       try clear hfz10_0
       try clear hfz10_1
       try clear hfz20_0
       try clear hfz20_1
       try clear hfz21_0
       try clear hfz23_0
       try clear hfz23_1
       try clear hfz25_0
       try clear hfz25_1
       try clear hfz26_0
       try clear hfz28_0
       try clear hfz28_1
       try clear hfz30_0
       try clear hfz30_1
       try clear hfz31_0
       try clear hfz33_0
       try clear hfz33_1
       try clear hfz37_0
       try clear hfz37_1
       try clear hfz38_0
       try clear hfz3_0
       try clear hfz40_0
       try clear hfz40_1
       try clear hfz42_0
       try clear hfz42_1
       try clear hfz43_0
       try clear hfz46_0
       try clear hfz46_1
       try clear hfz47_0
       try clear hfz50_0
       try clear hfz50_1
       try clear hx239_0
       try clear hx239_1
       try clear p2
       try clear p239
       try clear q239
       obtain ⟨kq,x45_6,rfl,HA,HJ6,BK237,BK240,HB⟩:=hcut
       cases kq with
       | zero=>exact absurd HA.out (by simp [jA.j1])
       | succ kj6 =>
        have H:=HA.out
        clear HA
        simp only [jA.j1] at H
        by_cases c51:x45_6=true
        ·subst c51
         have H1:(some false)=some r:=by rw [if_pos rfl] at H;exact H
         clear H
         have H:=H1
         clear H1
         obtain rfl:=Option.some.inj H
         go_wp2
         go_ret
         exact ⟨Y0,Y9⟩
        ·replace c51:=Bool.eq_false_iff.mpr c51
         subst c51
         have H1:(jA.l0 kj6 l0_0 (l0_0.length:Int) (wrap64 (x8_1+1)) l0_0)=some r:=by rw [if_neg (show ¬ (false=true) by decide)] at H;exact H
         clear H
         have H:=H1
         clear H1
         have H':=am H
         clear H
         go_wp2
         go_roundg kj6
         case measure=>have:=HK1.out;have:=HJ6.out;omega
         case rel=>exact ⟨(wrap64 (x8_1+1)),(sq),H',⟨by have:=HK1.out;have:=HJ6.out;omega⟩,⟨kq BK237.out⟩,⟨Y9⟩⟩
     ·rw [if_neg c6] at H
      exact absurd H (by simp)
    ·rw [if_neg c5] at H
     exact absurd H (by simp)
   ·rw [if_neg c4] at H
    have c4b0:decide (x8_1<(l0_0.length:Int))=false:=dzF c4
    clear c4
    replace H:=bzS H
    obtain ⟨t238,A520,H⟩:=H
    replace H:(some t238)=some r:=H
    have A52:=am A520
    clear A520
    obtain rfl:=Option.some.inj H
    have hcz53_0:=bc0 BK237.out
    have hfz53_0:=ja BK237.out 0
    go_wp2_with (first |((with_reducible refine jo (f:=80) rfl ?_);refine gL (some 50) Try.func80 #[.int .i64 (l0_0.length:Int), .int .i64 1, .int .i64 8] ?_;(with_reducible refine (jwa.calls (l0_0.length:Int) 1 8 t238 _ A52.out).mono ?_);rintro e w' ⟨rfl,⟨nd,rfl⟩⟩;refine ⟨_,rfl,?_⟩))
    go_ret
    exact ⟨Y0,Y81⟩
def jxa.f (a0 : Int) : Option (Bool) := (jwa.f a0 0 99).bind fun t245 => (some t245)
set_option maxHeartbeats 8000000 in
set_option maxRecDepth 100000 in
theorem jxa.calls (a0 : Int) (r : Bool) (w : World) (h : jxa.f a0 = some r) :
  Calls Try.prog 82 #[.int .i64 a0] w fun e w'=>e=.returned (.bool r)∧jhb w w':=by
 have H:((jwa.f a0 0 99).bind fun t245=>(some t245))=some r:=h
 clear h
 replace H:=bzS H
 obtain ⟨t245,A20,H⟩:=H
 replace H:(some t245)=some r:=H
 have A2:=am A20
 clear A20
 obtain rfl:=Option.some.inj H
 go_enter Try.func82,Try.ntmps82
 go_wp2_with (first |((with_reducible refine jo (f:=80) rfl ?_);refine gL (some 4) Try.func80 #[.int .i64 a0, .int .i64 0, .int .i64 99] ?_;(with_reducible refine (jwa.calls a0 0 99 t245 _ A2.out).mono ?_);rintro e w' ⟨rfl,⟨nd,rfl⟩⟩;refine ⟨_,rfl,?_⟩))
 go_ret
 exact ⟨sq,Y4⟩
def jha.f (l0_0 : List (S106)) (a1 : Int) : Option (Bool) := (jwa.f a1 0 (wrap64 ((l0_0.length : Int) - 1))).bind fun t247 => (some t247)
set_option maxHeartbeats 8000000 in
set_option maxRecDepth 100000 in
theorem jha.calls (A0_0 : Option Addr) (c0_0 : Nat) (l0_0 : List (S106)) (a1 : Int) (r : Bool) (w : World) (hr0_0 : Kd.C k106 w A0_0 l0_0.length l0_0) (hc0_0 : l0_0.length ≤ c0_0) (h : jha.f l0_0 a1 = some r) :
  Calls Try.prog 83 #[.agg #[.slice A0_0 l0_0.length c0_0], .int .i64 a1] w fun e w'=>e=.returned (.bool r)∧Below w.heap.size w w':=by
 have hu31:=Try.underlying31
 have HR0_0:=am hr0_0
 have HC0_0:=am hc0_0
 clear hr0_0 hc0_0
 have HB:=am (Below.refl w.heap.size w)
 have H:((jwa.f a1 0 (wrap64 ((l0_0.length:Int) - 1))).bind fun t247=>(some t247))=some r:=h
 clear h
 replace H:=bzS H
 obtain ⟨t247,A30,H⟩:=H
 replace H:(some t247)=some r:=H
 have A3:=am A30
 clear A30
 obtain rfl:=Option.some.inj H
 go_enter Try.func83,Try.ntmps83
 go_wp2_with (first |((with_reducible refine jG (N:=2) rfl ?_);refine bE (N:=2) (cs:=#[.slice A0_0 l0_0.length c0_0]) (t:=31) ?_;intro gb246 hg w4 hbox hb;have BK246:=am (hbox);have GW246:=am ((Y2:w.heap.size≤gb246));have GE246:=am ((Y2:w.heap.size≤gb246));replace HB:=am (jg (bq) hb);clear hb hbox hg;have hcz5_0:=bc0 BK246.out;have hfz5_0:=ja BK246.out 0) |((with_reducible refine jo (f:=80) rfl ?_);refine gL (some 10) Try.func80 #[.int .i64 a1, .int .i64 0, .int .i64 (wrap64 ((l0_0.length:Int) - 1))] ?_;(with_reducible refine (jwa.calls a1 0 (wrap64 ((l0_0.length:Int) - 1)) t247 _ A3.out).mono ?_);rintro e w' ⟨rfl,⟨nd,rfl⟩⟩;refine ⟨_,rfl,?_⟩))
 go_ret
 exact ⟨Y0,by repeat (first |(with_reducible first | exact HB.out | apply jF | apply jq | apply jD | refine jy ?_ GE246.out) | exact HB.out)⟩
def jua.j0 : Nat → Int → Bool → Int → Int → Int → List (S106) → Option (Bool)
 | 0,_,_,_,_,_,_=>none
 | k+1,x6,x7,x249000,x249001,x249002,x250000=>if x7=true then ((jxa.f x249001).bind fun t250=>(if t250=true then (some (x249002 == 0)) else (some false))) else (if x6=2 then ((jha.f x250000 x249001).bind fun t251=>(if t251=true then (some (x249002 == 0)) else (some false))) else (if x6=3 then ((jha.f x250000 x249001).bind fun t252=>(if t252=true then ((jxa.f x249002).bind fun t253=>(some t253)) else (some false))) else (some false)))
def jua.f (k : Nat) (a0_0 : Int) (a0_1 : Int) (a0_2 : Int) (l1_0 : List (S106)) : Option (Bool) := if a0_0 = 0 then (jua.j0 k a0_0 (a0_0 == 0) a0_0 a0_1 a0_2 l1_0) else (jua.j0 k a0_0 (a0_0 == 1) a0_0 a0_1 a0_2 l1_0)
set_option maxHeartbeats 8000000 in
set_option maxRecDepth 100000 in
theorem jua.calls (k : Nat) (a0_0 : Int) (a0_1 : Int) (a0_2 : Int) (A1_0 : Option Addr) (c1_0 : Nat) (l1_0 : List (S106)) (r : Bool) (w : World) (hr1_0 : Kd.C k106 w A1_0 l1_0.length l1_0) (hc1_0 : l1_0.length ≤ c1_0) (h : jua.f k a0_0 a0_1 a0_2 l1_0 = some r) :
  Calls Try.prog 51 #[.agg #[.int .i64 a0_0, .int .i64 a0_1, .int .i64 a0_2], .agg #[.slice A1_0 l1_0.length c1_0]] w fun e w'=>e=.returned (.bool r)∧Below w.heap.size w w':=by
 have hu44:=Try.underlying44
 have hu31:=Try.underlying31
 have HR1_0:=am hr1_0
 have HC1_0:=am hc1_0
 clear hr1_0 hc1_0
 have HB:=am (Below.refl w.heap.size w)
 have H:(if a0_0=0 then (jua.j0 k a0_0 (a0_0 == 0) a0_0 a0_1 a0_2 l1_0) else (jua.j0 k a0_0 (a0_0 == 1) a0_0 a0_1 a0_2 l1_0))=some r:=h
 clear h
 have HC3:=am H
 clear H
 go_enter Try.func51,Try.ntmps51
 go_upto_if 7 with (first |((with_reducible refine jG (N:=2) rfl ?_);refine bE (N:=2) (cs:=#[.int .i64 a0_0, .int .i64 a0_1, .int .i64 a0_2]) (t:=44) ?_;intro gb248 hg w4 hbox hb;have BK248:=am (hbox);have GW248:=am ((Y2:w.heap.size≤gb248));have GE248:=am ((Y2:w.heap.size≤gb248));replace HB:=am (jg (bq) hb);clear hb hbox hg) |((with_reducible refine jG (N:=3) rfl ?_);refine bE (N:=3) (cs:=#[.slice A1_0 l1_0.length c1_0]) (t:=31) ?_;intro gb249 hg w5 hbox hb;have BK249:=am (hbox);have GW249:=am ((Y94:w.heap.size≤gb249));have GE249:=am ((Y94:w.heap.size≤gb249));have NB248_249:=am ((by rw [hg];exact Nat.ne_of_lt (jva (g:=gb248) (o:=.cells #[.int .i64 a0_0, .int .i64 a0_1, .int .i64 a0_2] 44 (0,0)) (kq BK248.out)):gb248≠gb249));have NB249_248:=am ((by rw [hg];exact Nat.ne_of_gt (jva (g:=gb248) (o:=.cells #[.int .i64 a0_0, .int .i64 a0_1, .int .i64 a0_2] 44 (0,0)) (kq BK248.out)):gb249≠gb248));replace BK248:=am (jc (g:=gb248) (o:=.cells #[.int .i64 a0_0, .int .i64 a0_1, .int .i64 a0_2] 44 (0,0)) (kq BK248.out) hb);replace HB:=am (jg (by repeat (first |(with_reducible first | exact HB.out | apply jF | apply jq | apply jD | refine jy ?_ GE248.out) | exact HB.out)) hb);clear hb hbox hg;have hnb6:=NB248_249.out;have hnc6:=NB249_248.out;have hcz7_0:=bc0 BK248.out;have hcz7_1:=bc1 BK248.out;have hcz7_2:=bc2 BK248.out;have hfz7_0:=ja BK248.out 0;have hfz7_1:=ja BK248.out 1;have hfz7_2:=ja BK248.out 2))
 (try simp only [Act.put,List.setIfInBounds_toArray,List.set_cons_zero,List.set_cons_succ])
 go_cut [7] (fun v7 wc=>∃ (kq:Nat) (x7_2:Bool),v7=.bool x7_2∧jE (jua.j0 kq a0_0 x7_2 a0_0 a0_1 a0_2 l1_0=some r)∧jE (kq≤k)∧jE (wc.heap[gb248]?=some (.cells #[.int .i64 a0_0, .int .i64 a0_1, .int .i64 a0_2] 44 (0,0)))∧jE (wc.heap[gb249]?=some (.cells #[(.slice A1_0 l1_0.length c1_0)] 31 (0,0)))∧jE (Below w.heap.size w wc))
 case first =>
  have H:=HC3.out
  clear HC3
  by_cases c8:a0_0=0
  ·rw [if_pos c8] at H
   have c8b0:(a0_0 == 0)=true:=beq_iff_eq.mpr c8
   have c8b1:(a0_0 != 0)=false:=bne_eq_false_iff_eq.mpr c8
   clear c8
   (first | rw [c8b0] |(simp only [jHb,jLb];rw [c8b0]) | skip)
   have H':=am H
   clear H
   go_wp2
   go_meet
   case rel=>exact ⟨_,((a0_0 == 0)),(sq),H',⟨Y34⟩,⟨kq BK248.out⟩,⟨kq BK249.out⟩,⟨Y19⟩⟩
  ·rw [if_neg c8] at H
   have c8b0:(a0_0 == 0)=false:=beq_eq_false_iff_ne.mpr c8
   have c8b1:(a0_0 != 0)=true:=bne_iff_ne.mpr c8
   (first | rw [c8b0] |(simp only [jHb,jLb];rw [c8b0]) | skip)
   have H':=am H
   clear H
   go_wp2
   go_meet
   case rel=>exact ⟨_,((a0_0 == 1)),(sq),H',⟨Y34⟩,⟨kq BK248.out⟩,⟨kq BK249.out⟩,⟨Y19⟩⟩
 case rest =>
  clear HC3
  try clear c1
  try clear p2
  try clear c5
  try clear c6
  try clear c8
  try clear c8b0
  try clear c8b1
  try clear hcz7_0
  try clear hcz7_1
  try clear hcz7_2
  try clear hfz7_0
  try clear hfz7_1
  try clear hfz7_2
  obtain ⟨kq,x7_2,rfl,HA,HJ2,BK248,BK249,HB⟩:=hcut
  cases kq with
  | zero=>exact absurd HA.out (by simp [jua.j0])
  | succ kj2 =>
   have H:=HA.out
   clear HA
   simp only [jua.j0] at H
   by_cases c9:x7_2=true
   ·subst c9
    have H1:((jxa.f a0_1).bind fun t250=>(if t250=true then (some (a0_2 == 0)) else (some false)))=some r:=by rw [if_pos rfl] at H;exact H
    clear H
    have H:=H1
    clear H1
    replace H:=bzS H
    obtain ⟨t250,A100,H⟩:=H
    replace H:(if t250=true then (some (a0_2 == 0)) else (some false))=some r:=H
    have A10:=am A100
    clear A100
    by_cases c11:t250=true
    ·subst c11
     have H1:(some (a0_2 == 0))=some r:=by rw [if_pos rfl] at H;exact H
     clear H
     have H:=H1
     clear H1
     obtain rfl:=Option.some.inj H
     have hnb12:=NB248_249.out
     have hnc12:=NB249_248.out
     have hcz13_0:=bc0 BK248.out
     have hcz13_1:=bc1 BK248.out
     have hcz13_2:=bc2 BK248.out
     have hfz13_0:=ja BK248.out 0
     have hfz13_1:=ja BK248.out 1
     have hfz13_2:=ja BK248.out 2
     go_wp2_with (first |((with_reducible refine jo (f:=82) rfl ?_);refine gL (some 12) Try.func82 #[.int .i64 a0_1] ?_;(with_reducible refine (jxa.calls a0_1 true _ A10.out).mono ?_);rintro e w' ⟨rfl,⟨nd,rfl⟩⟩;refine ⟨_,rfl,?_⟩))
     go_ret
     exact ⟨Y0,Y19⟩
    ·replace c11:=Bool.eq_false_iff.mpr c11
     subst c11
     have H1:(some false)=some r:=by rw [if_neg (show ¬ (false=true) by decide)] at H;exact H
     clear H
     have H:=H1
     clear H1
     obtain rfl:=Option.some.inj H
     have hnb14:=NB248_249.out
     have hnc14:=NB249_248.out
     have hcz15_0:=bc0 BK248.out
     have hcz15_1:=bc1 BK248.out
     have hcz15_2:=bc2 BK248.out
     have hfz15_0:=ja BK248.out 0
     have hfz15_1:=ja BK248.out 1
     have hfz15_2:=ja BK248.out 2
     go_wp2_with (first |((with_reducible refine jo (f:=82) rfl ?_);refine gL (some 12) Try.func82 #[.int .i64 a0_1] ?_;(with_reducible refine (jxa.calls a0_1 false _ A10.out).mono ?_);rintro e w' ⟨rfl,⟨nd,rfl⟩⟩;refine ⟨_,rfl,?_⟩))
     go_ret
     exact ⟨Y0,Y19⟩
   ·replace c9:=Bool.eq_false_iff.mpr c9
    subst c9
    have H1:(if a0_0=2 then ((jha.f l1_0 a0_1).bind fun t251=>(if t251=true then (some (a0_2 == 0)) else (some false))) else (if a0_0=3 then ((jha.f l1_0 a0_1).bind fun t252=>(if t252=true then ((jxa.f a0_2).bind fun t253=>(some t253)) else (some false))) else (some false)))=some r:=by rw [if_neg (show ¬ (false=true) by decide)] at H;exact H
    clear H
    have H:=H1
    clear H1
    by_cases c16:a0_0=2
    ·rw [if_pos c16] at H
     have c16b0:(a0_0 == 2)=true:=beq_iff_eq.mpr c16
     have c16b1:(a0_0 != 2)=false:=bne_eq_false_iff_eq.mpr c16
     clear c16
     replace H:=bzS H
     obtain ⟨t251,A170,H⟩:=H
     replace H:(if t251=true then (some (a0_2 == 0)) else (some false))=some r:=H
     have A17:=am A170
     clear A170
     by_cases c18:t251=true
     ·subst c18
      have H1:(some (a0_2 == 0))=some r:=by rw [if_pos rfl] at H;exact H
      clear H
      have H:=H1
      clear H1
      obtain rfl:=Option.some.inj H
      have hnb19:=NB249_248.out
      have hnc19:=NB248_249.out
      have hcz20_0:=bc0 BK249.out
      have hfz20_0:=ja BK249.out 0
      have hcz21_0:=bc0 BK248.out
      have hcz21_1:=bc1 BK248.out
      have hcz21_2:=bc2 BK248.out
      have hfz21_0:=ja BK248.out 0
      have hfz21_1:=ja BK248.out 1
      have hfz21_2:=ja BK248.out 2
      go_wp2_with (first |((with_reducible refine jo (f:=83) rfl ?_);refine gL (some 23) Try.func83 #[.agg #[.slice A1_0 l1_0.length c1_0], .int .i64 a0_1] ?_;(with_reducible refine (jha.calls _ _ l1_0 a0_1 true _ ?side1 ?side2 A17.out).mono ?_);(case side1=>exact cq (Kd.jZ HR1_0.out HB.out));(case side2=>exact HC1_0.out);rintro e w22 ⟨rfl,hb⟩;refine ⟨_,rfl,?_⟩;replace BK248:=am (jc (g:=gb248) (o:=.cells #[.int .i64 a0_0, .int .i64 a0_1, .int .i64 a0_2] 44 (0,0)) (kq BK248.out) hb);replace BK249:=am (jc (g:=gb249) (o:=.cells #[.slice A1_0 l1_0.length c1_0] 31 (0,0)) (kq BK249.out) hb);replace HB:=am (jg (Y19) hb);(try clear hb);(try clear hb2);(try clear hk);(try clear hi);have hcz23_0:=bc0 BK248.out;have hcz23_1:=bc1 BK248.out;have hcz23_2:=bc2 BK248.out;have hfz23_0:=ja BK248.out 0;have hfz23_1:=ja BK248.out 1;have hfz23_2:=ja BK248.out 2))
      go_ret
      exact ⟨Y0,Y19⟩
     ·replace c18:=Bool.eq_false_iff.mpr c18
      subst c18
      have H1:(some false)=some r:=by rw [if_neg (show ¬ (false=true) by decide)] at H;exact H
      clear H
      have H:=H1
      clear H1
      obtain rfl:=Option.some.inj H
      have hnb24:=NB249_248.out
      have hnc24:=NB248_249.out
      have hcz25_0:=bc0 BK249.out
      have hfz25_0:=ja BK249.out 0
      have hcz26_0:=bc0 BK248.out
      have hcz26_1:=bc1 BK248.out
      have hcz26_2:=bc2 BK248.out
      have hfz26_0:=ja BK248.out 0
      have hfz26_1:=ja BK248.out 1
      have hfz26_2:=ja BK248.out 2
      go_wp2_with (first |((with_reducible refine jo (f:=83) rfl ?_);refine gL (some 23) Try.func83 #[.agg #[.slice A1_0 l1_0.length c1_0], .int .i64 a0_1] ?_;(with_reducible refine (jha.calls _ _ l1_0 a0_1 false _ ?side1 ?side2 A17.out).mono ?_);(case side1=>exact cq (Kd.jZ HR1_0.out HB.out));(case side2=>exact HC1_0.out);rintro e w27 ⟨rfl,hb⟩;refine ⟨_,rfl,?_⟩;replace BK248:=am (jc (g:=gb248) (o:=.cells #[.int .i64 a0_0, .int .i64 a0_1, .int .i64 a0_2] 44 (0,0)) (kq BK248.out) hb);replace BK249:=am (jc (g:=gb249) (o:=.cells #[.slice A1_0 l1_0.length c1_0] 31 (0,0)) (kq BK249.out) hb);replace HB:=am (jg (Y19) hb);(try clear hb);(try clear hb2);(try clear hk);(try clear hi)))
      go_ret
      exact ⟨Y0,Y19⟩
    ·rw [if_neg c16] at H
     have c16b0:(a0_0 == 2)=false:=beq_eq_false_iff_ne.mpr c16
     have c16b1:(a0_0 != 2)=true:=bne_iff_ne.mpr c16
     by_cases c28:a0_0=3
     ·rw [if_pos c28] at H
      have c28b0:(a0_0 == 3)=true:=beq_iff_eq.mpr c28
      have c28b1:(a0_0 != 3)=false:=bne_eq_false_iff_eq.mpr c28
      clear c28
      replace H:=bzS H
      obtain ⟨t252,A290,H⟩:=H
      replace H:(if t252=true then ((jxa.f a0_2).bind fun t253=>(some t253)) else (some false))=some r:=H
      have A29:=am A290
      clear A290
      by_cases c30:t252=true
      ·subst c30
       have H1:((jxa.f a0_2).bind fun t253=>(some t253))=some r:=by rw [if_pos rfl] at H;exact H
       clear H
       have H:=H1
       clear H1
       replace H:=bzS H
       obtain ⟨t253,A310,H⟩:=H
       replace H:(some t253)=some r:=H
       have A31:=am A310
       clear A310
       obtain rfl:=Option.some.inj H
       have hnb32:=NB249_248.out
       have hnc32:=NB248_249.out
       have hcz33_0:=bc0 BK249.out
       have hfz33_0:=ja BK249.out 0
       have hcz34_0:=bc0 BK248.out
       have hcz34_1:=bc1 BK248.out
       have hcz34_2:=bc2 BK248.out
       have hfz34_0:=ja BK248.out 0
       have hfz34_1:=ja BK248.out 1
       have hfz34_2:=ja BK248.out 2
       go_wp2_with (first |((with_reducible refine jo (f:=83) rfl ?_);refine gL (some 34) Try.func83 #[.agg #[.slice A1_0 l1_0.length c1_0], .int .i64 a0_1] ?_;(with_reducible refine (jha.calls _ _ l1_0 a0_1 true _ ?side1 ?side2 A29.out).mono ?_);(case side1=>exact cq (Kd.jZ HR1_0.out HB.out));(case side2=>exact HC1_0.out);rintro e w35 ⟨rfl,hb⟩;refine ⟨_,rfl,?_⟩;replace BK248:=am (jc (g:=gb248) (o:=.cells #[.int .i64 a0_0, .int .i64 a0_1, .int .i64 a0_2] 44 (0,0)) (kq BK248.out) hb);replace BK249:=am (jc (g:=gb249) (o:=.cells #[.slice A1_0 l1_0.length c1_0] 31 (0,0)) (kq BK249.out) hb);replace HB:=am (jg (Y19) hb);(try clear hb);(try clear hb2);(try clear hk);(try clear hi);have hcz36_0:=bc0 BK248.out;have hcz36_1:=bc1 BK248.out;have hcz36_2:=bc2 BK248.out;have hfz36_0:=ja BK248.out 0;have hfz36_1:=ja BK248.out 1;have hfz36_2:=ja BK248.out 2) |(go_at_call 82;(with_reducible refine (jxa.calls a0_2 t253 _ A31.out).mono ?_);rintro e w' ⟨rfl,⟨nd,rfl⟩⟩))
       go_ret
       exact ⟨Y0,Y19⟩
      ·replace c30:=Bool.eq_false_iff.mpr c30
       subst c30
       have H1:(some false)=some r:=by rw [if_neg (show ¬ (false=true) by decide)] at H;exact H
       clear H
       have H:=H1
       clear H1
       obtain rfl:=Option.some.inj H
       have hnb37:=NB249_248.out
       have hnc37:=NB248_249.out
       have hcz38_0:=bc0 BK249.out
       have hfz38_0:=ja BK249.out 0
       have hcz39_0:=bc0 BK248.out
       have hcz39_1:=bc1 BK248.out
       have hcz39_2:=bc2 BK248.out
       have hfz39_0:=ja BK248.out 0
       have hfz39_1:=ja BK248.out 1
       have hfz39_2:=ja BK248.out 2
       go_wp2_with (first |((with_reducible refine jo (f:=83) rfl ?_);refine gL (some 34) Try.func83 #[.agg #[.slice A1_0 l1_0.length c1_0], .int .i64 a0_1] ?_;(with_reducible refine (jha.calls _ _ l1_0 a0_1 false _ ?side1 ?side2 A29.out).mono ?_);(case side1=>exact cq (Kd.jZ HR1_0.out HB.out));(case side2=>exact HC1_0.out);rintro e w40 ⟨rfl,hb⟩;refine ⟨_,rfl,?_⟩;replace BK248:=am (jc (g:=gb248) (o:=.cells #[.int .i64 a0_0, .int .i64 a0_1, .int .i64 a0_2] 44 (0,0)) (kq BK248.out) hb);replace BK249:=am (jc (g:=gb249) (o:=.cells #[.slice A1_0 l1_0.length c1_0] 31 (0,0)) (kq BK249.out) hb);replace HB:=am (jg (Y19) hb);(try clear hb);(try clear hb2);(try clear hk);(try clear hi)))
       go_ret
       exact ⟨Y0,Y19⟩
     ·rw [if_neg c28] at H
      have c28b0:(a0_0 == 3)=false:=beq_eq_false_iff_ne.mpr c28
      have c28b1:(a0_0 != 3)=true:=bne_iff_ne.mpr c28
      obtain rfl:=Option.some.inj H
      go_wp2
      go_ret
      exact ⟨Y0,Y19⟩
theorem impl_ValidExits1_calls (k : Nat) (l : List S106) (A_ : Option Addr) (c_ : Nat) (x : S44) (b : Bool) (B : Nat) (w : World) (hr : Kd.C k106 w A_ l.length l) (hcc : l.length ≤ c_) (hc : w.cell? ⟨B, 0, none⟩ = some (.slice A_ l.length c_)) (h : ((jua.f k x.f0 x.f1 x.f2 l).bind fun b => some (!b)) = some b) :
  Calls Try.prog 50 #[.agg #[.int .i64 x.f0, .int .i64 x.f1, .int .i64 x.f2], .pointer (some ⟨B,0,none⟩)] w fun e w'=>e=.returned (.bool b)∧Below w.heap.size w w':=by
 obtain ⟨b0,h0,h1⟩:=bzS h
 obtain rfl:=Option.some.inj h1
 have hB:B<w.heap.size:=World.block_lt_of_cell? w ⟨B,0,none⟩ hc
 have HF:=am (fun W (hb:Below w.heap.size w W)=>jua.calls k x.f0 x.f1 x.f2 A_ c_ l b0 W (Kd.jZ hr hb) hcc h0)
 have HB:=am (Below.refl w.heap.size w)
 clear h h0 h1 hr
 have hu31:=Try.underlying31
 have hu44:=Try.underlying44
 have hne:B≠w.heap.size:=by omega
 go_enter Try.func50,Try.ntmps50
 go_wp2_with (go_at_call 51;refine (HF.out _ (bq)).mono ?_;rintro e w' ⟨rfl,hb2⟩)
 go_ret
 exact ⟨rfl,jg (bq) hb2⟩
set_option maxHeartbeats 8000000 in
set_option maxRecDepth 100000 in
theorem impl_ValidExits_idx (A_ : Option Addr) (c_ : Nat) (l : List (S44)) (B0_ : Nat) (p : S44 → Option Bool) (r : Int) (w : World) (hr : Kd.C k44 w A_ l.length l) (h : idxFrom p l 0 = some r)
  (hp:∀ W,Below w.heap.size w W→∀ (x:S44) (b:Bool),p x=some b→Calls Try.prog 50 #[.agg #[.int .i64 x.f0, .int .i64 x.f1, .int .i64 x.f2], .pointer (some ⟨B0_,0,none⟩)] W fun e w'=>e=.returned (.bool b)∧Below W.heap.size W w') :
  Calls Try.prog 81 #[.slice A_ l.length c_, .func (.func 50) #[] #[.pointer (some ⟨B0_,0,none⟩)]] w fun e w'=>e=.returned (.int .i64 r)∧Below w.heap.size w w':=by
 have hm:l.length≤9223372036854775807:=Kd.C_max hr
 have HR:=am hr
 have HP:=am hp
 have H0:=am h
 clear hr hp h
 go_enter Try.func81,Try.ntmps81
 go_wp2
 go_loopw [5,8] (fun i5 i8 wr=>∃ k:Nat,k≤l.length∧i8=.int .i64 k∧jE (idxFrom p (l.drop k) k=some r)∧Below w.heap.size w wr) (fun _ i8 _=>l.length - (intOf i8).toNat)
 case atStart=>exact ⟨0,Nat.zero_le _,rfl,H0,Below.refl _ _⟩
 case round =>
  clear H0
  obtain ⟨k,hk,rfl,HA,hb⟩:=hrel
  by_cases hlt:k<l.length
  ·have HB:=am (jfc hlt HA.out)
   clear HA
   obtain ⟨ad,rfl,hx0,hx1,hx2⟩:=at_T44 HR.out (k:Int) (by omega) (by omega)
   have hrd:jL l (k:Int)=l[k]:=by simp [jL,List.getD_eq_getElem?_getD,hlt]
   replace hx0:=jP hb hx0
   replace hx1:=jP hb hx1
   replace hx2:=jP hb hx2
   rw [hrd] at hx0 hx1 hx2
   simp only [Int.toNat_natCast] at hx0 hx1 hx2
   clear hrd
   obtain ⟨b,hb1,hb0⟩:=HB.out
   have HQ:=am hb1
   clear hb1 HB
   cases b with
   | true =>
    have HZ:=am (by simpa using hb0:(k:Int)=r)
    clear hb0
    go_wp2_with (go_at_call 50;refine (HP.out _ hb _ _ HQ.out).mono ?_;rintro e w' ⟨rfl,hb2⟩)
    go_ret
    exact ⟨by rw [← HZ.out];rfl,jdb hb hb.size hb2⟩
   | false =>
    have HZ:=am (by simpa using hb0:idxFrom p (l.drop (k+1)) (k+1)=some r)
    clear hb0
    go_wp2_with (go_at_call 50;refine (HP.out _ hb _ _ HQ.out).mono ?_;rintro e w' ⟨rfl,hb2⟩)
    go_roundw
    case rel=>exact ⟨k+1,hlt,by go_num,HZ,jdb hb hb.size hb2⟩
    case measure=>simp [intOf];omega
  ·have HZ:=am (jtc (by omega) HA.out)
   clear HA
   go_wp2
   go_ret
   exact ⟨by rw [HZ.out];rfl,hb⟩
set_option maxHeartbeats 8000000 in
set_option maxRecDepth 100000 in
theorem impl_ValidExits_any (A_ : Option Addr) (c_ : Nat) (l : List S44) (B0_ : Nat) (p : S44 → Option Bool) (r : Int) (w : World) (hr : Kd.C k44 w A_ l.length l) (h : idxFrom p l 0 = some r)
  (hp:∀ W,Below w.heap.size w W→∀ (x:S44) (b:Bool),p x=some b→Calls Try.prog 50 #[.agg #[.int .i64 x.f0, .int .i64 x.f1, .int .i64 x.f2], .pointer (some ⟨B0_,0,none⟩)] W fun e w'=>e=.returned (.bool b)∧Below W.heap.size W w') :
  Calls Try.prog 49 #[.slice A_ l.length c_, .func (.func 50) #[] #[.pointer (some ⟨B0_,0,none⟩)]] w fun e w'=>e=.returned (.bool (decide (0≤r)))∧Below w.heap.size w w':=by
 have HF:=am (impl_ValidExits_idx A_ c_ l B0_ p r w hr h hp)
 clear hr h hp
 go_enter Try.func49,Try.ntmps49
 go_wp2_with (go_at_call 81;refine HF.out.mono ?_;rintro e w' ⟨rfl,hb2⟩)
 go_ret
 exact ⟨rfl,hb2⟩
def jCa.f (k : Nat) (l0_0 : List S106) (l1 : List S44) : Option Bool := (jA.f k l0_0).bind fun v => if v = true then (if (l1.length : Int) ≤ 8 then (idxFrom (fun x => (jua.f k x.f0 x.f1 x.f2 l0_0).bind fun b => some (!b)) l1 0).bind fun r => some (!decide (0 ≤ r)) else some false) else some false
set_option maxHeartbeats 8000000 in
set_option maxRecDepth 100000 in
theorem jCa.calls (k : Nat) (A0_0 : Option Addr) (c0_0 : Nat) (l0_0 : List (S106)) (A1 : Option Addr) (c1 : Nat) (l1 : List (S44)) (r : Bool) (w : World) (hr0_0 : Kd.C k106 w A0_0 l0_0.length l0_0) (hc0_0 : l0_0.length ≤ c0_0) (hr1 : Kd.C k44 w A1 l1.length l1) (hc1 : l1.length ≤ c1) (h : jCa.f k l0_0 l1 = some r) :
  Calls Try.prog 17 #[.agg #[.slice A0_0 l0_0.length c0_0], .slice A1 l1.length c1] w fun e w'=>e=.returned (.bool r)∧Below w.heap.size w w':=by
 obtain ⟨v,hv,h⟩:=bzS h
 have hu31:=Try.underlying31
 have HV:=am (fun W (hb:Below w.heap.size w W)=>jA.calls k A0_0 c0_0 l0_0 v W (Kd.jZ hr0_0 hb) hc0_0 hv)
 cases v with
 | false =>
  obtain rfl:false=r:=by simpa using h
  clear hv h hr0_0 hr1
  go_enter Try.func17,Try.ntmps17
  go_wp2_with (go_at_call 48;refine (HV.out _ ((Below.refl _ _).alloc (Nat.le_refl _) _)).mono ?_;rintro e w' ⟨rfl,hb2⟩)
  go_ret
  exact ⟨rfl,((Below.refl _ _).alloc (Nat.le_refl _) _).trans (hb2.mono (by simp))⟩
 | true =>
  rw [if_pos rfl] at h
  by_cases hlen:(l1.length:Int)≤8
  ·rw [if_pos hlen] at h
   have hlb:=dzT hlen
   obtain ⟨q,hq,h⟩:=bzS h
   have HZ:=am (Option.some.inj h)
   have HF:=am (fun W (hb:Below w.heap.size w W) (B:Nat) (hc:W.cell? ⟨B,0,none⟩=some (.slice A0_0 l0_0.length c0_0))=>impl_ValidExits_any A1 c1 l1 B (fun x=>(jua.f k x.f0 x.f1 x.f2 l0_0).bind fun b=>some (!b)) q W (Kd.jZ hr1 hb) hq (fun W' hb' x b hx =>
    impl_ValidExits1_calls k l0_0 A0_0 c0_0 x b B W' (Kd.jZ (Kd.jZ hr0_0 hb) hb') hc0_0 (jP hb' hc) hx))
   clear hv h hq hr0_0 hr1 hlen
   go_enter Try.func17,Try.ntmps17
   go_wp2_with (first |(go_at_call 48;refine (HV.out _ ((Below.refl _ _).alloc (Nat.le_refl _) _)).mono ?_;rintro e w1 ⟨rfl,hb2⟩;have hb1:=((Below.refl w.heap.size w).alloc (Nat.le_refl _) (.cells #[.slice A0_0 l0_0.length c0_0] 31)).trans (hb2.mono (by simp));have hcell:=jP hb2 (show (w.alloc (.cells #[.slice A0_0 l0_0.length c0_0] 31)).cell? ⟨w.heap.size,0,none⟩=some (.slice A0_0 l0_0.length c0_0) by simp)) |(go_at_call 49;refine (HF.out _ hb1 _ hcell).mono ?_;rintro e w2 ⟨rfl,hb3⟩))
   go_ret
   exact ⟨by rw [← HZ.out];rfl,jdb hb1 hb1.size hb3⟩
  ·rw [if_neg hlen] at h
   obtain rfl:=Option.some.inj h
   have hlb:=dzF hlen
   clear hv hr0_0 hr1 hlen
   go_enter Try.func17,Try.ntmps17
   go_wp2_with (go_at_call 48;refine (HV.out _ ((Below.refl _ _).alloc (Nat.le_refl _) _)).mono ?_;rintro e w' ⟨rfl,hb2⟩)
   go_ret
   exact ⟨rfl,((Below.refl _ _).alloc (Nat.le_refl _) _).trans (hb2.mono (by simp))⟩
theorem mcell_kept {w w' : World} {S : Nat → Prop} {a : Addr} {v : Value} (hc : w.cell? a = some v) (hk : Kept w w' S) (hne : ¬ S a.block) : w'.cell? a = some v := by
 have:=hk.2 a.block (World.block_lt_of_cell? w a hc) hne
 simpa [World.cell?,this] using hc
set_option maxHeartbeats 8000000 in
theorem mm_new (At : Option Addr) (ct : Nat) (t : List S106) (Ap : Option Addr) (lp cp : Nat) (w : World) :
  Calls Try.prog 39 #[.agg #[.slice At t.length ct], .slice Ap lp cp] w fun e w'=>e=.returned (.pointer (some ⟨w.heap.size+1,0,none⟩))∧w'=(w.alloc (.cells #[.slice At t.length ct] 31)).alloc (.cells #[.slice At t.length ct, .slice Ap lp cp, .slice none 0 0, .slice none 0 0, .int .i64 (-1)] 110):=by
 have hu31:=Try.underlying31
 have hu110:=Try.underlying110
 go_enter Try.func39,Try.ntmps39
 go_wp2
 go_ret
 exact ⟨rfl,rfl⟩
theorem mh_st3 {W : World} {base g n cap : Nat} {ok : Nat → Prop} {l : List S90} {a : Int} (h : Kd.R k90 90 W base ok (.slice (some ⟨g, 0, none⟩) n cap) l) (h0 : 0 ≤ a) (h1 : a < (n : Int)) (c : Int) :
  Kd.R k90 90 (W.setCell ⟨g,a.toNat * 5+3,none⟩ (.int .i64 c)) base ok (.slice (some ⟨g,0,none⟩) n cap) (l.set a.toNat ⟨(jl l a).f0,(jl l a).f1,(jl l a).f2,c,(jl l a).f4⟩)∧W.grownBy (W.setCell ⟨g,a.toNat * 5+3,none⟩ (.int .i64 c)) (some g)∧W.cell? ⟨g,a.toNat * 5+3,none⟩=some (.int .i64 (jl l a).f3)∧W.frozen? ⟨g,a.toNat * 5+3,none⟩=false∧W.cell? ⟨g,a.toNat * 5,none⟩=some (.int .i64 (jl l a).f0):=by
 obtain ⟨ce,hcl,hM,hcc,hfr⟩:=Kd.R_elem h z90 a h0 h1
 obtain rfl:=k90_openM hM
 have HP:=Kd.R_seg h a h0 h1 (seg:=[.int .i64 c]) (j:=3) hcl hcc (show 3+1≤5 from by decide) (x':=(⟨(jl l a).f0,(jl l a).f1,(jl l a).f2,c,(jl l a).f4⟩:S90)) (k90_mkM _ _ _ (⟨(jl l a).f0,(jl l a).f1,(jl l a).f2,c,(jl l a).f4⟩:S90)) (fun _ hk=>hk)
 exact ⟨HP.1,HP.2,hcc 3 _ rfl,hfr 3,hcc 0 _ rfl⟩
set_option maxHeartbeats 8000000 in
set_option maxRecDepth 100000 in
theorem mh_raise (m : Nat) (ct cp vl : Value) (fst : Int) (A : Option Addr) (c : Nat) (H : List S90) (cl cd : Int) (ok : Nat → Prop) (b : Nat) (w : World)
  (hm:w.heap[m]?=some (.cells #[ct,cp,vl, .slice A H.length c, .int .i64 fst] 110 (0,0))) (hR:Kd.R k90 90 w b ok (.slice A H.length c) H) (hf:∀ k,w.heap.size≤k→ok k) (hb:b≤w.heap.size) (hl:H.length≤1000000000) :
  Calls Try.prog 103 #[.pointer (some ⟨m,3,none⟩), .int .i64 cl, .int .i64 cd] w fun e w'=>e=.returned (.int .i64 (H.length:Int))∧∃ A' c',w'.heap[m]?=some (.cells #[ct,cp,vl, .slice A' (H.length+1) c', .int .i64 fst] 110 (0,0))∧Kd.R k90 90 w' b ok (.slice A' (H.length+1) c') (H ++ [⟨cl,cd, -1, -1,false⟩])∧Kept w w' (fun k=>k=m∨some k=(Value.slice A H.length c).ownBlock)∧((Value.slice A' (H.length+1) c').ownBlock=(Value.slice A H.length c).ownBlock∨∃ q,(Value.slice A' (H.length+1) c').ownBlock=some q∧w.heap.size≤q)∧Below 0 w w':=by
 have hu53:=Try.underlying53
 have hu90:=Try.underlying90
 have hu110:=Try.underlying110
 have c3:w.cell? ⟨m,3,none⟩=some (.slice A H.length c):=(jw hm 3).trans rfl
 have f3:=ja hm 3
 have hmw:=jva hm
 have HM:=am hm
 have HR:=am hR
 have HF:=am hf
 have hwl:wrap64 ((H.length:Int)+1 - 1)=(H.length:Int):=by unfold wrap64;omega
 have hwl2:wrap64 (((H.length+1:Nat):Int) - 1)=(H.length:Int):=by unfold wrap64;omega
 clear hm hR hf
 go_enter Try.func103,Try.ntmps103
 go_wp2_with ((with_reducible refine jpb (b:=.append) (xs:=#[.tmp 11, .tmp 15]) rfl ?_);at_builtin;refine Kd.jWb k90 (w0:=w) b rfl (.tmp 11) (.tmp 15) 51 90 (.agg #[(.int .i64 0),(.int .i64 0),(.int .i64 0),(.int .i64 0),(.bool false)]) 40 rfl Try.underlying51 info90 rfl (by decide) (by omega) _ H (⟨cl,cd, -1, -1,false⟩:S90) [.int .i64 cl, .int .i64 cd, .int .i64 (-1), .int .i64 (-1), .bool false] ok (fun _=>False) rfl rfl ?aP (fun _ hk=>hk.elim) HF.out HR.out (Below.refl _ _) hb ?aL ?_;(case aP=>exact k90_mkM _ _ _ (⟨cl,cd, -1, -1,false⟩:S90));(case aL=>omega);intro v1 w1 ho hb1 hg hat;obtain ⟨A',c',e'⟩:=Kd.jga ho;rw [show (H ++ [(⟨cl,cd, -1, -1,false⟩:S90)]).length=H.length+1 by simp] at e';subst e';have n0_:=am (jqa HM.out hg (Kd.R_ne HR.out HM.out (by decide)));have n1_:=am ho;have n2_:=am hg;have n3_:=am hat;have n4_:=am hb1;clear ho hb1 hg hat;have d3:w1.cell? ⟨m,3,none⟩=some (.slice A H.length c):=(jw n0_.out 3).trans rfl;have g3:=ja n0_.out 3)
 go_ret
 refine ⟨rfl,A',c',jS n0_.out 3 _ rfl,Kd.jrb n1_.out n0_.out (by decide) 3 _,?_,n3_.out,(n4_.out.mono (Nat.zero_le _)).setCell (Nat.zero_le _) _⟩
 exact Kept.setCell (Kept.jGb n2_.out (Kept.refl _ _) (fun k e=>.inl (.inr e.symm))) (.inl (.inl rfl)) _
def jv.l0 : Nat → List Int → Int → Int → Int → Option (Int)
 | 0,_,_,_,_=>none
 | k+1,x0,x1,x7,x8=>if x8<x7 then (if 0≤x8 then (if x8<(x0.length:Int) then (if x1=(rd x0 x8) then (some x8) else (jv.l0 k x0 x1 x7 (wrap64 (x8+1)))) else (none)) else (none)) else (some (-1))
def jv.f (k : Nat) (l0 : List Int) (a1 : Int) : Option (Int) := jv.l0 k l0 a1 (l0.length : Int) 0
theorem jv.mono_l : ∀ k, (∀ y0 y1 y2 y3, LeO (jv.l0 k y0 y1 y2 y3) (jv.l0 (k + 1) y0 y1 y2 y3))
 | 0=>fun _ _ _ _ r h=>by simp [jv.l0] at h
 | k+1=>by
  have ih0:=jv.mono_l k
  ·intro y0 y1 y2 y3
   unfold jv.l0
   exact (Y95)
theorem jv.mono : ∀ a0 a1 k, LeO (jv.f k a0 a1) (jv.f (k + 1) a0 a1) := by
 intro a0 a1 k
 have ih0:=jv.mono_l k
 unfold jv.f
 exact (Y95)
set_option maxHeartbeats 8000000 in
set_option maxRecDepth 100000 in
theorem jv.calls (k : Nat) (A0 : Option Addr) (c0 : Nat) (l0 : List Int) (a1 : Int) (r : Int) (w : World) (hr0 : Kd.C (Kd.int .i64) w A0 l0.length l0) (hc0 : l0.length ≤ c0) (h : jv.f k l0 a1 = some r) :
  Calls Try.prog 117 #[.slice A0 l0.length c0, .int .i64 a1] w fun e w'=>e=.returned (.int .i64 r)∧jhb w w':=by
 have HR0:=am hr0
 have HC0:=am hc0
 clear hr0 hc0
 have H:(jv.l0 k l0 a1 (l0.length:Int) 0)=some r:=h
 clear h
 have H':=am H
 clear H
 go_enter Try.func117,Try.ntmps117
 go_wp2
 go_loopg [8] k (fun kq v8 w'=>∃ (x8_1:Int),v8=.int .i64 x8_1∧jE (jv.l0 kq l0 a1 (l0.length:Int) x8_1=some r)∧jE (kq≤k)∧jhb w w')
 case atStart=>exact ⟨(0),(sq),H',⟨Nat.le_refl _⟩,Y4⟩
 case round =>
  clear H'
  try clear c1
  try clear p2
  obtain ⟨x8_1,rfl,HA,HK1,⟨m1,rfl⟩⟩:=hrel
  cases gk with
  | zero=>exact absurd HA.out (by simp [jv.l0])
  | succ k1 =>
   have H:=HA.out
   clear HA
   simp only [jv.l0] at H
   by_cases c3:x8_1<(l0.length:Int)
   ·rw [if_pos c3] at H
    have c3b0:decide (x8_1<(l0.length:Int))=true:=dzT c3
    clear c3
    by_cases c4:0≤x8_1
    ·rw [if_pos c4] at H
     have c4b0:decide (0≤x8_1)=true:=dzT c4
     clear c4
     by_cases c5:x8_1<(l0.length:Int)
     ·rw [if_pos c5] at H
      have c5b0:decide (x8_1<(l0.length:Int))=true:=dzT c5
      clear c5
      by_cases c6:a1=(rd l0 x8_1)
      ·rw [if_pos c6] at H
       have c6b0:(a1 == (rd l0 x8_1))=true:=beq_iff_eq.mpr c6
       have c6b1:(a1 != (rd l0 x8_1))=false:=bne_eq_false_iff_eq.mpr c6
       clear c6
       obtain rfl:=Option.some.inj H
       have p254:0≤(x8_1:Int):=ozD (uq)
       have q254:x8_1<(l0.length:Int):=ozD (uq)
       obtain ⟨ad254,e254,hx254_0⟩:=Kd.jsb HR0.out x8_1 p254 q254
       cases e254
       replace p254:=ezT p254
       replace q254:=ezT q254
       go_wp2
       go_ret
       exact ⟨sq,Y4⟩
      ·rw [if_neg c6] at H
       have c6b0:(a1 == (rd l0 x8_1))=false:=beq_eq_false_iff_ne.mpr c6
       have c6b1:(a1 != (rd l0 x8_1))=true:=bne_iff_ne.mpr c6
       have H':=am H
       clear H
       have p254:0≤(x8_1:Int):=ozD (uq)
       have q254:x8_1<(l0.length:Int):=ozD (uq)
       obtain ⟨ad254,e254,hx254_0⟩:=Kd.jsb HR0.out x8_1 p254 q254
       cases e254
       replace p254:=ezT p254
       replace q254:=ezT q254
       go_wp2
       go_roundg k1
       case measure=>have:=HK1.out;omega
       case rel=>exact ⟨(wrap64 (x8_1+1)),(sq),H',⟨by have:=HK1.out;omega⟩,Y4⟩
     ·rw [if_neg c5] at H
      exact absurd H (by simp)
    ·rw [if_neg c4] at H
     exact absurd H (by simp)
   ·rw [if_neg c3] at H
    have c3b0:decide (x8_1<(l0.length:Int))=false:=dzF c3
    clear c3
    obtain rfl:=Option.some.inj H
    go_wp2
    go_ret
    exact ⟨sq,Y4⟩
def jK.f (k : Nat) (l0 : List Int) (a1 : Int) : Option (Bool) := (jv.f k l0 a1).bind fun t255 => (some (decide (t255 ≥ 0)))
theorem jK.mono : ∀ a0 a1 k, LeO (jK.f k a0 a1) (jK.f (k + 1) a0 a1) := by
 intro a0 a1 k
 unfold jK.f
 exact (by repeat' (first |(with_reducible exact jv.mono _ _ _) |(with_reducible exact LeO.refl _) |(with_reducible exact LeO.none _) |(with_reducible refine LeO.ite ?_ ?_) |(with_reducible refine LeO.bind ?_ (fun _=>?_)) | exact jv.mono _ _ _ | exact LeO.none _ | refine LeO.ite ?_ ?_ | refine LeO.bind ?_ (fun _=>?_)))
set_option maxHeartbeats 8000000 in
set_option maxRecDepth 100000 in
theorem jK.calls (k : Nat) (A0 : Option Addr) (c0 : Nat) (l0 : List Int) (a1 : Int) (r : Bool) (w : World) (hr0 : Kd.C (Kd.int .i64) w A0 l0.length l0) (hc0 : l0.length ≤ c0) (h : jK.f k l0 a1 = some r) :
  Calls Try.prog 106 #[.slice A0 l0.length c0, .int .i64 a1] w fun e w'=>e=.returned (.bool r)∧jhb w w':=by
 have HR0:=am hr0
 have HC0:=am hc0
 clear hr0 hc0
 have H:((jv.f k l0 a1).bind fun t255=>(some (decide (t255≥0))))=some r:=h
 clear h
 replace H:=bzS H
 obtain ⟨t255,A30,H⟩:=H
 replace H:(some (decide (t255≥0)))=some r:=H
 have A3:=am A30
 clear A30
 obtain rfl:=Option.some.inj H
 go_enter Try.func106,Try.ntmps106
 go_wp2_with (first |((with_reducible refine jo (f:=117) rfl ?_);refine gL (some 7) Try.func117 #[.slice A0 l0.length c0, .int .i64 a1] ?_;(with_reducible refine (jv.calls k _ _ l0 a1 t255 _ ?side1 ?side2 A3.out).mono ?_);(case side1=>exact Y96);(case side2=>exact HC0.out);rintro e w' ⟨rfl,⟨nd,rfl⟩⟩;refine ⟨_,rfl,?_⟩))
 go_ret
 exact ⟨sq,Y4⟩
def jQa.f (l0 : List Int) : Option (List Int) := some (l0)
set_option maxHeartbeats 8000000 in
set_option maxRecDepth 100000 in
theorem jQa.calls (P0_ : Nat → Prop) (u9000_ : Value) (l0 : List Int) (r : List Int) (w0 w : World) (hB : Below w0.heap.size w0 w) (ho0 : Kd.R (Kd.int .i64) 3 w w0.heap.size P0_ u9000_ l0) (h : jQa.f l0 = some r) :
  Calls Try.prog 111 #[u9000_] w fun e w'=>∃ v0_:Value,e=.returned (v0_)∧Kd.R (Kd.int .i64) 3 w' w0.heap.size (fun k_=>(P0_ k_∨w.heap.size≤k_)) v0_ r∧Below w0.heap.size w0 w'∧Kept w w' (fun k_=>P0_ k_):=by
 have HO0:=am (show Kd.R (Kd.int .i64) 3 w w0.heap.size (fun k_=>(P0_ k_∨w.heap.size≤k_)) u9000_ l0 from Kd.jJ ho0 (fun k_ hk=>(.inl hk)))
 have HK:=am (Kept.refl w (fun k_=>P0_ k_))
 have HW0:=am hB.size
 have HB:=am hB
 clear hB
 have H:(some (l0))=some r:=h
 clear h
 obtain ⟨y256,hy256⟩:∃ y_:List Int,y_=(l0):=⟨_,rfl⟩
 replace H:(some y256)=some r:=by first |(rw [hy256];with_reducible exact H) |(have H2_:=(Option.bind_some _ _).symm.trans H;rw [hy256];with_reducible exact H2_) |(have H2_:=(Option.bind_some _ _).symm.trans H;with_reducible exact H2_) | with_reducible exact H |(rw [hy256];exact H) | exact H
 have Ny256:=am hy256
 clear hy256
 obtain rfl:=Option.some.inj H
 obtain ⟨Ao2,co2,eo2⟩:=Kd.jga HO0.out
 subst eo2
 obtain ⟨i03,hi03,_,hsz3,_⟩:=info_parts info3
 have hy3:y256.length=l0.length:=(by rw [Ny256.out])
 have hcut3:=cut_clip (P:=Try.prog) 45 3 Try.underlying45 hi03 Ao2 _ co2 _ (Kd.jC HO0.out).2.1 hy3
 have hr3:=Kd.R_clip HO0.out Ny256.out
 clear hy3 hi03 hsz3 HO0
 have HO258:=am hr3
 clear hr3
 go_enter Try.func111,Try.ntmps111
 go_wp2
 go_ret
 exact ⟨_,Y0,rq HO258.out,bq,by repeat (first |(with_reducible first | exact HK.out | apply Kept.alloc | apply Kept.drewN | apply Kept.drew) | exact HK.out)⟩

def jJb (nx : Int → Option Int) : Nat → Int → List Int → Option (List Int)
 | 0,_,_=>none
 | k+1,f,acc=>if f≥0 then ((jK.f k acc f).bind fun b=>if b=true then some acc else (if acc.length<17592186044416 then (nx f).bind fun g=>jJb nx k g (acc ++ [f]) else none)) else some acc
set_option maxHeartbeats 8000000 in
set_option maxRecDepth 100000 in
theorem impl_contexts_walk (k : Nat) (B0_ : Nat) (nx : Int → Option Int) (a0 : Int) (r : List Int) (w : World) (h : jJb nx k a0 [] = some r)
  (hp:∀ W,Below w.heap.size w W→∀ (x y:Int),nx x=some y→Calls Try.prog 120 #[.int .i64 x, .pointer (some ⟨B0_,0,none⟩)] W fun e w'=>e=.returned (.int .i64 y)∧Below W.heap.size W w') :
  Calls Try.prog 119 #[.int .i64 a0, .func (.func 120) #[] #[.pointer (some ⟨B0_,0,none⟩)]] w fun e w'=>∃ v0_:Value,e=.returned v0_∧Kd.R (Kd.int .i64) 3 w' w.heap.size (fun _=>True) v0_ r∧Below w.heap.size w w':=by
 have HP:=am hp
 have H0:=am h
 have HB:=am (Below.refl w.heap.size w)
 clear hp h
 go_enter Try.func119,Try.ntmps119
 go_wp2_with ((with_reducible refine jG (N:=6) rfl ?_);refine Kd.R_lit (Kd.int .i64) _ 3 ?hg (N:=6) ?hd (xs:=([]:List Int)) (inner:=[]) (ok:=fun _=>True) (okp:=fun _=>True) ?hr ?hp (fun _ hk=>hk) trivial (Below.refl _ _) (Nat.le_refl _) (by simp) ?_;(case hd=>rfl);(case hg=>rfl);(case hr=>exact Y3);(case hp=>exact (Reps.none _ _));intro v111 w4 ho5 hb hg_ hnew_;clear hg_ hnew_;have n0_:=am (Kd.jpa ho5 (jba (bq)));have n2_:=am (jg (bq) hb);clear HB;have HO:=n0_;have HB:=n2_;clear n0_ n2_ hb ho5)
 go_loopg [0,5] k (fun kq v0 v5 w'=>∃ (x:Int) (acc:List Int),v0=.int .i64 x∧jE (jJb nx kq x acc=some r)∧jE (kq≤k)∧jE (Kd.R (Kd.int .i64) 3 w' w.heap.size (fun _=>True) v5 acc)∧jE (Below w.heap.size w w'))
 case atStart=>exact ⟨a0,[],(sq),H0,⟨Nat.le_refl _⟩,⟨rq HO.out⟩,⟨bq⟩⟩
 case round =>
  clear H0 HO HB
  obtain ⟨x,acc,rfl,HA,HK1,HO,HB⟩:=hrel
  cases gk with
  | zero=>exact absurd HA.out (by simp [jJb])
  | succ k1 =>
   have H:=HA.out
   clear HA
   simp only [jJb] at H
   obtain ⟨Ao,co,eo⟩:=Kd.jga HO.out
   subst eo
   by_cases c6:x≥0
   ·rw [if_pos c6] at H
    have c6b0:decide (0≤x)=true:=dzT c6
    clear c6
    obtain ⟨b,A70,H⟩:=bzS H
    have A7:=am A70
    clear A70
    cases b with
    | true =>
     rw [if_pos rfl] at H
     obtain rfl:=Option.some.inj H
     clear H
     go_wp2_with (first |(go_at_call 106;(with_reducible refine (jK.calls k1 _ _ acc x true _ ?side1 ?side2 A7.out).mono ?_);(case side1=>exact cq (Kd.jC HO.out).2.2);(case side2=>exact (Kd.jC HO.out).2.1);rintro e w' ⟨rfl,⟨nd,rfl⟩⟩) |(go_at_call 111;refine (jQa.calls (fun _=>True) _ acc acc w _ (bq) (rq HO.out) (show jQa.f acc=some acc from rfl)).mono ?_;rintro e w9 ⟨v9,rfl,hR9,hB9,hK9⟩))
     go_ret
     exact ⟨_,rfl,Kd.jJ hR9 (fun _ _=>trivial),hB9⟩
    | false =>
     rw [if_neg (by simp)] at H
     by_cases c10:acc.length<17592186044416
     ·rw [if_pos c10] at H
      have LM:=am c10
      clear c10
      obtain ⟨y,hy,H⟩:=bzS H
      have HQ:=am hy
      have H':=am H
      clear H hy
      go_wp2_with (first |(go_at_call 106;(with_reducible refine (jK.calls k1 _ _ acc x false _ ?side1 ?side2 A7.out).mono ?_);(case side1=>exact cq (Kd.jC HO.out).2.2);(case side2=>exact (Kd.jC HO.out).2.1);rintro e w' ⟨rfl,⟨nd,rfl⟩⟩) |(go_at_call 120;refine (HP.out _ (bq) _ _ HQ.out).mono ?_;rintro e w2 ⟨rfl,hb2⟩;have n1_:=am (Kd.jaa (rq HO.out) hb2);have n2_:=am (jg (bq) hb2);clear HO HB;have HO:=n1_;have HB:=n2_;clear n1_ n2_ hb2) |((with_reducible refine jpb (b:=.append) (xs:=#[.tmp 18, .tmp 20]) rfl ?_);at_builtin;refine Kd.jWb (Kd.int .i64) (w0:=w) w.heap.size rfl (.tmp 18) (.tmp 20) 45 3 (.int .i64 0) 8 rfl Try.underlying45 info3 rfl (by decide) (by omega) (.slice Ao acc.length co) acc x [.int .i64 x] (fun _=>True) (fun _=>False) rfl rfl ?aP (fun _ hk=>hk.elim) ?aF ?aO ?aB ?aS ?aL ?_;(case aP=>exact rfl);(case aB=>exact (bq));(case aF=>exact (fun _ _=>trivial));(case aO=>exact (rq HO.out));(case aS=>exact (jba (bq)));(case aL=>have:=LM.out;omega);intro v115 w14 ho hb hg hat;have n1_:=am (hb);have n2_:=am (ho);clear HB HO;have HB:=n1_;have HO:=n2_;clear n1_ n2_ ho hb hg hat))
      go_roundg k1
      case measure=>have:=HK1.out;omega
      case rel=>exact ⟨y,acc ++ [x],(sq),H',⟨by have:=HK1.out;omega⟩,⟨rq HO.out⟩,⟨bq⟩⟩
     ·rw [if_neg c10] at H
      cases H
   ·rw [if_neg c6] at H
    have c6b0:decide (0≤x)=false:=dzF c6
    clear c6
    obtain rfl:=Option.some.inj H
    clear H
    go_wp2_with (go_at_call 111;refine (jQa.calls (fun _=>True) _ acc acc w _ (bq) (rq HO.out) (show jQa.f acc=some acc from rfl)).mono ?_;rintro e w9 ⟨v9,rfl,hR9,hB9,hK9⟩)
    go_ret
    exact ⟨_,rfl,Kd.jJ hR9 (fun _ _=>trivial),hB9⟩
def ctxF (h : List S90) (g : Int) : Option Int := if 0 ≤ g then if g < (h.length : Int) then some (jl h g).f3 else none else none
theorem impl_contexts1_calls (A_ : Option Addr) (c_ : Nat) (l : List S90) (x y : Int) (B0 : Nat) (w : World) (hr : Kd.C k90 w A_ l.length l) (hc : w.cell? ⟨B0, 0, none⟩ = some (.slice A_ l.length c_)) (h : ctxF l x = some y) :
  Calls Try.prog 120 #[.int .i64 x, .pointer (some ⟨B0,0,none⟩)] w fun e w'=>e=.returned (.int .i64 y)∧Below w.heap.size w w':=by
 unfold ctxF at h
 by_cases h0:0≤x
 ·rw [if_pos h0] at h
  by_cases h1:x<(l.length:Int)
  ·rw [if_pos h1] at h
   obtain ⟨ad,rfl,hx0,hx1,hx2,hx3,hx4⟩:=at_T90 hr x h0 h1
   have HY:=am (Option.some.inj h)
   have HB:=am (Below.refl w.heap.size w)
   clear h hr
   have p0:=ezT h0
   have p1:=ezT h1
   have hu53:=Try.underlying53
   go_enter Try.func120,Try.ntmps120
   go_wp2
   go_ret
   exact ⟨by rw [← HY.out];rfl,bq⟩
  ·rw [if_neg h1] at h;cases h
 ·rw [if_neg h0] at h;cases h
def jza.f (k : Nat) (l0_0 : List S90) (a1 : Int) : Option (List Int) := jJb (ctxF l0_0) k a1 []
theorem hp_cell_new (w : World) (v : Value) (t : TypeId) : (w.alloc (.cells #[v] t)).cell? ⟨w.heap.size, 0, none⟩ = some v := by simp
set_option maxHeartbeats 8000000 in
set_option maxRecDepth 100000 in
theorem jza.calls (k : Nat) (A0_0 : Option Addr) (c0_0 : Nat) (l0_0 : List (S90)) (a1 : Int) (r : List Int) (w : World) (hr0_0 : Kd.C k90 w A0_0 l0_0.length l0_0) (hc0_0 : l0_0.length ≤ c0_0) (h : jza.f k l0_0 a1 = some r) :
  Calls Try.prog 114 #[.agg #[.slice A0_0 l0_0.length c0_0], .int .i64 a1] w fun e w'=>∃ v0_:Value,e=.returned (v0_)∧Kd.R (Kd.int .i64) 3 w' w.heap.size (fun _=>True) v0_ r∧Below w.heap.size w w':=by
 have hu53:=Try.underlying53
 have B3:=am ((Below.refl w.heap.size w).alloc (Nat.le_refl _) (.cells #[.slice A0_0 l0_0.length c0_0] 53))
 have KC:=am (hp_cell_new w (.slice A0_0 l0_0.length c0_0) 53)
 have HF:=am (fun W (hb:Below w.heap.size w W) (B0:Nat) (hc:W.cell? ⟨B0,0,none⟩=some (.slice A0_0 l0_0.length c0_0))=>impl_contexts_walk k B0 (ctxF l0_0) a1 r W h (fun W' hb' x y hx =>
  impl_contexts1_calls A0_0 c0_0 l0_0 x y B0 W' (Kd.jZ (Kd.jZ hr0_0 hb) hb') (jP hb' hc) hx))
 clear h hr0_0
 go_enter Try.func114,Try.ntmps114
 go_wp2_with (go_at_call 119;refine (HF.out _ B3.out _ KC.out).mono ?_;rintro e w2 ⟨v2,rfl,hr2,hb3⟩)
 go_ret
 exact ⟨_,rfl,Kd.jpa hr2 B3.out.size,jdb B3.out B3.out.size hb3⟩
set_option maxHeartbeats 8000000 in
set_option maxRecDepth 100000 in
theorem mh_while (k m : Nat) (ct cp vl : Value) (fst : Int) (A : Option Addr) (c : Nat) (H : List S90) (f g : Int) (L : List Int) (ok : Nat → Prop) (b : Nat) (w : World)
  (hm:w.heap[m]?=some (.cells #[ct,cp,vl, .slice A H.length c, .int .i64 fst] 110 (0,0))) (hR:Kd.R k90 90 w b ok (.slice A H.length c) H) (hb:b≤w.heap.size) (hl:H.length≤2000000000) (hL:jza.f k H g=some L) (hLl:L.length≤2000000000) (hne:f≠g) (h0:0≤f) (h1:f<(H.length:Int)) (hall:∀ i:Nat,i<L.length→0≤rd L (i:Int)∧rd L (i:Int)<(H.length:Int)∧(jl H (rd L (i:Int))).f3≠f) :
  Calls Try.prog 104 #[.pointer (some ⟨m,3,none⟩), .int .i64 f, .int .i64 g] w fun e w'=>(∃ v,e=.returned v)∧w'.heap[m]?=some (.cells #[ct,cp,vl, .slice A H.length c, .int .i64 fst] 110 (0,0))∧Kd.R k90 90 w' b ok (.slice A H.length c) (H.set f.toNat ⟨(jl H f).f0,(jl H f).f1,(jl H f).f2,g,(jl H f).f4⟩)∧Kept w w' (fun k=>some k=(Value.slice A H.length c).ownBlock)∧Below 0 w w':=by
 have hu53:=Try.underlying53
 have hu90:=Try.underlying90
 have hu110:=Try.underlying110
 obtain ⟨gg,cp2,e1,hbg,hgw,cells,hgc⟩:=Kd.R_form hR (by omega)
 injection e1 with e1 e2 e3
 subst e1 e3
 have HC:=am (jza.calls k (some ⟨gg,0,none⟩) c H g L w (Kd.jC hR).2.2 (Kd.jC hR).2.1 hL)
 have c3:w.cell? ⟨m,3,none⟩=some (.slice (some ⟨gg,0,none⟩) H.length c):=(jw hm 3).trans rfl
 have hmw:=jva hm
 have HM:=am hm
 have HR:=am hR
 have HG:=am (blk_ne hgc hm (by decide))
 have HA:=am hall
 have p0:=ezT h0
 have p1:=ezT h1
 have efg:(f == g)=false:=by simpa using hne
 clear hm hR hL e2 hall hgc hne
 go_enter Try.func104,Try.ntmps104
 go_wp2_with (go_at_call 114;refine HC.out.mono ?_;rintro e w1 ⟨v1,rfl,hR1,hb1⟩;clear HC;obtain ⟨Ao,co,eo⟩:=Kd.jga hR1;subst eo;have m1:=jc HM.out hb1;have HR1:=am (Kd.jaa HR.out hb1);have HV:=am hR1;have HM1:=am m1;have HB1:=am hb1;have d3:w1.cell? ⟨m,3,none⟩=some (.slice (some ⟨gg,0,none⟩) H.length c):=(jw m1 3).trans rfl;clear hR1 m1 c3 hb1)
 go_loopw [17] (fun v17 wr=>∃ i:Nat,i≤L.length∧v17=.int .i64 i∧wr=w1) (fun v17 _=>L.length - (intOf v17).toNat)
 case atStart=>exact ⟨0,Nat.zero_le _,rfl,rfl⟩
 case round =>
  obtain ⟨i,hi,rfl,rfl⟩:=hrel
  by_cases hlt:i<L.length
  ·obtain ⟨x0,x1,x2⟩:=HA.out i hlt
   obtain ⟨adl,rfl,hz⟩:=Kd.jsb (Kd.jC HV.out).2.2 (i:Int) (by omega) (by omega)
   rw [Int.toNat_natCast] at hz
   obtain ⟨x,hx⟩:∃ x,rd L (i:Int)=x:=⟨_,rfl⟩
   rw [hx] at hz x0 x1 x2
   clear hx
   obtain ⟨_,_,k3,_⟩:=mh_st3 HR1.out x0 x1 0
   have q0:=ezT x0
   have q1:=ezT x1
   have efx:((jl H x).f3 == f)=false:=by simpa using x2
   have hlb:=ezT (show (i:Int)<(L.length:Int) by omega)
   clear x2
   go_wp2
   go_roundw
   case rel=>exact ⟨i+1,hlt,by go_num,by first | trivial | rfl⟩
   case measure=>simp [intOf];omega
  ·obtain rfl:i=L.length:=by omega
   have hlb:=eq_false (show ¬ ((L.length:Int)<(L.length:Int)) by omega)
   obtain ⟨R1,G1,k3,f3,_⟩:=mh_st3 HR1.out h0 h1 g
   have HRf:=am R1
   have HGf:=am G1
   clear R1 G1
   go_wp2
   go_end0
   exact ⟨⟨_,rfl⟩,jqa HM1.out HGf.out (fun e=>HG.out (by injection e with e;exact e.symm)),HRf.out,Kept.jGb HGf.out (Kept.of_below HB1.out _) (fun k e=>.inl (by simpa [Value.ownBlock] using e.symm)),(HB1.out.mono (Nat.zero_le _)).setCell (Nat.zero_le _) _⟩
def mR (k : Nat) (H : List S90) (cl cd h : Int) : Option (List S90) :=
 if H.length≤1000000000 then (if 0≤h then (jza.f k (H ++ [⟨cl,cd, -1, -1,false⟩]) h).bind fun L=>if (decide (L.length≤2000000000) && (decide (h≠(H.length:Int)) && L.all fun x=>decide (0≤x) && (decide (x<((H.length+1:Nat):Int)) && decide ((jl (H ++ [⟨cl,cd, -1, -1,false⟩]) x).f3≠(H.length:Int)))))=true then some (H ++ [⟨cl,cd, -1,h,false⟩]) else none
  else some (H ++ [⟨cl,cd, -1, -1,false⟩])) else none
theorem mR_len {k : Nat} {H H' : List S90} {cl cd h : Int} (e : mR k H cl cd h = some H') : H'.length = H.length + 1 ∧ H.length ≤ 1000000000 := by
 unfold mR at e
 split at e
 ·split at e
  ·obtain ⟨L,_,e⟩:=bzS e
   split at e
   ·obtain rfl:=Option.some.inj e;exact ⟨by simp,by assumption⟩
   ·cases e
  ·obtain rfl:=Option.some.inj e;exact ⟨by simp,by assumption⟩
 ·cases e
theorem mR_set (H : List S90) (cl cd h : Int) : (H ++ [(⟨cl, cd, -1, -1, false⟩ : S90)]).set ((H.length : Int)).toNat ⟨(jl (H ++ [⟨cl, cd, -1, -1, false⟩]) (H.length : Int)).f0, (jl (H ++ [⟨cl, cd, -1, -1, false⟩]) (H.length : Int)).f1, (jl (H ++ [⟨cl, cd, -1, -1, false⟩]) (H.length : Int)).f2, h, (jl (H ++ [⟨cl, cd, -1, -1, false⟩]) (H.length : Int)).f4⟩ = H ++ [⟨cl, cd, -1, h, false⟩] := by
 have e:jl (H ++ [(⟨cl,cd, -1, -1,false⟩:S90)]) (H.length:Int)=⟨cl,cd, -1, -1,false⟩:=by simp [jl,List.getD_eq_getElem?_getD]
 rw [e,Int.toNat_natCast,List.set_append_right _ _ (Nat.le_refl _),Nat.sub_self]
 rfl
theorem mh_while_n (k m : Nat) (ct cp vl : Value) (fst : Int) (A : Option Addr) (c n : Nat) (H : List S90) (f g : Int) (L : List Int) (ok : Nat → Prop) (b : Nat) (w : World) (hn : H.length = n)
  (hm:w.heap[m]?=some (.cells #[ct,cp,vl, .slice A n c, .int .i64 fst] 110 (0,0))) (hR:Kd.R k90 90 w b ok (.slice A n c) H) (hb:b≤w.heap.size) (hl:n≤2000000000) (hL:jza.f k H g=some L) (hLl:L.length≤2000000000) (hne:f≠g) (h0:0≤f) (h1:f<(n:Int)) (hall:∀ i:Nat,i<L.length→0≤rd L (i:Int)∧rd L (i:Int)<(n:Int)∧(jl H (rd L (i:Int))).f3≠f) :
  Calls Try.prog 104 #[.pointer (some ⟨m,3,none⟩), .int .i64 f, .int .i64 g] w fun e w'=>(∃ v,e=.returned v)∧w'.heap[m]?=some (.cells #[ct,cp,vl, .slice A n c, .int .i64 fst] 110 (0,0))∧Kd.R k90 90 w' b ok (.slice A n c) (H.set f.toNat ⟨(jl H f).f0,(jl H f).f1,(jl H f).f2,g,(jl H f).f4⟩)∧Kept w w' (fun k=>some k=(Value.slice A n c).ownBlock)∧Below 0 w w':=by
 subst hn
 exact mh_while k m ct cp vl fst A c H f g L ok b w hm hR hb hl hL hLl hne h0 h1 hall
theorem mR_inv {k : Nat} {H H' : List S90} {cl cd h : Int} (h0 : 0 ≤ h) (e : mR k H cl cd h = some H') : H' = H ++ [⟨cl, cd, -1, h, false⟩] ∧ ∃ L, jza.f k (H ++ [⟨cl, cd, -1, -1, false⟩]) h = some L ∧ L.length ≤ 2000000000 ∧ (H.length : Int) ≠ h ∧ ∀ i : Nat, i < L.length → 0 ≤ rd L (i : Int) ∧ rd L (i : Int) < ((H.length + 1 : Nat) : Int) ∧ (jl (H ++ [⟨cl, cd, -1, -1, false⟩]) (rd L (i : Int))).f3 ≠ (H.length : Int) := by
 unfold mR at e
 by_cases hl:H.length≤1000000000
 ·rw [if_pos hl,if_pos h0] at e
  obtain ⟨L,hL,e⟩:=bzS e
  split at e
  ·rename_i hc
   simp only [Bool.and_eq_true,List.all_eq_true,decide_eq_true_eq] at hc
   refine ⟨(Option.some.inj e).symm,L,hL,hc.1,fun e=>hc.2.1 e.symm,fun i hi=>?_⟩
   have hr:rd L (i:Int)=L[i]:=by simp [rd,List.getD_eq_getElem?_getD,hi]
   rw [hr]
   exact hc.2.2 _ (List.getElem_mem hi)
  ·cases e
 ·rw [if_neg hl] at e;cases e
set_option maxHeartbeats 8000000 in
set_option maxRecDepth 100000 in
theorem mm_raise (k m : Nat) (ct cp vl : Value) (fst : Int) (A : Option Addr) (c n : Nat) (H H' : List S90) (cl cd h : Int) (ok : Nat → Prop) (b : Nat) (w : World) (hn : H.length = n)
  (hm:w.heap[m]?=some (.cells #[ct,cp,vl, .slice A n c, .int .i64 fst] 110 (0,0))) (hR:Kd.R k90 90 w b ok (.slice A n c) H) (hf:∀ k,w.heap.size≤k→ok k) (hb:b≤w.heap.size) (hr:mR k H cl cd h=some H') :
  Calls Try.prog 72 #[.pointer (some ⟨m,0,none⟩), .int .i64 cl, .int .i64 cd, .int .i64 h] w fun e w'=>e=.returned (.int .i64 (n:Int))∧∃ A' c',w'.heap[m]?=some (.cells #[ct,cp,vl, .slice A' (n+1) c', .int .i64 fst] 110 (0,0))∧Kd.R k90 90 w' b ok (.slice A' (n+1) c') H'∧Kept w w' (fun k=>k=m∨some k=(Value.slice A n c).ownBlock)∧Below 0 w w':=by
 subst hn
 have hu53:=Try.underlying53
 have hu90:=Try.underlying90
 have hu110:=Try.underlying110
 have hl:=(mR_len hr).2
 have HRS:=am (mh_raise m ct cp vl fst A c H cl cd ok b w hm hR hf hb hl)
 by_cases h0:0≤h
 ·obtain ⟨rfl,L,hL,hLl,hne,hall⟩:=mR_inv h0 hr
  have HWH:=am (fun (A':Option Addr) (c':Nat) (W:World) (hm':W.heap[m]?=some (.cells #[ct,cp,vl, .slice A' (H.length+1) c', .int .i64 fst] 110 (0,0))) (hR':Kd.R k90 90 W b ok (.slice A' (H.length+1) c') (H ++ [⟨cl,cd, -1, -1,false⟩])) (hb':b≤W.heap.size)=>mh_while_n k m ct cp vl fst A' c' (H.length+1) (H ++ [⟨cl,cd, -1, -1,false⟩]) (H.length:Int) h L ok b W (by simp) hm' hR' hb' (by omega) hL hLl hne (by omega) (by omega) hall)
  have p0:=dzT h0
  have HB:=am hb
  clear hr hL hall hne hm hR hf
  go_enter Try.func72,Try.ntmps72
  go_wp2_with (first |(go_at_call 103;refine HRS.out.mono ?_;rintro e w1 ⟨rfl,A',c',hm1,hR1,hK1,ho1,hb1⟩;clear HRS;have n0_:=am hm1;have n1_:=am hR1;have n2_:=am hK1;have n3_:=am ho1;have n4_:=am hb1;clear hm1 hR1 hK1 ho1 hb1) |(go_at_call 104;refine (HWH.out A' c' _ n0_.out n1_.out (Nat.le_trans HB.out n2_.out.1)).mono ?_;rintro e w2 ⟨⟨v,rfl⟩,hm2,hR2,hK2,hb2⟩;clear HWH;have m0_:=am hm2;have m1_:=am hR2;have m2_:=am hK2;have m3_:=am hb2;clear hm2 hR2 hK2 hb2))
  go_ret
  refine ⟨rfl,A',c',m0_.out,by have:=m1_.out;rw [mR_set] at this;exact this,n2_.out.then_ m2_.out (fun q hq=>?_),n4_.out.trans m3_.out⟩
  rcases n3_.out with e | ⟨q',e,hq'⟩
  ·exact .inl (.inr (hq.trans e))
  ·rw [e] at hq;injection hq with hq;subst hq;exact .inr hq'
 ·have e:H'=H ++ [⟨cl,cd, -1, -1,false⟩]:=by
   unfold mR at hr
   rw [if_pos hl,if_neg h0] at hr
   exact (Option.some.inj hr).symm
  subst e
  have p0:=dzF h0
  clear hr hm hR hf
  go_enter Try.func72,Try.ntmps72
  go_wp2_with (go_at_call 103;refine HRS.out.mono ?_;rintro e w1 ⟨rfl,A',c',hm1,hR1,hK1,ho1,hb1⟩;clear HRS;have n0_:=am hm1;have n1_:=am hR1;have n2_:=am hK1;have n4_:=am hb1;clear hm1 hR1 hK1 ho1 hb1)
  go_ret
  exact ⟨rfl,A',c',n0_.out,n1_.out,n2_.out,n4_.out⟩

def jI.l0 : Nat → Int → List Int → List (S106) → Option (List Int)
 | 0,_,_,_=>none
 | k+1,x1,x5,x260000=>if x1≥0 then (if x5.length<17592186044416 then (if 0≤x1 then (if x1<(x260000.length:Int) then (jI.l0 k ((jH x260000 x1).f1) (x5 ++ [x1]) x260000) else (none)) else (none)) else (none)) else (some (x5))
def jI.f (k : Nat) (l0_0 : List (S106)) (a1 : Int) : Option (List Int) := if 0 ≤ (l0_0.length : Int) then (if ((l0_0.length : Int) : Int).toNat ≤ 35184372088832 then (jI.l0 k a1 (([] : List Int)) l0_0) else (none)) else (none)
theorem jI.mono_l : ∀ k, (∀ y0 y1 y2, LeO (jI.l0 k y0 y1 y2) (jI.l0 (k + 1) y0 y1 y2))
 | 0=>fun _ _ _ r h=>by simp [jI.l0] at h
 | k+1=>by
  have ih0:=jI.mono_l k
  ·intro y0 y1 y2
   unfold jI.l0
   exact (Y97)
theorem jI.mono : ∀ a0 a1 k, LeO (jI.f k a0 a1) (jI.f (k + 1) a0 a1) := by
 intro a0 a1 k
 have ih0:=jI.mono_l k
 unfold jI.f
 exact (Y97)
set_option maxHeartbeats 8000000 in
set_option maxRecDepth 100000 in
theorem jI.calls (k : Nat) (A0_0 : Option Addr) (c0_0 : Nat) (l0_0 : List (S106)) (a1 : Int) (r : List Int) (w : World) (hr0_0 : Kd.C k106 w A0_0 l0_0.length l0_0) (hc0_0 : l0_0.length ≤ c0_0) (h : jI.f k l0_0 a1 = some r) :
  Calls Try.prog 60 #[.agg #[.slice A0_0 l0_0.length c0_0], .int .i64 a1] w fun e w'=>∃ v0_:Value,e=.returned (v0_)∧Kd.R (Kd.int .i64) 3 w' w.heap.size (fun _=>True) v0_ r∧Below w.heap.size w w':=by
 have hu31:=Try.underlying31
 have HR0_0:=am hr0_0
 have HC0_0:=am hc0_0
 clear hr0_0 hc0_0
 have HB:=am (Below.refl w.heap.size w)
 have H:(if 0≤(l0_0.length:Int) then (if ((l0_0.length:Int):Int).toNat≤35184372088832 then (jI.l0 k a1 (([]:List Int)) l0_0) else (none)) else (none))=some r:=h
 clear h
 by_cases c3:0≤(l0_0.length:Int)
 ·rw [if_pos c3] at H
  have c3b0:=ezT c3
  have c3b1:decide (0≤(l0_0.length:Int))=true:=dzT c3
  clear c3
  by_cases c4:((l0_0.length:Int):Int).toNat≤35184372088832
  ·rw [if_pos c4] at H
   have c4b0:=ezT c4
   have c4b1:decide (((l0_0.length:Int):Int).toNat≤35184372088832)=true:=dzT c4
   clear c4
   obtain ⟨y260,hy260⟩:∃ y_:List Int,y_=(([]:List Int)):=⟨_,rfl⟩
   replace H:(jI.l0 k a1 y260 l0_0)=some r:=by first |(rw [hy260];with_reducible exact H) |(have H2_:=(Option.bind_some _ _).symm.trans H;rw [hy260];with_reducible exact H2_) |(have H2_:=(Option.bind_some _ _).symm.trans H;with_reducible exact H2_) | with_reducible exact H |(rw [hy260];exact H) | exact H
   have Ny260:=am hy260
   clear hy260
   have H':=am H
   clear H
   go_enter Try.func60,Try.ntmps60
   go_wp2_with (first |((with_reducible refine jG (N:=2) rfl ?_);refine bE (N:=2) (cs:=#[.slice A0_0 l0_0.length c0_0]) (t:=31) ?_;intro gb259 hg w5 hbox hb;have BK259:=am (hbox);have GW259:=am ((Y2:w.heap.size≤gb259));have GE259:=am ((Y2:w.heap.size≤gb259));replace HB:=am (jg (bq) hb);clear hb hbox hg;have hcz6_0:=bc0 BK259.out;have hfz6_0:=ja BK259.out 0) |((with_reducible refine jG (N:=9) rfl ?_);refine Kd.R_mkcap (Kd.int .i64) _ 3 rfl (N:=9) rfl 45 _ _ rfl (l0_0.length:Int) rfl rfl Try.underlying45 (.int .i64 0) 8 info3 rfl (by decide) (by omega) (ok:=fun _=>True) trivial (ozD (uq)) (Nat.le_trans (Nat.mul_le_mul_right _ (ozD (uq):(l0_0.length:Int).toNat≤35184372088832)) (by omega)) (Below.refl _ _) (Nat.le_refl _) ?_;intro v261 w7 ho8 hb hg_ hnew_;clear hg_ hnew_;(first | rw [← Ny260.out] at ho8 |(simp only [Int.reduceToNat] at ho8;rw [← Ny260.out] at ho8));have HO262:=am (Kd.jpa ho8 (jba (Y50)));replace BK259:=am (jc (g:=gb259) (o:=.cells #[.slice A0_0 l0_0.length c0_0] 31 (0,0)) (kq BK259.out) hb);replace HB:=am (jg (Y50) hb);clear hb ho8))
   go_loopg [1,5] k (fun kq v1 v5 w'=>∃ (x1_1:Int) (x5_1:List Int),v1=.int .i64 x1_1∧jE (jI.l0 kq x1_1 x5_1 l0_0=some r)∧jE (kq≤k)∧jE (Kd.R (Kd.int .i64) 3 w' w.heap.size (fun _=>True) v5 x5_1)∧jE (w'.heap[gb259]?=some (.cells #[(.slice A0_0 l0_0.length c0_0)] 31 (0,0)))∧jE (Below w.heap.size w w'))
   case atStart=>exact ⟨(a1),(y260),(sq),H',⟨Nat.le_refl _⟩,⟨rq HO262.out⟩,⟨kq BK259.out⟩,⟨Y50⟩⟩
   case round =>
    clear H'
    try clear p2
    try clear c3
    try clear c3b0
    try clear c3b1
    try clear c4
    try clear c4b0
    try clear c4b1
    try clear c6
    try clear hcz6_0
    try clear hfz6_0
    obtain ⟨x1_1,x5_1,rfl,HA,HK1,HO_5,BK259,HB⟩:=hrel
    cases gk with
    | zero=>exact absurd HA.out (by simp [jI.l0])
    | succ k1 =>
     have H:=HA.out
     clear HA
     simp only [jI.l0] at H
     by_cases c9:x1_1≥0
     ·rw [if_pos c9] at H
      have c9b0:decide (0≤x1_1)=true:=dzT c9
      clear c9
      by_cases c10:x5_1.length<17592186044416
      ·rw [if_pos c10] at H
       have LMc10:=am c10
       clear c10
       obtain ⟨y263,hy263⟩:∃ y_:List Int,y_=(x5_1 ++ [x1_1]):=⟨_,rfl⟩
       replace H:(if 0≤x1_1 then (if x1_1<(l0_0.length:Int) then (jI.l0 k1 ((jH l0_0 x1_1).f1) y263 l0_0) else (none)) else (none))=some r:=by first |(rw [hy263];with_reducible exact H) |(have H2_:=(Option.bind_some _ _).symm.trans H;rw [hy263];with_reducible exact H2_) |(have H2_:=(Option.bind_some _ _).symm.trans H;with_reducible exact H2_) | with_reducible exact H |(rw [hy263];exact H) | exact H
       have Ny263:=am hy263
       clear hy263
       by_cases c11:0≤x1_1
       ·rw [if_pos c11] at H
        have c11b0:decide (0≤x1_1)=true:=dzT c11
        clear c11
        by_cases c12:x1_1<(l0_0.length:Int)
        ·rw [if_pos c12] at H
         have c12b0:decide (x1_1<(l0_0.length:Int))=true:=dzT c12
         clear c12
         have H':=am H
         clear H
         go_wp2_with (first |((with_reducible refine jpb (b:=.append) (xs:=#[.tmp 18, .tmp 20]) rfl ?_);at_builtin;refine Kd.jWb (Kd.int .i64) (w0:=w) w.heap.size rfl (.tmp 18) (.tmp 20) 45 3 (.int .i64 0) 8 rfl Try.underlying45 info3 rfl (by decide) (by omega) u5 x5_1 x1_1 [.int .i64 x1_1] (fun _=>True) (fun _=>False) rfl rfl ?aP (fun _ hk=>hk.elim) ?aF ?aO ?aB ?aS ?aL ?_;(case aP=>exact rfl);(case aB=>exact (Y50));(case aF=>exact (fun _ _=>trivial));(case aO=>exact (rq HO_5.out));(case aS=>exact (jba (Y50)));(case aL=>have:=LMc10.out;omega);intro v264 w13 ho hb hg hat;rw [← Ny263.out] at ho;have n0_:=am (jqa (g:=gb259) (o:=.cells #[.slice A0_0 l0_0.length c0_0] 31 (0,0)) (kq BK259.out) hg (Kd.R_ne HO_5.out BK259.out (by decide)));have n1_:=am (hb);have n2_:=am (ho);clear BK259 HB HO_5;have BK259:=n0_;have HB:=n1_;have HO265:=n2_;clear n0_ n1_ n2_ ho hb hg hat;have hcz14_0:=bc0 BK259.out;have hfz14_0:=ja BK259.out 0;have p266:0≤(x1_1:Int):=ozD (uq);have q266:x1_1<(l0_0.length:Int):=ozD (uq);obtain ⟨ad266,e266,hx266_0,hx266_1⟩:=at_T106 HR0_0.out x1_1 p266 q266;cases e266;replace hx266_0:=cb HB.out hx266_0;replace hx266_1:=cb HB.out hx266_1;replace p266:=ezT p266;replace q266:=ezT q266))
         go_roundg k1
         case measure=>have:=HK1.out;omega
         case rel=>exact ⟨((jH l0_0 x1_1).f1),(y263),(sq),H',⟨by have:=HK1.out;omega⟩,⟨rq HO265.out⟩,⟨kq BK259.out⟩,⟨Y50⟩⟩
        ·rw [if_neg c12] at H
         exact absurd H (by simp)
       ·rw [if_neg c11] at H
        exact absurd H (by simp)
      ·rw [if_neg c10] at H
       exact absurd H (by simp)
     ·rw [if_neg c9] at H
      have c9b0:decide (0≤x1_1)=false:=dzF c9
      clear c9
      obtain ⟨y267,hy267⟩:∃ y_:List Int,y_=(x5_1):=⟨_,rfl⟩
      replace H:(some y267)=some r:=by first |(rw [hy267];with_reducible exact H) |(have H2_:=(Option.bind_some _ _).symm.trans H;rw [hy267];with_reducible exact H2_) |(have H2_:=(Option.bind_some _ _).symm.trans H;with_reducible exact H2_) | with_reducible exact H |(rw [hy267];exact H) | exact H
      have Ny267:=am hy267
      clear hy267
      obtain rfl:=Option.some.inj H
      obtain ⟨Ao15,co15,eo15⟩:=Kd.jga HO_5.out
      subst eo15
      obtain ⟨i016,hi016,_,hsz16,_⟩:=info_parts info3
      have hy16:y267.length=x5_1.length:=(by rw [Ny267.out])
      have hcut16:=cut_clip (P:=Try.prog) 45 3 Try.underlying45 hi016 Ao15 _ co15 _ (Kd.jC HO_5.out).2.1 hy16
      have hr16:=Kd.R_clip HO_5.out Ny267.out
      clear hy16 hi016 hsz16 HO_5
      have HO269:=am hr16
      clear hr16
      go_wp2
      go_ret
      exact ⟨_,Y0,rq HO269.out,Y50⟩
  ·rw [if_neg c4] at H
   exact absurd H (by simp)
 ·rw [if_neg c3] at H
  exact absurd H (by simp)
def jMa.f (k : Nat) (l0_0 : List (S106)) (a1 : Int) (a2 : Int) : Option (Bool) := (jI.f k l0_0 a1).bind fun t271 => ((jK.f k t271 a2).bind fun t274 => (some t274))
theorem jMa.mono : ∀ a0 a1 a2 k, LeO (jMa.f k a0 a1 a2) (jMa.f (k + 1) a0 a1 a2) := by
 intro a0 a1 a2 k
 unfold jMa.f
 exact (by repeat' (first |(with_reducible exact jI.mono _ _ _) |(with_reducible exact jK.mono _ _ _) |(with_reducible exact LeO.refl _) |(with_reducible exact LeO.none _) |(with_reducible refine LeO.ite ?_ ?_) |(with_reducible refine LeO.bind ?_ (fun _=>?_)) | exact jI.mono _ _ _ | exact jK.mono _ _ _ | exact LeO.none _ | refine LeO.ite ?_ ?_ | refine LeO.bind ?_ (fun _=>?_)))
set_option maxHeartbeats 8000000 in
set_option maxRecDepth 100000 in
theorem jMa.calls (k : Nat) (A0_0 : Option Addr) (c0_0 : Nat) (l0_0 : List (S106)) (a1 : Int) (a2 : Int) (r : Bool) (w : World) (hr0_0 : Kd.C k106 w A0_0 l0_0.length l0_0) (hc0_0 : l0_0.length ≤ c0_0) (h : jMa.f k l0_0 a1 a2 = some r) :
  Calls Try.prog 74 #[.agg #[.slice A0_0 l0_0.length c0_0], .int .i64 a1, .int .i64 a2] w fun e w'=>e=.returned (.bool r)∧Below w.heap.size w w':=by
 have hu31:=Try.underlying31
 have HR0_0:=am hr0_0
 have HC0_0:=am hc0_0
 clear hr0_0 hc0_0
 have HB:=am (Below.refl w.heap.size w)
 have H:((jI.f k l0_0 a1).bind fun t271=>((jK.f k t271 a2).bind fun t274=>(some t274)))=some r:=h
 clear h
 replace H:=bzS H
 obtain ⟨t271,A40,H⟩:=H
 replace H:((jK.f k t271 a2).bind fun t274=>(some t274))=some r:=H
 have A4:=am A40
 clear A40
 replace H:=bzS H
 obtain ⟨t274,A50,H⟩:=H
 replace H:(some t274)=some r:=H
 have A5:=am A50
 clear A50
 obtain rfl:=Option.some.inj H
 go_enter Try.func74,Try.ntmps74
 go_wp2_with (first |((with_reducible refine jG (N:=3) rfl ?_);refine bE (N:=3) (cs:=#[.slice A0_0 l0_0.length c0_0]) (t:=31) ?_;intro gb270 hg w6 hbox hb;have BK270:=am (hbox);have GW270:=am ((Y2:w.heap.size≤gb270));have GE270:=am ((Y2:w.heap.size≤gb270));replace HB:=am (jg (bq) hb);clear hb hbox hg;have hcz7_0:=bc0 BK270.out;have hfz7_0:=ja BK270.out 0) |((with_reducible refine jo (f:=60) rfl ?_);refine gL (some 9) Try.func60 #[.agg #[.slice A0_0 l0_0.length c0_0], .int .i64 a1] ?_;(with_reducible refine (jI.calls k _ _ l0_0 a1 t271 _ ?side1 ?side2 A4.out).mono ?_);(case side1=>exact cq (Kd.jZ HR0_0.out HB.out));(case side2=>exact HC0_0.out);rintro e w8 ⟨v272,rfl,ho0,hb⟩;refine ⟨_,rfl,?_⟩;have HO273:=am (Kd.jpa ho0 (jba (Y82)));replace BK270:=am (jc (g:=gb270) (o:=.cells #[.slice A0_0 l0_0.length c0_0] 31 (0,0)) (kq BK270.out) hb);replace HB:=am (jg (Y82) hb);(try clear hb);(try clear hb2);(try clear hk);(try clear hi);(try clear ho0);obtain ⟨Ao9,co9,eo9⟩:=Kd.jga HO273.out;subst eo9) |((with_reducible refine jo (f:=106) rfl ?_);refine gL (some 11) Try.func106 #[.slice Ao9 t271.length co9, .int .i64 a2] ?_;(with_reducible refine (jK.calls k _ _ t271 a2 t274 _ ?side1 ?side2 A5.out).mono ?_);(case side1=>exact cq (Kd.jC HO273.out).2.2);(case side2=>exact (Kd.jC HO273.out).2.1);rintro e w' ⟨rfl,⟨nd,rfl⟩⟩;refine ⟨_,rfl,?_⟩))
 go_ret
 exact ⟨Y0,Y82⟩
end Go.Proofs.Ytlhfcmbkjddgiaa.P
end
