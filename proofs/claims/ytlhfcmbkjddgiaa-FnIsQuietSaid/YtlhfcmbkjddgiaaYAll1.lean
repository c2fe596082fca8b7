/- One part of the proofs on this program: functions of the program as plain functions, that the code comes to them, and facts on them. -/
import Derived.ArgAppend
import Derived.Below
import Derived.BigQuiet
import Derived.Deep.AppendLies
import Derived.Deep.CutBlock
import Derived.Deep.DeepCutAuto
import Derived.Deep.Draws
import Derived.Deep.LoopGhost
import Derived.Deep.OwnRows
import Derived.Deep.QuietTactic
import Derived.Deep.RegionHeld3
import Derived.KernelRfl
import Derived.Laws.BitsLemmas
import Derived.Laws.BytesArg
import Derived.Laws.IdiomCopy
import Derived.Laws.MakeOwn
import Derived.Laws.OwnMore
import Derived.Laws.Rows
import Derived.Laws.Slices
import Derived.Laws.StructEq
import Derived.Lib.AppendStr
import Derived.Lib.ConvBytes
import Derived.LoopTactic
import Derived.Maps.AppendAt
import Derived.OrdersHeld
import Derived.OwnWalk
import Derived.RowKit
import Derived.RowKit3
import Derived.Tactics
import Derived.WalkKit
import Derived.WideLaws
import Derived.Test.YtlhfcmbkjddgiaaProg
import Derived.Test.YtlhfcmbkjddgiaaYWApart
import Derived.Test.YtlhfcmbkjddgiaaYWArr
import Derived.Test.YtlhfcmbkjddgiaaYWAuto
import Derived.Test.YtlhfcmbkjddgiaaYWClip
import Derived.Test.YtlhfcmbkjddgiaaYWFoot
import Derived.Test.YtlhfcmbkjddgiaaYWGuard
import Derived.Test.YtlhfcmbkjddgiaaYWIdx
import Derived.Test.YtlhfcmbkjddgiaaYWInvWords
import Derived.Test.YtlhfcmbkjddgiaaYWKept
import Derived.Test.YtlhfcmbkjddgiaaYWLast
import Derived.Test.YtlhfcmbkjddgiaaYWMkcap
import Derived.Test.YtlhfcmbkjddgiaaYWMore
import Derived.Test.YtlhfcmbkjddgiaaYWN
import Derived.Test.YtlhfcmbkjddgiaaYWNEv
import Derived.Test.YtlhfcmbkjddgiaaYWRepsOne
import Derived.Test.YtlhfcmbkjddgiaaYWShare
import Derived.Test.YtlhfcmbkjddgiaaYWSome
import Derived.Test.YtlhfcmbkjddgiaaYWTab
import Derived.Test.YtlhfcmbkjddgiaaYWWords
import Derived.Test.YtlhfcmbkjddgiaaYWZeros
section
namespace Go.Proofs.Ytlhfcmbkjddgiaa.P
open Go.RowKit Go.Proofs.YtlhfcmbkjddgiaaW.PrintWords Go.Proofs.YtlhfcmbkjddgiaaW.PrintLast Go.Proofs.YtlhfcmbkjddgiaaW.PrintMore
attribute [local go_sem] jca jaa jsa jra jQ jP jba jZ jk
set_option linter.unusedVariables false
set_option linter.unusedSimpArgs false
def errW : Option Int → Value
 | none=>.nilIface
 | some c=>.iface 0 (.int .i64 c)
theorem jVb : errW none = .nilIface := rfl
theorem jUb (c : Int) : errW (some c) = .iface 0 (.int .i64 c) := rfl
theorem info3 : (Try.prog.info? 3).map (fun i => (i.zero, i.size, i.bytes)) = some (some (.int .i64 0), 1, 8) := by kernel_rfl
theorem info5 : (Try.prog.info? 5).map (fun i => (i.zero, i.size, i.bytes)) = some (some (.int .u8 0), 1, 1) := by kernel_rfl
theorem info44 : (Try.prog.info? 44).map (fun i => (i.zero, i.size, i.bytes)) = some (some (.agg #[(.int .i64 0), (.int .i64 0), (.int .i64 0)]), 3, 24) := by kernel_rfl
theorem info90 : (Try.prog.info? 90).map (fun i => (i.zero, i.size, i.bytes)) = some (some (.agg #[(.int .i64 0), (.int .i64 0), (.int .i64 0), (.int .i64 0), (.bool false)]), 5, 40) := by kernel_rfl
theorem info106 : (Try.prog.info? 106).map (fun i => (i.zero, i.size, i.bytes)) = some (some (.agg #[(.string ⟨#[]⟩), (.int .i64 0)]), 2, 24) := by kernel_rfl
structure S98 where
 f0:ByteArray
 f1:Int
def z98 : S98 := ⟨(⟨#[]⟩ : ByteArray), (0 : Int)⟩
def k98 : Kd S98 := Kd.iso (Kd.pair Kd.string (Kd.int .i64)) (fun x : S98 => (x.f0, x.f1))
theorem k98_open {w : World} {x : S98} {cs : List Value} (h : k98.K w x cs) : cs = [.string x.f0, .int .i64 x.f1] := by
 obtain ⟨_,_,rfl,rfl,rfl⟩:=h
 exact rfl
theorem k98_mk (w : World) (x : S98)  : k98.K w x [.string x.f0, .int .i64 x.f1] := ⟨[.string x.f0], [.int .i64 x.f1], rfl, rfl, rfl⟩
def jYb (xs : List S98) (i : Int) : S98 := xs.getD i.toNat z98
theorem at_T98 {w : World} {A : Option Addr} {n : Nat} {xs : List S98} (h : Kd.C k98 w A n xs) (i : Int) (h0 : 0 ≤ i) (h1 : i < n) : ∃ ad , A = some ad ∧ w.cell? (ad.add (i.toNat * 2)) = some (.string (jYb xs i).f0) ∧ w.cell? ⟨(ad.add (i.toNat * 2)).block, (ad.add (i.toNat * 2)).off + 1, none⟩ = some (.int .i64 (jYb xs i).f1) := by
 obtain ⟨ad,c,e,_,hK,hc0⟩:=Kd.C_get h z98 i h0 h1
 have hc:∀ j u,c[j]?=some u→w.cell? (ad.add (i.toNat * 2+j))=some u:=hc0
 obtain rfl:=k98_open hK
 exact ⟨ad,e,hc 0 _ rfl,by rw [← jdc _ _ 1 (by omega)];exact hc 1 _ rfl⟩
structure S70 where
 f0:Int
 f1:Int
 f2:Int
def z70 : S70 := ⟨(0 : Int), (0 : Int), (0 : Int)⟩
def k70 : Kd S70 := Kd.iso (Kd.pair (Kd.int .i64) (Kd.pair (Kd.int .i64) (Kd.int .i64))) (fun x : S70 => (x.f0, x.f1, x.f2))
theorem k70_open {w : World} {x : S70} {cs : List Value} (h : k70.K w x cs) : cs = [.int .i64 x.f0, .int .i64 x.f1, .int .i64 x.f2] := by
 obtain ⟨_,_,rfl,rfl,⟨_,_,rfl,rfl,rfl⟩⟩:=h
 exact rfl
theorem k70_mk (w : World) (x : S70)  : k70.K w x [.int .i64 x.f0, .int .i64 x.f1, .int .i64 x.f2] := ⟨[.int .i64 x.f0], [.int .i64 x.f1, .int .i64 x.f2], rfl, rfl, ⟨[.int .i64 x.f1], [.int .i64 x.f2], rfl, rfl, rfl⟩⟩
def jOc (xs : List S70) (i : Int) : S70 := xs.getD i.toNat z70
theorem at_T70 {w : World} {A : Option Addr} {n : Nat} {xs : List S70} (h : Kd.C k70 w A n xs) (i : Int) (h0 : 0 ≤ i) (h1 : i < n) : ∃ ad , A = some ad ∧ w.cell? (ad.add (i.toNat * 3)) = some (.int .i64 (jOc xs i).f0) ∧ w.cell? ⟨(ad.add (i.toNat * 3)).block, (ad.add (i.toNat * 3)).off + 1, none⟩ = some (.int .i64 (jOc xs i).f1) ∧ w.cell? ⟨(ad.add (i.toNat * 3)).block, (ad.add (i.toNat * 3)).off + 2, none⟩ = some (.int .i64 (jOc xs i).f2) := by
 obtain ⟨ad,c,e,_,hK,hc0⟩:=Kd.C_get h z70 i h0 h1
 have hc:∀ j u,c[j]?=some u→w.cell? (ad.add (i.toNat * 3+j))=some u:=hc0
 obtain rfl:=k70_open hK
 exact ⟨ad,e,hc 0 _ rfl,by rw [← jdc _ _ 1 (by omega)];exact hc 1 _ rfl,by rw [← jdc _ _ 2 (by omega)];exact hc 2 _ rfl⟩
structure S106 where
 f0:ByteArray
 f1:Int
def z106 : S106 := ⟨(⟨#[]⟩ : ByteArray), (0 : Int)⟩
def k106 : Kd S106 := Kd.iso (Kd.pair Kd.string (Kd.int .i64)) (fun x : S106 => (x.f0, x.f1))
theorem k106_heap : Kd.Heap k106 := Kd.heap_iso _ (Kd.jJc Kd.heap_string (Kd.jRc .i64))
theorem k106_open {w : World} {x : S106} {cs : List Value} (h : k106.K w x cs) : cs = [.string x.f0, .int .i64 x.f1] := by
 obtain ⟨_,_,rfl,rfl,rfl⟩:=h
 exact rfl
theorem jDc {w : World} {base : Nat} {ok : Nat → Prop} {x : S106} {cs : List Value} (h : k106.M w base ok x cs) : cs = [.string x.f0, .int .i64 x.f1] := by
 obtain ⟨_,_,rfl,rfl,rfl⟩:=h
 exact rfl
theorem k106_mkM (w : World) (base : Nat) (ok : Nat → Prop) (x : S106)  : k106.M w base ok x [.string x.f0, .int .i64 x.f1] := ⟨[.string x.f0], [.int .i64 x.f1], rfl, rfl, rfl⟩
def jC (xs : List S106) (i : Int) : S106 := xs.getD i.toNat z106
theorem jLc {w : World} {A : Option Addr} {n : Nat} {xs : List S106} (h : Kd.C k106 w A n xs) (i : Int) (h0 : 0 ≤ i) (h1 : i < n) : ∃ ad , A = some ad ∧ w.cell? (ad.add (i.toNat * 2)) = some (.string (jC xs i).f0) ∧ w.cell? ⟨(ad.add (i.toNat * 2)).block, (ad.add (i.toNat * 2)).off + 1, none⟩ = some (.int .i64 (jC xs i).f1) := by
 obtain ⟨ad,c,e,_,hK,hc0⟩:=Kd.C_get h z106 i h0 h1
 have hc:∀ j u,c[j]?=some u→w.cell? (ad.add (i.toNat * 2+j))=some u:=hc0
 obtain rfl:=k106_open hK
 exact ⟨ad,e,hc 0 _ rfl,by rw [← jdc _ _ 1 (by omega)];exact hc 1 _ rfl⟩
structure S44 where
 f0:Int
 f1:Int
 f2:Int
def z44 : S44 := ⟨(0 : Int), (0 : Int), (0 : Int)⟩
def k44 : Kd S44 := Kd.iso (Kd.pair (Kd.int .i64) (Kd.pair (Kd.int .i64) (Kd.int .i64))) (fun x : S44 => (x.f0, x.f1, x.f2))
theorem k44_heap : Kd.Heap k44 := Kd.heap_iso _ (Kd.jJc (Kd.jRc .i64) (Kd.jJc (Kd.jRc .i64) (Kd.jRc .i64)))
theorem k44_open {w : World} {x : S44} {cs : List Value} (h : k44.K w x cs) : cs = [.int .i64 x.f0, .int .i64 x.f1, .int .i64 x.f2] := by
 obtain ⟨_,_,rfl,rfl,⟨_,_,rfl,rfl,rfl⟩⟩:=h
 exact rfl
theorem jxc {w : World} {base : Nat} {ok : Nat → Prop} {x : S44} {cs : List Value} (h : k44.M w base ok x cs) : cs = [.int .i64 x.f0, .int .i64 x.f1, .int .i64 x.f2] := by
 obtain ⟨_,_,rfl,rfl,⟨_,_,rfl,rfl,rfl⟩⟩:=h
 exact rfl
theorem jyc (w : World) (base : Nat) (ok : Nat → Prop) (x : S44)  : k44.M w base ok x [.int .i64 x.f0, .int .i64 x.f1, .int .i64 x.f2] := ⟨[.int .i64 x.f0], [.int .i64 x.f1, .int .i64 x.f2], rfl, rfl, ⟨[.int .i64 x.f1], [.int .i64 x.f2], rfl, rfl, rfl⟩⟩
def jJ (xs : List S44) (i : Int) : S44 := xs.getD i.toNat z44
theorem at_T44 {w : World} {A : Option Addr} {n : Nat} {xs : List S44} (h : Kd.C k44 w A n xs) (i : Int) (h0 : 0 ≤ i) (h1 : i < n) : ∃ ad , A = some ad ∧ w.cell? (ad.add (i.toNat * 3)) = some (.int .i64 (jJ xs i).f0) ∧ w.cell? ⟨(ad.add (i.toNat * 3)).block, (ad.add (i.toNat * 3)).off + 1, none⟩ = some (.int .i64 (jJ xs i).f1) ∧ w.cell? ⟨(ad.add (i.toNat * 3)).block, (ad.add (i.toNat * 3)).off + 2, none⟩ = some (.int .i64 (jJ xs i).f2) := by
 obtain ⟨ad,c,e,_,hK,hc0⟩:=Kd.C_get h z44 i h0 h1
 have hc:∀ j u,c[j]?=some u→w.cell? (ad.add (i.toNat * 3+j))=some u:=hc0
 obtain rfl:=k44_open hK
 exact ⟨ad,e,hc 0 _ rfl,by rw [← jdc _ _ 1 (by omega)];exact hc 1 _ rfl,by rw [← jdc _ _ 2 (by omega)];exact hc 2 _ rfl⟩
structure S90 where
 f0:Int
 f1:Int
 f2:Int
 f3:Int
 f4:Bool
def z90 : S90 := ⟨(0 : Int), (0 : Int), (0 : Int), (0 : Int), false⟩
def k90 : Kd S90 := Kd.iso (Kd.pair (Kd.int .i64) (Kd.pair (Kd.int .i64) (Kd.pair (Kd.int .i64) (Kd.pair (Kd.int .i64) Kd.bool)))) (fun x : S90 => (x.f0, x.f1, x.f2, x.f3, x.f4))
theorem k90_heap : Kd.Heap k90 := Kd.heap_iso _ (Kd.jJc (Kd.jRc .i64) (Kd.jJc (Kd.jRc .i64) (Kd.jJc (Kd.jRc .i64) (Kd.jJc (Kd.jRc .i64) Kd.heap_bool))))
theorem k90_open {w : World} {x : S90} {cs : List Value} (h : k90.K w x cs) : cs = [.int .i64 x.f0, .int .i64 x.f1, .int .i64 x.f2, .int .i64 x.f3, .bool x.f4] := by
 obtain ⟨_,_,rfl,rfl,⟨_,_,rfl,rfl,⟨_,_,rfl,rfl,⟨_,_,rfl,rfl,rfl⟩⟩⟩⟩:=h
 exact rfl
theorem jwc {w : World} {base : Nat} {ok : Nat → Prop} {x : S90} {cs : List Value} (h : k90.M w base ok x cs) : cs = [.int .i64 x.f0, .int .i64 x.f1, .int .i64 x.f2, .int .i64 x.f3, .bool x.f4] := by
 obtain ⟨_,_,rfl,rfl,⟨_,_,rfl,rfl,⟨_,_,rfl,rfl,⟨_,_,rfl,rfl,rfl⟩⟩⟩⟩:=h
 exact rfl
theorem k90_mkM (w : World) (base : Nat) (ok : Nat → Prop) (x : S90)  : k90.M w base ok x [.int .i64 x.f0, .int .i64 x.f1, .int .i64 x.f2, .int .i64 x.f3, .bool x.f4] := ⟨[.int .i64 x.f0], [.int .i64 x.f1, .int .i64 x.f2, .int .i64 x.f3, .bool x.f4], rfl, rfl, ⟨[.int .i64 x.f1], [.int .i64 x.f2, .int .i64 x.f3, .bool x.f4], rfl, rfl, ⟨[.int .i64 x.f2], [.int .i64 x.f3, .bool x.f4], rfl, rfl, ⟨[.int .i64 x.f3], [.bool x.f4], rfl, rfl, rfl⟩⟩⟩⟩
def jA (xs : List S90) (i : Int) : S90 := xs.getD i.toNat z90
theorem at_T90 {w : World} {A : Option Addr} {n : Nat} {xs : List S90} (h : Kd.C k90 w A n xs) (i : Int) (h0 : 0 ≤ i) (h1 : i < n) : ∃ ad , A = some ad ∧ w.cell? (ad.add (i.toNat * 5)) = some (.int .i64 (jA xs i).f0) ∧ w.cell? ⟨(ad.add (i.toNat * 5)).block, (ad.add (i.toNat * 5)).off + 1, none⟩ = some (.int .i64 (jA xs i).f1) ∧ w.cell? ⟨(ad.add (i.toNat * 5)).block, (ad.add (i.toNat * 5)).off + 2, none⟩ = some (.int .i64 (jA xs i).f2) ∧ w.cell? ⟨(ad.add (i.toNat * 5)).block, (ad.add (i.toNat * 5)).off + 3, none⟩ = some (.int .i64 (jA xs i).f3) ∧ w.cell? ⟨(ad.add (i.toNat * 5)).block, (ad.add (i.toNat * 5)).off + 4, none⟩ = some (.bool (jA xs i).f4) := by
 obtain ⟨ad,c,e,_,hK,hc0⟩:=Kd.C_get h z90 i h0 h1
 have hc:∀ j u,c[j]?=some u→w.cell? (ad.add (i.toNat * 5+j))=some u:=hc0
 obtain rfl:=k90_open hK
 exact ⟨ad,e,hc 0 _ rfl,by rw [← jdc _ _ 1 (by omega)];exact hc 1 _ rfl,by rw [← jdc _ _ 2 (by omega)];exact hc 2 _ rfl,by rw [← jdc _ _ 3 (by omega)];exact hc 3 _ rfl,by rw [← jdc _ _ 4 (by omega)];exact hc 4 _ rfl⟩
def jSb.f (a0_0 : ByteArray) (a0_1 : Int) (a1 : Int) : Option (Int) := if (wrap64 (a1 - (a0_0.size : Int))) < 0 then (some (-1)) else (some (wrap64 (a1 - (a0_0.size : Int))))
set_option maxHeartbeats 8000000 in
set_option maxRecDepth 100000 in
theorem jSb.calls (a0_0 : ByteArray) (a0_1 : Int) (a1 : Int) (r : Int) (w : World) (h : jSb.f a0_0 a0_1 a1 = some r) :
  Calls Try.prog 65 #[.agg #[.string a0_0, .int .i64 a0_1], .int .i64 a1] w fun e w'=>e=.returned (.int .i64 r)∧Below w.heap.size w w':=by
 have hu98:=Try.underlying98
 have HB:=am (Below.refl w.heap.size w)
 have H:(if (wrap64 (a1 - (a0_0.size:Int)))<0 then (some (-1)) else (some (wrap64 (a1 - (a0_0.size:Int)))))=some r:=h
 clear h
 by_cases c3:(wrap64 (a1 - (a0_0.size:Int)))<0
 ·rw [if_pos c3] at H
  have c3b0:decide ((wrap64 (a1 - (a0_0.size:Int)))<0)=true:=dzT c3
  clear c3
  obtain rfl:=Option.some.inj H
  go_enter Try.func65,Try.ntmps65
  go_wp2_with (first |((with_reducible refine jB (N:=2) rfl ?_);refine bE (N:=2) (cs:=#[.string a0_0, .int .i64 a0_1]) (t:=98) ?_;intro gb101 hg w4 hbox hb;have BK101:=am (hbox);have GW101:=am ((Y1:w.heap.size≤gb101));have GE101:=am ((Y1:w.heap.size≤gb101));replace HB:=am (jb (bq) hb);clear hb hbox hg;have hcz5_0:=bc0 BK101.out;have hcz5_1:=bc1 BK101.out;have hfz5_0:=ja BK101.out 0;have hfz5_1:=ja BK101.out 1))
  go_ret
  exact ⟨Y0,Y116⟩
 ·rw [if_neg c3] at H
  have c3b0:decide ((wrap64 (a1 - (a0_0.size:Int)))<0)=false:=dzF c3
  clear c3
  obtain rfl:=Option.some.inj H
  go_enter Try.func65,Try.ntmps65
  go_wp2_with (first |((with_reducible refine jB (N:=2) rfl ?_);refine bE (N:=2) (cs:=#[.string a0_0, .int .i64 a0_1]) (t:=98) ?_;intro gb101 hg w6 hbox hb;have BK101:=am (hbox);have GW101:=am ((Y1:w.heap.size≤gb101));have GE101:=am ((Y1:w.heap.size≤gb101));replace HB:=am (jb (bq) hb);clear hb hbox hg;have hcz7_0:=bc0 BK101.out;have hcz7_1:=bc1 BK101.out;have hfz7_0:=ja BK101.out 0;have hfz7_1:=ja BK101.out 1))
  go_ret
  exact ⟨Y0,Y116⟩
def jBa.l0 : Nat → List (S98) → Int → Int → Option (Int)
 | 0,_,_,_=>none
 | k+1,x0,x1,x5=>if x5<(x0.length:Int) then (if 0≤x5 then ((jSb.f ((jYb x0 x5).f0) ((jYb x0 x5).f1) x1).bind fun t103=>(if t103<0 then (some (-1)) else (jBa.l0 k x0 t103 (wrap64 (x5+1))))) else (none)) else (some x1)
def jBa.f (k : Nat) (l0 : List (S98)) (a1 : Int) : Option (Int) := if (wrap64 (a1 - (l0.length : Int))) < 0 then (some (-1)) else (jBa.l0 k l0 (wrap64 (a1 - (l0.length : Int))) 0)
set_option maxHeartbeats 8000000 in
set_option maxRecDepth 100000 in
theorem jBa.calls (k : Nat) (A0 : Option Addr) (c0 : Nat) (l0 : List (S98)) (a1 : Int) (r : Int) (w : World) (hr0 : Kd.C k98 w A0 l0.length l0) (hc0 : l0.length ≤ c0) (h : jBa.f k l0 a1 = some r) :
  Calls Try.prog 34 #[.slice A0 l0.length c0, .int .i64 a1] w fun e w'=>e=.returned (.int .i64 r)∧Below w.heap.size w w':=by
 have hu98:=Try.underlying98
 have HR0:=am hr0
 have HC0:=am hc0
 clear hr0 hc0
 have HB:=am (Below.refl w.heap.size w)
 have H:(if (wrap64 (a1 - (l0.length:Int)))<0 then (some (-1)) else (jBa.l0 k l0 (wrap64 (a1 - (l0.length:Int))) 0))=some r:=h
 clear h
 by_cases c3:(wrap64 (a1 - (l0.length:Int)))<0
 ·rw [if_pos c3] at H
  have c3b0:decide ((wrap64 (a1 - (l0.length:Int)))<0)=true:=dzT c3
  clear c3
  obtain rfl:=Option.some.inj H
  go_enter Try.func34,Try.ntmps34
  go_wp2
  go_ret
  exact ⟨Y0,bq⟩
 ·rw [if_neg c3] at H
  have c3b0:decide ((wrap64 (a1 - (l0.length:Int)))<0)=false:=dzF c3
  clear c3
  have H':=am H
  clear H
  go_enter Try.func34,Try.ntmps34
  go_wp2
  go_loopg [1,5] k (fun kq v1 v5 w'=>∃ (x1_1:Int) (x5_1:Int),v1=.int .i64 x1_1∧v5=.int .i64 x5_1∧jF (jBa.l0 kq l0 x1_1 x5_1=some r)∧jF (kq≤k)∧jF (Below w.heap.size w w'))
  case atStart=>exact ⟨(wrap64 (a1 - (l0.length:Int))),(0),(sq),(sq),H',⟨Nat.le_refl _⟩,⟨bq⟩⟩
  case round =>
   clear H'
   try clear p2
   try clear c3
   try clear c3b0
   obtain ⟨x1_1,x5_1,rfl,rfl,HA,HK1,HB⟩:=hrel
   cases gk with
   | zero=>exact absurd HA.out (by simp [jBa.l0])
   | succ k1 =>
    have H:=HA.out
    clear HA
    simp only [jBa.l0] at H
    by_cases c4:x5_1<(l0.length:Int)
    ·rw [if_pos c4] at H
     have c4b0:decide (x5_1<(l0.length:Int))=true:=dzT c4
     clear c4
     by_cases c5:0≤x5_1
     ·rw [if_pos c5] at H
      have c5b0:decide (0≤x5_1)=true:=dzT c5
      clear c5
      replace H:=bzS H
      obtain ⟨t103,A60,H⟩:=H
      replace H:(if t103<0 then (some (-1)) else (jBa.l0 k1 l0 t103 (wrap64 (x5_1+1))))=some r:=H
      have A6:=am A60
      clear A60
      by_cases c7:t103<0
      ·rw [if_pos c7] at H
       have c7b0:decide (t103<0)=true:=dzT c7
       clear c7
       obtain rfl:=Option.some.inj H
       have p102:0≤(x5_1:Int):=ozD (uq)
       have q102:x5_1<(l0.length:Int):=ozD (uq)
       obtain ⟨ad102,e102,hx102_0,hx102_1⟩:=at_T98 HR0.out x5_1 p102 q102
       cases e102
       replace hx102_0:=cb HB.out hx102_0
       replace hx102_1:=cb HB.out hx102_1
       replace p102:=ezT p102
       replace q102:=ezT q102
       go_wp2_with (first |((with_reducible refine jm (f:=65) rfl ?_);refine gL (some 23) Try.func65 #[.agg #[.string ((jYb l0 x5_1).f0), .int .i64 ((jYb l0 x5_1).f1)], .int .i64 x1_1] ?_;(with_reducible refine (jSb.calls ((jYb l0 x5_1).f0) ((jYb l0 x5_1).f1) x1_1 t103 _ A6.out).mono ?_);rintro e w8 ⟨rfl,hb⟩;refine ⟨_,rfl,?_⟩;replace HB:=am (jb (bq) hb);(try clear hb);(try clear hb2);(try clear hk);(try clear hi)))
       go_ret
       exact ⟨Y0,bq⟩
      ·rw [if_neg c7] at H
       have c7b0:decide (t103<0)=false:=dzF c7
       clear c7
       have H':=am H
       clear H
       have p102:0≤(x5_1:Int):=ozD (uq)
       have q102:x5_1<(l0.length:Int):=ozD (uq)
       obtain ⟨ad102,e102,hx102_0,hx102_1⟩:=at_T98 HR0.out x5_1 p102 q102
       cases e102
       replace hx102_0:=cb HB.out hx102_0
       replace hx102_1:=cb HB.out hx102_1
       replace p102:=ezT p102
       replace q102:=ezT q102
       go_wp2_with (first |((with_reducible refine jm (f:=65) rfl ?_);refine gL (some 23) Try.func65 #[.agg #[.string ((jYb l0 x5_1).f0), .int .i64 ((jYb l0 x5_1).f1)], .int .i64 x1_1] ?_;(with_reducible refine (jSb.calls ((jYb l0 x5_1).f0) ((jYb l0 x5_1).f1) x1_1 t103 _ A6.out).mono ?_);rintro e w9 ⟨rfl,hb⟩;refine ⟨_,rfl,?_⟩;replace HB:=am (jb (bq) hb);(try clear hb);(try clear hb2);(try clear hk);(try clear hi)))
       go_roundg k1
       case measure=>have:=HK1.out;omega
       case rel=>exact ⟨(t103),(wrap64 (x5_1+1)),(sq),(sq),H',⟨by have:=HK1.out;omega⟩,⟨bq⟩⟩
     ·rw [if_neg c5] at H
      exact absurd H (by simp)
    ·rw [if_neg c4] at H
     have c4b0:decide (x5_1<(l0.length:Int))=false:=dzF c4
     clear c4
     obtain rfl:=Option.some.inj H
     go_wp2
     go_ret
     exact ⟨Y0,bq⟩
def jIb.f (k : Nat) (l0_0 : List (S98)) (a1 : Int) : Option (Int) := (jBa.f k l0_0 a1).bind fun t105 => (if t105 < 0 then (some (-1)) else (some t105))
set_option maxHeartbeats 8000000 in
set_option maxRecDepth 100000 in
theorem jIb.calls (k : Nat) (A0_0 : Option Addr) (c0_0 : Nat) (l0_0 : List (S98)) (a1 : Int) (r : Int) (w : World) (hr0_0 : Kd.C k98 w A0_0 l0_0.length l0_0) (hc0_0 : l0_0.length ≤ c0_0) (h : jIb.f k l0_0 a1 = some r) :
  Calls Try.prog 8 #[.agg #[.slice A0_0 l0_0.length c0_0], .int .i64 a1] w fun e w'=>e=.returned (.int .i64 r)∧Below w.heap.size w w':=by
 have hu24:=Try.underlying24
 have HR0_0:=am hr0_0
 have HC0_0:=am hc0_0
 clear hr0_0 hc0_0
 have HB:=am (Below.refl w.heap.size w)
 have H:((jBa.f k l0_0 a1).bind fun t105=>(if t105<0 then (some (-1)) else (some t105)))=some r:=h
 clear h
 replace H:=bzS H
 obtain ⟨t105,A30,H⟩:=H
 replace H:(if t105<0 then (some (-1)) else (some t105))=some r:=H
 have A3:=am A30
 clear A30
 by_cases c4:t105<0
 ·rw [if_pos c4] at H
  have c4b0:decide (t105<0)=true:=dzT c4
  clear c4
  obtain rfl:=Option.some.inj H
  go_enter Try.func8,Try.ntmps8
  go_wp2_with (first |((with_reducible refine jB (N:=2) rfl ?_);refine bE (N:=2) (cs:=#[.slice A0_0 l0_0.length c0_0]) (t:=24) ?_;intro gb104 hg w5 hbox hb;have BK104:=am (hbox);have GW104:=am ((Y1:w.heap.size≤gb104));have GE104:=am ((Y1:w.heap.size≤gb104));replace HB:=am (jb (bq) hb);clear hb hbox hg;have hcz6_0:=bc0 BK104.out;have hfz6_0:=ja BK104.out 0) |((with_reducible refine jm (f:=34) rfl ?_);refine gL (some 8) Try.func34 #[.slice A0_0 l0_0.length c0_0, .int .i64 a1] ?_;(with_reducible refine (jBa.calls k _ _ l0_0 a1 t105 _ ?side1 ?side2 A3.out).mono ?_);(case side1=>exact cq (Kd.jea HR0_0.out HB.out));(case side2=>exact HC0_0.out);rintro e w7 ⟨rfl,hb⟩;refine ⟨_,rfl,?_⟩;replace BK104:=am (je (g:=gb104) (o:=.cells #[.slice A0_0 l0_0.length c0_0] 24 (0,0)) (kq BK104.out) hb);replace HB:=am (jb (Y76) hb);(try clear hb);(try clear hb2);(try clear hk);(try clear hi)))
  go_ret
  exact ⟨Y0,Y76⟩
 ·rw [if_neg c4] at H
  have c4b0:decide (t105<0)=false:=dzF c4
  clear c4
  obtain rfl:=Option.some.inj H
  go_enter Try.func8,Try.ntmps8
  go_wp2_with (first |((with_reducible refine jB (N:=2) rfl ?_);refine bE (N:=2) (cs:=#[.slice A0_0 l0_0.length c0_0]) (t:=24) ?_;intro gb104 hg w8 hbox hb;have BK104:=am (hbox);have GW104:=am ((Y1:w.heap.size≤gb104));have GE104:=am ((Y1:w.heap.size≤gb104));replace HB:=am (jb (bq) hb);clear hb hbox hg;have hcz9_0:=bc0 BK104.out;have hfz9_0:=ja BK104.out 0) |((with_reducible refine jm (f:=34) rfl ?_);refine gL (some 8) Try.func34 #[.slice A0_0 l0_0.length c0_0, .int .i64 a1] ?_;(with_reducible refine (jBa.calls k _ _ l0_0 a1 t105 _ ?side1 ?side2 A3.out).mono ?_);(case side1=>exact cq (Kd.jea HR0_0.out HB.out));(case side2=>exact HC0_0.out);rintro e w10 ⟨rfl,hb⟩;refine ⟨_,rfl,?_⟩;replace BK104:=am (je (g:=gb104) (o:=.cells #[.slice A0_0 l0_0.length c0_0] 24 (0,0)) (kq BK104.out) hb);replace HB:=am (jb (Y76) hb);(try clear hb);(try clear hb2);(try clear hk);(try clear hi)))
  go_ret
  exact ⟨Y0,Y76⟩
def jwb.f (l0 : List (S70)) (a1 : Int) : Option (Int) := if (wrap64 (a1 - (l0.length : Int))) < 0 then (some (-1)) else (some (wrap64 (a1 - (l0.length : Int))))
set_option maxHeartbeats 8000000 in
set_option maxRecDepth 100000 in
theorem jwb.calls (A0 : Option Addr) (c0 : Nat) (l0 : List (S70)) (a1 : Int) (r : Int) (w : World) (hr0 : Kd.C k70 w A0 l0.length l0) (hc0 : l0.length ≤ c0) (h : jwb.f l0 a1 = some r) :
  Calls Try.prog 9 #[.slice A0 l0.length c0, .int .i64 a1] w fun e w'=>e=.returned (.int .i64 r)∧jBb w w':=by
 have HR0:=am hr0
 have HC0:=am hc0
 clear hr0 hc0
 have H:(if (wrap64 (a1 - (l0.length:Int)))<0 then (some (-1)) else (some (wrap64 (a1 - (l0.length:Int)))))=some r:=h
 clear h
 by_cases c3:(wrap64 (a1 - (l0.length:Int)))<0
 ·rw [if_pos c3] at H
  have c3b0:decide ((wrap64 (a1 - (l0.length:Int)))<0)=true:=dzT c3
  clear c3
  obtain rfl:=Option.some.inj H
  go_enter Try.func9,Try.ntmps9
  go_wp2
  go_ret
  exact ⟨sq,Y5⟩
 ·rw [if_neg c3] at H
  have c3b0:decide ((wrap64 (a1 - (l0.length:Int)))<0)=false:=dzF c3
  clear c3
  obtain rfl:=Option.some.inj H
  go_enter Try.func9,Try.ntmps9
  go_wp2
  go_ret
  exact ⟨sq,Y5⟩
def jva.f (a0 : Int) (a1 : Int) (a2 : Int) : Option (Bool) := if a1 ≤ a0 then (some (decide (a0 ≤ a2))) else (some false)
set_option maxHeartbeats 8000000 in
set_option maxRecDepth 100000 in
theorem jva.calls (a0 : Int) (a1 : Int) (a2 : Int) (r : Bool) (w : World) (h : jva.f a0 a1 a2 = some r) :
  Calls Try.prog 92 #[.int .i64 a0, .int .i64 a1, .int .i64 a2] w fun e w'=>e=.returned (.bool r)∧jBb w w':=by
 have H:(if a1≤a0 then (some (decide (a0≤a2))) else (some false))=some r:=h
 clear h
 by_cases c4:a1≤a0
 ·rw [if_pos c4] at H
  have c4b0:decide (a1≤a0)=true:=dzT c4
  clear c4
  obtain rfl:=Option.some.inj H
  go_enter Try.func92,Try.ntmps92
  go_wp2
  go_ret
  exact ⟨sq,Y5⟩
 ·rw [if_neg c4] at H
  have c4b0:decide (a1≤a0)=false:=dzF c4
  clear c4
  obtain rfl:=Option.some.inj H
  go_enter Try.func92,Try.ntmps92
  go_wp2
  go_ret
  exact ⟨sq,Y5⟩
def jfb.f (l0_0 : List (S106)) (a1 : Int) : Option (Bool) := (jva.f a1 0 (wrap64 ((l0_0.length : Int) - 1))).bind fun t107 => (some t107)
set_option maxHeartbeats 8000000 in
set_option maxRecDepth 100000 in
theorem jfb.calls (A0_0 : Option Addr) (c0_0 : Nat) (l0_0 : List (S106)) (a1 : Int) (r : Bool) (w : World) (hr0_0 : Kd.C k106 w A0_0 l0_0.length l0_0) (hc0_0 : l0_0.length ≤ c0_0) (h : jfb.f l0_0 a1 = some r) :
  Calls Try.prog 93 #[.agg #[.slice A0_0 l0_0.length c0_0], .int .i64 a1] w fun e w'=>e=.returned (.bool r)∧Below w.heap.size w w':=by
 have hu31:=Try.underlying31
 have HR0_0:=am hr0_0
 have HC0_0:=am hc0_0
 clear hr0_0 hc0_0
 have HB:=am (Below.refl w.heap.size w)
 have H:((jva.f a1 0 (wrap64 ((l0_0.length:Int) - 1))).bind fun t107=>(some t107))=some r:=h
 clear h
 replace H:=bzS H
 obtain ⟨t107,A30,H⟩:=H
 replace H:(some t107)=some r:=H
 have A3:=am A30
 clear A30
 obtain rfl:=Option.some.inj H
 go_enter Try.func93,Try.ntmps93
 go_wp2_with (first |((with_reducible refine jB (N:=2) rfl ?_);refine bE (N:=2) (cs:=#[.slice A0_0 l0_0.length c0_0]) (t:=31) ?_;intro gb106 hg w4 hbox hb;have BK106:=am (hbox);have GW106:=am ((Y1:w.heap.size≤gb106));have GE106:=am ((Y1:w.heap.size≤gb106));replace HB:=am (jb (bq) hb);clear hb hbox hg;have hcz5_0:=bc0 BK106.out;have hfz5_0:=ja BK106.out 0) |((with_reducible refine jm (f:=92) rfl ?_);refine gL (some 10) Try.func92 #[.int .i64 a1, .int .i64 0, .int .i64 (wrap64 ((l0_0.length:Int) - 1))] ?_;(with_reducible refine (jva.calls a1 0 (wrap64 ((l0_0.length:Int) - 1)) t107 _ A3.out).mono ?_);rintro e w' ⟨rfl,⟨nd,rfl⟩⟩;refine ⟨_,rfl,?_⟩))
 go_ret
 exact ⟨Y0,by repeat (first |(with_reducible first | exact HB.out | apply jo | apply jg | apply jq | refine jl ?_ GE106.out) | exact HB.out)⟩
def jFa.j0 : Nat → Int → Bool → List (S106) → Int → Int → Int → Option (Bool)
 | 0,_,_,_,_,_,_=>none
 | k+1,x6,x7,x109000,x110000,x110001,x110002=>if x7=true then ((jva.f x110001 0 99).bind fun t110=>(if t110=true then (some (x110002 == 0)) else (some false))) else (if x6=2 then ((jfb.f x109000 x110001).bind fun t111=>(if t111=true then (some (x110002 == 0)) else (some false))) else (if x6=3 then ((jfb.f x109000 x110001).bind fun t112=>(if t112=true then ((jva.f x110002 0 99).bind fun t113=>(some t113)) else (some false))) else (some false)))
def jFa.f (k : Nat) (l0_0 : List (S106)) (a1_0 : Int) (a1_1 : Int) (a1_2 : Int) : Option (Bool) := if a1_0 = 0 then (jFa.j0 k a1_0 (a1_0 == 0) l0_0 a1_0 a1_1 a1_2) else (jFa.j0 k a1_0 (a1_0 == 1) l0_0 a1_0 a1_1 a1_2)
set_option maxHeartbeats 8000000 in
set_option maxRecDepth 100000 in
theorem jFa.calls (k : Nat) (A0_0 : Option Addr) (c0_0 : Nat) (l0_0 : List (S106)) (a1_0 : Int) (a1_1 : Int) (a1_2 : Int) (r : Bool) (w : World) (hr0_0 : Kd.C k106 w A0_0 l0_0.length l0_0) (hc0_0 : l0_0.length ≤ c0_0) (h : jFa.f k l0_0 a1_0 a1_1 a1_2 = some r) :
  Calls Try.prog 66 #[.agg #[.slice A0_0 l0_0.length c0_0], .agg #[.int .i64 a1_0, .int .i64 a1_1, .int .i64 a1_2]] w fun e w'=>e=.returned (.bool r)∧Below w.heap.size w w':=by
 have hu31:=Try.underlying31
 have hu44:=Try.underlying44
 have HR0_0:=am hr0_0
 have HC0_0:=am hc0_0
 clear hr0_0 hc0_0
 have HB:=am (Below.refl w.heap.size w)
 have H:(if a1_0=0 then (jFa.j0 k a1_0 (a1_0 == 0) l0_0 a1_0 a1_1 a1_2) else (jFa.j0 k a1_0 (a1_0 == 1) l0_0 a1_0 a1_1 a1_2))=some r:=h
 clear h
 have HC3:=am H
 clear H
 go_enter Try.func66,Try.ntmps66
 go_upto_if 7 with (first |((with_reducible refine jB (N:=2) rfl ?_);refine bE (N:=2) (cs:=#[.slice A0_0 l0_0.length c0_0]) (t:=31) ?_;intro gb108 hg w4 hbox hb;have BK108:=am (hbox);have GW108:=am ((Y1:w.heap.size≤gb108));have GE108:=am ((Y1:w.heap.size≤gb108));replace HB:=am (jb (bq) hb);clear hb hbox hg) |((with_reducible refine jB (N:=3) rfl ?_);refine bE (N:=3) (cs:=#[.int .i64 a1_0, .int .i64 a1_1, .int .i64 a1_2]) (t:=44) ?_;intro gb109 hg w5 hbox hb;have BK109:=am (hbox);have GW109:=am ((Y117:w.heap.size≤gb109));have GE109:=am ((Y117:w.heap.size≤gb109));have NB108_109:=am ((by rw [hg];exact Nat.ne_of_lt (jX (g:=gb108) (o:=.cells #[.slice A0_0 l0_0.length c0_0] 31 (0,0)) (kq BK108.out)):gb108≠gb109));have NB109_108:=am ((by rw [hg];exact Nat.ne_of_gt (jX (g:=gb108) (o:=.cells #[.slice A0_0 l0_0.length c0_0] 31 (0,0)) (kq BK108.out)):gb109≠gb108));replace BK108:=am (je (g:=gb108) (o:=.cells #[.slice A0_0 l0_0.length c0_0] 31 (0,0)) (kq BK108.out) hb);replace HB:=am (jb (by repeat (first |(with_reducible first | exact HB.out | apply jo | apply jg | apply jq | refine jl ?_ GE108.out) | exact HB.out)) hb);clear hb hbox hg;have hnb6:=NB109_108.out;have hnc6:=NB108_109.out;have hcz7_0:=bc0 BK109.out;have hcz7_1:=bc1 BK109.out;have hcz7_2:=bc2 BK109.out;have hfz7_0:=ja BK109.out 0;have hfz7_1:=ja BK109.out 1;have hfz7_2:=ja BK109.out 2))
 (try simp only [Act.put,List.setIfInBounds_toArray,List.set_cons_zero,List.set_cons_succ])
 go_cut [7] (fun v7 wc=>∃ (kq:Nat) (x7_2:Bool),v7=.bool x7_2∧jF (jFa.j0 kq a1_0 x7_2 l0_0 a1_0 a1_1 a1_2=some r)∧jF (kq≤k)∧jF (wc.heap[gb108]?=some (.cells #[(.slice A0_0 l0_0.length c0_0)] 31 (0,0)))∧jF (wc.heap[gb109]?=some (.cells #[.int .i64 a1_0, .int .i64 a1_1, .int .i64 a1_2] 44 (0,0)))∧jF (Below w.heap.size w wc))
 case first =>
  have H:=HC3.out
  clear HC3
  by_cases c8:a1_0=0
  ·rw [if_pos c8] at H
   have c8b0:(a1_0 == 0)=true:=beq_iff_eq.mpr c8
   have c8b1:(a1_0 != 0)=false:=bne_eq_false_iff_eq.mpr c8
   clear c8
   (first | rw [c8b0] |(simp only [jzb,jCb];rw [c8b0]) | skip)
   have H':=am H
   clear H
   go_wp2
   go_meet
   case rel=>exact ⟨_,((a1_0 == 0)),(sq),H',⟨Y17⟩,⟨kq BK108.out⟩,⟨kq BK109.out⟩,⟨Y22⟩⟩
  ·rw [if_neg c8] at H
   have c8b0:(a1_0 == 0)=false:=beq_eq_false_iff_ne.mpr c8
   have c8b1:(a1_0 != 0)=true:=bne_iff_ne.mpr c8
   (first | rw [c8b0] |(simp only [jzb,jCb];rw [c8b0]) | skip)
   have H':=am H
   clear H
   go_wp2
   go_meet
   case rel=>exact ⟨_,((a1_0 == 1)),(sq),H',⟨Y17⟩,⟨kq BK108.out⟩,⟨kq BK109.out⟩,⟨Y22⟩⟩
 case rest =>
  clear HC3
  try clear p2
  try clear c6
  try clear c8
  try clear c8b0
  try clear c8b1
  try clear hcz7_0
  try clear hcz7_1
  try clear hcz7_2
  try clear hfz7_0
  try clear hfz7_1
  try clear hfz7_2
  obtain ⟨kq,x7_2,rfl,HA,HJ2,BK108,BK109,HB⟩:=hcut
  cases kq with
  | zero=>exact absurd HA.out (by simp [jFa.j0])
  | succ kj2 =>
   have H:=HA.out
   clear HA
   simp only [jFa.j0] at H
   by_cases c9:x7_2=true
   ·subst c9
    have H1:((jva.f a1_1 0 99).bind fun t110=>(if t110=true then (some (a1_2 == 0)) else (some false)))=some r:=by rw [if_pos rfl] at H;exact H
    clear H
    have H:=H1
    clear H1
    replace H:=bzS H
    obtain ⟨t110,A100,H⟩:=H
    replace H:(if t110=true then (some (a1_2 == 0)) else (some false))=some r:=H
    have A10:=am A100
    clear A100
    by_cases c11:t110=true
    ·subst c11
     have H1:(some (a1_2 == 0))=some r:=by rw [if_pos rfl] at H;exact H
     clear H
     have H:=H1
     clear H1
     obtain rfl:=Option.some.inj H
     have hnb12:=NB109_108.out
     have hnc12:=NB108_109.out
     have hcz13_0:=bc0 BK109.out
     have hcz13_1:=bc1 BK109.out
     have hcz13_2:=bc2 BK109.out
     have hfz13_0:=ja BK109.out 0
     have hfz13_1:=ja BK109.out 1
     have hfz13_2:=ja BK109.out 2
     go_wp2_with (first |((with_reducible refine jm (f:=92) rfl ?_);refine gL (some 12) Try.func92 #[.int .i64 a1_1, .int .i64 0, .int .i64 99] ?_;(with_reducible refine (jva.calls a1_1 0 99 true _ A10.out).mono ?_);rintro e w' ⟨rfl,⟨nd,rfl⟩⟩;refine ⟨_,rfl,?_⟩))
     go_ret
     exact ⟨Y0,Y22⟩
    ·replace c11:=Bool.eq_false_iff.mpr c11
     subst c11
     have H1:(some false)=some r:=by rw [if_neg (show ¬ (false=true) by decide)] at H;exact H
     clear H
     have H:=H1
     clear H1
     obtain rfl:=Option.some.inj H
     have hnb14:=NB109_108.out
     have hnc14:=NB108_109.out
     have hcz15_0:=bc0 BK109.out
     have hcz15_1:=bc1 BK109.out
     have hcz15_2:=bc2 BK109.out
     have hfz15_0:=ja BK109.out 0
     have hfz15_1:=ja BK109.out 1
     have hfz15_2:=ja BK109.out 2
     go_wp2_with (first |((with_reducible refine jm (f:=92) rfl ?_);refine gL (some 12) Try.func92 #[.int .i64 a1_1, .int .i64 0, .int .i64 99] ?_;(with_reducible refine (jva.calls a1_1 0 99 false _ A10.out).mono ?_);rintro e w' ⟨rfl,⟨nd,rfl⟩⟩;refine ⟨_,rfl,?_⟩))
     go_ret
     exact ⟨Y0,Y22⟩
   ·replace c9:=Bool.eq_false_iff.mpr c9
    subst c9
    have H1:(if a1_0=2 then ((jfb.f l0_0 a1_1).bind fun t111=>(if t111=true then (some (a1_2 == 0)) else (some false))) else (if a1_0=3 then ((jfb.f l0_0 a1_1).bind fun t112=>(if t112=true then ((jva.f a1_2 0 99).bind fun t113=>(some t113)) else (some false))) else (some false)))=some r:=by rw [if_neg (show ¬ (false=true) by decide)] at H;exact H
    clear H
    have H:=H1
    clear H1
    by_cases c16:a1_0=2
    ·rw [if_pos c16] at H
     have c16b0:(a1_0 == 2)=true:=beq_iff_eq.mpr c16
     have c16b1:(a1_0 != 2)=false:=bne_eq_false_iff_eq.mpr c16
     clear c16
     replace H:=bzS H
     obtain ⟨t111,A170,H⟩:=H
     replace H:(if t111=true then (some (a1_2 == 0)) else (some false))=some r:=H
     have A17:=am A170
     clear A170
     by_cases c18:t111=true
     ·subst c18
      have H1:(some (a1_2 == 0))=some r:=by rw [if_pos rfl] at H;exact H
      clear H
      have H:=H1
      clear H1
      obtain rfl:=Option.some.inj H
      have hnb19:=NB108_109.out
      have hnc19:=NB109_108.out
      have hcz20_0:=bc0 BK108.out
      have hfz20_0:=ja BK108.out 0
      have hcz21_0:=bc0 BK109.out
      have hcz21_1:=bc1 BK109.out
      have hcz21_2:=bc2 BK109.out
      have hfz21_0:=ja BK109.out 0
      have hfz21_1:=ja BK109.out 1
      have hfz21_2:=ja BK109.out 2
      go_wp2_with (first |((with_reducible refine jm (f:=93) rfl ?_);refine gL (some 23) Try.func93 #[.agg #[.slice A0_0 l0_0.length c0_0], .int .i64 a1_1] ?_;(with_reducible refine (jfb.calls _ _ l0_0 a1_1 true _ ?side1 ?side2 A17.out).mono ?_);(case side1=>exact cq (Kd.jea HR0_0.out HB.out));(case side2=>exact HC0_0.out);rintro e w22 ⟨rfl,hb⟩;refine ⟨_,rfl,?_⟩;replace BK108:=am (je (g:=gb108) (o:=.cells #[.slice A0_0 l0_0.length c0_0] 31 (0,0)) (kq BK108.out) hb);replace BK109:=am (je (g:=gb109) (o:=.cells #[.int .i64 a1_0, .int .i64 a1_1, .int .i64 a1_2] 44 (0,0)) (kq BK109.out) hb);replace HB:=am (jb (Y22) hb);(try clear hb);(try clear hb2);(try clear hk);(try clear hi);have hcz23_0:=bc0 BK109.out;have hcz23_1:=bc1 BK109.out;have hcz23_2:=bc2 BK109.out;have hfz23_0:=ja BK109.out 0;have hfz23_1:=ja BK109.out 1;have hfz23_2:=ja BK109.out 2))
      go_ret
      exact ⟨Y0,Y22⟩
     ·replace c18:=Bool.eq_false_iff.mpr c18
      subst c18
      have H1:(some false)=some r:=by rw [if_neg (show ¬ (false=true) by decide)] at H;exact H
      clear H
      have H:=H1
      clear H1
      obtain rfl:=Option.some.inj H
      have hnb24:=NB108_109.out
      have hnc24:=NB109_108.out
      have hcz25_0:=bc0 BK108.out
      have hfz25_0:=ja BK108.out 0
      have hcz26_0:=bc0 BK109.out
      have hcz26_1:=bc1 BK109.out
      have hcz26_2:=bc2 BK109.out
      have hfz26_0:=ja BK109.out 0
      have hfz26_1:=ja BK109.out 1
      have hfz26_2:=ja BK109.out 2
      go_wp2_with (first |((with_reducible refine jm (f:=93) rfl ?_);refine gL (some 23) Try.func93 #[.agg #[.slice A0_0 l0_0.length c0_0], .int .i64 a1_1] ?_;(with_reducible refine (jfb.calls _ _ l0_0 a1_1 false _ ?side1 ?side2 A17.out).mono ?_);(case side1=>exact cq (Kd.jea HR0_0.out HB.out));(case side2=>exact HC0_0.out);rintro e w27 ⟨rfl,hb⟩;refine ⟨_,rfl,?_⟩;replace BK108:=am (je (g:=gb108) (o:=.cells #[.slice A0_0 l0_0.length c0_0] 31 (0,0)) (kq BK108.out) hb);replace BK109:=am (je (g:=gb109) (o:=.cells #[.int .i64 a1_0, .int .i64 a1_1, .int .i64 a1_2] 44 (0,0)) (kq BK109.out) hb);replace HB:=am (jb (Y22) hb);(try clear hb);(try clear hb2);(try clear hk);(try clear hi)))
      go_ret
      exact ⟨Y0,Y22⟩
    ·rw [if_neg c16] at H
     have c16b0:(a1_0 == 2)=false:=beq_eq_false_iff_ne.mpr c16
     have c16b1:(a1_0 != 2)=true:=bne_iff_ne.mpr c16
     by_cases c28:a1_0=3
     ·rw [if_pos c28] at H
      have c28b0:(a1_0 == 3)=true:=beq_iff_eq.mpr c28
      have c28b1:(a1_0 != 3)=false:=bne_eq_false_iff_eq.mpr c28
      clear c28
      replace H:=bzS H
      obtain ⟨t112,A290,H⟩:=H
      replace H:(if t112=true then ((jva.f a1_2 0 99).bind fun t113=>(some t113)) else (some false))=some r:=H
      have A29:=am A290
      clear A290
      by_cases c30:t112=true
      ·subst c30
       have H1:((jva.f a1_2 0 99).bind fun t113=>(some t113))=some r:=by rw [if_pos rfl] at H;exact H
       clear H
       have H:=H1
       clear H1
       replace H:=bzS H
       obtain ⟨t113,A310,H⟩:=H
       replace H:(some t113)=some r:=H
       have A31:=am A310
       clear A310
       obtain rfl:=Option.some.inj H
       have hnb32:=NB108_109.out
       have hnc32:=NB109_108.out
       have hcz33_0:=bc0 BK108.out
       have hfz33_0:=ja BK108.out 0
       have hcz34_0:=bc0 BK109.out
       have hcz34_1:=bc1 BK109.out
       have hcz34_2:=bc2 BK109.out
       have hfz34_0:=ja BK109.out 0
       have hfz34_1:=ja BK109.out 1
       have hfz34_2:=ja BK109.out 2
       go_wp2_with (first |((with_reducible refine jm (f:=93) rfl ?_);refine gL (some 34) Try.func93 #[.agg #[.slice A0_0 l0_0.length c0_0], .int .i64 a1_1] ?_;(with_reducible refine (jfb.calls _ _ l0_0 a1_1 true _ ?side1 ?side2 A29.out).mono ?_);(case side1=>exact cq (Kd.jea HR0_0.out HB.out));(case side2=>exact HC0_0.out);rintro e w35 ⟨rfl,hb⟩;refine ⟨_,rfl,?_⟩;replace BK108:=am (je (g:=gb108) (o:=.cells #[.slice A0_0 l0_0.length c0_0] 31 (0,0)) (kq BK108.out) hb);replace BK109:=am (je (g:=gb109) (o:=.cells #[.int .i64 a1_0, .int .i64 a1_1, .int .i64 a1_2] 44 (0,0)) (kq BK109.out) hb);replace HB:=am (jb (Y22) hb);(try clear hb);(try clear hb2);(try clear hk);(try clear hi);have hcz36_0:=bc0 BK109.out;have hcz36_1:=bc1 BK109.out;have hcz36_2:=bc2 BK109.out;have hfz36_0:=ja BK109.out 0;have hfz36_1:=ja BK109.out 1;have hfz36_2:=ja BK109.out 2) |(go_at_call 92;(with_reducible refine (jva.calls a1_2 0 99 t113 _ A31.out).mono ?_);rintro e w' ⟨rfl,⟨nd,rfl⟩⟩))
       go_ret
       exact ⟨Y0,Y22⟩
      ·replace c30:=Bool.eq_false_iff.mpr c30
       subst c30
       have H1:(some false)=some r:=by rw [if_neg (show ¬ (false=true) by decide)] at H;exact H
       clear H
       have H:=H1
       clear H1
       obtain rfl:=Option.some.inj H
       have hnb37:=NB108_109.out
       have hnc37:=NB109_108.out
       have hcz38_0:=bc0 BK108.out
       have hfz38_0:=ja BK108.out 0
       have hcz39_0:=bc0 BK109.out
       have hcz39_1:=bc1 BK109.out
       have hcz39_2:=bc2 BK109.out
       have hfz39_0:=ja BK109.out 0
       have hfz39_1:=ja BK109.out 1
       have hfz39_2:=ja BK109.out 2
       go_wp2_with (first |((with_reducible refine jm (f:=93) rfl ?_);refine gL (some 34) Try.func93 #[.agg #[.slice A0_0 l0_0.length c0_0], .int .i64 a1_1] ?_;(with_reducible refine (jfb.calls _ _ l0_0 a1_1 false _ ?side1 ?side2 A29.out).mono ?_);(case side1=>exact cq (Kd.jea HR0_0.out HB.out));(case side2=>exact HC0_0.out);rintro e w40 ⟨rfl,hb⟩;refine ⟨_,rfl,?_⟩;replace BK108:=am (je (g:=gb108) (o:=.cells #[.slice A0_0 l0_0.length c0_0] 31 (0,0)) (kq BK108.out) hb);replace BK109:=am (je (g:=gb109) (o:=.cells #[.int .i64 a1_0, .int .i64 a1_1, .int .i64 a1_2] 44 (0,0)) (kq BK109.out) hb);replace HB:=am (jb (Y22) hb);(try clear hb);(try clear hb2);(try clear hk);(try clear hi)))
       go_ret
       exact ⟨Y0,Y22⟩
     ·rw [if_neg c28] at H
      have c28b0:(a1_0 == 3)=false:=beq_eq_false_iff_ne.mpr c28
      have c28b1:(a1_0 != 3)=true:=bne_iff_ne.mpr c28
      obtain rfl:=Option.some.inj H
      go_wp2
      go_ret
      exact ⟨Y0,Y22⟩
def jOa.l0 : Nat → ByteArray → Int → Option (Bool)
 | 0,_,_=>none
 | k+1,x0,x3=>if x3<(x0.size:Int) then (if 0≤x3 then (if (bt x0 x3)<97 then (some false) else (if (bt x0 x3) > 122 then (some false) else (jOa.l0 k x0 (wrap64 (x3+1))))) else (none)) else ((jva.f (x0.size:Int) 1 6).bind fun t114=>(some t114))
def jOa.f (k : Nat) (a0 : ByteArray) : Option (Bool) := jOa.l0 k a0 0
set_option maxHeartbeats 8000000 in
set_option maxRecDepth 100000 in
theorem jOa.calls (k : Nat) (a0 : ByteArray) (r : Bool) (w : World) (h : jOa.f k a0 = some r) :
  Calls Try.prog 94 #[.string a0] w fun e w'=>e=.returned (.bool r)∧jBb w w':=by
 have H:(jOa.l0 k a0 0)=some r:=h
 clear h
 have H':=am H
 clear H
 go_enter Try.func94,Try.ntmps94
 go_wp2
 go_loopg [3] k (fun kq v3 w'=>∃ (x3_1:Int),v3=.int .i64 x3_1∧jF (jOa.l0 kq a0 x3_1=some r)∧jF (kq≤k)∧jBb w w')
 case atStart=>exact ⟨(0),(sq),H',⟨Nat.le_refl _⟩,Y5⟩
 case round =>
  clear H'
  obtain ⟨x3_1,rfl,HA,HK1,⟨m1,rfl⟩⟩:=hrel
  cases gk with
  | zero=>exact absurd HA.out (by simp [jOa.l0])
  | succ k1 =>
   have H:=HA.out
   clear HA
   simp only [jOa.l0] at H
   by_cases c2:x3_1<(a0.size:Int)
   ·rw [if_pos c2] at H
    have c2b0:decide (x3_1<(a0.size:Int))=true:=dzT c2
    clear c2
    by_cases c3:0≤x3_1
    ·rw [if_pos c3] at H
     have c3b0:decide (0≤x3_1)=true:=dzT c3
     clear c3
     by_cases c5:(bt a0 x3_1)<97
     ·rw [if_pos c5] at H
      have c5b0:decide ((bt a0 x3_1)<97)=true:=dzT c5
      clear c5
      obtain rfl:=Option.some.inj H
      have p4:0≤(x3_1:Int):=ozD (uq)
      have q4:x3_1<(a0.size:Int):=ozD (uq)
      have hx4:=bt_at a0 x3_1
      replace p4:=ezT p4
      replace q4:=ezT q4
      go_wp2
      go_ret
      exact ⟨sq,Y5⟩
     ·rw [if_neg c5] at H
      have c5b0:decide ((bt a0 x3_1)<97)=false:=dzF c5
      clear c5
      by_cases c7:(bt a0 x3_1) > 122
      ·rw [if_pos c7] at H
       have c7b0:decide (122<(bt a0 x3_1))=true:=dzT c7
       clear c7
       obtain rfl:=Option.some.inj H
       have p4:0≤(x3_1:Int):=ozD (uq)
       have q4:x3_1<(a0.size:Int):=ozD (uq)
       have hx4:=bt_at a0 x3_1
       replace p4:=ezT p4
       replace q4:=ezT q4
       have p6:0≤(x3_1:Int):=ozD (uq)
       have q6:x3_1<(a0.size:Int):=ozD (uq)
       have hx6:=bt_at a0 x3_1
       replace p6:=ezT p6
       replace q6:=ezT q6
       go_wp2
       go_ret
       exact ⟨sq,Y5⟩
      ·rw [if_neg c7] at H
       have c7b0:decide (122<(bt a0 x3_1))=false:=dzF c7
       clear c7
       have H':=am H
       clear H
       have p4:0≤(x3_1:Int):=ozD (uq)
       have q4:x3_1<(a0.size:Int):=ozD (uq)
       have hx4:=bt_at a0 x3_1
       replace p4:=ezT p4
       replace q4:=ezT q4
       have p6:0≤(x3_1:Int):=ozD (uq)
       have q6:x3_1<(a0.size:Int):=ozD (uq)
       have hx6:=bt_at a0 x3_1
       replace p6:=ezT p6
       replace q6:=ezT q6
       go_wp2
       go_roundg k1
       case measure=>have:=HK1.out;omega
       case rel=>exact ⟨(wrap64 (x3_1+1)),(sq),H',⟨by have:=HK1.out;omega⟩,Y5⟩
    ·rw [if_neg c3] at H
     exact absurd H (by simp)
   ·rw [if_neg c2] at H
    have c2b0:decide (x3_1<(a0.size:Int))=false:=dzF c2
    clear c2
    replace H:=bzS H
    obtain ⟨t114,A80,H⟩:=H
    replace H:(some t114)=some r:=H
    have A8:=am A80
    clear A80
    obtain rfl:=Option.some.inj H
    go_wp2_with (first |((with_reducible refine jm (f:=92) rfl ?_);refine gL (some 22) Try.func92 #[.int .i64 (a0.size:Int), .int .i64 1, .int .i64 6] ?_;(with_reducible refine (jva.calls (a0.size:Int) 1 6 t114 _ A8.out).mono ?_);rintro e w' ⟨rfl,⟨nd,rfl⟩⟩;refine ⟨_,rfl,?_⟩))
    go_ret
    exact ⟨sq,Y5⟩
def jIa.l0 : Nat → List (S106) → ByteArray → Int → Option (Int)
 | 0,_,_,_=>none
 | k+1,x0,x1,x5=>if x5<(x0.length:Int) then (if 0≤x5 then (if ((jC x0 x5).f0).toList=x1.toList then (some x5) else (jIa.l0 k x0 x1 (wrap64 (x5+1)))) else (none)) else (some (-1))
def jIa.f (k : Nat) (l0 : List (S106)) (a1 : ByteArray) : Option (Int) := jIa.l0 k l0 a1 0
set_option maxHeartbeats 8000000 in
set_option maxRecDepth 100000 in
theorem jIa.calls (k : Nat) (A0 : Option Addr) (c0 : Nat) (l0 : List (S106)) (a1 : ByteArray) (r : Int) (w : World) (hr0 : Kd.C k106 w A0 l0.length l0) (hc0 : l0.length ≤ c0) (h : jIa.f k l0 a1 = some r) :
  Calls Try.prog 95 #[.slice A0 l0.length c0, .string a1] w fun e w'=>e=.returned (.int .i64 r)∧jBb w w':=by
 have HR0:=am hr0
 have HC0:=am hc0
 clear hr0 hc0
 have H:(jIa.l0 k l0 a1 0)=some r:=h
 clear h
 have H':=am H
 clear H
 go_enter Try.func95,Try.ntmps95
 go_wp2
 go_loopg [5] k (fun kq v5 w'=>∃ (x5_1:Int),v5=.int .i64 x5_1∧jF (jIa.l0 kq l0 a1 x5_1=some r)∧jF (kq≤k)∧jBb w w')
 case atStart=>exact ⟨(0),(sq),H',⟨Nat.le_refl _⟩,Y5⟩
 case round =>
  clear H'
  try clear p2
  obtain ⟨x5_1,rfl,HA,HK1,⟨m1,rfl⟩⟩:=hrel
  cases gk with
  | zero=>exact absurd HA.out (by simp [jIa.l0])
  | succ k1 =>
   have H:=HA.out
   clear HA
   simp only [jIa.l0] at H
   by_cases c3:x5_1<(l0.length:Int)
   ·rw [if_pos c3] at H
    have c3b0:decide (x5_1<(l0.length:Int))=true:=dzT c3
    clear c3
    by_cases c4:0≤x5_1
    ·rw [if_pos c4] at H
     have c4b0:decide (0≤x5_1)=true:=dzT c4
     clear c4
     by_cases c5:((jC l0 x5_1).f0).toList=a1.toList
     ·rw [if_pos c5] at H
      have c5b0:(((jC l0 x5_1).f0).toList == a1.toList)=true:=beq_iff_eq.mpr c5
      have c5b1:(((jC l0 x5_1).f0).toList != a1.toList)=false:=bne_eq_false_iff_eq.mpr c5
      clear c5
      obtain rfl:=Option.some.inj H
      have p115:0≤(x5_1:Int):=ozD (uq)
      have q115:x5_1<(l0.length:Int):=ozD (uq)
      obtain ⟨ad115,e115,hx115_0,hx115_1⟩:=jLc HR0.out x5_1 p115 q115
      cases e115
      replace p115:=ezT p115
      replace q115:=ezT q115
      go_wp2
      go_ret
      exact ⟨sq,Y5⟩
     ·rw [if_neg c5] at H
      have c5b0:(((jC l0 x5_1).f0).toList == a1.toList)=false:=beq_eq_false_iff_ne.mpr c5
      have c5b1:(((jC l0 x5_1).f0).toList != a1.toList)=true:=bne_iff_ne.mpr c5
      have H':=am H
      clear H
      have p115:0≤(x5_1:Int):=ozD (uq)
      have q115:x5_1<(l0.length:Int):=ozD (uq)
      obtain ⟨ad115,e115,hx115_0,hx115_1⟩:=jLc HR0.out x5_1 p115 q115
      cases e115
      replace p115:=ezT p115
      replace q115:=ezT q115
      go_wp2
      go_roundg k1
      case measure=>have:=HK1.out;omega
      case rel=>exact ⟨(wrap64 (x5_1+1)),(sq),H',⟨by have:=HK1.out;omega⟩,Y5⟩
    ·rw [if_neg c4] at H
     exact absurd H (by simp)
   ·rw [if_neg c3] at H
    have c3b0:decide (x5_1<(l0.length:Int))=false:=dzF c3
    clear c3
    obtain rfl:=Option.some.inj H
    go_wp2
    go_ret
    exact ⟨sq,Y5⟩
mutual
def jL.l0 : Nat → Int → List (S106) → Option (Bool)
 | 0,_,_=>none
 | k+1,x3,x155000=>if x3<(x155000.length:Int) then (if 0≤x3 then ((jOa.f k ((jC x155000 x3).f0)).bind fun t158=>(if t158=true then (if x3≤(x155000.length:Int) then ((jIa.f k (x155000.take (x3:Int).toNat) ((jC x155000 x3).f0)).bind fun t163=>(if t163≥0 then (jL.j1 k x3 true x155000) else (if x3=0 then (if ((jC x155000 x3).f1)=(-1) then (if x3 > 0 then ((jva.f ((jC x155000 x3).f1) 0 (wrap64 (x3 - 1))).bind fun t164=>(jL.j1 k x3 (!t164) x155000)) else (jL.j1 k x3 false x155000)) else (jL.j1 k x3 true x155000)) else (if x3 > 0 then ((jva.f ((jC x155000 x3).f1) 0 (wrap64 (x3 - 1))).bind fun t165=>(jL.j1 k x3 (!t165) x155000)) else (jL.j1 k x3 false x155000))))) else (none)) else (jL.j1 k x3 true x155000))) else (none)) else ((jva.f (x155000.length:Int) 1 8).bind fun t155=>(some t155))
def jL.j1 : Nat → Int → Bool → List (S106) → Option (Bool)
 | 0,_,_,_=>none
 | k+1,x3,x51,x155000=>if x51=true then (some false) else (jL.l0 k (wrap64 (x3+1)) x155000)
end
def jL.f (k : Nat) (l0_0 : List (S106)) : Option (Bool) := jL.l0 k 0 l0_0
set_option maxHeartbeats 8000000 in
set_option maxRecDepth 100000 in
theorem jL.calls (k : Nat) (A0_0 : Option Addr) (c0_0 : Nat) (l0_0 : List (S106)) (r : Bool) (w : World) (hr0_0 : Kd.C k106 w A0_0 l0_0.length l0_0) (hc0_0 : l0_0.length ≤ c0_0) (h : jL.f k l0_0 = some r) :
  Calls Try.prog 67 #[.agg #[.slice A0_0 l0_0.length c0_0]] w fun e w'=>e=.returned (.bool r)∧Below w.heap.size w w':=by
 have hu31:=Try.underlying31
 have hu106:=Try.underlying106
 have HR0_0:=am hr0_0
 have HC0_0:=am hc0_0
 clear hr0_0 hc0_0
 have HB:=am (Below.refl w.heap.size w)
 have H:(jL.l0 k 0 l0_0)=some r:=h
 clear h
 have H':=am H
 clear H
 go_enter Try.func67,Try.ntmps67
 go_wp2_with (first |((with_reducible refine jB (N:=1) rfl ?_);refine bE (N:=1) (cs:=#[.slice A0_0 l0_0.length c0_0]) (t:=31) ?_;intro gb154 hg w2 hbox hb;have BK154:=am (hbox);have GW154:=am ((Y1:w.heap.size≤gb154));have GE154:=am ((Y1:w.heap.size≤gb154));replace HB:=am (jb (bq) hb);clear hb hbox hg))
 go_loopg [3] k (fun kq v3 w'=>∃ (x3_1:Int),v3=.int .i64 x3_1∧jF (jL.l0 kq x3_1 l0_0=some r)∧jF (kq≤k)∧jF (w'.heap[gb154]?=some (.cells #[(.slice A0_0 l0_0.length c0_0)] 31 (0,0)))∧jF (Below w.heap.size w w'))
 case atStart=>exact ⟨(0),(sq),H',⟨Nat.le_refl _⟩,⟨kq BK154.out⟩,⟨Y95⟩⟩
 case round =>
  clear H'
  try clear c1
  try clear p2
  obtain ⟨x3_1,rfl,HA,HK1,BK154,HB⟩:=hrel
  cases gk with
  | zero=>exact absurd HA.out (by simp [jL.l0])
  | succ k1 =>
   have H:=HA.out
   clear HA
   simp only [jL.l0] at H
   by_cases c3:x3_1<(l0_0.length:Int)
   ·rw [if_pos c3] at H
    have c3b0:decide (x3_1<(l0_0.length:Int))=true:=dzT c3
    clear c3
    by_cases c4:0≤x3_1
    ·rw [if_pos c4] at H
     have c4b0:decide (0≤x3_1)=true:=dzT c4
     clear c4
     have HC5:=am H
     clear H
     have hcz6_0:=bc0 BK154.out
     have hfz6_0:=ja BK154.out 0
     have p156:0≤(x3_1:Int):=ozD (uq)
     have q156:x3_1<(l0_0.length:Int):=ozD (uq)
     obtain ⟨ad156,e156,hx156_0,hx156_1⟩:=jLc HR0_0.out x3_1 p156 q156
     cases e156
     replace hx156_0:=cb HB.out hx156_0
     replace hx156_1:=cb HB.out hx156_1
     replace p156:=ezT p156
     replace q156:=ezT q156
     go_upto_region 5 with (first |((with_reducible refine jB (N:=4) rfl ?_);refine bE (N:=4) (cs:=#[.string (⟨#[]⟩:ByteArray), .int .i64 0]) (t:=106) ?_;intro gb157 hg w7 hbox hb;have BK157:=am (hbox);have GW157:=am ((Y118:w.heap.size≤gb157));have GE157:=am ((Y118:w.heap.size≤gb157));have NB154_157:=am ((by rw [hg];exact Nat.ne_of_lt (jX (g:=gb154) (o:=.cells #[.slice (some ad156) l0_0.length c0_0] 31 (0,0)) (kq BK154.out)):gb154≠gb157));have NB157_154:=am ((by rw [hg];exact Nat.ne_of_gt (jX (g:=gb154) (o:=.cells #[.slice (some ad156) l0_0.length c0_0] 31 (0,0)) (kq BK154.out)):gb157≠gb154));replace BK154:=am (je (g:=gb154) (o:=.cells #[.slice (some ad156) l0_0.length c0_0] 31 (0,0)) (kq BK154.out) hb);replace HB:=am (jb (Y95) hb);clear hb hbox hg;have hnb8:=NB157_154.out;have hnc8:=NB154_157.out;have hcz9_0:=bc0 BK157.out;have hcz9_1:=bc1 BK157.out;have hfz9_0:=ja BK157.out 0;have hfz9_1:=ja BK157.out 1))
     (try simp only [Act.put,List.setIfInBounds_toArray,List.set_cons_zero,List.set_cons_succ])
     go_cut [51] (fun v51 wc=>∃ (kq:Nat) (x51_4:Bool),v51=.bool x51_4∧jF (jL.j1 kq x3_1 x51_4 l0_0=some r)∧jF (kq≤k1)∧jF (wc.heap[gb154]?=some (.cells #[(.slice (some ad156) l0_0.length c0_0)] 31 (0,0)))∧jF (wc.heap[gb157]?=some (.cells #[.string ((jC l0_0 x3_1).f0), .int .i64 ((jC l0_0 x3_1).f1)] 106 (0,0)))∧jF (Below w.heap.size w wc))
     case first =>
      have n0_:jF (((w7.setCell ⟨gb157,0,none⟩ (.string ((jC l0_0 x3_1).f0))).setCell ⟨gb157,1,none⟩ (.int .i64 ((jC l0_0 x3_1).f1))).heap[gb154]?=some (.cells #[.slice (some ad156) l0_0.length c0_0] 31 (0,0))):=⟨by (with_reducible repeat (first | refine jf ?_ _ | refine ji ?_ | refine jd ?_ _));refine jqa ?_ NB154_157.out _;(with_reducible repeat (first | refine jf ?_ _ | refine ji ?_ | refine jd ?_ _));refine jqa ?_ NB154_157.out _;(with_reducible repeat (first | refine jf ?_ _ | refine ji ?_ | refine jd ?_ _));exact BK154.out⟩
      have n1_:jF (((w7.setCell ⟨gb157,0,none⟩ (.string ((jC l0_0 x3_1).f0))).setCell ⟨gb157,1,none⟩ (.int .i64 ((jC l0_0 x3_1).f1))).heap[gb157]?=some (.cells #[.string ((jC l0_0 x3_1).f0), .int .i64 ((jC l0_0 x3_1).f1)] 106 (0,0))):=⟨by (with_reducible repeat (first | refine jf ?_ _ | refine ji ?_ | refine jd ?_ _));refine jna (cs:=#[.string ((jC l0_0 x3_1).f0), .int .i64 0]) ?_ 1 _ rfl;(with_reducible repeat (first | refine jf ?_ _ | refine ji ?_ | refine jd ?_ _));refine jna (cs:=#[.string (⟨#[]⟩:ByteArray), .int .i64 0]) ?_ 0 _ rfl;(with_reducible repeat (first | refine jf ?_ _ | refine ji ?_ | refine jd ?_ _));exact BK157.out⟩
      have n2_:jF (Below w.heap.size w ((w7.setCell ⟨gb157,0,none⟩ (.string ((jC l0_0 x3_1).f0))).setCell ⟨gb157,1,none⟩ (.int .i64 ((jC l0_0 x3_1).f1)))):=⟨Y96⟩
      clear BK154 BK157 HB hcz9_0 hcz9_1 hfz9_0 hfz9_1
      generalize ((w7.setCell ⟨gb157,0,none⟩ (.string ((jC l0_0 x3_1).f0))).setCell ⟨gb157,1,none⟩ (.int .i64 ((jC l0_0 x3_1).f1)))=w16 at n0_ n1_ n2_ ⊢
      have BK154:=n0_
      have BK157:=n1_
      have HB:=n2_
      clear n0_ n1_ n2_
      have HRW:=am (Kd.jea HR0_0.out HB.out)
      have e0:w16.cell? ⟨gb157,0,none⟩=some (.string ((jC l0_0 x3_1).f0)):=(jma BK157.out 0).trans rfl
      have e1:w16.cell? ⟨gb157,1,none⟩=some (.int .i64 ((jC l0_0 x3_1).f1)):=(jma BK157.out 1).trans rfl
      have e2:w16.cell? ⟨gb154,0,none⟩=some (.slice (some ad156) l0_0.length c0_0):=(jma BK154.out 0).trans rfl
      have H:=HC5.out
      clear HC5
      obtain ⟨v,hv,H⟩:=bzS H
      have HN:=am (fun W=>(jOa.calls k1 _ v W hv).mono fun e w' h=>(⟨h.1,h.2.out⟩:e=.returned (.bool v)∧∃ m,w'=W.drewN m))
      clear hv hx156_0 hx156_1
      generalize hgx:jC l0_0 x3_1=x at H e0 e1 HN BK157
      have HGX:=am hgx
      clear hgx
      cases v with
      | false =>
       have H':=am (show jL.j1 k1 x3_1 true l0_0=some r from H)
       clear H
       go_big_quiet ((go_at_call 94;exact Calls.quiet_of (HN.out _)))
       go_wp2
       go_meet
       case rel=>exact ⟨_,_,rfl,H',⟨by have:=HK1.out;omega⟩,⟨jf BK154.out _⟩,⟨by rw [HGX.out];exact jf BK157.out _⟩,⟨jg HB.out _⟩⟩
      | true =>
       replace H:(if x3_1≤(l0_0.length:Int) then ((jIa.f k1 (l0_0.take (x3_1:Int).toNat) x.f0).bind fun t163=>(if t163≥0 then (jL.j1 k1 x3_1 true l0_0) else (if x3_1=0 then (if x.f1=(-1) then (if x3_1 > 0 then ((jva.f x.f1 0 (wrap64 (x3_1 - 1))).bind fun t164=>(jL.j1 k1 x3_1 (!t164) l0_0)) else (jL.j1 k1 x3_1 false l0_0)) else (jL.j1 k1 x3_1 true l0_0)) else (if x3_1 > 0 then ((jva.f x.f1 0 (wrap64 (x3_1 - 1))).bind fun t165=>(jL.j1 k1 x3_1 (!t165) l0_0)) else (jL.j1 k1 x3_1 false l0_0))))) else (none))=some r:=H
       have hle:x3_1≤(l0_0.length:Int):=by have:=ozD c3b0;omega
       have h0:0≤x3_1:=ozD c4b0
       rw [if_pos hle] at H
       obtain ⟨c,hc,H⟩:=bzS H
       obtain ⟨i0,hi0,_,_,_⟩:=info_parts info106
       have hcut:=cut_to (P:=Try.prog) 29 106 .i64 Try.underlying29 hi0 (some ad156) l0_0.length c0_0 x3_1 h0 hle HC0_0.out
       have hr18:=Kd.C_take (m:=(x3_1:Int).toNat) HRW.out (by omega)
       obtain ⟨y,hy⟩:∃ y:List S106,y=l0_0.take (x3_1:Int).toNat:=⟨_,rfl⟩
       have hyl:y.length=(x3_1:Int).toNat:=by rw [hy,List.length_take];omega
       have hyc:y.length≤c0_0:=by have:=HC0_0.out;omega
       rw [← hy] at hr18
       rw [← hyl] at hcut
       rw [← hy] at hc
       have HCN:=am (fun m=>(jIa.calls k1 _ _ y x.f0 c (w16.drewN m) (Kd.C_drewN hr18 m) hyc hc).mono fun e w' h=>(⟨h.1,h.2.out⟩:e=.returned (.int .i64 c)∧∃ m',w'=(w16.drewN m).drewN m'))
       clear hr18 hc hy hyl hyc
       have b0:=ezT h0
       have b1:=ezT hle
       by_cases hc0:c≥0
       ·rw [if_pos hc0] at H
        have b2:decide (0≤c)=true:=dzT hc0
        have H':=am H
        clear H hc0 h0 hle
        go_big_quiet (first |(go_at_call 94;exact Calls.quiet_of (HN.out _)) |(go_at_call 95;exact Calls.quiet_of (HCN.out _)))
        go_wp2
        go_meet
        case rel=>exact ⟨_,_,rfl,H',⟨by have:=HK1.out;omega⟩,⟨jf BK154.out _⟩,⟨by rw [HGX.out];exact jf BK157.out _⟩,⟨jg HB.out _⟩⟩
       ·rw [if_neg hc0] at H
        have b2:decide (0≤c)=false:=dzF hc0
        clear hc0
        by_cases hz:x3_1=0
        ·rw [if_pos hz] at H
         have b3:(x3_1 == 0)=true:=beq_iff_eq.2 hz
         have b4:decide (0<x3_1)=false:=dzF (by omega)
         by_cases hf:x.f1 = -1
         ·rw [if_pos hf,if_neg (by omega)] at H
          have b5:(x.f1 != -1)=false:=by simpa using hf
          have H':=am H
          clear H hf h0 hle hz
          go_big_quiet (first |(go_at_call 94;exact Calls.quiet_of (HN.out _)) |(go_at_call 95;exact Calls.quiet_of (HCN.out _)))
          go_wp2
          go_meet
          case rel=>exact ⟨_,_,rfl,H',⟨by have:=HK1.out;omega⟩,⟨jf BK154.out _⟩,⟨by rw [HGX.out];exact jf BK157.out _⟩,⟨jg HB.out _⟩⟩
         ·rw [if_neg hf] at H
          have b5:(x.f1 != -1)=true:=by simpa using hf
          have H':=am H
          clear H hf h0 hle hz
          go_big_quiet (first |(go_at_call 94;exact Calls.quiet_of (HN.out _)) |(go_at_call 95;exact Calls.quiet_of (HCN.out _)))
          go_wp2
          go_meet
          case rel=>exact ⟨_,_,rfl,H',⟨by have:=HK1.out;omega⟩,⟨jf BK154.out _⟩,⟨by rw [HGX.out];exact jf BK157.out _⟩,⟨jg HB.out _⟩⟩
        ·rw [if_neg hz,if_pos (by omega)] at H
         have b3:(x3_1 == 0)=false:=beq_eq_false_iff_ne.2 hz
         have b4:decide (0<x3_1)=true:=dzT (by omega)
         obtain ⟨t,ht,H⟩:=bzS H
         have H':=am H
         have HI:=am (fun W=>(jva.calls _ _ _ t W ht).mono fun e w' h=>(⟨h.1,h.2.out⟩:e=.returned (.bool t)∧∃ m,w'=W.drewN m))
         clear H ht h0 hle hz
         go_big_quiet (first |(go_at_call 94;exact Calls.quiet_of (HN.out _)) |(go_at_call 95;exact Calls.quiet_of (HCN.out _)) |(go_at_call 92;exact Calls.quiet_of (HI.out _)))
         go_wp2
         go_meet
         case rel=>exact ⟨_,_,rfl,H',⟨by have:=HK1.out;omega⟩,⟨jf BK154.out _⟩,⟨by rw [HGX.out];exact jf BK157.out _⟩,⟨jg HB.out _⟩⟩
     case rest =>
      clear HC5
      try clear c1
      try clear c2
      try clear p2
      try clear c3
      try clear q3
      try clear p6
      try clear c11
      try clear c12
      try clear c13
      try clear c21
      try clear c32
      try clear c32b0
      try clear q39
      try clear q39
      obtain ⟨kq,x51_4,rfl,HA,HJ4,BK154,BK157,HB⟩:=hcut
      cases kq with
      | zero=>exact absurd HA.out (by simp [jL.j1])
      | succ kj4 =>
       have H:=HA.out
       clear HA
       simp only [jL.j1] at H
       by_cases c42:x51_4=true
       ·subst c42
        have H1:(some false)=some r:=by rw [if_pos rfl] at H;exact H
        clear H
        have H:=H1
        clear H1
        obtain rfl:=Option.some.inj H
        go_wp2
        go_ret
        exact ⟨Y0,Y96⟩
       ·replace c42:=Bool.eq_false_iff.mpr c42
        subst c42
        have H1:(jL.l0 kj4 (wrap64 (x3_1+1)) l0_0)=some r:=by rw [if_neg (show ¬ (false=true) by decide)] at H;exact H
        clear H
        have H:=H1
        clear H1
        have H':=am H
        clear H
        go_wp2
        go_roundg kj4
        case measure=>have:=HK1.out;have:=HJ4.out;omega
        case rel=>exact ⟨(wrap64 (x3_1+1)),(sq),H',⟨by have:=HK1.out;have:=HJ4.out;omega⟩,⟨kq BK154.out⟩,⟨Y96⟩⟩
    ·rw [if_neg c4] at H
     exact absurd H (by simp)
   ·rw [if_neg c3] at H
    have c3b0:decide (x3_1<(l0_0.length:Int))=false:=dzF c3
    clear c3
    replace H:=bzS H
    obtain ⟨t155,A430,H⟩:=H
    replace H:(some t155)=some r:=H
    have A43:=am A430
    clear A430
    obtain rfl:=Option.some.inj H
    have hcz44_0:=bc0 BK154.out
    have hfz44_0:=ja BK154.out 0
    go_wp2_with (first |((with_reducible refine jm (f:=92) rfl ?_);refine gL (some 55) Try.func92 #[.int .i64 (l0_0.length:Int), .int .i64 1, .int .i64 8] ?_;(with_reducible refine (jva.calls (l0_0.length:Int) 1 8 t155 _ A43.out).mono ?_);rintro e w' ⟨rfl,⟨nd,rfl⟩⟩;refine ⟨_,rfl,?_⟩))
    go_ret
    exact ⟨Y0,Y95⟩
def jCa.l0 : Nat → List (S44) → Int → List (S106) → Option (Bool)
 | 0,_,_,_=>none
 | k+1,x1,x5,x117000=>if x5<(x1.length:Int) then (if 0≤x5 then ((jFa.f k x117000 ((jJ x1 x5).f0) ((jJ x1 x5).f1) ((jJ x1 x5).f2)).bind fun t119=>(if t119=true then (jCa.l0 k x1 (wrap64 (x5+1)) x117000) else (some false))) else (none)) else ((jL.f k x117000).bind fun t117=>(if t117=true then (some (decide ((x1.length:Int)≤8))) else (some false)))
def jCa.f (k : Nat) (l0_0 : List (S106)) (l1 : List (S44)) : Option (Bool) := jCa.l0 k l1 0 l0_0
set_option maxHeartbeats 8000000 in
set_option maxRecDepth 100000 in
theorem jCa.calls (k : Nat) (A0_0 : Option Addr) (c0_0 : Nat) (l0_0 : List (S106)) (A1 : Option Addr) (c1 : Nat) (l1 : List (S44)) (r : Bool) (w : World) (hr0_0 : Kd.C k106 w A0_0 l0_0.length l0_0) (hc0_0 : l0_0.length ≤ c0_0) (hr1 : Kd.C k44 w A1 l1.length l1) (hc1 : l1.length ≤ c1) (h : jCa.f k l0_0 l1 = some r) :
  Calls Try.prog 35 #[.agg #[.slice A0_0 l0_0.length c0_0], .slice A1 l1.length c1] w fun e w'=>e=.returned (.bool r)∧Below w.heap.size w w':=by
 have hu31:=Try.underlying31
 have hu44:=Try.underlying44
 have HR0_0:=am hr0_0
 have HC0_0:=am hc0_0
 clear hr0_0 hc0_0
 have HR1:=am hr1
 have HC1:=am hc1
 clear hr1 hc1
 have HB:=am (Below.refl w.heap.size w)
 have H:(jCa.l0 k l1 0 l0_0)=some r:=h
 clear h
 have H':=am H
 clear H
 go_enter Try.func35,Try.ntmps35
 go_wp2_with (first |((with_reducible refine jB (N:=2) rfl ?_);(try (refine jEc (by rfl) ?_;dsimp only));refine box_event ?hg (N:=2) ?hd (cs:=#[.slice A0_0 l0_0.length c0_0]) (t:=31) ?hr ?_;(case hd=>rfl);(case hg=>rfl);(case hr=>exact Y3);intro gb116 hg w3 hbox hb;have BK116:=am (hbox);have GW116:=am ((Y1:w.heap.size≤gb116));have GE116:=am ((Y1:w.heap.size≤gb116));replace HB:=am (jb (bq) hb);clear hb hbox hg))
 go_loopg [5] k (fun kq v5 w'=>∃ (x5_1:Int),v5=.int .i64 x5_1∧jF (jCa.l0 kq l1 x5_1 l0_0=some r)∧jF (kq≤k)∧jF (w'.heap[gb116]?=some (.cells #[(.slice A0_0 l0_0.length c0_0)] 31 (0,0)))∧jF (Below w.heap.size w w'))
 case atStart=>exact ⟨(0),(sq),H',⟨Nat.le_refl _⟩,⟨kq BK116.out⟩,⟨Y36⟩⟩
 case round =>
  clear H'
  try clear c1
  try clear p2
  try clear c3
  obtain ⟨x5_1,rfl,HA,HK1,BK116,HB⟩:=hrel
  cases gk with
  | zero=>exact absurd HA.out (by simp [jCa.l0])
  | succ k1 =>
   have H:=HA.out
   clear HA
   simp only [jCa.l0] at H
   by_cases c4:x5_1<(l1.length:Int)
   ·rw [if_pos c4] at H
    have c4b0:decide (x5_1<(l1.length:Int))=true:=dzT c4
    clear c4
    by_cases c5:0≤x5_1
    ·rw [if_pos c5] at H
     have c5b0:decide (0≤x5_1)=true:=dzT c5
     clear c5
     replace H:=bzS H
     obtain ⟨t119,A60,H⟩:=H
     replace H:(if t119=true then (jCa.l0 k1 l1 (wrap64 (x5_1+1)) l0_0) else (some false))=some r:=H
     have A6:=am A60
     clear A60
     by_cases c7:t119=true
     ·subst c7
      have H1:(jCa.l0 k1 l1 (wrap64 (x5_1+1)) l0_0)=some r:=by rw [if_pos rfl] at H;exact H
      clear H
      have H:=H1
      clear H1
      have H':=am H
      clear H
      try go_wp2
      replace BK116:=am (ji BK116.out)
      replace HB:=am (jq HB.out)
      have p118:0≤(x5_1:Int):=ozD (uq)
      have q118:x5_1<(l1.length:Int):=ozD (uq)
      obtain ⟨ad118,e118,hx118_0,hx118_1,hx118_2⟩:=at_T44 HR1.out x5_1 p118 q118
      have hw118_2:=hx118_2
      have hw118_1:=hx118_1
      have hw118_0:=hx118_0
      cases e118
      replace hx118_0:=cb HB.out hx118_0
      replace hx118_1:=cb HB.out hx118_1
      replace hx118_2:=cb HB.out hx118_2
      replace p118:=ezT p118
      replace q118:=ezT q118
      refine jFc (n:=7) (S:=fun w'=>w'.cell? ⟨gb116,0,none⟩=some (.slice A0_0 l0_0.length c0_0)∧w'.cell? (ad118.add ((x5_1).toNat * 3))=some (.int .i64 ((jJ l1 x5_1).f0))∧w'.cell? ⟨(ad118.add ((x5_1).toNat * 3)).block,(ad118.add ((x5_1).toNat * 3)).off+1,none⟩=some (.int .i64 ((jJ l1 x5_1).f1))∧w'.cell? ⟨(ad118.add ((x5_1).toNat * 3)).block,(ad118.add ((x5_1).toNat * 3)).off+2,none⟩=some (.int .i64 ((jJ l1 x5_1).f2))) (ds:=[]) #[false,false,false,false,false,false,false] (by kernel_rfl) rfl rfl ⟨(jma BK116.out 0).trans rfl,((HB.out.cell (World.block_lt_of_cell? w _ hw118_0)).trans hw118_0),((HB.out.cell (World.block_lt_of_cell? w _ hw118_1)).trans hw118_1),((HB.out.cell (World.block_lt_of_cell? w _ hw118_2)).trans hw118_2)⟩ (fun hHeld=>?_)
      generalize wr.drew=w8 at BK116 HB hx118_0 hx118_1 hx118_2 hHeld ⊢
      refine pure_ (i:=1) (N:=some 13) (v:=?_) (a':=?_) #[false,true,false,false,false,false,false] rfl rfl (by kernel_rfl) (fun _ _ _ h=>h) (Or.inl ⟨by rfl,?_⟩) ?_ ?_
      rotate_left
      ·exact sb
      rotate_left
      ·exact sa
      refine pure_ (i:=2) (N:=some 14) (v:=?_) (a':=?_) #[false,true,true,false,false,false,false] rfl rfl (by kernel_rfl) (fun _ _ _ h=>h) (Or.inl ⟨by rfl,?_⟩) ?_ ?_
      rotate_left
      ·exact sb
      rotate_left
      ·exact sa
      refine pure_ (i:=3) (N:=some 15) (v:=?_) (a':=?_) #[false,true,true,true,false,false,false] rfl rfl (by kernel_rfl) (fun _ _ _ h=>h) (Or.inl ⟨by rfl,?_⟩) ?_ ?_
      rotate_left
      ·exact sb
      rotate_left
      ·exact sa
      refine jbc (i:=0) (N:=some 12) (v:=?_) (a':=?_) #[true,true,true,true,false,false,false] rfl rfl (by kernel_rfl) (fun _ _ _ h=>h) (Or.inl ⟨by rfl,?_⟩) hHeld ?_ ?_
      rotate_left
      ·rintro w' ⟨s0,s1,s2,s3⟩
       go_simp
       with_reducible rfl
      rotate_left
      ·exact sa
      refine jbc (i:=4) (N:=some 16) (v:=?_) (a':=?_) #[true,true,true,true,true,false,false] rfl rfl (by kernel_rfl) (fun _ _ _ h=>h) (Or.inl ⟨by rfl,?_⟩) hHeld ?_ ?_
      rotate_left
      ·rintro w' ⟨s0,s1,s2,s3⟩
       go_simp
       with_reducible rfl
      rotate_left
      ·exact sa
      refine one_ (i:=5) (N:=some 17) #[true,true,true,true,true,true,false] rfl rfl (by kernel_rfl) (by decide) (fun K hK=>?_)
      refine goes_ Try.func66 (by kernel_rfl) rfl #[.agg #[.slice A0_0 l0_0.length c0_0], .agg #[.int .i64 ((jJ l1 x5_1).f0), .int .i64 ((jJ l1 x5_1).f1), .int .i64 ((jJ l1 x5_1).f2)]] (by rfl) rfl rfl (aq) ?_
      with_reducible refine (jFa.calls k1 _ _ l0_0 ((jJ l1 x5_1).f0) ((jJ l1 x5_1).f1) ((jJ l1 x5_1).f2) true _ ?side1 ?side2 A6.out).mono ?_
      (case side1=>exact cq (Kd.jea HR0_0.out HB.out))
      (case side2=>exact HC0_0.out)
      rintro e w9 ⟨rfl,hb⟩
      refine ⟨_,rfl,?_⟩
      replace BK116:=am (je (g:=gb116) (o:=.cells #[.slice A0_0 l0_0.length c0_0] 31 (0,0)) (kq BK116.out) hb)
      replace HB:=am (jb (Y36) hb)
      (try clear hb)
      (try clear hb2)
      (try clear hk)
      (try clear hi)
      refine hK.out _ _ ⟨(jma BK116.out 0).trans rfl,((HB.out.cell (World.block_lt_of_cell? w _ hw118_0)).trans hw118_0),((HB.out.cell (World.block_lt_of_cell? w _ hw118_1)).trans hw118_1),((HB.out.cell (World.block_lt_of_cell? w _ hw118_2)).trans hw118_2)⟩ (fun hHeld=>?_)
      clear hK K
      refine jBc (a':=?_) ?_ ?_
      rotate_left
      ·show Act.put _ (some 17) _=_
       simp only [Act.put,List.setIfInBounds_toArray,List.set_cons_zero,List.set_cons_succ,jzb,jCb]
       rfl
      refine pure_ (i:=6) (N:=some 18) (v:=?_) (a':=?_) #[true,true,true,true,true,true,true] rfl rfl (by kernel_rfl) (fun _ _ _ h=>h) (Or.inl ⟨by rfl,?_⟩) ?_ ?_
      rotate_left
      ·exact sb
      rotate_left
      ·exact sa
      refine done_ (by kernel_rfl) ?_
      try go_wp2
      go_roundg k1
      case measure=>have:=HK1.out;omega
      case rel=>exact ⟨(wrap64 (x5_1+1)),(sq),H',⟨by have:=HK1.out;omega⟩,⟨kq BK116.out⟩,⟨Y36⟩⟩
     ·replace c7:=Bool.eq_false_iff.mpr c7
      subst c7
      have H1:(some false)=some r:=by rw [if_neg (show ¬ (false=true) by decide)] at H;exact H
      clear H
      have H:=H1
      clear H1
      obtain rfl:=Option.some.inj H
      try go_wp2
      replace BK116:=am (ji BK116.out)
      replace HB:=am (jq HB.out)
      have p118:0≤(x5_1:Int):=ozD (uq)
      have q118:x5_1<(l1.length:Int):=ozD (uq)
      obtain ⟨ad118,e118,hx118_0,hx118_1,hx118_2⟩:=at_T44 HR1.out x5_1 p118 q118
      have hw118_2:=hx118_2
      have hw118_1:=hx118_1
      have hw118_0:=hx118_0
      cases e118
      replace hx118_0:=cb HB.out hx118_0
      replace hx118_1:=cb HB.out hx118_1
      replace hx118_2:=cb HB.out hx118_2
      replace p118:=ezT p118
      replace q118:=ezT q118
      refine jFc (n:=7) (S:=fun w'=>w'.cell? ⟨gb116,0,none⟩=some (.slice A0_0 l0_0.length c0_0)∧w'.cell? (ad118.add ((x5_1).toNat * 3))=some (.int .i64 ((jJ l1 x5_1).f0))∧w'.cell? ⟨(ad118.add ((x5_1).toNat * 3)).block,(ad118.add ((x5_1).toNat * 3)).off+1,none⟩=some (.int .i64 ((jJ l1 x5_1).f1))∧w'.cell? ⟨(ad118.add ((x5_1).toNat * 3)).block,(ad118.add ((x5_1).toNat * 3)).off+2,none⟩=some (.int .i64 ((jJ l1 x5_1).f2))) (ds:=[]) #[false,false,false,false,false,false,false] (by kernel_rfl) rfl rfl ⟨(jma BK116.out 0).trans rfl,((HB.out.cell (World.block_lt_of_cell? w _ hw118_0)).trans hw118_0),((HB.out.cell (World.block_lt_of_cell? w _ hw118_1)).trans hw118_1),((HB.out.cell (World.block_lt_of_cell? w _ hw118_2)).trans hw118_2)⟩ (fun hHeld=>?_)
      generalize wr.drew=w10 at BK116 HB hx118_0 hx118_1 hx118_2 hHeld ⊢
      refine pure_ (i:=1) (N:=some 13) (v:=?_) (a':=?_) #[false,true,false,false,false,false,false] rfl rfl (by kernel_rfl) (fun _ _ _ h=>h) (Or.inl ⟨by rfl,?_⟩) ?_ ?_
      rotate_left
      ·exact sb
      rotate_left
      ·exact sa
      refine pure_ (i:=2) (N:=some 14) (v:=?_) (a':=?_) #[false,true,true,false,false,false,false] rfl rfl (by kernel_rfl) (fun _ _ _ h=>h) (Or.inl ⟨by rfl,?_⟩) ?_ ?_
      rotate_left
      ·exact sb
      rotate_left
      ·exact sa
      refine pure_ (i:=3) (N:=some 15) (v:=?_) (a':=?_) #[false,true,true,true,false,false,false] rfl rfl (by kernel_rfl) (fun _ _ _ h=>h) (Or.inl ⟨by rfl,?_⟩) ?_ ?_
      rotate_left
      ·exact sb
      rotate_left
      ·exact sa
      refine jbc (i:=0) (N:=some 12) (v:=?_) (a':=?_) #[true,true,true,true,false,false,false] rfl rfl (by kernel_rfl) (fun _ _ _ h=>h) (Or.inl ⟨by rfl,?_⟩) hHeld ?_ ?_
      rotate_left
      ·rintro w' ⟨s0,s1,s2,s3⟩
       go_simp
       with_reducible rfl
      rotate_left
      ·exact sa
      refine jbc (i:=4) (N:=some 16) (v:=?_) (a':=?_) #[true,true,true,true,true,false,false] rfl rfl (by kernel_rfl) (fun _ _ _ h=>h) (Or.inl ⟨by rfl,?_⟩) hHeld ?_ ?_
      rotate_left
      ·rintro w' ⟨s0,s1,s2,s3⟩
       go_simp
       with_reducible rfl
      rotate_left
      ·exact sa
      refine one_ (i:=5) (N:=some 17) #[true,true,true,true,true,true,false] rfl rfl (by kernel_rfl) (by decide) (fun K hK=>?_)
      refine goes_ Try.func66 (by kernel_rfl) rfl #[.agg #[.slice A0_0 l0_0.length c0_0], .agg #[.int .i64 ((jJ l1 x5_1).f0), .int .i64 ((jJ l1 x5_1).f1), .int .i64 ((jJ l1 x5_1).f2)]] (by rfl) rfl rfl (aq) ?_
      with_reducible refine (jFa.calls k1 _ _ l0_0 ((jJ l1 x5_1).f0) ((jJ l1 x5_1).f1) ((jJ l1 x5_1).f2) false _ ?side1 ?side2 A6.out).mono ?_
      (case side1=>exact cq (Kd.jea HR0_0.out HB.out))
      (case side2=>exact HC0_0.out)
      rintro e w11 ⟨rfl,hb⟩
      refine ⟨_,rfl,?_⟩
      replace BK116:=am (je (g:=gb116) (o:=.cells #[.slice A0_0 l0_0.length c0_0] 31 (0,0)) (kq BK116.out) hb)
      replace HB:=am (jb (Y36) hb)
      (try clear hb)
      (try clear hb2)
      (try clear hk)
      (try clear hi)
      refine hK.out _ _ ⟨(jma BK116.out 0).trans rfl,((HB.out.cell (World.block_lt_of_cell? w _ hw118_0)).trans hw118_0),((HB.out.cell (World.block_lt_of_cell? w _ hw118_1)).trans hw118_1),((HB.out.cell (World.block_lt_of_cell? w _ hw118_2)).trans hw118_2)⟩ (fun hHeld=>?_)
      clear hK K
      refine jBc (a':=?_) ?_ ?_
      rotate_left
      ·show Act.put _ (some 17) _=_
       simp only [Act.put,List.setIfInBounds_toArray,List.set_cons_zero,List.set_cons_succ,jzb,jCb]
       rfl
      refine pure_ (i:=6) (N:=some 18) (v:=?_) (a':=?_) #[true,true,true,true,true,true,true] rfl rfl (by kernel_rfl) (fun _ _ _ h=>h) (Or.inl ⟨by rfl,?_⟩) ?_ ?_
      rotate_left
      ·exact sb
      rotate_left
      ·exact sa
      refine done_ (by kernel_rfl) ?_
      try go_wp2
      go_ret
      exact ⟨Y0,Y36⟩
    ·rw [if_neg c5] at H
     exact absurd H (by simp)
   ·rw [if_neg c4] at H
    have c4b0:decide (x5_1<(l1.length:Int))=false:=dzF c4
    clear c4
    replace H:=bzS H
    obtain ⟨t117,A120,H⟩:=H
    replace H:(if t117=true then (some (decide ((l1.length:Int)≤8))) else (some false))=some r:=H
    have A12:=am A120
    clear A120
    by_cases c13:t117=true
    ·subst c13
     have H1:(some (decide ((l1.length:Int)≤8)))=some r:=by rw [if_pos rfl] at H;exact H
     clear H
     have H:=H1
     clear H1
     obtain rfl:=Option.some.inj H
     have hcz14_0:=bc0 BK116.out
     have hfz14_0:=ja BK116.out 0
     go_wp2_with (first |((with_reducible refine jm (f:=67) rfl ?_);refine gL (some 20) Try.func67 #[.agg #[.slice A0_0 l0_0.length c0_0]] ?_;(with_reducible refine (jL.calls k1 _ _ l0_0 true _ ?side1 ?side2 A12.out).mono ?_);(case side1=>exact cq (Kd.jea HR0_0.out HB.out));(case side2=>exact HC0_0.out);rintro e w15 ⟨rfl,hb⟩;refine ⟨_,rfl,?_⟩;replace BK116:=am (je (g:=gb116) (o:=.cells #[.slice A0_0 l0_0.length c0_0] 31 (0,0)) (kq BK116.out) hb);replace HB:=am (jb (Y36) hb);(try clear hb);(try clear hb2);(try clear hk);(try clear hi)))
     go_ret
     exact ⟨Y0,Y36⟩
    ·replace c13:=Bool.eq_false_iff.mpr c13
     subst c13
     have H1:(some false)=some r:=by rw [if_neg (show ¬ (false=true) by decide)] at H;exact H
     clear H
     have H:=H1
     clear H1
     obtain rfl:=Option.some.inj H
     have hcz16_0:=bc0 BK116.out
     have hfz16_0:=ja BK116.out 0
     go_wp2_with (first |((with_reducible refine jm (f:=67) rfl ?_);refine gL (some 20) Try.func67 #[.agg #[.slice A0_0 l0_0.length c0_0]] ?_;(with_reducible refine (jL.calls k1 _ _ l0_0 false _ ?side1 ?side2 A12.out).mono ?_);(case side1=>exact cq (Kd.jea HR0_0.out HB.out));(case side2=>exact HC0_0.out);rintro e w17 ⟨rfl,hb⟩;refine ⟨_,rfl,?_⟩;replace BK116:=am (je (g:=gb116) (o:=.cells #[.slice A0_0 l0_0.length c0_0] 31 (0,0)) (kq BK116.out) hb);replace HB:=am (jb (Y36) hb);(try clear hb);(try clear hb2);(try clear hk);(try clear hi)))
     go_ret
     exact ⟨Y0,Y36⟩
def jpb.f (l0_0 : List (S90)) : Option ((List (S90))) := (some (([] : List (S90)) : List (S90))).bind fun y122 => (if y122.length + l0_0.length < 3518437208883 then (some (y122 ++ l0_0)) else (none))
set_option maxHeartbeats 8000000 in
set_option maxRecDepth 100000 in
theorem jpb.calls (A0_0 : Option Addr) (c0_0 : Nat) (l0_0 : List (S90)) (r : List (S90)) (w : World) (hr0_0 : Kd.C k90 w A0_0 l0_0.length l0_0) (hc0_0 : l0_0.length ≤ c0_0) (h : jpb.f l0_0 = some r) :
  Calls Try.prog 116 #[.agg #[.slice A0_0 l0_0.length c0_0]] w fun e w'=>∃ v0_:Value,e=.returned (.agg #[v0_])∧Kd.R k90 90 w' w.heap.size (fun _=>True) v0_ r∧Below w.heap.size w w':=by
 have hu53:=Try.underlying53
 have HR0_0:=am hr0_0
 have HC0_0:=am hc0_0
 clear hr0_0 hc0_0
 have HB:=am (Below.refl w.heap.size w)
 have H:((some (([]:List (S90)):List (S90))).bind fun y122=>(if y122.length+l0_0.length<3518437208883 then (some (y122 ++ l0_0)) else (none)))=some r:=h
 clear h
 obtain ⟨y122,hy122⟩:∃ y_:List (S90),y_=(([]:List (S90))):=⟨_,rfl⟩
 replace H:(if y122.length+l0_0.length<3518437208883 then (some (y122 ++ l0_0)) else (none))=some r:=by first |(rw [hy122];with_reducible exact H) |(have H2_:=(Option.bind_some _ _).symm.trans H;rw [hy122];with_reducible exact H2_) |(have H2_:=(Option.bind_some _ _).symm.trans H;with_reducible exact H2_) | with_reducible exact H |(rw [hy122];exact H) | exact H
 have Ny122:=am hy122
 clear hy122
 by_cases c2:y122.length+l0_0.length<3518437208883
 ·rw [if_pos c2] at H
  have LMc2:=am c2
  clear c2
  obtain ⟨y125,hy125⟩:∃ y_:List (S90),y_=(y122 ++ l0_0):=⟨_,rfl⟩
  replace H:(some y125)=some r:=by first |(rw [hy125];with_reducible exact H) |(have H2_:=(Option.bind_some _ _).symm.trans H;rw [hy125];with_reducible exact H2_) |(have H2_:=(Option.bind_some _ _).symm.trans H;with_reducible exact H2_) | with_reducible exact H |(rw [hy125];exact H) | exact H
  have Ny125:=am hy125
  clear hy125
  obtain rfl:=Option.some.inj H
  go_enter Try.func116,Try.ntmps116
  go_wp2_with (first |((with_reducible refine jB (N:=1) rfl ?_);refine bE (N:=1) (cs:=#[.slice A0_0 l0_0.length c0_0]) (t:=53) ?_;intro gb120 hg w3 hbox hb;have BK120:=am (hbox);have GW120:=am ((Y1:w.heap.size≤gb120));have GE120:=am ((Y1:w.heap.size≤gb120));replace HB:=am (jb (bq) hb);clear hb hbox hg) |((with_reducible refine jB (N:=2) rfl ?_);refine bE (N:=2) (cs:=#[.slice none 0 0]) (t:=53) ?_;intro gb121 hg w4 hbox hb;have BK121:=am (hbox);have GW121:=am ((Y119:w.heap.size≤gb121));have GE121:=am ((Y119:w.heap.size≤gb121));have NB120_121:=am ((by rw [hg];exact Nat.ne_of_lt (jX (g:=gb120) (o:=.cells #[.slice A0_0 l0_0.length c0_0] 53 (0,0)) (kq BK120.out)):gb120≠gb121));have NB121_120:=am ((by rw [hg];exact Nat.ne_of_gt (jX (g:=gb120) (o:=.cells #[.slice A0_0 l0_0.length c0_0] 53 (0,0)) (kq BK120.out)):gb121≠gb120));replace BK120:=am (je (g:=gb120) (o:=.cells #[.slice A0_0 l0_0.length c0_0] 53 (0,0)) (kq BK120.out) hb);replace HB:=am (jb (by repeat (first |(with_reducible first | exact HB.out | apply jo | apply jg | apply jq | refine jl ?_ GE120.out) | exact HB.out)) hb);clear hb hbox hg) |((with_reducible refine jB (N:=3) rfl ?_);refine Kd.jNc k90 _ 90 ?hg (N:=3) ?hd (xs:=([]:List (S90))) (inner:=[]) (ok:=fun _=>True) (okp:=fun _=>True) ?hr ?hp (fun _ hk=>hk) trivial (Below.refl _ _) (Nat.le_refl _) (by simp) ?_;(case hd=>rfl);(case hg=>rfl);(case hr=>exact Y3);(case hp=>exact (Reps.none _ _));intro v123 w5 ho6 hb hg_ hnew_;clear hg_ hnew_;(first | rw [← Ny122.out] at ho6 |(simp only [Int.reduceToNat] at ho6;rw [← Ny122.out] at ho6));have HO124:=am (Kd.jda ho6 (jD (Y58)));replace BK120:=am (je (g:=gb120) (o:=.cells #[.slice A0_0 l0_0.length c0_0] 53 (0,0)) (kq BK120.out) hb);replace BK121:=am (je (g:=gb121) (o:=.cells #[.slice none 0 0] 53 (0,0)) (kq BK121.out) hb);replace HB:=am (jb (Y58) hb);clear hb ho6;have hnb7:=NB120_121.out;have hnc7:=NB121_120.out;have hcz8_0:=bc0 BK120.out;have hfz8_0:=ja BK120.out 0) |((with_reducible refine jib (b:=.append) (xs:=#[.tmp 3, .tmp 5]) rfl ?_);at_builtin;refine Kd.jkd k90 (w0:=w) w.heap.size rfl (.tmp 3) (.tmp 5) 51 90 (.agg #[(.int .i64 0),(.int .i64 0),(.int .i64 0),(.int .i64 0),(.bool false)]) 40 rfl Try.underlying51 info90 rfl (by decide) (by omega) v123 y122 l0_0 _ _ _ (fun _=>True) (fun _=>False) rfl rfl ?aO ?aR (fun _ _ h=>h) (fun _ h=>h.elim) ?aF ?aB ?aS ?aL ?_;(case aR=>repeat (first | exact (Kd.jea HR0_0.out HB.out) |(with_reducible refine Kd.C_alloc ?_ _) |(with_reducible refine Kd.C_drewN ?_ _) |(with_reducible refine Kd.C_drew ?_)));(case aB=>exact (Y58));(case aF=>exact (fun _ _=>trivial));(case aO=>exact (rq HO124.out));(case aS=>exact (jD (Y58)));(case aL=>have:=LMc2.out;omega);intro v126 w9 ho hb hg hat;rw [← Ny125.out] at ho;have n0_:=am (jU (g:=gb120) (o:=.cells #[.slice A0_0 l0_0.length c0_0] 53 (0,0)) (kq BK120.out) hg (Kd.R_ne HO124.out BK120.out (by decide)));have n1_:=am (jU (g:=gb121) (o:=.cells #[.slice none 0 0] 53 (0,0)) (kq BK121.out) hg (Kd.R_ne HO124.out BK121.out (by decide)));have n2_:=am (hb);have n3_:=am (ho);clear BK120 BK121 HB HO124;have BK120:=n0_;have BK121:=n1_;have HB:=n2_;have HO127:=n3_;clear n0_ n1_ n2_ n3_ ho hb hg hat;obtain ⟨Ao10,co10,eo10⟩:=Kd.jM HO127.out;subst eo10;have hcz11_0:=bc0 BK121.out;have hfz11_0:=ja BK121.out 0))
  refine bodyPost_ret (results_cell_row rfl _ _ gb121 53 #[.slice Ao10 y125.length co10] (0,0) _ rfl (by (with_reducible repeat (first | refine jf ?_ _ | refine ji ?_ | refine jd ?_ _));refine jna (cs:=#[.slice none 0 0]) ?_ 0 _ rfl;(with_reducible repeat (first | refine jf ?_ _ | refine ji ?_ | refine jd ?_ _));exact BK121.out) Try.underlying53 rfl (by kernel_rfl)) rfl ?_
  exact ⟨_,Y0,by (with_reducible repeat (first | apply Kd.jka | apply Kd.joa | apply Kd.jua));exact Kd.jH (Kd.jEa (p:=⟨gb121,0,none⟩) (Kd.jha HO127.out BK121.out (by decide)) (fun _ hk=>hk.2) (.slice Ao10 y125.length co10)) (fun _ hk=>trivial),Y58⟩
 ·rw [if_neg c2] at H
  exact absurd H (by simp)
def jpc.f (l0_0 : List (S90)) (a1 : Int) (a2 : Int) : Option ((List (S90))) := (jpb.f l0_0).bind fun t130 => (if t130.length < 3518437208883 then (some (t130 ++ [(⟨a1, a2, (-1), (-1), false⟩ : S90)])) else (none))
set_option maxHeartbeats 8000000 in
set_option maxRecDepth 100000 in
theorem jpc.calls (A0_0 : Option Addr) (c0_0 : Nat) (l0_0 : List (S90)) (a1 : Int) (a2 : Int) (r : List (S90)) (w : World) (hr0_0 : Kd.C k90 w A0_0 l0_0.length l0_0) (hc0_0 : l0_0.length ≤ c0_0) (h : jpc.f l0_0 a1 a2 = some r) :
  Calls Try.prog 96 #[.agg #[.slice A0_0 l0_0.length c0_0], .int .i64 a1, .int .i64 a2] w fun e w'=>∃ v0_:Value,e=.returned (.agg #[v0_])∧Kd.R k90 90 w' w.heap.size (fun _=>True) v0_ r∧Below w.heap.size w w':=by
 have hu53:=Try.underlying53
 have hu90:=Try.underlying90
 have HR0_0:=am hr0_0
 have HC0_0:=am hc0_0
 clear hr0_0 hc0_0
 have HB:=am (Below.refl w.heap.size w)
 have H:((jpb.f l0_0).bind fun t130=>(if t130.length<3518437208883 then (some (t130 ++ [(⟨a1,a2,(-1),(-1),false⟩:S90)])) else (none)))=some r:=h
 clear h
 replace H:=bzS H
 obtain ⟨t130,A40,H⟩:=H
 replace H:(if t130.length<3518437208883 then (some (t130 ++ [(⟨a1,a2,(-1),(-1),false⟩:S90)])) else (none))=some r:=H
 have A4:=am A40
 clear A40
 by_cases c5:t130.length<3518437208883
 ·rw [if_pos c5] at H
  have LMc5:=am c5
  clear c5
  obtain ⟨y134,hy134⟩:∃ y_:List (S90),y_=(t130 ++ [(⟨a1,a2,(-1),(-1),false⟩:S90)]):=⟨_,rfl⟩
  replace H:(some y134)=some r:=by first |(rw [hy134];with_reducible exact H) |(have H2_:=(Option.bind_some _ _).symm.trans H;rw [hy134];with_reducible exact H2_) |(have H2_:=(Option.bind_some _ _).symm.trans H;with_reducible exact H2_) | with_reducible exact H |(rw [hy134];exact H) | exact H
  have Ny134:=am hy134
  clear hy134
  obtain rfl:=Option.some.inj H
  go_enter Try.func96,Try.ntmps96
  go_wp2_with (first |((with_reducible refine jB (N:=3) rfl ?_);refine bE (N:=3) (cs:=#[.slice A0_0 l0_0.length c0_0]) (t:=53) ?_;intro gb128 hg w6 hbox hb;have BK128:=am (hbox);have GW128:=am ((Y1:w.heap.size≤gb128));have GE128:=am ((Y1:w.heap.size≤gb128));replace HB:=am (jb (bq) hb);clear hb hbox hg) |((with_reducible refine jB (N:=6) rfl ?_);refine bE (N:=6) (cs:=#[.slice none 0 0]) (t:=53) ?_;intro gb129 hg w7 hbox hb;have BK129:=am (hbox);have GW129:=am ((Y120:w.heap.size≤gb129));have GE129:=am ((Y120:w.heap.size≤gb129));have NB128_129:=am ((by rw [hg];exact Nat.ne_of_lt (jX (g:=gb128) (o:=.cells #[.slice A0_0 l0_0.length c0_0] 53 (0,0)) (kq BK128.out)):gb128≠gb129));have NB129_128:=am ((by rw [hg];exact Nat.ne_of_gt (jX (g:=gb128) (o:=.cells #[.slice A0_0 l0_0.length c0_0] 53 (0,0)) (kq BK128.out)):gb129≠gb128));replace BK128:=am (je (g:=gb128) (o:=.cells #[.slice A0_0 l0_0.length c0_0] 53 (0,0)) (kq BK128.out) hb);replace HB:=am (jb (by repeat (first |(with_reducible first | exact HB.out | apply jo | apply jg | apply jq | refine jl ?_ GE128.out) | exact HB.out)) hb);clear hb hbox hg;have hnb8:=NB128_129.out;have hnc8:=NB129_128.out;have hcz9_0:=bc0 BK128.out;have hfz9_0:=ja BK128.out 0) |((with_reducible refine jm (f:=116) rfl ?_);refine gL (some 9) Try.func116 #[.agg #[.slice A0_0 l0_0.length c0_0]] ?_;(with_reducible refine (jpb.calls _ _ l0_0 t130 _ ?side1 ?side2 A4.out).mono ?_);(case side1=>exact cq (Kd.jea HR0_0.out HB.out));(case side2=>exact HC0_0.out);rintro e w10 ⟨v131,rfl,ho0,hb⟩;refine ⟨_,rfl,?_⟩;have HO132:=am (Kd.jda ho0 (jD (Y97)));replace BK128:=am (je (g:=gb128) (o:=.cells #[.slice A0_0 l0_0.length c0_0] 53 (0,0)) (kq BK128.out) hb);replace BK129:=am (je (g:=gb129) (o:=.cells #[.slice none 0 0] 53 (0,0)) (kq BK129.out) hb);replace HB:=am (jb (Y97) hb);(try clear hb);(try clear hb2);(try clear hk);(try clear hi);(try clear ho0)) |((with_reducible refine jB (N:=7) rfl ?_);refine bE (N:=7) (cs:=#[.slice none 0 0]) (t:=53) ?_;intro gb133 hg w11 hbox hb;have BK133:=am (hbox);have GW133:=am ((Y121:w.heap.size≤gb133));have GE133:=am ((Y121:w.heap.size≤gb133));have NB128_133:=am ((by rw [hg];exact Nat.ne_of_lt (jX (g:=gb128) (o:=.cells #[.slice A0_0 l0_0.length c0_0] 53 (0,0)) (kq BK128.out)):gb128≠gb133));have NB133_128:=am ((by rw [hg];exact Nat.ne_of_gt (jX (g:=gb128) (o:=.cells #[.slice A0_0 l0_0.length c0_0] 53 (0,0)) (kq BK128.out)):gb133≠gb128));have NB129_133:=am ((by rw [hg];exact Nat.ne_of_lt (jX (g:=gb129) (o:=.cells #[.slice none 0 0] 53 (0,0)) (kq BK129.out)):gb129≠gb133));have NB133_129:=am ((by rw [hg];exact Nat.ne_of_gt (jX (g:=gb129) (o:=.cells #[.slice none 0 0] 53 (0,0)) (kq BK129.out)):gb133≠gb129));replace HO132:=am (Kd.jG (rq HO132.out) hb);replace BK128:=am (je (g:=gb128) (o:=.cells #[.slice A0_0 l0_0.length c0_0] 53 (0,0)) (kq BK128.out) hb);replace BK129:=am (je (g:=gb129) (o:=.cells #[.slice none 0 0] 53 (0,0)) (kq BK129.out) hb);replace HB:=am (jb (Y97) hb);clear hb hbox hg;obtain ⟨Ao12,co12,eo12⟩:=Kd.jM HO132.out;subst eo12;have hnb13:=NB133_128.out;have hnc13:=NB128_133.out;have hnb14:=NB133_129.out;have hnc14:=NB129_133.out;have hcz15_0:=bc0 BK133.out;have hfz15_0:=ja BK133.out 0) |((with_reducible refine jib (b:=.append) (xs:=#[.tmp 11, .tmp 15]) rfl ?_);at_builtin;refine Kd.jnc k90 (w0:=w) w.heap.size rfl (.tmp 11) (.tmp 15) 51 90 (.agg #[(.int .i64 0),(.int .i64 0),(.int .i64 0),(.int .i64 0),(.bool false)]) 40 rfl Try.underlying51 info90 rfl (by decide) (by omega) (.slice Ao12 t130.length co12) t130 (⟨a1,a2,(-1),(-1),false⟩:S90) [.int .i64 a1, .int .i64 a2, .int .i64 (-1), .int .i64 (-1), .bool false] (fun _=>True) (fun _=>False) rfl (Y3) ?aP (fun _ hk=>hk.elim) ?aF ?aO ?aB ?aS ?aL ?_;(case aP=>exact k90_mkM _ _ _ (⟨a1,a2,(-1),(-1),false⟩:S90));(case aB=>exact (Y98));(case aF=>exact (fun _ _=>trivial));(case aO=>exact (by (with_reducible repeat (first | apply Kd.jka | apply Kd.joa | apply Kd.jua));exact Kd.jH (Kd.jEa (p:=⟨gb133,0,none⟩) (Kd.jha HO132.out BK133.out (by decide)) (fun _ hk=>hk.2) (.slice Ao12 t130.length co12)) (fun _ hk=>trivial)));(case aS=>exact (jD (Y98)));(case aL=>have:=LMc5.out;omega);intro v135 w16 ho hb hg hat;rw [← Ny134.out] at ho;have n0_:=am (jU (g:=gb128) (o:=.cells #[.slice A0_0 l0_0.length c0_0] 53 (0,0)) (by (with_reducible repeat (first | refine jf ?_ _ | refine ji ?_ | refine jd ?_ _));refine jqa ?_ NB128_133.out _;(with_reducible repeat (first | refine jf ?_ _ | refine ji ?_ | refine jd ?_ _));exact BK128.out) hg (Kd.R_ne HO132.out BK128.out (by decide)));have n1_:=am (jU (g:=gb129) (o:=.cells #[.slice none 0 0] 53 (0,0)) (by (with_reducible repeat (first | refine jf ?_ _ | refine ji ?_ | refine jd ?_ _));refine jqa ?_ NB129_133.out _;(with_reducible repeat (first | refine jf ?_ _ | refine ji ?_ | refine jd ?_ _));exact BK129.out) hg (Kd.R_ne HO132.out BK129.out (by decide)));have n2_:=am (jU (g:=gb133) (o:=.cells #[.slice Ao12 t130.length co12] 53 (0,0)) (by (with_reducible repeat (first | refine jf ?_ _ | refine ji ?_ | refine jd ?_ _));refine jna (cs:=#[.slice none 0 0]) ?_ 0 _ rfl;(with_reducible repeat (first | refine jf ?_ _ | refine ji ?_ | refine jd ?_ _));exact BK133.out) hg (Kd.R_ne HO132.out BK133.out (by decide)));have n3_:=am (hb);have n4_:=am (ho);clear BK128 BK129 BK133 HB HO132;have BK128:=n0_;have BK129:=n1_;have BK133:=n2_;have HB:=n3_;have HO136:=n4_;clear n0_ n1_ n2_ n3_ n4_ ho hb hg hat;obtain ⟨Ao17,co17,eo17⟩:=Kd.jM HO136.out;subst eo17;have hcz18_0:=bc0 BK133.out;have hfz18_0:=ja BK133.out 0;have hcz19_0:=bc0 BK129.out;have hfz19_0:=ja BK129.out 0))
  refine bodyPost_ret (results_cell_row rfl _ _ gb129 53 #[.slice Ao17 y134.length co17] (0,0) _ rfl (by (with_reducible repeat (first | refine jf ?_ _ | refine ji ?_ | refine jd ?_ _));refine jna (cs:=#[.slice none 0 0]) ?_ 0 _ rfl;(with_reducible repeat (first | refine jf ?_ _ | refine ji ?_ | refine jd ?_ _));refine jqa ?_ NB129_133.out _;(with_reducible repeat (first | refine jf ?_ _ | refine ji ?_ | refine jd ?_ _));exact BK129.out) Try.underlying53 rfl (by kernel_rfl)) rfl ?_
  exact ⟨_,Y0,by (with_reducible repeat (first | apply Kd.jka | apply Kd.joa | apply Kd.jua));exact Kd.jH (Kd.jEa (p:=⟨gb129,0,none⟩) (Kd.jEa (p:=⟨gb133,0,none⟩) (Kd.jha (Kd.jha HO136.out BK133.out (by decide)) BK129.out (by decide)) (fun _ hk=>hk.1.2) (.slice Ao17 y134.length co17)) (fun _ hk=>hk.2) (.slice Ao17 y134.length co17)) (fun _ hk=>trivial),Y98⟩
 ·rw [if_neg c5] at H
  exact absurd H (by simp)
mutual
def jwa.j0 : Nat → Int → Int → Bool → List (S90) → Option ((List (S90)))
 | 0,_,_,_,_=>none
 | k+1,x1,x2,x17,x143000=>if x17=true then (some x143000) else (jwa.l0 k x1 x2 x2 x143000)
def jwa.l0 : Nat → Int → Int → Int → List (S90) → Option ((List (S90)))
 | 0,_,_,_,_=>none
 | k+1,x1,x2,x8,x143000=>if 0≤x8 then (if x8<(x143000.length:Int) then (if ((jA x143000 x8).f3)≥0 then (if ((jA x143000 x8).f3)=x1 then ((some (x143000.set (x8:Int).toNat (⟨(jA x143000 x8).f0,(jA x143000 x8).f1,(jA x143000 x8).f2,(-1),(jA x143000 x8).f4⟩:S90):List (S90))).bind fun y146=>(if 0≤x1 then (if x1<(x143000.length:Int) then (some (y146.set (x1:Int).toNat (⟨(jA y146 x1).f0,(jA y146 x1).f1,(jA y146 x1).f2,x2,(jA y146 x1).f4⟩:S90))) else (none)) else (none))) else (jwa.l0 k x1 x2 ((jA x143000 x8).f3) x143000)) else (if 0≤x1 then (if x1<(x143000.length:Int) then (some (x143000.set (x1:Int).toNat (⟨(jA x143000 x1).f0,(jA x143000 x1).f1,(jA x143000 x1).f2,x2,(jA x143000 x1).f4⟩:S90))) else (none)) else (none))) else (none)) else (none)
end
def jwa.f (k : Nat) (l0_0 : List (S90)) (a1 : Int) (a2 : Int) : Option ((List (S90))) := (jpb.f l0_0).bind fun t139 => (if a1 = a2 then (jwa.j0 k a1 a2 true t139) else (jwa.j0 k a1 a2 (decide (a2 < 0)) t139))
set_option maxHeartbeats 8000000 in
set_option maxRecDepth 100000 in
theorem jwa.calls (k : Nat) (A0_0 : Option Addr) (c0_0 : Nat) (l0_0 : List (S90)) (a1 : Int) (a2 : Int) (r : List (S90)) (w : World) (hr0_0 : Kd.C k90 w A0_0 l0_0.length l0_0) (hc0_0 : l0_0.length ≤ c0_0) (h : jwa.f k l0_0 a1 a2 = some r) :
  Calls Try.prog 97 #[.agg #[.slice A0_0 l0_0.length c0_0], .int .i64 a1, .int .i64 a2] w fun e w'=>∃ v0_:Value,e=.returned (.agg #[v0_])∧Kd.R k90 90 w' w.heap.size (fun _=>True) v0_ r∧Below w.heap.size w w':=by
 have hu53:=Try.underlying53
 have HR0_0:=am hr0_0
 have HC0_0:=am hc0_0
 clear hr0_0 hc0_0
 have HB:=am (Below.refl w.heap.size w)
 have H:((jpb.f l0_0).bind fun t139=>(if a1=a2 then (jwa.j0 k a1 a2 true t139) else (jwa.j0 k a1 a2 (decide (a2<0)) t139)))=some r:=h
 clear h
 replace H:=bzS H
 obtain ⟨t139,A40,H⟩:=H
 replace H:(if a1=a2 then (jwa.j0 k a1 a2 true t139) else (jwa.j0 k a1 a2 (decide (a2<0)) t139))=some r:=H
 have A4:=am A40
 clear A40
 have HC5:=am H
 clear H
 go_enter Try.func97,Try.ntmps97
 go_upto_region 2 with (first |((with_reducible refine jB (N:=3) rfl ?_);refine bE (N:=3) (cs:=#[.slice A0_0 l0_0.length c0_0]) (t:=53) ?_;intro gb137 hg w6 hbox hb;have BK137:=am (hbox);have GW137:=am ((Y1:w.heap.size≤gb137));have GE137:=am ((Y1:w.heap.size≤gb137));replace HB:=am (jb (bq) hb);clear hb hbox hg) |((with_reducible refine jB (N:=6) rfl ?_);refine bE (N:=6) (cs:=#[.slice none 0 0]) (t:=53) ?_;intro gb138 hg w7 hbox hb;have BK138:=am (hbox);have GW138:=am ((Y122:w.heap.size≤gb138));have GE138:=am ((Y122:w.heap.size≤gb138));have NB137_138:=am ((by rw [hg];exact Nat.ne_of_lt (jX (g:=gb137) (o:=.cells #[.slice A0_0 l0_0.length c0_0] 53 (0,0)) (kq BK137.out)):gb137≠gb138));have NB138_137:=am ((by rw [hg];exact Nat.ne_of_gt (jX (g:=gb137) (o:=.cells #[.slice A0_0 l0_0.length c0_0] 53 (0,0)) (kq BK137.out)):gb138≠gb137));replace BK137:=am (je (g:=gb137) (o:=.cells #[.slice A0_0 l0_0.length c0_0] 53 (0,0)) (kq BK137.out) hb);replace HB:=am (jb (by repeat (first |(with_reducible first | exact HB.out | apply jo | apply jg | apply jq | refine jl ?_ GE137.out) | exact HB.out)) hb);clear hb hbox hg;have hnb8:=NB137_138.out;have hnc8:=NB138_137.out;have hcz9_0:=bc0 BK137.out;have hfz9_0:=ja BK137.out 0) |((with_reducible refine jm (f:=116) rfl ?_);refine gL (some 10) Try.func116 #[.agg #[.slice A0_0 l0_0.length c0_0]] ?_;(with_reducible refine (jpb.calls _ _ l0_0 t139 _ ?side1 ?side2 A4.out).mono ?_);(case side1=>exact cq (Kd.jea HR0_0.out HB.out));(case side2=>exact HC0_0.out);rintro e w10 ⟨v140,rfl,ho0,hb⟩;refine ⟨_,rfl,?_⟩;have HO141:=am (Kd.jda ho0 (jD (Y99)));replace BK137:=am (je (g:=gb137) (o:=.cells #[.slice A0_0 l0_0.length c0_0] 53 (0,0)) (kq BK137.out) hb);replace BK138:=am (je (g:=gb138) (o:=.cells #[.slice none 0 0] 53 (0,0)) (kq BK138.out) hb);replace HB:=am (jb (Y99) hb);(try clear hb);(try clear hb2);(try clear hk);(try clear hi);(try clear ho0)) |((with_reducible refine jB (N:=7) rfl ?_);refine bE (N:=7) (cs:=#[.slice none 0 0]) (t:=53) ?_;intro gb142 hg w11 hbox hb;have BK142:=am (hbox);have GW142:=am ((Y123:w.heap.size≤gb142));have GE142:=am ((Y123:w.heap.size≤gb142));have NB137_142:=am ((by rw [hg];exact Nat.ne_of_lt (jX (g:=gb137) (o:=.cells #[.slice A0_0 l0_0.length c0_0] 53 (0,0)) (kq BK137.out)):gb137≠gb142));have NB142_137:=am ((by rw [hg];exact Nat.ne_of_gt (jX (g:=gb137) (o:=.cells #[.slice A0_0 l0_0.length c0_0] 53 (0,0)) (kq BK137.out)):gb142≠gb137));have NB138_142:=am ((by rw [hg];exact Nat.ne_of_lt (jX (g:=gb138) (o:=.cells #[.slice none 0 0] 53 (0,0)) (kq BK138.out)):gb138≠gb142));have NB142_138:=am ((by rw [hg];exact Nat.ne_of_gt (jX (g:=gb138) (o:=.cells #[.slice none 0 0] 53 (0,0)) (kq BK138.out)):gb142≠gb138));replace HO141:=am (Kd.jG (rq HO141.out) hb);replace BK137:=am (je (g:=gb137) (o:=.cells #[.slice A0_0 l0_0.length c0_0] 53 (0,0)) (kq BK137.out) hb);replace BK138:=am (je (g:=gb138) (o:=.cells #[.slice none 0 0] 53 (0,0)) (kq BK138.out) hb);replace HB:=am (jb (Y99) hb);clear hb hbox hg;obtain ⟨Ao12,co12,eo12⟩:=Kd.jM HO141.out;subst eo12;have hnb13:=NB142_137.out;have hnc13:=NB137_142.out;have hnb14:=NB142_138.out;have hnc14:=NB138_142.out;have hcz15_0:=bc0 BK142.out;have hfz15_0:=ja BK142.out 0))
 (try simp only [Act.put,List.setIfInBounds_toArray,List.set_cons_zero,List.set_cons_succ])
 go_cut [17] (fun v17 wc=>∃ (kq:Nat) (x17_4:Bool),v17=.bool x17_4∧jF (jwa.j0 kq a1 a2 x17_4 t139=some r)∧jF (kq≤k)∧jF (Kd.R k90 90 wc w.heap.size (fun _=>True) (.slice Ao12 t139.length co12) t139)∧jF (wc.heap[gb137]?=some (.cells #[(.slice A0_0 l0_0.length c0_0)] 53 (0,0)))∧jF (wc.heap[gb138]?=some (.cells #[(.slice none 0 0)] 53 (0,0)))∧jF (wc.heap[gb142]?=some (.cells #[(.slice Ao12 t139.length co12)] 53 (0,0)))∧jF (Below w.heap.size w wc))
 case first =>
  have H:=HC5.out
  clear HC5
  by_cases c16:a1=a2
  ·rw [if_pos c16] at H
   have c16b0:(a1 == a2)=true:=beq_iff_eq.mpr c16
   have c16b1:(a1 != a2)=false:=bne_eq_false_iff_eq.mpr c16
   clear c16
   (first | rw [c16b0] |(simp only [jzb,jCb];rw [c16b0]) | skip)
   have H':=am H
   clear H
   go_wp2
   go_meet
   case rel=>exact ⟨_,(true),(sq),H',⟨Y17⟩,⟨by (with_reducible repeat (first | apply Kd.jka | apply Kd.joa | apply Kd.jua));exact Kd.jH (Kd.jEa (p:=⟨gb142,0,none⟩) (Kd.jha HO141.out BK142.out (by decide)) (fun _ hk=>hk.2) (.slice Ao12 t139.length co12)) (fun _ hk=>trivial)⟩,⟨by (with_reducible repeat (first | refine jf ?_ _ | refine ji ?_ | refine jd ?_ _));refine jqa ?_ NB137_142.out _;(with_reducible repeat (first | refine jf ?_ _ | refine ji ?_ | refine jd ?_ _));exact BK137.out⟩,⟨by (with_reducible repeat (first | refine jf ?_ _ | refine ji ?_ | refine jd ?_ _));refine jqa ?_ NB138_142.out _;(with_reducible repeat (first | refine jf ?_ _ | refine ji ?_ | refine jd ?_ _));exact BK138.out⟩,⟨by (with_reducible repeat (first | refine jf ?_ _ | refine ji ?_ | refine jd ?_ _));refine jna (cs:=#[.slice none 0 0]) ?_ 0 _ rfl;(with_reducible repeat (first | refine jf ?_ _ | refine ji ?_ | refine jd ?_ _));exact BK142.out⟩,⟨Y50⟩⟩
  ·rw [if_neg c16] at H
   have c16b0:(a1 == a2)=false:=beq_eq_false_iff_ne.mpr c16
   have c16b1:(a1 != a2)=true:=bne_iff_ne.mpr c16
   (first | rw [c16b0] |(simp only [jzb,jCb];rw [c16b0]) | skip)
   have H':=am H
   clear H
   go_wp2
   go_meet
   case rel=>exact ⟨_,(decide (a2<0)),(sq),H',⟨Y17⟩,⟨by (with_reducible repeat (first | apply Kd.jka | apply Kd.joa | apply Kd.jua));exact Kd.jH (Kd.jEa (p:=⟨gb142,0,none⟩) (Kd.jha HO141.out BK142.out (by decide)) (fun _ hk=>hk.2) (.slice Ao12 t139.length co12)) (fun _ hk=>trivial)⟩,⟨by (with_reducible repeat (first | refine jf ?_ _ | refine ji ?_ | refine jd ?_ _));refine jqa ?_ NB137_142.out _;(with_reducible repeat (first | refine jf ?_ _ | refine ji ?_ | refine jd ?_ _));exact BK137.out⟩,⟨by (with_reducible repeat (first | refine jf ?_ _ | refine ji ?_ | refine jd ?_ _));refine jqa ?_ NB138_142.out _;(with_reducible repeat (first | refine jf ?_ _ | refine ji ?_ | refine jd ?_ _));exact BK138.out⟩,⟨by (with_reducible repeat (first | refine jf ?_ _ | refine ji ?_ | refine jd ?_ _));refine jna (cs:=#[.slice none 0 0]) ?_ 0 _ rfl;(with_reducible repeat (first | refine jf ?_ _ | refine ji ?_ | refine jd ?_ _));exact BK142.out⟩,⟨Y50⟩⟩
 case rest =>
  clear HC5
  try clear c1
  try clear p2
  try clear c8
  try clear c9
  try clear c11
  try clear c13
  try clear c14
  try clear c16
  try clear c16b0
  try clear c16b1
  try clear hcz15_0
  try clear hcz9_0
  try clear hfz15_0
  try clear hfz9_0
  obtain ⟨kq,x17_4,rfl,HA,HJ4,HO_143000,BK137,BK138,BK142,HB⟩:=hcut
  cases kq with
  | zero=>exact absurd HA.out (by simp [jwa.j0])
  | succ kj4 =>
   have H:=HA.out
   clear HA
   simp only [jwa.j0] at H
   by_cases c17:x17_4=true
   ·subst c17
    have H1:(some t139)=some r:=by rw [if_pos rfl] at H;exact H
    clear H
    have H:=H1
    clear H1
    obtain rfl:=Option.some.inj H
    have hnb18:=NB142_137.out
    have hnc18:=NB137_142.out
    have hnb19:=NB142_138.out
    have hnc19:=NB138_142.out
    have hcz20_0:=bc0 BK142.out
    have hfz20_0:=ja BK142.out 0
    have hnb21:=NB138_137.out
    have hnc21:=NB137_138.out
    have hcz22_0:=bc0 BK138.out
    have hfz22_0:=ja BK138.out 0
    go_wp2
    refine bodyPost_ret (results_cell_row rfl _ _ gb138 53 #[.slice Ao12 t139.length co12] (0,0) _ rfl (Y100) Try.underlying53 rfl (by kernel_rfl)) rfl ?_
    exact ⟨_,Y0,by (with_reducible repeat (first | apply Kd.jka | apply Kd.joa | apply Kd.jua));exact Kd.jH (Kd.jEa (p:=⟨gb138,0,none⟩) (Kd.jha HO_143000.out BK138.out (by decide)) (fun _ hk=>hk.2) (.slice Ao12 t139.length co12)) (fun _ hk=>trivial),Y50⟩
   ·replace c17:=Bool.eq_false_iff.mpr c17
    subst c17
    have H1:(jwa.l0 kj4 a1 a2 a2 t139)=some r:=by rw [if_neg (show ¬ (false=true) by decide)] at H;exact H
    clear H
    have H:=H1
    clear H1
    have H':=am H
    clear H
    go_wp2
    go_loopg [8] kj4 (fun kq v8 w'=>∃ (x8_2:Int) (x143000_2:List (S90)) (u143000:Value),v8=.int .i64 x8_2∧jF (jwa.l0 kq a1 a2 x8_2 x143000_2=some r)∧jF (kq≤kj4)∧jF (Kd.R k90 90 w' w.heap.size (fun _=>True) u143000 x143000_2)∧jF (w'.heap[gb137]?=some (.cells #[(.slice A0_0 l0_0.length c0_0)] 53 (0,0)))∧jF (w'.heap[gb138]?=some (.cells #[(.slice none 0 0)] 53 (0,0)))∧jF (w'.heap[gb142]?=some (.cells #[u143000] 53 (0,0)))∧jF (Below w.heap.size w w'))
    case atStart=>exact ⟨(a2),(t139),(.slice Ao12 t139.length co12),(sq),H',⟨Nat.le_refl _⟩,⟨rq HO_143000.out⟩,⟨kq BK137.out⟩,⟨kq BK138.out⟩,⟨kq BK142.out⟩,⟨Y50⟩⟩
    case round =>
     clear H'
     try clear c1
     try clear c2
     try clear p2
     try clear c8
     try clear c9
     try clear c11
     try clear c13
     try clear c14
     try clear c16
     try clear c16b0
     try clear c16b1
     try clear c17
     try clear c18
     try clear c19
     try clear c21
     try clear hcz15_0
     try clear hcz20_0
     try clear hcz22_0
     try clear hcz9_0
     try clear hfz15_0
     try clear hfz20_0
     try clear hfz22_0
     try clear hfz9_0
     try clear p2
     obtain ⟨x8_2,x143000_2,u143000,rfl,HA,HK2,HO_143000,BK137,BK138,BK142,HB⟩:=hrel
     cases gk with
     | zero=>exact absurd HA.out (by simp [jwa.l0])
     | succ k2 =>
      have H:=HA.out
      clear HA
      simp only [jwa.l0] at H
      by_cases c23:0≤x8_2
      ·rw [if_pos c23] at H
       have c23b0:decide (0≤x8_2)=true:=dzT c23
       clear c23
       by_cases c24:x8_2<(x143000_2.length:Int)
       ·rw [if_pos c24] at H
        have c24b0:decide (x8_2<(x143000_2.length:Int))=true:=dzT c24
        clear c24
        by_cases c25:((jA x143000_2 x8_2).f3)≥0
        ·rw [if_pos c25] at H
         have c25b0:decide (0≤((jA x143000_2 x8_2).f3))=true:=dzT c25
         clear c25
         by_cases c26:((jA x143000_2 x8_2).f3)=a1
         ·rw [if_pos c26] at H
          have c26b0:(((jA x143000_2 x8_2).f3) == a1)=true:=beq_iff_eq.mpr c26
          have c26b1:(((jA x143000_2 x8_2).f3) != a1)=false:=bne_eq_false_iff_eq.mpr c26
          clear c26
          obtain ⟨y146,hy146⟩:∃ y_:List (S90),y_=(x143000_2.set (x8_2:Int).toNat (⟨(jA x143000_2 x8_2).f0,(jA x143000_2 x8_2).f1,(jA x143000_2 x8_2).f2,(-1),(jA x143000_2 x8_2).f4⟩:S90)):=⟨_,rfl⟩
          replace H:(if 0≤a1 then (if a1<(x143000_2.length:Int) then (some (y146.set (a1:Int).toNat (⟨(jA y146 a1).f0,(jA y146 a1).f1,(jA y146 a1).f2,a2,(jA y146 a1).f4⟩:S90))) else (none)) else (none))=some r:=by first |(rw [hy146];with_reducible exact H) |(have H2_:=(Option.bind_some _ _).symm.trans H;rw [hy146];with_reducible exact H2_) |(have H2_:=(Option.bind_some _ _).symm.trans H;with_reducible exact H2_) | with_reducible exact H |(rw [hy146];exact H) | exact H
          have Ny146:=am hy146
          clear hy146
          by_cases c28:0≤a1
          ·rw [if_pos c28] at H
           have c28b0:decide (0≤a1)=true:=dzT c28
           clear c28
           by_cases c29:a1<(x143000_2.length:Int)
           ·rw [if_pos c29] at H
            have c29b0:decide (a1<(x143000_2.length:Int))=true:=dzT c29
            clear c29
            obtain ⟨y147,hy147⟩:∃ y_:List (S90),y_=(y146.set (a1:Int).toNat (⟨(jA y146 a1).f0,(jA y146 a1).f1,(jA y146 a1).f2,a2,(jA y146 a1).f4⟩:S90)):=⟨_,rfl⟩
            replace H:(some y147)=some r:=by first |(rw [hy147];with_reducible exact H) |(have H2_:=(Option.bind_some _ _).symm.trans H;rw [hy147];with_reducible exact H2_) |(have H2_:=(Option.bind_some _ _).symm.trans H;with_reducible exact H2_) | with_reducible exact H |(rw [hy147];exact H) | exact H
            have Ny147:=am hy147
            clear hy147
            obtain rfl:=Option.some.inj H
            have hnb31:=NB142_137.out
            have hnc31:=NB137_142.out
            have hnb32:=NB142_138.out
            have hnc32:=NB138_142.out
            have hcz33_0:=bc0 BK142.out
            have hfz33_0:=ja BK142.out 0
            obtain ⟨Ao34,co34,eo34⟩:=Kd.jM HO_143000.out
            subst eo34
            have p143:0≤(x8_2:Int):=ozD (uq)
            have q143:x8_2<(x143000_2.length:Int):=ozD (uq)
            obtain ⟨ad143,e143,hx143_0,hx143_1,hx143_2,hx143_3,hx143_4⟩:=at_T90 (Kd.jv HO_143000.out).2.2 x8_2 p143 q143
            cases e143
            replace p143:=ezT p143
            replace q143:=ezT q143
            have p145:0≤(x8_2:Int):=ozD (uq)
            have q145:x8_2<(x143000_2.length:Int):=ozD (uq)
            obtain ⟨ad145,e145,hx145_0,hx145_1,hx145_2,hx145_3,hx145_4⟩:=at_T90 (Kd.jv HO_143000.out).2.2 x8_2 p145 q145
            obtain rfl:ad143=ad145:=(by injection e145)
            replace p145:=ezT p145
            replace q145:=ezT q145
            have p27:0≤(x8_2:Int):=ozD (uq)
            have q27:(x8_2:Int)<((x143000_2.length:Int):Int):=ozD (uq)
            obtain ⟨go27,co27,eo27,gb27,gl27,cl27,HG27⟩:=Kd.R_form HO_143000.out (by omega)
            (first | cases eo27 |(injection eo27 with ea_ en_ ec_;(first | subst ea_ |(injection ea_ with ea_;subst ea_));subst ec_;clear en_))
            have GB27:=am gb27
            have GG27:=am HG27
            clear gb27 gl27 HG27
            (first | simp only [add_plain] at hx143_0 | skip)
            (first | simp only [add_plain] at hx143_1 | skip)
            (first | simp only [add_plain] at hx143_2 | skip)
            (first | simp only [add_plain] at hx143_3 | skip)
            (first | simp only [add_plain] at hx143_4 | skip)
            (first | simp only [add_plain] at hx145_0 | skip)
            (first | simp only [add_plain] at hx145_1 | skip)
            (first | simp only [add_plain] at hx145_2 | skip)
            (first | simp only [add_plain] at hx145_3 | skip)
            (first | simp only [add_plain] at hx145_4 | skip)
            obtain ⟨ce27,hcl27,hM27,hcc27,hfr27⟩:=Kd.jZb HO_143000.out z90 (x8_2:Int) p27 q27
            obtain rfl:=jwc hM27
            have hx27_0:wr.cell? ⟨go27,(x8_2:Int).toNat * 5,none⟩=some (.int .i64 ((jA x143000_2 x8_2).f0)):=hcc27 0 _ rfl
            have hx27_1:wr.cell? ⟨go27,(x8_2:Int).toNat * 5+1,none⟩=some (.int .i64 ((jA x143000_2 x8_2).f1)):=hcc27 1 _ rfl
            have hx27_2:wr.cell? ⟨go27,(x8_2:Int).toNat * 5+2,none⟩=some (.int .i64 ((jA x143000_2 x8_2).f2)):=hcc27 2 _ rfl
            have hx27_3:wr.cell? ⟨go27,(x8_2:Int).toNat * 5+3,none⟩=some (.int .i64 ((jA x143000_2 x8_2).f3)):=hcc27 3 _ rfl
            have hx27_4:wr.cell? ⟨go27,(x8_2:Int).toNat * 5+4,none⟩=some (.bool ((jA x143000_2 x8_2).f4)):=hcc27 4 _ rfl
            have hf27_0:wr.frozen? ⟨go27,(x8_2:Int).toNat * 5,none⟩=false:=hfr27 0
            have hf27_1:wr.frozen? ⟨go27,(x8_2:Int).toNat * 5+1,none⟩=false:=hfr27 1
            have hf27_2:wr.frozen? ⟨go27,(x8_2:Int).toNat * 5+2,none⟩=false:=hfr27 2
            have hf27_3:wr.frozen? ⟨go27,(x8_2:Int).toNat * 5+3,none⟩=false:=hfr27 3
            have hf27_4:wr.frozen? ⟨go27,(x8_2:Int).toNat * 5+4,none⟩=false:=hfr27 4
            clear hcl27 hcc27 hfr27 hM27
            replace p27:=ezT p27
            replace q27:=ezT q27
            have HX35:=am (show Kd.R k90 90 wr w.heap.size (fun _=>True) (.slice (some ⟨go27,0,none⟩) x143000_2.length co34) x143000_2 from (rq HO_143000.out))
            obtain ⟨ce35,hcl35,hM35,hcc35,hfr35⟩:=Kd.jZb HX35.out z90 (x8_2:Int) (ozD (uq)) (by have h_:(x8_2:Int)<((x143000_2.length:Int):Int):=ozD (uq);first | exact h_ |(have e_:=(Kd.jv HO_143000.out).1;omega) | simpa using h_)
            obtain rfl:=jwc hM35
            have HP35:=Kd.R_seg HX35.out (x8_2:Int) (ozD (uq)) (by have h_:(x8_2:Int)<((x143000_2.length:Int):Int):=ozD (uq);first | exact h_ |(have e_:=(Kd.jv HO_143000.out).1;omega) | simpa using h_) (seg:=[.int .i64 (-1)]) (j:=3) hcl35 hcc35 (show 4≤5 from by decide) (x':=(⟨(jA x143000_2 x8_2).f0,(jA x143000_2 x8_2).f1,(jA x143000_2 x8_2).f2,(-1),(jA x143000_2 x8_2).f4⟩:S90)) (k90_mkM _ _ _ (⟨(jA x143000_2 x8_2).f0,(jA x143000_2 x8_2).f1,(jA x143000_2 x8_2).f2,(-1),(jA x143000_2 x8_2).f4⟩:S90) ) (fun _ hk=>hk)
            have hx35_3:=hcc35 3 _ rfl
            (try simp only [show (k90).sz=5 from rfl,Nat.mul_one,Nat.add_zero] at hx35_3)
            have hf35_3:=hfr35 3
            (try simp only [show (k90).sz=5 from rfl,Nat.mul_one,Nat.add_zero] at hf35_3)
            clear hcl35 hcc35 hfr35 hM35
            go_wp2_with (first |((with_reducible refine jic (t:=3) (p:=45) rfl ?_);refine jPb (t:=3) (p:=45) (v:=?vo_w36) (w1:=(wr.setCell ⟨go27,(x8_2:Int).toNat * 5+3,none⟩ (.int .i64 (-1)))) ?hg ?ho ?hn ?hr ?_;(case ho=>rfl);(case hg=>rfl);(case hn=>rfl);(case hr=>exact Y3);intro w36 hw;have hg:wr.grownBy w36 (some go27):=(by rw [hw];exact HP35.2);have hp_:Kd.R k90 90 w36 w.heap.size (fun _=>True) (.slice (some ⟨go27,0,none⟩) x143000_2.length co34) y146:=(by rw [hw,Ny146.out];exact HP35.1);clear HP35;replace BK137:=am (jU (g:=gb137) (o:=.cells #[.slice A0_0 l0_0.length c0_0] 53 (0,0)) (kq BK137.out) hg (Kd.R_ne HO_143000.out BK137.out (by decide)));replace BK138:=am (jU (g:=gb138) (o:=.cells #[.slice none 0 0] 53 (0,0)) (kq BK138.out) hg (Kd.R_ne HO_143000.out BK138.out (by decide)));replace BK142:=am (jU (g:=gb142) (o:=.cells #[.slice (some ⟨go27,0,none⟩) x143000_2.length co34] 53 (0,0)) (kq BK142.out) hg (Kd.R_ne HO_143000.out BK142.out (by decide)));replace HO_143000:=am (hp_);replace HB:=am ((by rw [hw];exact jl (HB.out) GB27.out:Below w.heap.size w w36));clear hg hw hp_;have hcz37_0:=bc0 BK142.out;have hfz37_0:=ja BK142.out 0;have p30:0≤(a1:Int):=ozD (uq);have q30:(a1:Int)<((x143000_2.length:Int):Int):=ozD (uq);obtain ⟨ce30,hcl30,hM30,hcc30,hfr30⟩:=Kd.jZb HO_143000.out z90 (a1:Int) p30 q30;obtain rfl:=jwc hM30;have hx30_0:w36.cell? ⟨go27,(a1:Int).toNat * 5,none⟩=some (.int .i64 ((jA y146 a1).f0)):=hcc30 0 _ rfl;have hx30_1:w36.cell? ⟨go27,(a1:Int).toNat * 5+1,none⟩=some (.int .i64 ((jA y146 a1).f1)):=hcc30 1 _ rfl;have hx30_2:w36.cell? ⟨go27,(a1:Int).toNat * 5+2,none⟩=some (.int .i64 ((jA y146 a1).f2)):=hcc30 2 _ rfl;have hx30_3:w36.cell? ⟨go27,(a1:Int).toNat * 5+3,none⟩=some (.int .i64 ((jA y146 a1).f3)):=hcc30 3 _ rfl;have hx30_4:w36.cell? ⟨go27,(a1:Int).toNat * 5+4,none⟩=some (.bool ((jA y146 a1).f4)):=hcc30 4 _ rfl;have hf30_0:w36.frozen? ⟨go27,(a1:Int).toNat * 5,none⟩=false:=hfr30 0;have hf30_1:w36.frozen? ⟨go27,(a1:Int).toNat * 5+1,none⟩=false:=hfr30 1;have hf30_2:w36.frozen? ⟨go27,(a1:Int).toNat * 5+2,none⟩=false:=hfr30 2;have hf30_3:w36.frozen? ⟨go27,(a1:Int).toNat * 5+3,none⟩=false:=hfr30 3;have hf30_4:w36.frozen? ⟨go27,(a1:Int).toNat * 5+4,none⟩=false:=hfr30 4;clear hcl30 hcc30 hfr30 hM30;replace p30:=ezT p30;replace q30:=ezT q30;have HX38:=am (show Kd.R k90 90 w36 w.heap.size (fun _=>True) (.slice (some ⟨go27,0,none⟩) x143000_2.length co34) y146 from (rq HO_143000.out));obtain ⟨ce38,hcl38,hM38,hcc38,hfr38⟩:=Kd.jZb HX38.out z90 (a1:Int) (ozD (uq)) (by have h_:(a1:Int)<((x143000_2.length:Int):Int):=ozD (uq);first | exact h_ |(have e_:=(Kd.jv HO_143000.out).1;omega) | simpa using h_);obtain rfl:=jwc hM38;have HP38:=Kd.R_seg HX38.out (a1:Int) (ozD (uq)) (by have h_:(a1:Int)<((x143000_2.length:Int):Int):=ozD (uq);first | exact h_ |(have e_:=(Kd.jv HO_143000.out).1;omega) | simpa using h_) (seg:=[.int .i64 a2]) (j:=3) hcl38 hcc38 (show 4≤5 from by decide) (x':=(⟨(jA y146 a1).f0,(jA y146 a1).f1,(jA y146 a1).f2,a2,(jA y146 a1).f4⟩:S90)) (k90_mkM _ _ _ (⟨(jA y146 a1).f0,(jA y146 a1).f1,(jA y146 a1).f2,a2,(jA y146 a1).f4⟩:S90) ) (fun _ hk=>hk);have hx38_3:=hcc38 3 _ rfl;(try simp only [show (k90).sz=5 from rfl,Nat.mul_one,Nat.add_zero] at hx38_3);have hf38_3:=hfr38 3;(try simp only [show (k90).sz=5 from rfl,Nat.mul_one,Nat.add_zero] at hf38_3);clear hcl38 hcc38 hfr38 hM38) |((with_reducible refine jic (t:=3) (p:=51) rfl ?_);refine jPb (t:=3) (p:=51) (v:=?vo_w39) (w1:=(w36.setCell ⟨go27,(a1:Int).toNat * 5+3,none⟩ (.int .i64 a2))) ?hg ?ho ?hn ?hr ?_;(case ho=>rfl);(case hg=>rfl);(case hn=>rfl);(case hr=>exact Y3);intro w39 hw;have hg:w36.grownBy w39 (some go27):=(by rw [hw];exact HP38.2);have hp_:Kd.R k90 90 w39 w.heap.size (fun _=>True) (.slice (some ⟨go27,0,none⟩) x143000_2.length co34) y147:=(by rw [hw,Ny147.out];exact HP38.1);clear HP38;replace BK137:=am (jU (g:=gb137) (o:=.cells #[.slice A0_0 l0_0.length c0_0] 53 (0,0)) (kq BK137.out) hg (Kd.R_ne HO_143000.out BK137.out (by decide)));replace BK138:=am (jU (g:=gb138) (o:=.cells #[.slice none 0 0] 53 (0,0)) (kq BK138.out) hg (Kd.R_ne HO_143000.out BK138.out (by decide)));replace BK142:=am (jU (g:=gb142) (o:=.cells #[.slice (some ⟨go27,0,none⟩) x143000_2.length co34] 53 (0,0)) (kq BK142.out) hg (Kd.R_ne HO_143000.out BK142.out (by decide)));replace HO_143000:=am (hp_);replace HB:=am ((by rw [hw];exact jl (HB.out) GB27.out:Below w.heap.size w w39));clear hg hw hp_;have hcz40_0:=bc0 BK142.out;have hfz40_0:=ja BK142.out 0;have hnb41:=NB138_137.out;have hnc41:=NB137_138.out;have hcz42_0:=bc0 BK138.out;have hfz42_0:=ja BK138.out 0))
            refine bodyPost_ret (results_cell_row rfl _ _ gb138 53 #[.slice (some ⟨go27,0,none⟩) x143000_2.length co34] (0,0) _ rfl (Y100) Try.underlying53 rfl (by kernel_rfl)) rfl ?_
            exact ⟨_,Y0,by (with_reducible repeat (first | apply Kd.jka | apply Kd.joa | apply Kd.jua));exact Kd.jH (Kd.jEa (p:=⟨gb138,0,none⟩) (Kd.jha HO_143000.out BK138.out (by decide)) (fun _ hk=>hk.2) (.slice (some ⟨go27,0,none⟩) x143000_2.length co34)) (fun _ hk=>trivial),Y50⟩
           ·rw [if_neg c29] at H
            exact absurd H (by simp)
          ·rw [if_neg c28] at H
           exact absurd H (by simp)
         ·rw [if_neg c26] at H
          have c26b0:(((jA x143000_2 x8_2).f3) == a1)=false:=beq_eq_false_iff_ne.mpr c26
          have c26b1:(((jA x143000_2 x8_2).f3) != a1)=true:=bne_iff_ne.mpr c26
          have H':=am H
          clear H
          have hnb43:=NB142_137.out
          have hnc43:=NB137_142.out
          have hnb44:=NB142_138.out
          have hnc44:=NB138_142.out
          have hcz45_0:=bc0 BK142.out
          have hfz45_0:=ja BK142.out 0
          obtain ⟨Ao46,co46,eo46⟩:=Kd.jM HO_143000.out
          subst eo46
          have p143:0≤(x8_2:Int):=ozD (uq)
          have q143:x8_2<(x143000_2.length:Int):=ozD (uq)
          obtain ⟨ad143,e143,hx143_0,hx143_1,hx143_2,hx143_3,hx143_4⟩:=at_T90 (Kd.jv HO_143000.out).2.2 x8_2 p143 q143
          cases e143
          replace p143:=ezT p143
          replace q143:=ezT q143
          have p145:0≤(x8_2:Int):=ozD (uq)
          have q145:x8_2<(x143000_2.length:Int):=ozD (uq)
          obtain ⟨ad145,e145,hx145_0,hx145_1,hx145_2,hx145_3,hx145_4⟩:=at_T90 (Kd.jv HO_143000.out).2.2 x8_2 p145 q145
          obtain rfl:ad143=ad145:=(by injection e145)
          replace p145:=ezT p145
          replace q145:=ezT q145
          have p148:0≤(x8_2:Int):=ozD (uq)
          have q148:x8_2<(x143000_2.length:Int):=ozD (uq)
          obtain ⟨ad148,e148,hx148_0,hx148_1,hx148_2,hx148_3,hx148_4⟩:=at_T90 (Kd.jv HO_143000.out).2.2 x8_2 p148 q148
          obtain rfl:ad143=ad148:=(by injection e148)
          replace p148:=ezT p148
          replace q148:=ezT q148
          go_wp2
          go_roundg k2
          case measure=>have:=HJ4.out;have:=HK2.out;omega
          case rel=>exact ⟨((jA x143000_2 x8_2).f3),(x143000_2),(.slice (some ad143) x143000_2.length co46),(sq),H',⟨by have:=HJ4.out;have:=HK2.out;omega⟩,⟨rq HO_143000.out⟩,⟨kq BK137.out⟩,⟨kq BK138.out⟩,⟨kq BK142.out⟩,⟨Y50⟩⟩
        ·rw [if_neg c25] at H
         have c25b0:decide (0≤((jA x143000_2 x8_2).f3))=false:=dzF c25
         clear c25
         by_cases c47:0≤a1
         ·rw [if_pos c47] at H
          have c47b0:decide (0≤a1)=true:=dzT c47
          clear c47
          by_cases c48:a1<(x143000_2.length:Int)
          ·rw [if_pos c48] at H
           have c48b0:decide (a1<(x143000_2.length:Int))=true:=dzT c48
           clear c48
           obtain ⟨y144,hy144⟩:∃ y_:List (S90),y_=(x143000_2.set (a1:Int).toNat (⟨(jA x143000_2 a1).f0,(jA x143000_2 a1).f1,(jA x143000_2 a1).f2,a2,(jA x143000_2 a1).f4⟩:S90)):=⟨_,rfl⟩
           replace H:(some y144)=some r:=by first |(rw [hy144];with_reducible exact H) |(have H2_:=(Option.bind_some _ _).symm.trans H;rw [hy144];with_reducible exact H2_) |(have H2_:=(Option.bind_some _ _).symm.trans H;with_reducible exact H2_) | with_reducible exact H |(rw [hy144];exact H) | exact H
           have Ny144:=am hy144
           clear hy144
           obtain rfl:=Option.some.inj H
           have hnb50:=NB142_137.out
           have hnc50:=NB137_142.out
           have hnb51:=NB142_138.out
           have hnc51:=NB138_142.out
           have hcz52_0:=bc0 BK142.out
           have hfz52_0:=ja BK142.out 0
           obtain ⟨Ao53,co53,eo53⟩:=Kd.jM HO_143000.out
           subst eo53
           have p143:0≤(x8_2:Int):=ozD (uq)
           have q143:x8_2<(x143000_2.length:Int):=ozD (uq)
           obtain ⟨ad143,e143,hx143_0,hx143_1,hx143_2,hx143_3,hx143_4⟩:=at_T90 (Kd.jv HO_143000.out).2.2 x8_2 p143 q143
           cases e143
           replace p143:=ezT p143
           replace q143:=ezT q143
           have p49:0≤(a1:Int):=ozD (uq)
           have q49:(a1:Int)<((x143000_2.length:Int):Int):=ozD (uq)
           obtain ⟨go49,co49,eo49,gb49,gl49,cl49,HG49⟩:=Kd.R_form HO_143000.out (by omega)
           (first | cases eo49 |(injection eo49 with ea_ en_ ec_;(first | subst ea_ |(injection ea_ with ea_;subst ea_));subst ec_;clear en_))
           have GB49:=am gb49
           have GG49:=am HG49
           clear gb49 gl49 HG49
           (first | simp only [add_plain] at hx143_0 | skip)
           (first | simp only [add_plain] at hx143_1 | skip)
           (first | simp only [add_plain] at hx143_2 | skip)
           (first | simp only [add_plain] at hx143_3 | skip)
           (first | simp only [add_plain] at hx143_4 | skip)
           (first | simp only [add_plain] at hx145_0 | skip)
           (first | simp only [add_plain] at hx145_1 | skip)
           (first | simp only [add_plain] at hx145_2 | skip)
           (first | simp only [add_plain] at hx145_3 | skip)
           (first | simp only [add_plain] at hx145_4 | skip)
           (first | simp only [add_plain] at hx148_0 | skip)
           (first | simp only [add_plain] at hx148_1 | skip)
           (first | simp only [add_plain] at hx148_2 | skip)
           (first | simp only [add_plain] at hx148_3 | skip)
           (first | simp only [add_plain] at hx148_4 | skip)
           obtain ⟨ce49,hcl49,hM49,hcc49,hfr49⟩:=Kd.jZb HO_143000.out z90 (a1:Int) p49 q49
           obtain rfl:=jwc hM49
           have hx49_0:wr.cell? ⟨go49,(a1:Int).toNat * 5,none⟩=some (.int .i64 ((jA x143000_2 a1).f0)):=hcc49 0 _ rfl
           have hx49_1:wr.cell? ⟨go49,(a1:Int).toNat * 5+1,none⟩=some (.int .i64 ((jA x143000_2 a1).f1)):=hcc49 1 _ rfl
           have hx49_2:wr.cell? ⟨go49,(a1:Int).toNat * 5+2,none⟩=some (.int .i64 ((jA x143000_2 a1).f2)):=hcc49 2 _ rfl
           have hx49_3:wr.cell? ⟨go49,(a1:Int).toNat * 5+3,none⟩=some (.int .i64 ((jA x143000_2 a1).f3)):=hcc49 3 _ rfl
           have hx49_4:wr.cell? ⟨go49,(a1:Int).toNat * 5+4,none⟩=some (.bool ((jA x143000_2 a1).f4)):=hcc49 4 _ rfl
           have hf49_0:wr.frozen? ⟨go49,(a1:Int).toNat * 5,none⟩=false:=hfr49 0
           have hf49_1:wr.frozen? ⟨go49,(a1:Int).toNat * 5+1,none⟩=false:=hfr49 1
           have hf49_2:wr.frozen? ⟨go49,(a1:Int).toNat * 5+2,none⟩=false:=hfr49 2
           have hf49_3:wr.frozen? ⟨go49,(a1:Int).toNat * 5+3,none⟩=false:=hfr49 3
           have hf49_4:wr.frozen? ⟨go49,(a1:Int).toNat * 5+4,none⟩=false:=hfr49 4
           clear hcl49 hcc49 hfr49 hM49
           replace p49:=ezT p49
           replace q49:=ezT q49
           have HX54:=am (show Kd.R k90 90 wr w.heap.size (fun _=>True) (.slice (some ⟨go49,0,none⟩) x143000_2.length co53) x143000_2 from (rq HO_143000.out))
           obtain ⟨ce54,hcl54,hM54,hcc54,hfr54⟩:=Kd.jZb HX54.out z90 (a1:Int) (ozD (uq)) (by have h_:(a1:Int)<((x143000_2.length:Int):Int):=ozD (uq);first | exact h_ |(have e_:=(Kd.jv HO_143000.out).1;omega) | simpa using h_)
           obtain rfl:=jwc hM54
           have HP54:=Kd.R_seg HX54.out (a1:Int) (ozD (uq)) (by have h_:(a1:Int)<((x143000_2.length:Int):Int):=ozD (uq);first | exact h_ |(have e_:=(Kd.jv HO_143000.out).1;omega) | simpa using h_) (seg:=[.int .i64 a2]) (j:=3) hcl54 hcc54 (show 4≤5 from by decide) (x':=(⟨(jA x143000_2 a1).f0,(jA x143000_2 a1).f1,(jA x143000_2 a1).f2,a2,(jA x143000_2 a1).f4⟩:S90)) (k90_mkM _ _ _ (⟨(jA x143000_2 a1).f0,(jA x143000_2 a1).f1,(jA x143000_2 a1).f2,a2,(jA x143000_2 a1).f4⟩:S90) ) (fun _ hk=>hk)
           have hx54_3:=hcc54 3 _ rfl
           (try simp only [show (k90).sz=5 from rfl,Nat.mul_one,Nat.add_zero] at hx54_3)
           have hf54_3:=hfr54 3
           (try simp only [show (k90).sz=5 from rfl,Nat.mul_one,Nat.add_zero] at hf54_3)
           clear hcl54 hcc54 hfr54 hM54
           go_wp2_with (first |((with_reducible refine jic (t:=3) (p:=51) rfl ?_);refine jPb (t:=3) (p:=51) (v:=?vo_w55) (w1:=(wr.setCell ⟨go49,(a1:Int).toNat * 5+3,none⟩ (.int .i64 a2))) ?hg ?ho ?hn ?hr ?_;(case ho=>rfl);(case hg=>rfl);(case hn=>rfl);(case hr=>exact Y3);intro w55 hw;have hg:wr.grownBy w55 (some go49):=(by rw [hw];exact HP54.2);have hp_:Kd.R k90 90 w55 w.heap.size (fun _=>True) (.slice (some ⟨go49,0,none⟩) x143000_2.length co53) y144:=(by rw [hw,Ny144.out];exact HP54.1);clear HP54;replace BK137:=am (jU (g:=gb137) (o:=.cells #[.slice A0_0 l0_0.length c0_0] 53 (0,0)) (kq BK137.out) hg (Kd.R_ne HO_143000.out BK137.out (by decide)));replace BK138:=am (jU (g:=gb138) (o:=.cells #[.slice none 0 0] 53 (0,0)) (kq BK138.out) hg (Kd.R_ne HO_143000.out BK138.out (by decide)));replace BK142:=am (jU (g:=gb142) (o:=.cells #[.slice (some ⟨go49,0,none⟩) x143000_2.length co53] 53 (0,0)) (kq BK142.out) hg (Kd.R_ne HO_143000.out BK142.out (by decide)));replace HO_143000:=am (hp_);replace HB:=am ((by rw [hw];exact jl (HB.out) GB49.out:Below w.heap.size w w55));clear hg hw hp_;have hcz56_0:=bc0 BK142.out;have hfz56_0:=ja BK142.out 0;have hnb57:=NB138_137.out;have hnc57:=NB137_138.out;have hcz58_0:=bc0 BK138.out;have hfz58_0:=ja BK138.out 0))
           refine bodyPost_ret (results_cell_row rfl _ _ gb138 53 #[.slice (some ⟨go49,0,none⟩) x143000_2.length co53] (0,0) _ rfl (Y100) Try.underlying53 rfl (by kernel_rfl)) rfl ?_
           exact ⟨_,Y0,by (with_reducible repeat (first | apply Kd.jka | apply Kd.joa | apply Kd.jua));exact Kd.jH (Kd.jEa (p:=⟨gb138,0,none⟩) (Kd.jha HO_143000.out BK138.out (by decide)) (fun _ hk=>hk.2) (.slice (some ⟨go49,0,none⟩) x143000_2.length co53)) (fun _ hk=>trivial),Y50⟩
          ·rw [if_neg c48] at H
           exact absurd H (by simp)
         ·rw [if_neg c47] at H
          exact absurd H (by simp)
       ·rw [if_neg c24] at H
        exact absurd H (by simp)
      ·rw [if_neg c23] at H
       exact absurd H (by simp)
end Go.Proofs.Ytlhfcmbkjddgiaa.P
end
