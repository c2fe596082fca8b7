/- One part of the proofs on this program: functions of the program as plain functions, that the code comes to them, and facts on them. -/
import Derived.ArgAppend
import Derived.Below
import Derived.BigQuiet
import Derived.Deep.AppendLies
import Derived.Deep.CutBlock
import Derived.Deep.DeepCutAuto
import Derived.Deep.Draws
import Derived.Deep.LoopGhost
import Derived.Deep.OwnRows
import Derived.Deep.QuietTactic
import Derived.Deep.RegionHeld3
import Derived.KernelRfl
import Derived.Laws.BitsLemmas
import Derived.Laws.BytesArg
import Derived.Laws.IdiomCopy
import Derived.Laws.MakeOwn
import Derived.Laws.OwnMore
import Derived.Laws.Rows
import Derived.Laws.Slices
import Derived.Laws.StructEq
import Derived.Lib.AppendStr
import Derived.Lib.ConvBytes
import Derived.LoopTactic
import Derived.Maps.AppendAt
import Derived.OrdersHeld
import Derived.OwnWalk
import Derived.RowKit
import Derived.RowKit3
import Derived.Tactics
import Derived.WalkKit
import Derived.WideLaws
import Derived.Test.YtecdfgejmbpclaaProg
import Derived.Test.YtecdfgejmbpclaaYWApart
import Derived.Test.YtecdfgejmbpclaaYWAuto
import Derived.Test.YtecdfgejmbpclaaYWClip
import Derived.Test.YtecdfgejmbpclaaYWFoot
import Derived.Test.YtecdfgejmbpclaaYWGuard
import Derived.Test.YtecdfgejmbpclaaYWIdx
import Derived.Test.YtecdfgejmbpclaaYWKept
import Derived.Test.YtecdfgejmbpclaaYWLast
import Derived.Test.YtecdfgejmbpclaaYWMore
import Derived.Test.YtecdfgejmbpclaaYWN
import Derived.Test.YtecdfgejmbpclaaYWRepsOne
import Derived.Test.YtecdfgejmbpclaaYWShare
import Derived.Test.YtecdfgejmbpclaaYWSome
import Derived.Test.YtecdfgejmbpclaaYWTab
import Derived.Test.YtecdfgejmbpclaaYWWords
section
namespace Go.Proofs.Ytecdfgejmbpclaa.P
open Go.RowKit Go.Proofs.YtecdfgejmbpclaaW.PrintWords Go.Proofs.YtecdfgejmbpclaaW.PrintLast Go.Proofs.YtecdfgejmbpclaaW.PrintMore
attribute [local go_sem] jT jR jda jca jK jJ jS jQ je
set_option linter.unusedVariables false
set_option linter.unusedSimpArgs false
def errW : Option Int → Value
 | none=>.nilIface
 | some c=>.iface 0 (.int .i64 c)
theorem errW_none : errW none = .nilIface := rfl
theorem errW_some (c : Int) : errW (some c) = .iface 0 (.int .i64 c) := rfl
theorem info3 : (Try.prog.info? 3).map (fun i => (i.zero, i.size, i.bytes)) = some (some (.int .i64 0), 1, 8) := by kernel_rfl
theorem info54 : (Try.prog.info? 54).map (fun i => (i.zero, i.size, i.bytes)) = some (some (.agg #[(.int .i64 0), (.int .i64 0), (.int .i64 0), (.int .i64 0), (.bool false)]), 5, 40) := by kernel_rfl
theorem info94 : (Try.prog.info? 94).map (fun i => (i.zero, i.size, i.bytes)) = some (some (.agg #[(.string ⟨#[]⟩), (.int .i64 0)]), 2, 24) := by kernel_rfl
structure S54 where
 f0:Int
 f1:Int
 f2:Int
 f3:Int
 f4:Bool
def z54 : S54 := ⟨(0 : Int), (0 : Int), (0 : Int), (0 : Int), false⟩
def k54 : Kd S54 := Kd.iso (Kd.pair (Kd.int .i64) (Kd.pair (Kd.int .i64) (Kd.pair (Kd.int .i64) (Kd.pair (Kd.int .i64) Kd.bool)))) (fun x : S54 => (x.f0, x.f1, x.f2, x.f3, x.f4))
theorem k54_heap : Kd.Heap k54 := Kd.heap_iso _ (Kd.heap_pair (Kd.heap_int .i64) (Kd.heap_pair (Kd.heap_int .i64) (Kd.heap_pair (Kd.heap_int .i64) (Kd.heap_pair (Kd.heap_int .i64) Kd.heap_bool))))
theorem k54_open {w : World} {x : S54} {cs : List Value} (h : k54.K w x cs) : cs = [.int .i64 x.f0, .int .i64 x.f1, .int .i64 x.f2, .int .i64 x.f3, .bool x.f4] := by
 obtain ⟨_,_,rfl,rfl,⟨_,_,rfl,rfl,⟨_,_,rfl,rfl,⟨_,_,rfl,rfl,rfl⟩⟩⟩⟩:=h
 exact rfl
theorem jeb {w : World} {base : Nat} {ok : Nat → Prop} {x : S54} {cs : List Value} (h : k54.M w base ok x cs) : cs = [.int .i64 x.f0, .int .i64 x.f1, .int .i64 x.f2, .int .i64 x.f3, .bool x.f4] := by
 obtain ⟨_,_,rfl,rfl,⟨_,_,rfl,rfl,⟨_,_,rfl,rfl,⟨_,_,rfl,rfl,rfl⟩⟩⟩⟩:=h
 exact rfl
theorem k54_mkM (w : World) (base : Nat) (ok : Nat → Prop) (x : S54)  : k54.M w base ok x [.int .i64 x.f0, .int .i64 x.f1, .int .i64 x.f2, .int .i64 x.f3, .bool x.f4] := ⟨[.int .i64 x.f0], [.int .i64 x.f1, .int .i64 x.f2, .int .i64 x.f3, .bool x.f4], rfl, rfl, ⟨[.int .i64 x.f1], [.int .i64 x.f2, .int .i64 x.f3, .bool x.f4], rfl, rfl, ⟨[.int .i64 x.f2], [.int .i64 x.f3, .bool x.f4], rfl, rfl, ⟨[.int .i64 x.f3], [.bool x.f4], rfl, rfl, rfl⟩⟩⟩⟩
def jc (xs : List S54) (i : Int) : S54 := xs.getD i.toNat z54
theorem jjb {w : World} {A : Option Addr} {n : Nat} {xs : List S54} (h : Kd.C k54 w A n xs) (i : Int) (h0 : 0 ≤ i) (h1 : i < n) : ∃ ad , A = some ad ∧ w.cell? (ad.add (i.toNat * 5)) = some (.int .i64 (jc xs i).f0) ∧ w.cell? ⟨(ad.add (i.toNat * 5)).block, (ad.add (i.toNat * 5)).off + 1, none⟩ = some (.int .i64 (jc xs i).f1) ∧ w.cell? ⟨(ad.add (i.toNat * 5)).block, (ad.add (i.toNat * 5)).off + 2, none⟩ = some (.int .i64 (jc xs i).f2) ∧ w.cell? ⟨(ad.add (i.toNat * 5)).block, (ad.add (i.toNat * 5)).off + 3, none⟩ = some (.int .i64 (jc xs i).f3) ∧ w.cell? ⟨(ad.add (i.toNat * 5)).block, (ad.add (i.toNat * 5)).off + 4, none⟩ = some (.bool (jc xs i).f4) := by
 obtain ⟨ad,c,e,_,hK,hc0⟩:=Kd.C_get h z54 i h0 h1
 have hc:∀ j u,c[j]?=some u→w.cell? (ad.add (i.toNat * 5+j))=some u:=hc0
 obtain rfl:=k54_open hK
 exact ⟨ad,e,hc 0 _ rfl,by rw [← jtb _ _ 1 (by omega)];exact hc 1 _ rfl,by rw [← jtb _ _ 2 (by omega)];exact hc 2 _ rfl,by rw [← jtb _ _ 3 (by omega)];exact hc 3 _ rfl,by rw [← jtb _ _ 4 (by omega)];exact hc 4 _ rfl⟩
structure S94 where
 f0:ByteArray
 f1:Int
def z94 : S94 := ⟨(⟨#[]⟩ : ByteArray), (0 : Int)⟩
def k94 : Kd S94 := Kd.iso (Kd.pair Kd.string (Kd.int .i64)) (fun x : S94 => (x.f0, x.f1))
theorem k94_open {w : World} {x : S94} {cs : List Value} (h : k94.K w x cs) : cs = [.string x.f0, .int .i64 x.f1] := by
 obtain ⟨_,_,rfl,rfl,rfl⟩:=h
 exact rfl
theorem jZb {w : World} {base : Nat} {ok : Nat → Prop} {x : S94} {cs : List Value} (h : k94.M w base ok x cs) : cs = [.string x.f0, .int .i64 x.f1] := by
 obtain ⟨_,_,rfl,rfl,rfl⟩:=h
 exact rfl
theorem k94_mkM (w : World) (base : Nat) (ok : Nat → Prop) (x : S94)  : k94.M w base ok x [.string x.f0, .int .i64 x.f1] := ⟨[.string x.f0], [.int .i64 x.f1], rfl, rfl, rfl⟩
def jF (xs : List S94) (i : Int) : S94 := xs.getD i.toNat z94
theorem at_T94 {w : World} {A : Option Addr} {n : Nat} {xs : List S94} (h : Kd.C k94 w A n xs) (i : Int) (h0 : 0 ≤ i) (h1 : i < n) : ∃ ad , A = some ad ∧ w.cell? (ad.add (i.toNat * 2)) = some (.string (jF xs i).f0) ∧ w.cell? ⟨(ad.add (i.toNat * 2)).block, (ad.add (i.toNat * 2)).off + 1, none⟩ = some (.int .i64 (jF xs i).f1) := by
 obtain ⟨ad,c,e,_,hK,hc0⟩:=Kd.C_get h z94 i h0 h1
 have hc:∀ j u,c[j]?=some u→w.cell? (ad.add (i.toNat * 2+j))=some u:=hc0
 obtain rfl:=k94_open hK
 exact ⟨ad,e,hc 0 _ rfl,by rw [← jtb _ _ 1 (by omega)];exact hc 1 _ rfl⟩
structure S92 where
 f0:ByteArray
 f1:Int
def z92 : S92 := ⟨(⟨#[]⟩ : ByteArray), (0 : Int)⟩
def k92 : Kd S92 := Kd.iso (Kd.pair Kd.string (Kd.int .i64)) (fun x : S92 => (x.f0, x.f1))
theorem k92_open {w : World} {x : S92} {cs : List Value} (h : k92.K w x cs) : cs = [.string x.f0, .int .i64 x.f1] := by
 obtain ⟨_,_,rfl,rfl,rfl⟩:=h
 exact rfl
theorem k92_mk (w : World) (x : S92)  : k92.K w x [.string x.f0, .int .i64 x.f1] := ⟨[.string x.f0], [.int .i64 x.f1], rfl, rfl, rfl⟩
def jqb (xs : List S92) (i : Int) : S92 := xs.getD i.toNat z92
theorem at_T92 {w : World} {A : Option Addr} {n : Nat} {xs : List S92} (h : Kd.C k92 w A n xs) (i : Int) (h0 : 0 ≤ i) (h1 : i < n) : ∃ ad , A = some ad ∧ w.cell? (ad.add (i.toNat * 2)) = some (.string (jqb xs i).f0) ∧ w.cell? ⟨(ad.add (i.toNat * 2)).block, (ad.add (i.toNat * 2)).off + 1, none⟩ = some (.int .i64 (jqb xs i).f1) := by
 obtain ⟨ad,c,e,_,hK,hc0⟩:=Kd.C_get h z92 i h0 h1
 have hc:∀ j u,c[j]?=some u→w.cell? (ad.add (i.toNat * 2+j))=some u:=hc0
 obtain rfl:=k92_open hK
 exact ⟨ad,e,hc 0 _ rfl,by rw [← jtb _ _ 1 (by omega)];exact hc 1 _ rfl⟩
structure S97 where
 f0:Int
 f1:Int
 f2:Int
 f3:Int
 f4:Bool
def z97 : S97 := ⟨(0 : Int), (0 : Int), (0 : Int), (0 : Int), false⟩
def k97 : Kd S97 := Kd.iso (Kd.pair (Kd.int .i64) (Kd.pair (Kd.int .i64) (Kd.pair (Kd.int .i64) (Kd.pair (Kd.int .i64) Kd.bool)))) (fun x : S97 => (x.f0, x.f1, x.f2, x.f3, x.f4))
theorem k97_open {w : World} {x : S97} {cs : List Value} (h : k97.K w x cs) : cs = [.int .i64 x.f0, .int .i64 x.f1, .int .i64 x.f2, .int .i64 x.f3, .bool x.f4] := by
 obtain ⟨_,_,rfl,rfl,⟨_,_,rfl,rfl,⟨_,_,rfl,rfl,⟨_,_,rfl,rfl,rfl⟩⟩⟩⟩:=h
 exact rfl
theorem k97_mk (w : World) (x : S97)  : k97.K w x [.int .i64 x.f0, .int .i64 x.f1, .int .i64 x.f2, .int .i64 x.f3, .bool x.f4] := ⟨[.int .i64 x.f0], [.int .i64 x.f1, .int .i64 x.f2, .int .i64 x.f3, .bool x.f4], rfl, rfl, ⟨[.int .i64 x.f1], [.int .i64 x.f2, .int .i64 x.f3, .bool x.f4], rfl, rfl, ⟨[.int .i64 x.f2], [.int .i64 x.f3, .bool x.f4], rfl, rfl, ⟨[.int .i64 x.f3], [.bool x.f4], rfl, rfl, rfl⟩⟩⟩⟩
def jpb (xs : List S97) (i : Int) : S97 := xs.getD i.toNat z97
theorem at_T97 {w : World} {A : Option Addr} {n : Nat} {xs : List S97} (h : Kd.C k97 w A n xs) (i : Int) (h0 : 0 ≤ i) (h1 : i < n) : ∃ ad , A = some ad ∧ w.cell? (ad.add (i.toNat * 5)) = some (.int .i64 (jpb xs i).f0) ∧ w.cell? ⟨(ad.add (i.toNat * 5)).block, (ad.add (i.toNat * 5)).off + 1, none⟩ = some (.int .i64 (jpb xs i).f1) ∧ w.cell? ⟨(ad.add (i.toNat * 5)).block, (ad.add (i.toNat * 5)).off + 2, none⟩ = some (.int .i64 (jpb xs i).f2) ∧ w.cell? ⟨(ad.add (i.toNat * 5)).block, (ad.add (i.toNat * 5)).off + 3, none⟩ = some (.int .i64 (jpb xs i).f3) ∧ w.cell? ⟨(ad.add (i.toNat * 5)).block, (ad.add (i.toNat * 5)).off + 4, none⟩ = some (.bool (jpb xs i).f4) := by
 obtain ⟨ad,c,e,_,hK,hc0⟩:=Kd.C_get h z97 i h0 h1
 have hc:∀ j u,c[j]?=some u→w.cell? (ad.add (i.toNat * 5+j))=some u:=hc0
 obtain rfl:=k97_open hK
 exact ⟨ad,e,hc 0 _ rfl,by rw [← jtb _ _ 1 (by omega)];exact hc 1 _ rfl,by rw [← jtb _ _ 2 (by omega)];exact hc 2 _ rfl,by rw [← jtb _ _ 3 (by omega)];exact hc 3 _ rfl,by rw [← jtb _ _ 4 (by omega)];exact hc 4 _ rfl⟩
def jG.f (a0 : Int) (a1 : Int) (a2 : Int) : Option (Bool) := if a1 ≤ a0 then (some (decide (a0 ≤ a2))) else (some false)
set_option maxHeartbeats 8000000 in
set_option maxRecDepth 100000 in
theorem jG.calls (a0 : Int) (a1 : Int) (a2 : Int) (r : Bool) (w : World) (h : jG.f a0 a1 a2 = some r) :
  Calls Try.prog 98 #[.int .i64 a0, .int .i64 a1, .int .i64 a2] w fun e w'=>e=.returned (.bool r)∧jSa w w':=by
 have H:(if a1≤a0 then (some (decide (a0≤a2))) else (some false))=some r:=h
 clear h
 by_cases c4:a1≤a0
 ·rw [if_pos c4] at H
  have c4b0:decide (a1≤a0)=true:=dzT c4
  clear c4
  obtain rfl:=Option.some.inj H
  go_enter Try.func98,Try.ntmps98
  go_wp2
  go_ret
  exact ⟨sq,Y2⟩
 ·rw [if_neg c4] at H
  have c4b0:decide (a1≤a0)=false:=dzF c4
  clear c4
  obtain rfl:=Option.some.inj H
  go_enter Try.func98,Try.ntmps98
  go_wp2
  go_ret
  exact ⟨sq,Y2⟩
def jCa.f (l0_0 : List (S94)) (a1 : Int) : Option (Bool) := (jG.f a1 0 (wrap64 ((l0_0.length : Int) - 1))).bind fun t112 => (some t112)
set_option maxHeartbeats 8000000 in
set_option maxRecDepth 100000 in
theorem jCa.calls (A0_0 : Option Addr) (c0_0 : Nat) (l0_0 : List (S94)) (a1 : Int) (r : Bool) (w : World) (hr0_0 : Kd.C k94 w A0_0 l0_0.length l0_0) (hc0_0 : l0_0.length ≤ c0_0) (h : jCa.f l0_0 a1 = some r) :
  Calls Try.prog 97 #[.agg #[.slice A0_0 l0_0.length c0_0], .int .i64 a1] w fun e w'=>e=.returned (.bool r)∧Below w.heap.size w w':=by
 have hu37:=Try.underlying37
 have HR0_0:=am hr0_0
 have HC0_0:=am hc0_0
 clear hr0_0 hc0_0
 have HB:=am (Below.refl w.heap.size w)
 have H:((jG.f a1 0 (wrap64 ((l0_0.length:Int) - 1))).bind fun t112=>(some t112))=some r:=h
 clear h
 replace H:=bzS H
 obtain ⟨t112,A30,H⟩:=H
 replace H:(some t112)=some r:=H
 have A3:=am A30
 clear A30
 obtain rfl:=Option.some.inj H
 go_enter Try.func97,Try.ntmps97
 go_wp2_with (first |((with_reducible refine jv (N:=2) rfl ?_);refine bE (N:=2) (cs:=#[.slice A0_0 l0_0.length c0_0]) (t:=37) ?_;intro gb111 hg w4 hbox hb;have BK111:=am (hbox);have GW111:=am ((Y0:w.heap.size≤gb111));have GE111:=am ((Y0:w.heap.size≤gb111));replace HB:=am (jd (bq) hb);clear hb hbox hg;have hcz5_0:=bc0 BK111.out;have hfz5_0:=ja BK111.out 0) |((with_reducible refine jw (f:=98) rfl ?_);refine gL (some 10) Try.func98 #[.int .i64 a1, .int .i64 0, .int .i64 (wrap64 ((l0_0.length:Int) - 1))] ?_;(with_reducible refine (jG.calls a1 0 (wrap64 ((l0_0.length:Int) - 1)) t112 _ A3.out).mono ?_);rintro e w' ⟨rfl,⟨nd,rfl⟩⟩;refine ⟨_,rfl,?_⟩))
 go_ret
 exact ⟨Y1,by repeat (first |(with_reducible first | exact HB.out | apply jk | apply jf | apply jl | refine jh ?_ GE111.out) | exact HB.out)⟩
def jza.f (l0_0 : List (S54)) (a1 : Int) : Option (Bool) := if 0 ≤ a1 then (if a1 < (l0_0.length : Int) then ((jG.f ((jc l0_0 a1).f2) (-1) (wrap64 ((l0_0.length : Int) - 1))).bind fun t116 => (if t116 = true then ((jG.f ((jc l0_0 a1).f3) (-1) (wrap64 ((l0_0.length : Int) - 1))).bind fun t117 => (if t117 = true then (if ((jc l0_0 a1).f2) = a1 then (some false) else (some (((jc l0_0 a1).f3) != a1))) else (some false))) else (some false))) else (none)) else (none)
set_option maxHeartbeats 8000000 in
set_option maxRecDepth 100000 in
theorem jza.calls (A0_0 : Option Addr) (c0_0 : Nat) (l0_0 : List (S54)) (a1 : Int) (r : Bool) (w : World) (hr0_0 : Kd.C k54 w A0_0 l0_0.length l0_0) (hc0_0 : l0_0.length ≤ c0_0) (h : jza.f l0_0 a1 = some r) :
  Calls Try.prog 99 #[.agg #[.slice A0_0 l0_0.length c0_0], .int .i64 a1] w fun e w'=>e=.returned (.bool r)∧Below w.heap.size w w':=by
 have hu32:=Try.underlying32
 have hu54:=Try.underlying54
 have HR0_0:=am hr0_0
 have HC0_0:=am hc0_0
 clear hr0_0 hc0_0
 have HB:=am (Below.refl w.heap.size w)
 have H:(if 0≤a1 then (if a1<(l0_0.length:Int) then ((jG.f ((jc l0_0 a1).f2) (-1) (wrap64 ((l0_0.length:Int) - 1))).bind fun t116=>(if t116=true then ((jG.f ((jc l0_0 a1).f3) (-1) (wrap64 ((l0_0.length:Int) - 1))).bind fun t117=>(if t117=true then (if ((jc l0_0 a1).f2)=a1 then (some false) else (some (((jc l0_0 a1).f3) != a1))) else (some false))) else (some false))) else (none)) else (none))=some r:=h
 clear h
 by_cases c3:0≤a1
 ·rw [if_pos c3] at H
  have c3b0:decide (0≤a1)=true:=dzT c3
  clear c3
  by_cases c4:a1<(l0_0.length:Int)
  ·rw [if_pos c4] at H
   have c4b0:decide (a1<(l0_0.length:Int))=true:=dzT c4
   clear c4
   replace H:=bzS H
   obtain ⟨t116,A50,H⟩:=H
   replace H:(if t116=true then ((jG.f ((jc l0_0 a1).f3) (-1) (wrap64 ((l0_0.length:Int) - 1))).bind fun t117=>(if t117=true then (if ((jc l0_0 a1).f2)=a1 then (some false) else (some (((jc l0_0 a1).f3) != a1))) else (some false))) else (some false))=some r:=H
   have A5:=am A50
   clear A50
   by_cases c6:t116=true
   ·subst c6
    have H1:((jG.f ((jc l0_0 a1).f3) (-1) (wrap64 ((l0_0.length:Int) - 1))).bind fun t117=>(if t117=true then (if ((jc l0_0 a1).f2)=a1 then (some false) else (some (((jc l0_0 a1).f3) != a1))) else (some false)))=some r:=by rw [if_pos rfl] at H;exact H
    clear H
    have H:=H1
    clear H1
    replace H:=bzS H
    obtain ⟨t117,A70,H⟩:=H
    replace H:(if t117=true then (if ((jc l0_0 a1).f2)=a1 then (some false) else (some (((jc l0_0 a1).f3) != a1))) else (some false))=some r:=H
    have A7:=am A70
    clear A70
    by_cases c8:t117=true
    ·subst c8
     have H1:(if ((jc l0_0 a1).f2)=a1 then (some false) else (some (((jc l0_0 a1).f3) != a1)))=some r:=by rw [if_pos rfl] at H;exact H
     clear H
     have H:=H1
     clear H1
     by_cases c9:((jc l0_0 a1).f2)=a1
     ·rw [if_pos c9] at H
      have c9b0:(((jc l0_0 a1).f2) == a1)=true:=beq_iff_eq.mpr c9
      have c9b1:(((jc l0_0 a1).f2) != a1)=false:=bne_eq_false_iff_eq.mpr c9
      clear c9
      obtain rfl:=Option.some.inj H
      go_enter Try.func99,Try.ntmps99
      go_wp2_with (first |((with_reducible refine jv (N:=2) rfl ?_);refine bE (N:=2) (cs:=#[.slice A0_0 l0_0.length c0_0]) (t:=32) ?_;intro gb113 hg w10 hbox hb;have BK113:=am (hbox);have GW113:=am ((Y0:w.heap.size≤gb113));have GE113:=am ((Y0:w.heap.size≤gb113));replace HB:=am (jd (bq) hb);clear hb hbox hg;have hcz11_0:=bc0 BK113.out;have hfz11_0:=ja BK113.out 0;have p114:0≤(a1:Int):=ozD (uq);have q114:a1<(l0_0.length:Int):=ozD (uq);obtain ⟨ad114,e114,hx114_0,hx114_1,hx114_2,hx114_3,hx114_4⟩:=jjb HR0_0.out a1 p114 q114;cases e114;replace hx114_0:=cb HB.out hx114_0;replace hx114_1:=cb HB.out hx114_1;replace hx114_2:=cb HB.out hx114_2;replace hx114_3:=cb HB.out hx114_3;replace hx114_4:=cb HB.out hx114_4;replace p114:=ezT p114;replace q114:=ezT q114) |((with_reducible refine jv (N:=6) rfl ?_);refine bE (N:=6) (cs:=#[.int .i64 0, .int .i64 0, .int .i64 0, .int .i64 0, .bool false]) (t:=54) ?_;intro gb115 hg w12 hbox hb;have BK115:=am (hbox);have GW115:=am ((Y18:w.heap.size≤gb115));have GE115:=am ((Y18:w.heap.size≤gb115));have NB113_115:=am ((Y36:gb113≠gb115));have NB115_113:=am ((Y37:gb115≠gb113));replace BK113:=am (jb (g:=gb113) (o:=.cells #[.slice (some ad114) l0_0.length c0_0] 32 (0,0)) (kq BK113.out) hb);replace HB:=am (jd (Y38) hb);clear hb hbox hg;have hnb13:=NB115_113.out;have hnc13:=NB113_115.out;have hcz14_0:=bc0 BK115.out;have hcz14_1:=bc1 BK115.out;have hcz14_2:=bc2 BK115.out;have hcz14_3:=bc3 BK115.out;have hcz14_4:w12.cell? ⟨gb115,4,none⟩=some (.bool false):=(jL BK115.out 4).trans rfl;have hfz14_0:=ja BK115.out 0;have hfz14_1:=ja BK115.out 1;have hfz14_2:=ja BK115.out 2;have hfz14_3:=ja BK115.out 3;have hfz14_4:=ja BK115.out 4) |((with_reducible refine jw (f:=98) rfl ?_);refine gL (some 19) Try.func98 #[.int .i64 ((jc l0_0 a1).f2), .int .i64 (-1), .int .i64 (wrap64 ((l0_0.length:Int) - 1))] ?_;(with_reducible refine (jG.calls ((jc l0_0 a1).f2) (-1) (wrap64 ((l0_0.length:Int) - 1)) true _ A5.out).mono ?_);rintro e w' ⟨rfl,⟨nd,rfl⟩⟩;refine ⟨_,rfl,?_⟩) |(go_at_call 98;(with_reducible refine (jG.calls ((jc l0_0 a1).f3) (-1) (wrap64 ((l0_0.length:Int) - 1)) true _ A7.out).mono ?_);rintro e w' ⟨rfl,⟨nd,rfl⟩⟩))
      go_ret
      exact ⟨Y1,Y39⟩
     ·rw [if_neg c9] at H
      have c9b0:(((jc l0_0 a1).f2) == a1)=false:=beq_eq_false_iff_ne.mpr c9
      have c9b1:(((jc l0_0 a1).f2) != a1)=true:=bne_iff_ne.mpr c9
      obtain rfl:=Option.some.inj H
      go_enter Try.func99,Try.ntmps99
      go_wp2_with (first |((with_reducible refine jv (N:=2) rfl ?_);refine bE (N:=2) (cs:=#[.slice A0_0 l0_0.length c0_0]) (t:=32) ?_;intro gb113 hg w15 hbox hb;have BK113:=am (hbox);have GW113:=am ((Y0:w.heap.size≤gb113));have GE113:=am ((Y0:w.heap.size≤gb113));replace HB:=am (jd (bq) hb);clear hb hbox hg;have hcz16_0:=bc0 BK113.out;have hfz16_0:=ja BK113.out 0;have p114:0≤(a1:Int):=ozD (uq);have q114:a1<(l0_0.length:Int):=ozD (uq);obtain ⟨ad114,e114,hx114_0,hx114_1,hx114_2,hx114_3,hx114_4⟩:=jjb HR0_0.out a1 p114 q114;cases e114;replace hx114_0:=cb HB.out hx114_0;replace hx114_1:=cb HB.out hx114_1;replace hx114_2:=cb HB.out hx114_2;replace hx114_3:=cb HB.out hx114_3;replace hx114_4:=cb HB.out hx114_4;replace p114:=ezT p114;replace q114:=ezT q114) |((with_reducible refine jv (N:=6) rfl ?_);refine bE (N:=6) (cs:=#[.int .i64 0, .int .i64 0, .int .i64 0, .int .i64 0, .bool false]) (t:=54) ?_;intro gb115 hg w17 hbox hb;have BK115:=am (hbox);have GW115:=am ((Y18:w.heap.size≤gb115));have GE115:=am ((Y18:w.heap.size≤gb115));have NB113_115:=am ((Y36:gb113≠gb115));have NB115_113:=am ((Y37:gb115≠gb113));replace BK113:=am (jb (g:=gb113) (o:=.cells #[.slice (some ad114) l0_0.length c0_0] 32 (0,0)) (kq BK113.out) hb);replace HB:=am (jd (Y38) hb);clear hb hbox hg;have hnb18:=NB115_113.out;have hnc18:=NB113_115.out;have hcz19_0:=bc0 BK115.out;have hcz19_1:=bc1 BK115.out;have hcz19_2:=bc2 BK115.out;have hcz19_3:=bc3 BK115.out;have hcz19_4:w17.cell? ⟨gb115,4,none⟩=some (.bool false):=(jL BK115.out 4).trans rfl;have hfz19_0:=ja BK115.out 0;have hfz19_1:=ja BK115.out 1;have hfz19_2:=ja BK115.out 2;have hfz19_3:=ja BK115.out 3;have hfz19_4:=ja BK115.out 4) |((with_reducible refine jw (f:=98) rfl ?_);refine gL (some 19) Try.func98 #[.int .i64 ((jc l0_0 a1).f2), .int .i64 (-1), .int .i64 (wrap64 ((l0_0.length:Int) - 1))] ?_;(with_reducible refine (jG.calls ((jc l0_0 a1).f2) (-1) (wrap64 ((l0_0.length:Int) - 1)) true _ A5.out).mono ?_);rintro e w' ⟨rfl,⟨nd,rfl⟩⟩;refine ⟨_,rfl,?_⟩) |(go_at_call 98;(with_reducible refine (jG.calls ((jc l0_0 a1).f3) (-1) (wrap64 ((l0_0.length:Int) - 1)) true _ A7.out).mono ?_);rintro e w' ⟨rfl,⟨nd,rfl⟩⟩))
      go_ret
      exact ⟨Y1,Y39⟩
    ·replace c8:=Bool.eq_false_iff.mpr c8
     subst c8
     have H1:(some false)=some r:=by rw [if_neg (show ¬ (false=true) by decide)] at H;exact H
     clear H
     have H:=H1
     clear H1
     obtain rfl:=Option.some.inj H
     go_enter Try.func99,Try.ntmps99
     go_wp2_with (first |((with_reducible refine jv (N:=2) rfl ?_);refine bE (N:=2) (cs:=#[.slice A0_0 l0_0.length c0_0]) (t:=32) ?_;intro gb113 hg w20 hbox hb;have BK113:=am (hbox);have GW113:=am ((Y0:w.heap.size≤gb113));have GE113:=am ((Y0:w.heap.size≤gb113));replace HB:=am (jd (bq) hb);clear hb hbox hg;have hcz21_0:=bc0 BK113.out;have hfz21_0:=ja BK113.out 0;have p114:0≤(a1:Int):=ozD (uq);have q114:a1<(l0_0.length:Int):=ozD (uq);obtain ⟨ad114,e114,hx114_0,hx114_1,hx114_2,hx114_3,hx114_4⟩:=jjb HR0_0.out a1 p114 q114;cases e114;replace hx114_0:=cb HB.out hx114_0;replace hx114_1:=cb HB.out hx114_1;replace hx114_2:=cb HB.out hx114_2;replace hx114_3:=cb HB.out hx114_3;replace hx114_4:=cb HB.out hx114_4;replace p114:=ezT p114;replace q114:=ezT q114) |((with_reducible refine jv (N:=6) rfl ?_);refine bE (N:=6) (cs:=#[.int .i64 0, .int .i64 0, .int .i64 0, .int .i64 0, .bool false]) (t:=54) ?_;intro gb115 hg w22 hbox hb;have BK115:=am (hbox);have GW115:=am ((Y18:w.heap.size≤gb115));have GE115:=am ((Y18:w.heap.size≤gb115));have NB113_115:=am ((Y36:gb113≠gb115));have NB115_113:=am ((Y37:gb115≠gb113));replace BK113:=am (jb (g:=gb113) (o:=.cells #[.slice (some ad114) l0_0.length c0_0] 32 (0,0)) (kq BK113.out) hb);replace HB:=am (jd (Y38) hb);clear hb hbox hg;have hnb23:=NB115_113.out;have hnc23:=NB113_115.out;have hcz24_0:=bc0 BK115.out;have hcz24_1:=bc1 BK115.out;have hcz24_2:=bc2 BK115.out;have hcz24_3:=bc3 BK115.out;have hcz24_4:w22.cell? ⟨gb115,4,none⟩=some (.bool false):=(jL BK115.out 4).trans rfl;have hfz24_0:=ja BK115.out 0;have hfz24_1:=ja BK115.out 1;have hfz24_2:=ja BK115.out 2;have hfz24_3:=ja BK115.out 3;have hfz24_4:=ja BK115.out 4) |((with_reducible refine jw (f:=98) rfl ?_);refine gL (some 19) Try.func98 #[.int .i64 ((jc l0_0 a1).f2), .int .i64 (-1), .int .i64 (wrap64 ((l0_0.length:Int) - 1))] ?_;(with_reducible refine (jG.calls ((jc l0_0 a1).f2) (-1) (wrap64 ((l0_0.length:Int) - 1)) true _ A5.out).mono ?_);rintro e w' ⟨rfl,⟨nd,rfl⟩⟩;refine ⟨_,rfl,?_⟩) |(go_at_call 98;(with_reducible refine (jG.calls ((jc l0_0 a1).f3) (-1) (wrap64 ((l0_0.length:Int) - 1)) false _ A7.out).mono ?_);rintro e w' ⟨rfl,⟨nd,rfl⟩⟩))
     go_ret
     exact ⟨Y1,Y39⟩
   ·replace c6:=Bool.eq_false_iff.mpr c6
    subst c6
    have H1:(some false)=some r:=by rw [if_neg (show ¬ (false=true) by decide)] at H;exact H
    clear H
    have H:=H1
    clear H1
    obtain rfl:=Option.some.inj H
    go_enter Try.func99,Try.ntmps99
    go_wp2_with (first |((with_reducible refine jv (N:=2) rfl ?_);refine bE (N:=2) (cs:=#[.slice A0_0 l0_0.length c0_0]) (t:=32) ?_;intro gb113 hg w25 hbox hb;have BK113:=am (hbox);have GW113:=am ((Y0:w.heap.size≤gb113));have GE113:=am ((Y0:w.heap.size≤gb113));replace HB:=am (jd (bq) hb);clear hb hbox hg;have hcz26_0:=bc0 BK113.out;have hfz26_0:=ja BK113.out 0;have p114:0≤(a1:Int):=ozD (uq);have q114:a1<(l0_0.length:Int):=ozD (uq);obtain ⟨ad114,e114,hx114_0,hx114_1,hx114_2,hx114_3,hx114_4⟩:=jjb HR0_0.out a1 p114 q114;cases e114;replace hx114_0:=cb HB.out hx114_0;replace hx114_1:=cb HB.out hx114_1;replace hx114_2:=cb HB.out hx114_2;replace hx114_3:=cb HB.out hx114_3;replace hx114_4:=cb HB.out hx114_4;replace p114:=ezT p114;replace q114:=ezT q114) |((with_reducible refine jv (N:=6) rfl ?_);refine bE (N:=6) (cs:=#[.int .i64 0, .int .i64 0, .int .i64 0, .int .i64 0, .bool false]) (t:=54) ?_;intro gb115 hg w27 hbox hb;have BK115:=am (hbox);have GW115:=am ((Y18:w.heap.size≤gb115));have GE115:=am ((Y18:w.heap.size≤gb115));have NB113_115:=am ((Y36:gb113≠gb115));have NB115_113:=am ((Y37:gb115≠gb113));replace BK113:=am (jb (g:=gb113) (o:=.cells #[.slice (some ad114) l0_0.length c0_0] 32 (0,0)) (kq BK113.out) hb);replace HB:=am (jd (Y38) hb);clear hb hbox hg;have hnb28:=NB115_113.out;have hnc28:=NB113_115.out;have hcz29_0:=bc0 BK115.out;have hcz29_1:=bc1 BK115.out;have hcz29_2:=bc2 BK115.out;have hcz29_3:=bc3 BK115.out;have hcz29_4:w27.cell? ⟨gb115,4,none⟩=some (.bool false):=(jL BK115.out 4).trans rfl;have hfz29_0:=ja BK115.out 0;have hfz29_1:=ja BK115.out 1;have hfz29_2:=ja BK115.out 2;have hfz29_3:=ja BK115.out 3;have hfz29_4:=ja BK115.out 4) |((with_reducible refine jw (f:=98) rfl ?_);refine gL (some 19) Try.func98 #[.int .i64 ((jc l0_0 a1).f2), .int .i64 (-1), .int .i64 (wrap64 ((l0_0.length:Int) - 1))] ?_;(with_reducible refine (jG.calls ((jc l0_0 a1).f2) (-1) (wrap64 ((l0_0.length:Int) - 1)) false _ A5.out).mono ?_);rintro e w' ⟨rfl,⟨nd,rfl⟩⟩;refine ⟨_,rfl,?_⟩))
    go_ret
    exact ⟨Y1,Y39⟩
  ·rw [if_neg c4] at H
   exact absurd H (by simp)
 ·rw [if_neg c3] at H
  exact absurd H (by simp)
def jxa.l0 : Nat → List Int → Int → Int → Option (Bool)
 | 0,_,_,_=>none
 | k+1,x0,x1,x5=>if x5<(x0.length:Int) then (if 0≤x5 then (if (rd x0 x5)=x1 then (some true) else (jxa.l0 k x0 x1 (wrap64 (x5+1)))) else (none)) else (some false)
def jxa.f (k : Nat) (l0 : List Int) (a1 : Int) : Option (Bool) := jxa.l0 k l0 a1 0
set_option maxHeartbeats 8000000 in
set_option maxRecDepth 100000 in
theorem jxa.calls (k : Nat) (A0 : Option Addr) (c0 : Nat) (l0 : List Int) (a1 : Int) (r : Bool) (w : World) (hr0 : Kd.C (Kd.int .i64) w A0 l0.length l0) (hc0 : l0.length ≤ c0) (h : jxa.f k l0 a1 = some r) :
  Calls Try.prog 80 #[.slice A0 l0.length c0, .int .i64 a1] w fun e w'=>e=.returned (.bool r)∧jSa w w':=by
 have HR0:=am hr0
 have HC0:=am hc0
 clear hr0 hc0
 have H:(jxa.l0 k l0 a1 0)=some r:=h
 clear h
 have H':=am H
 clear H
 go_enter Try.func80,Try.ntmps80
 go_wp2
 go_loopg [5] k (fun kq v5 w'=>∃ (x5_1:Int),v5=.int .i64 x5_1∧jy (jxa.l0 kq l0 a1 x5_1=some r)∧jy (kq≤k)∧jSa w w')
 case atStart=>exact ⟨(0),(sq),H',⟨Nat.le_refl _⟩,Y2⟩
 case round =>
  clear H'
  try clear p2
  obtain ⟨x5_1,rfl,HA,HK1,⟨m1,rfl⟩⟩:=hrel
  cases gk with
  | zero=>exact absurd HA.out (by simp [jxa.l0])
  | succ k1 =>
   have H:=HA.out
   clear HA
   simp only [jxa.l0] at H
   by_cases c3:x5_1<(l0.length:Int)
   ·rw [if_pos c3] at H
    have c3b0:decide (x5_1<(l0.length:Int))=true:=dzT c3
    clear c3
    by_cases c4:0≤x5_1
    ·rw [if_pos c4] at H
     have c4b0:decide (0≤x5_1)=true:=dzT c4
     clear c4
     by_cases c5:(rd l0 x5_1)=a1
     ·rw [if_pos c5] at H
      have c5b0:((rd l0 x5_1) == a1)=true:=beq_iff_eq.mpr c5
      have c5b1:((rd l0 x5_1) != a1)=false:=bne_eq_false_iff_eq.mpr c5
      clear c5
      obtain rfl:=Option.some.inj H
      have p101:0≤(x5_1:Int):=ozD (uq)
      have q101:x5_1<(l0.length:Int):=ozD (uq)
      obtain ⟨ad101,e101,hx101_0⟩:=Kd.jrb HR0.out x5_1 p101 q101
      cases e101
      replace p101:=ezT p101
      replace q101:=ezT q101
      go_wp2
      go_ret
      exact ⟨sq,Y2⟩
     ·rw [if_neg c5] at H
      have c5b0:((rd l0 x5_1) == a1)=false:=beq_eq_false_iff_ne.mpr c5
      have c5b1:((rd l0 x5_1) != a1)=true:=bne_iff_ne.mpr c5
      have H':=am H
      clear H
      have p101:0≤(x5_1:Int):=ozD (uq)
      have q101:x5_1<(l0.length:Int):=ozD (uq)
      obtain ⟨ad101,e101,hx101_0⟩:=Kd.jrb HR0.out x5_1 p101 q101
      cases e101
      replace p101:=ezT p101
      replace q101:=ezT q101
      go_wp2
      go_roundg k1
      case measure=>have:=HK1.out;omega
      case rel=>exact ⟨(wrap64 (x5_1+1)),(sq),H',⟨by have:=HK1.out;omega⟩,Y2⟩
    ·rw [if_neg c4] at H
     exact absurd H (by simp)
   ·rw [if_neg c3] at H
    have c3b0:decide (x5_1<(l0.length:Int))=false:=dzF c3
    clear c3
    obtain rfl:=Option.some.inj H
    go_wp2
    go_ret
    exact ⟨sq,Y2⟩
def jea.l0 : Nat → Int → List Int → List (S54) → Option (List Int)
 | 0,_,_,_=>none
 | k+1,x1,x5,x103000=>if x1≥0 then ((jxa.f k x5 x1).bind fun t106=>(if t106=true then (some x5) else (if x5.length<17592186044416 then (if 0≤x1 then (if x1<(x103000.length:Int) then (jea.l0 k ((jc x103000 x1).f3) (x5 ++ [x1]) x103000) else (none)) else (none)) else (none)))) else (some x5)
def jea.f (k : Nat) (l0_0 : List (S54)) (a1 : Int) : Option (List Int) := jea.l0 k a1 (([] : List Int)) l0_0
set_option maxHeartbeats 8000000 in
set_option maxRecDepth 100000 in
theorem jea.calls (k : Nat) (A0_0 : Option Addr) (c0_0 : Nat) (l0_0 : List (S54)) (a1 : Int) (r : List Int) (w : World) (hr0_0 : Kd.C k54 w A0_0 l0_0.length l0_0) (hc0_0 : l0_0.length ≤ c0_0) (h : jea.f k l0_0 a1 = some r) :
  Calls Try.prog 58 #[.agg #[.slice A0_0 l0_0.length c0_0], .int .i64 a1] w fun e w'=>∃ v0_:Value,e=.returned (v0_)∧Kd.R (Kd.int .i64) 3 w' w.heap.size (fun _=>True) v0_ r∧Below w.heap.size w w':=by
 have hu32:=Try.underlying32
 have HR0_0:=am hr0_0
 have HC0_0:=am hc0_0
 clear hr0_0 hc0_0
 have HB:=am (Below.refl w.heap.size w)
 have H:(jea.l0 k a1 (([]:List Int)) l0_0)=some r:=h
 clear h
 obtain ⟨y103,hy103⟩:∃ y_:List Int,y_=(([]:List Int)):=⟨_,rfl⟩
 replace H:(jea.l0 k a1 y103 l0_0)=some r:=by first |(rw [hy103];with_reducible exact H) |(have H2_:=(Option.bind_some _ _).symm.trans H;rw [hy103];with_reducible exact H2_) |(have H2_:=(Option.bind_some _ _).symm.trans H;with_reducible exact H2_) | with_reducible exact H |(rw [hy103];exact H) | exact H
 have Ny103:=am hy103
 clear hy103
 have H':=am H
 clear H
 go_enter Try.func58,Try.ntmps58
 go_wp2_with (first |((with_reducible refine jv (N:=2) rfl ?_);refine bE (N:=2) (cs:=#[.slice A0_0 l0_0.length c0_0]) (t:=32) ?_;intro gb102 hg w3 hbox hb;have BK102:=am (hbox);have GW102:=am ((Y0:w.heap.size≤gb102));have GE102:=am ((Y0:w.heap.size≤gb102));replace HB:=am (jd (bq) hb);clear hb hbox hg) |((with_reducible refine jv (N:=6) rfl ?_);refine Kd.R_lit (Kd.int .i64) _ 3 ?hg (N:=6) ?hd (xs:=([]:List Int)) (inner:=[]) (ok:=fun _=>True) (okp:=fun _=>True) ?hr ?hp (fun _ hk=>hk) trivial (Below.refl _ _) (Nat.le_refl _) (by simp) ?_;(case hd=>rfl);(case hg=>rfl);(case hr=>exact Y3);(case hp=>exact (Reps.none _ _));intro v104 w4 ho5 hb hg_ hnew_;clear hg_ hnew_;(first | rw [← Ny103.out] at ho5 |(simp only [Int.reduceToNat] at ho5;rw [← Ny103.out] at ho5));have HO105:=am (Kd.jya ho5 (jE (Y19)));replace BK102:=am (jb (g:=gb102) (o:=.cells #[.slice A0_0 l0_0.length c0_0] 32 (0,0)) (kq BK102.out) hb);replace HB:=am (jd (Y19) hb);clear hb ho5))
 go_loopg [1,5] k (fun kq v1 v5 w'=>∃ (x1_1:Int) (x5_1:List Int),v1=.int .i64 x1_1∧jy (jea.l0 kq x1_1 x5_1 l0_0=some r)∧jy (kq≤k)∧jy (Kd.R (Kd.int .i64) 3 w' w.heap.size (fun _=>True) v5 x5_1)∧jy (w'.heap[gb102]?=some (.cells #[(.slice A0_0 l0_0.length c0_0)] 32 (0,0)))∧jy (Below w.heap.size w w'))
 case atStart=>exact ⟨(a1),(y103),(sq),H',⟨Nat.le_refl _⟩,⟨rq HO105.out⟩,⟨kq BK102.out⟩,⟨Y19⟩⟩
 case round =>
  clear H'
  try clear p2
  try clear c5
  obtain ⟨x1_1,x5_1,rfl,HA,HK1,HO_5,BK102,HB⟩:=hrel
  cases gk with
  | zero=>exact absurd HA.out (by simp [jea.l0])
  | succ k1 =>
   have H:=HA.out
   clear HA
   simp only [jea.l0] at H
   by_cases c6:x1_1≥0
   ·rw [if_pos c6] at H
    have c6b0:decide (0≤x1_1)=true:=dzT c6
    clear c6
    replace H:=bzS H
    obtain ⟨t106,A70,H⟩:=H
    replace H:(if t106=true then (some x5_1) else (if x5_1.length<17592186044416 then (if 0≤x1_1 then (if x1_1<(l0_0.length:Int) then (jea.l0 k1 ((jc l0_0 x1_1).f3) (x5_1 ++ [x1_1]) l0_0) else (none)) else (none)) else (none)))=some r:=H
    have A7:=am A70
    clear A70
    by_cases c8:t106=true
    ·subst c8
     have H1:(some x5_1)=some r:=by rw [if_pos rfl] at H;exact H
     clear H
     have H:=H1
     clear H1
     obtain rfl:=Option.some.inj H
     obtain ⟨Ao9,co9,eo9⟩:=Kd.jwa HO_5.out
     subst eo9
     go_wp2_with (first |(go_at_call 80;(with_reducible refine (jxa.calls k1 _ _ x5_1 x1_1 true _ ?side1 ?side2 A7.out).mono ?_);(case side1=>exact cq (Kd.jq HO_5.out).2.2);(case side2=>exact (Kd.jq HO_5.out).2.1);rintro e w' ⟨rfl,⟨nd,rfl⟩⟩))
     go_ret
     exact ⟨_,Y1,rq HO_5.out,Y19⟩
    ·replace c8:=Bool.eq_false_iff.mpr c8
     subst c8
     have H1:(if x5_1.length<17592186044416 then (if 0≤x1_1 then (if x1_1<(l0_0.length:Int) then (jea.l0 k1 ((jc l0_0 x1_1).f3) (x5_1 ++ [x1_1]) l0_0) else (none)) else (none)) else (none))=some r:=by rw [if_neg (show ¬ (false=true) by decide)] at H;exact H
     clear H
     have H:=H1
     clear H1
     by_cases c10:x5_1.length<17592186044416
     ·rw [if_pos c10] at H
      have LMc10:=am c10
      clear c10
      obtain ⟨y107,hy107⟩:∃ y_:List Int,y_=(x5_1 ++ [x1_1]):=⟨_,rfl⟩
      replace H:(if 0≤x1_1 then (if x1_1<(l0_0.length:Int) then (jea.l0 k1 ((jc l0_0 x1_1).f3) y107 l0_0) else (none)) else (none))=some r:=by first |(rw [hy107];with_reducible exact H) |(have H2_:=(Option.bind_some _ _).symm.trans H;rw [hy107];with_reducible exact H2_) |(have H2_:=(Option.bind_some _ _).symm.trans H;with_reducible exact H2_) | with_reducible exact H |(rw [hy107];exact H) | exact H
      have Ny107:=am hy107
      clear hy107
      by_cases c11:0≤x1_1
      ·rw [if_pos c11] at H
       have c11b0:decide (0≤x1_1)=true:=dzT c11
       clear c11
       by_cases c12:x1_1<(l0_0.length:Int)
       ·rw [if_pos c12] at H
        have c12b0:decide (x1_1<(l0_0.length:Int))=true:=dzT c12
        clear c12
        have H':=am H
        clear H
        obtain ⟨Ao13,co13,eo13⟩:=Kd.jwa HO_5.out
        subst eo13
        go_wp2_with (first |(go_at_call 80;(with_reducible refine (jxa.calls k1 _ _ x5_1 x1_1 false _ ?side1 ?side2 A7.out).mono ?_);(case side1=>exact cq (Kd.jq HO_5.out).2.2);(case side2=>exact (Kd.jq HO_5.out).2.1);rintro e w' ⟨rfl,⟨nd,rfl⟩⟩) |((with_reducible refine jUb (b:=.append) (xs:=#[.tmp 15, .tmp 17]) rfl ?_);at_builtin;refine Kd.R_append (Kd.int .i64) (w0:=w) w.heap.size rfl (.tmp 15) (.tmp 17) 45 3 (.int .i64 0) 8 rfl Try.underlying45 info3 rfl (by decide) (by omega) (.slice Ao13 x5_1.length co13) x5_1 x1_1 [.int .i64 x1_1] (fun _=>True) (fun _=>False) rfl rfl ?aP (fun _ hk=>hk.elim) ?aF ?aO ?aB ?aS ?aL ?_;(case aP=>exact rfl);(case aB=>exact (Y19));(case aF=>exact (fun _ _=>trivial));(case aO=>exact (rq HO_5.out));(case aS=>exact (jE (Y19)));(case aL=>have:=LMc10.out;omega);intro v108 w14 ho hb hg hat;rw [← Ny107.out] at ho;have n0_:=am (jAb (g:=gb102) (o:=.cells #[.slice A0_0 l0_0.length c0_0] 32 (0,0)) (kq BK102.out) hg (Kd.R_ne HO_5.out BK102.out (by decide)));have n1_:=am (hb);have n2_:=am (ho);clear BK102 HB HO_5;have BK102:=n0_;have HB:=n1_;have HO109:=n2_;clear n0_ n1_ n2_ ho hb hg hat;have hcz15_0:=bc0 BK102.out;have hfz15_0:=ja BK102.out 0;have p110:0≤(x1_1:Int):=ozD (uq);have q110:x1_1<(l0_0.length:Int):=ozD (uq);obtain ⟨ad110,e110,hx110_0,hx110_1,hx110_2,hx110_3,hx110_4⟩:=jjb HR0_0.out x1_1 p110 q110;cases e110;replace hx110_0:=cb HB.out hx110_0;replace hx110_1:=cb HB.out hx110_1;replace hx110_2:=cb HB.out hx110_2;replace hx110_3:=cb HB.out hx110_3;replace hx110_4:=cb HB.out hx110_4;replace p110:=ezT p110;replace q110:=ezT q110))
        go_roundg k1
        case measure=>have:=HK1.out;omega
        case rel=>exact ⟨((jc l0_0 x1_1).f3),(y107),(sq),H',⟨by have:=HK1.out;omega⟩,⟨rq HO109.out⟩,⟨kq BK102.out⟩,⟨Y19⟩⟩
       ·rw [if_neg c12] at H
        exact absurd H (by simp)
      ·rw [if_neg c11] at H
       exact absurd H (by simp)
     ·rw [if_neg c10] at H
      exact absurd H (by simp)
   ·rw [if_neg c6] at H
    have c6b0:decide (0≤x1_1)=false:=dzF c6
    clear c6
    obtain rfl:=Option.some.inj H
    go_wp2
    go_ret
    exact ⟨_,Y1,rq HO_5.out,Y19⟩
def jta.l0 : Nat → ByteArray → Int → Option (Bool)
 | 0,_,_=>none
 | k+1,x0,x3=>if x3<(x0.size:Int) then (if 0≤x3 then (if (bt x0 x3)<97 then (some false) else (if (bt x0 x3) > 122 then (some false) else (jta.l0 k x0 (wrap64 (x3+1))))) else (none)) else ((jG.f (x0.size:Int) 1 6).bind fun t118=>(some t118))
def jta.f (k : Nat) (a0 : ByteArray) : Option (Bool) := jta.l0 k a0 0
set_option maxHeartbeats 8000000 in
set_option maxRecDepth 100000 in
theorem jta.calls (k : Nat) (a0 : ByteArray) (r : Bool) (w : World) (h : jta.f k a0 = some r) :
  Calls Try.prog 109 #[.string a0] w fun e w'=>e=.returned (.bool r)∧jSa w w':=by
 have H:(jta.l0 k a0 0)=some r:=h
 clear h
 have H':=am H
 clear H
 go_enter Try.func109,Try.ntmps109
 go_wp2
 go_loopg [3] k (fun kq v3 w'=>∃ (x3_1:Int),v3=.int .i64 x3_1∧jy (jta.l0 kq a0 x3_1=some r)∧jy (kq≤k)∧jSa w w')
 case atStart=>exact ⟨(0),(sq),H',⟨Nat.le_refl _⟩,Y2⟩
 case round =>
  clear H'
  try clear c1
  obtain ⟨x3_1,rfl,HA,HK1,⟨m1,rfl⟩⟩:=hrel
  cases gk with
  | zero=>exact absurd HA.out (by simp [jta.l0])
  | succ k1 =>
   have H:=HA.out
   clear HA
   simp only [jta.l0] at H
   by_cases c2:x3_1<(a0.size:Int)
   ·rw [if_pos c2] at H
    have c2b0:decide (x3_1<(a0.size:Int))=true:=dzT c2
    clear c2
    by_cases c3:0≤x3_1
    ·rw [if_pos c3] at H
     have c3b0:decide (0≤x3_1)=true:=dzT c3
     clear c3
     by_cases c5:(bt a0 x3_1)<97
     ·rw [if_pos c5] at H
      have c5b0:decide ((bt a0 x3_1)<97)=true:=dzT c5
      clear c5
      obtain rfl:=Option.some.inj H
      have p4:0≤(x3_1:Int):=ozD (uq)
      have q4:x3_1<(a0.size:Int):=ozD (uq)
      have hx4:=bt_at a0 x3_1
      replace p4:=ezT p4
      replace q4:=ezT q4
      go_wp2
      go_ret
      exact ⟨sq,Y2⟩
     ·rw [if_neg c5] at H
      have c5b0:decide ((bt a0 x3_1)<97)=false:=dzF c5
      clear c5
      by_cases c7:(bt a0 x3_1) > 122
      ·rw [if_pos c7] at H
       have c7b0:decide (122<(bt a0 x3_1))=true:=dzT c7
       clear c7
       obtain rfl:=Option.some.inj H
       have p4:0≤(x3_1:Int):=ozD (uq)
       have q4:x3_1<(a0.size:Int):=ozD (uq)
       have hx4:=bt_at a0 x3_1
       replace p4:=ezT p4
       replace q4:=ezT q4
       have p6:0≤(x3_1:Int):=ozD (uq)
       have q6:x3_1<(a0.size:Int):=ozD (uq)
       have hx6:=bt_at a0 x3_1
       replace p6:=ezT p6
       replace q6:=ezT q6
       go_wp2
       go_ret
       exact ⟨sq,Y2⟩
      ·rw [if_neg c7] at H
       have c7b0:decide (122<(bt a0 x3_1))=false:=dzF c7
       clear c7
       have H':=am H
       clear H
       have p4:0≤(x3_1:Int):=ozD (uq)
       have q4:x3_1<(a0.size:Int):=ozD (uq)
       have hx4:=bt_at a0 x3_1
       replace p4:=ezT p4
       replace q4:=ezT q4
       have p6:0≤(x3_1:Int):=ozD (uq)
       have q6:x3_1<(a0.size:Int):=ozD (uq)
       have hx6:=bt_at a0 x3_1
       replace p6:=ezT p6
       replace q6:=ezT q6
       go_wp2
       go_roundg k1
       case measure=>have:=HK1.out;omega
       case rel=>exact ⟨(wrap64 (x3_1+1)),(sq),H',⟨by have:=HK1.out;omega⟩,Y2⟩
    ·rw [if_neg c3] at H
     exact absurd H (by simp)
   ·rw [if_neg c2] at H
    have c2b0:decide (x3_1<(a0.size:Int))=false:=dzF c2
    clear c2
    replace H:=bzS H
    obtain ⟨t118,A80,H⟩:=H
    replace H:(some t118)=some r:=H
    have A8:=am A80
    clear A80
    obtain rfl:=Option.some.inj H
    go_wp2_with (first |((with_reducible refine jw (f:=98) rfl ?_);refine gL (some 22) Try.func98 #[.int .i64 (a0.size:Int), .int .i64 1, .int .i64 6] ?_;(with_reducible refine (jG.calls (a0.size:Int) 1 6 t118 _ A8.out).mono ?_);rintro e w' ⟨rfl,⟨nd,rfl⟩⟩;refine ⟨_,rfl,?_⟩))
    go_ret
    exact ⟨sq,Y2⟩
def joa.l0 : Nat → List (S94) → ByteArray → Int → Option (Int)
 | 0,_,_,_=>none
 | k+1,x0,x1,x5=>if x5<(x0.length:Int) then (if 0≤x5 then (if ((jF x0 x5).f0).toList=x1.toList then (some x5) else (joa.l0 k x0 x1 (wrap64 (x5+1)))) else (none)) else (some (-1))
def joa.f (k : Nat) (l0 : List (S94)) (a1 : ByteArray) : Option (Int) := joa.l0 k l0 a1 0
set_option maxHeartbeats 8000000 in
set_option maxRecDepth 100000 in
theorem joa.calls (k : Nat) (A0 : Option Addr) (c0 : Nat) (l0 : List (S94)) (a1 : ByteArray) (r : Int) (w : World) (hr0 : Kd.C k94 w A0 l0.length l0) (hc0 : l0.length ≤ c0) (h : joa.f k l0 a1 = some r) :
  Calls Try.prog 110 #[.slice A0 l0.length c0, .string a1] w fun e w'=>e=.returned (.int .i64 r)∧jSa w w':=by
 have HR0:=am hr0
 have HC0:=am hc0
 clear hr0 hc0
 have H:(joa.l0 k l0 a1 0)=some r:=h
 clear h
 have H':=am H
 clear H
 go_enter Try.func110,Try.ntmps110
 go_wp2
 go_loopg [5] k (fun kq v5 w'=>∃ (x5_1:Int),v5=.int .i64 x5_1∧jy (joa.l0 kq l0 a1 x5_1=some r)∧jy (kq≤k)∧jSa w w')
 case atStart=>exact ⟨(0),(sq),H',⟨Nat.le_refl _⟩,Y2⟩
 case round =>
  clear H'
  try clear c1
  try clear p2
  obtain ⟨x5_1,rfl,HA,HK1,⟨m1,rfl⟩⟩:=hrel
  cases gk with
  | zero=>exact absurd HA.out (by simp [joa.l0])
  | succ k1 =>
   have H:=HA.out
   clear HA
   simp only [joa.l0] at H
   by_cases c3:x5_1<(l0.length:Int)
   ·rw [if_pos c3] at H
    have c3b0:decide (x5_1<(l0.length:Int))=true:=dzT c3
    clear c3
    by_cases c4:0≤x5_1
    ·rw [if_pos c4] at H
     have c4b0:decide (0≤x5_1)=true:=dzT c4
     clear c4
     by_cases c5:((jF l0 x5_1).f0).toList=a1.toList
     ·rw [if_pos c5] at H
      have c5b0:(((jF l0 x5_1).f0).toList == a1.toList)=true:=beq_iff_eq.mpr c5
      have c5b1:(((jF l0 x5_1).f0).toList != a1.toList)=false:=bne_eq_false_iff_eq.mpr c5
      clear c5
      obtain rfl:=Option.some.inj H
      have p119:0≤(x5_1:Int):=ozD (uq)
      have q119:x5_1<(l0.length:Int):=ozD (uq)
      obtain ⟨ad119,e119,hx119_0,hx119_1⟩:=at_T94 HR0.out x5_1 p119 q119
      cases e119
      replace p119:=ezT p119
      replace q119:=ezT q119
      go_wp2
      go_ret
      exact ⟨sq,Y2⟩
     ·rw [if_neg c5] at H
      have c5b0:(((jF l0 x5_1).f0).toList == a1.toList)=false:=beq_eq_false_iff_ne.mpr c5
      have c5b1:(((jF l0 x5_1).f0).toList != a1.toList)=true:=bne_iff_ne.mpr c5
      have H':=am H
      clear H
      have p119:0≤(x5_1:Int):=ozD (uq)
      have q119:x5_1<(l0.length:Int):=ozD (uq)
      obtain ⟨ad119,e119,hx119_0,hx119_1⟩:=at_T94 HR0.out x5_1 p119 q119
      cases e119
      replace p119:=ezT p119
      replace q119:=ezT q119
      go_wp2
      go_roundg k1
      case measure=>have:=HK1.out;omega
      case rel=>exact ⟨(wrap64 (x5_1+1)),(sq),H',⟨by have:=HK1.out;omega⟩,Y2⟩
    ·rw [if_neg c4] at H
     exact absurd H (by simp)
   ·rw [if_neg c3] at H
    have c3b0:decide (x5_1<(l0.length:Int))=false:=dzF c3
    clear c3
    obtain rfl:=Option.some.inj H
    go_wp2
    go_ret
    exact ⟨sq,Y2⟩
mutual
def jA.l0 : Nat → Int → List (S94) → Option (Bool)
 | 0,_,_=>none
 | k+1,x3,x155000=>if x3<(x155000.length:Int) then (if 0≤x3 then ((jta.f k ((jF x155000 x3).f0)).bind fun t158=>(if t158=true then (if x3≤(x155000.length:Int) then ((joa.f k (x155000.take (x3:Int).toNat) ((jF x155000 x3).f0)).bind fun t163=>(if t163≥0 then (jA.j1 k x3 true x155000) else (if x3=0 then (if ((jF x155000 x3).f1)=(-1) then (if x3 > 0 then ((jG.f ((jF x155000 x3).f1) 0 (wrap64 (x3 - 1))).bind fun t164=>(jA.j1 k x3 (!t164) x155000)) else (jA.j1 k x3 false x155000)) else (jA.j1 k x3 true x155000)) else (if x3 > 0 then ((jG.f ((jF x155000 x3).f1) 0 (wrap64 (x3 - 1))).bind fun t165=>(jA.j1 k x3 (!t165) x155000)) else (jA.j1 k x3 false x155000))))) else (none)) else (jA.j1 k x3 true x155000))) else (none)) else ((jG.f (x155000.length:Int) 1 8).bind fun t155=>(some t155))
def jA.j1 : Nat → Int → Bool → List (S94) → Option (Bool)
 | 0,_,_,_=>none
 | k+1,x3,x51,x155000=>if x51=true then (some false) else (jA.l0 k (wrap64 (x3+1)) x155000)
end
def jA.f (k : Nat) (l0_0 : List (S94)) : Option (Bool) := jA.l0 k 0 l0_0
set_option maxHeartbeats 8000000 in
set_option maxRecDepth 100000 in
theorem jA.calls (k : Nat) (A0_0 : Option Addr) (c0_0 : Nat) (l0_0 : List (S94)) (r : Bool) (w : World) (hr0_0 : Kd.C k94 w A0_0 l0_0.length l0_0) (hc0_0 : l0_0.length ≤ c0_0) (h : jA.f k l0_0 = some r) :
  Calls Try.prog 100 #[.agg #[.slice A0_0 l0_0.length c0_0]] w fun e w'=>e=.returned (.bool r)∧Below w.heap.size w w':=by
 have hu37:=Try.underlying37
 have hu94:=Try.underlying94
 have HR0_0:=am hr0_0
 have HC0_0:=am hc0_0
 clear hr0_0 hc0_0
 have HB:=am (Below.refl w.heap.size w)
 have H:(jA.l0 k 0 l0_0)=some r:=h
 clear h
 have H':=am H
 clear H
 go_enter Try.func100,Try.ntmps100
 go_wp2_with (first |((with_reducible refine jv (N:=1) rfl ?_);refine bE (N:=1) (cs:=#[.slice A0_0 l0_0.length c0_0]) (t:=37) ?_;intro gb154 hg w2 hbox hb;have BK154:=am (hbox);have GW154:=am ((Y0:w.heap.size≤gb154));have GE154:=am ((Y0:w.heap.size≤gb154));replace HB:=am (jd (bq) hb);clear hb hbox hg))
 go_loopg [3] k (fun kq v3 w'=>∃ (x3_1:Int),v3=.int .i64 x3_1∧jy (jA.l0 kq x3_1 l0_0=some r)∧jy (kq≤k)∧jy (w'.heap[gb154]?=some (.cells #[(.slice A0_0 l0_0.length c0_0)] 37 (0,0)))∧jy (Below w.heap.size w w'))
 case atStart=>exact ⟨(0),(sq),H',⟨Nat.le_refl _⟩,⟨kq BK154.out⟩,⟨Y49⟩⟩
 case round =>
  clear H'
  try clear c1
  try clear p2
  obtain ⟨x3_1,rfl,HA,HK1,BK154,HB⟩:=hrel
  cases gk with
  | zero=>exact absurd HA.out (by simp [jA.l0])
  | succ k1 =>
   have H:=HA.out
   clear HA
   simp only [jA.l0] at H
   by_cases c3:x3_1<(l0_0.length:Int)
   ·rw [if_pos c3] at H
    have c3b0:decide (x3_1<(l0_0.length:Int))=true:=dzT c3
    clear c3
    by_cases c4:0≤x3_1
    ·rw [if_pos c4] at H
     have c4b0:decide (0≤x3_1)=true:=dzT c4
     clear c4
     have HC5:=am H
     clear H
     have hcz6_0:=bc0 BK154.out
     have hfz6_0:=ja BK154.out 0
     have p156:0≤(x3_1:Int):=ozD (uq)
     have q156:x3_1<(l0_0.length:Int):=ozD (uq)
     obtain ⟨ad156,e156,hx156_0,hx156_1⟩:=at_T94 HR0_0.out x3_1 p156 q156
     cases e156
     replace hx156_0:=cb HB.out hx156_0
     replace hx156_1:=cb HB.out hx156_1
     replace p156:=ezT p156
     replace q156:=ezT q156
     go_upto_region 5 with (first |((with_reducible refine jv (N:=4) rfl ?_);refine bE (N:=4) (cs:=#[.string (⟨#[]⟩:ByteArray), .int .i64 0]) (t:=94) ?_;intro gb157 hg w7 hbox hb;have BK157:=am (hbox);have GW157:=am ((Y64:w.heap.size≤gb157));have GE157:=am ((Y64:w.heap.size≤gb157));have NB154_157:=am ((by rw [hg];exact Nat.ne_of_lt (jZ (g:=gb154) (o:=.cells #[.slice (some ad156) l0_0.length c0_0] 37 (0,0)) (kq BK154.out)):gb154≠gb157));have NB157_154:=am ((by rw [hg];exact Nat.ne_of_gt (jZ (g:=gb154) (o:=.cells #[.slice (some ad156) l0_0.length c0_0] 37 (0,0)) (kq BK154.out)):gb157≠gb154));replace BK154:=am (jb (g:=gb154) (o:=.cells #[.slice (some ad156) l0_0.length c0_0] 37 (0,0)) (kq BK154.out) hb);replace HB:=am (jd (Y49) hb);clear hb hbox hg;have hnb8:=NB157_154.out;have hnc8:=NB154_157.out;have hcz9_0:=bc0 BK157.out;have hcz9_1:=bc1 BK157.out;have hfz9_0:=ja BK157.out 0;have hfz9_1:=ja BK157.out 1))
     (try simp only [Act.put,List.setIfInBounds_toArray,List.set_cons_zero,List.set_cons_succ])
     go_cut [51] (fun v51 wc=>∃ (kq:Nat) (x51_4:Bool),v51=.bool x51_4∧jy (jA.j1 kq x3_1 x51_4 l0_0=some r)∧jy (kq≤k1)∧jy (wc.heap[gb154]?=some (.cells #[(.slice (some ad156) l0_0.length c0_0)] 37 (0,0)))∧jy (wc.heap[gb157]?=some (.cells #[.string ((jF l0_0 x3_1).f0), .int .i64 ((jF l0_0 x3_1).f1)] 94 (0,0)))∧jy (Below w.heap.size w wc))
     case first =>
      have n0_:jy (((w7.setCell ⟨gb157,0,none⟩ (.string ((jF l0_0 x3_1).f0))).setCell ⟨gb157,1,none⟩ (.int .i64 ((jF l0_0 x3_1).f1))).heap[gb154]?=some (.cells #[.slice (some ad156) l0_0.length c0_0] 37 (0,0))):=⟨by (with_reducible repeat (first | refine jr ?_ _ | refine jC ?_ | refine jB ?_ _));refine jIa ?_ NB154_157.out _;(with_reducible repeat (first | refine jr ?_ _ | refine jC ?_ | refine jB ?_ _));refine jIa ?_ NB154_157.out _;(with_reducible repeat (first | refine jr ?_ _ | refine jC ?_ | refine jB ?_ _));exact BK154.out⟩
      have n1_:jy (((w7.setCell ⟨gb157,0,none⟩ (.string ((jF l0_0 x3_1).f0))).setCell ⟨gb157,1,none⟩ (.int .i64 ((jF l0_0 x3_1).f1))).heap[gb157]?=some (.cells #[.string ((jF l0_0 x3_1).f0), .int .i64 ((jF l0_0 x3_1).f1)] 94 (0,0))):=⟨by (with_reducible repeat (first | refine jr ?_ _ | refine jC ?_ | refine jB ?_ _));refine jTa (cs:=#[.string ((jF l0_0 x3_1).f0), .int .i64 0]) ?_ 1 _ rfl;(with_reducible repeat (first | refine jr ?_ _ | refine jC ?_ | refine jB ?_ _));refine jTa (cs:=#[.string (⟨#[]⟩:ByteArray), .int .i64 0]) ?_ 0 _ rfl;(with_reducible repeat (first | refine jr ?_ _ | refine jC ?_ | refine jB ?_ _));exact BK157.out⟩
      have n2_:jy (Below w.heap.size w ((w7.setCell ⟨gb157,0,none⟩ (.string ((jF l0_0 x3_1).f0))).setCell ⟨gb157,1,none⟩ (.int .i64 ((jF l0_0 x3_1).f1)))):=⟨Y50⟩
      clear BK154 BK157 HB hcz9_0 hcz9_1 hfz9_0 hfz9_1
      generalize ((w7.setCell ⟨gb157,0,none⟩ (.string ((jF l0_0 x3_1).f0))).setCell ⟨gb157,1,none⟩ (.int .i64 ((jF l0_0 x3_1).f1)))=w16 at n0_ n1_ n2_ ⊢
      have BK154:=n0_
      have BK157:=n1_
      have HB:=n2_
      clear n0_ n1_ n2_
      have HRW:=am (Kd.jI HR0_0.out HB.out)
      have e0:w16.cell? ⟨gb157,0,none⟩=some (.string ((jF l0_0 x3_1).f0)):=(jL BK157.out 0).trans rfl
      have e1:w16.cell? ⟨gb157,1,none⟩=some (.int .i64 ((jF l0_0 x3_1).f1)):=(jL BK157.out 1).trans rfl
      have e2:w16.cell? ⟨gb154,0,none⟩=some (.slice (some ad156) l0_0.length c0_0):=(jL BK154.out 0).trans rfl
      have H:=HC5.out
      clear HC5
      obtain ⟨v,hv,H⟩:=bzS H
      have HN:=am (fun W=>(jta.calls k1 _ v W hv).mono fun e w' h=>(⟨h.1,h.2.out⟩:e=.returned (.bool v)∧∃ m,w'=W.drewN m))
      clear hv hx156_0 hx156_1
      generalize hgx:jF l0_0 x3_1=x at H e0 e1 HN BK157
      have HGX:=am hgx
      clear hgx
      cases v with
      | false =>
       have H':=am (show jA.j1 k1 x3_1 true l0_0=some r from H)
       clear H
       go_big_quiet ((go_at_call 109;exact Calls.quiet_of (HN.out _)))
       go_wp2
       go_meet
       case rel=>exact ⟨_,_,rfl,H',⟨by have:=HK1.out;omega⟩,⟨jr BK154.out _⟩,⟨by rw [HGX.out];exact jr BK157.out _⟩,⟨jf HB.out _⟩⟩
      | true =>
       replace H:(if x3_1≤(l0_0.length:Int) then ((joa.f k1 (l0_0.take (x3_1:Int).toNat) x.f0).bind fun t163=>(if t163≥0 then (jA.j1 k1 x3_1 true l0_0) else (if x3_1=0 then (if x.f1=(-1) then (if x3_1 > 0 then ((jG.f x.f1 0 (wrap64 (x3_1 - 1))).bind fun t164=>(jA.j1 k1 x3_1 (!t164) l0_0)) else (jA.j1 k1 x3_1 false l0_0)) else (jA.j1 k1 x3_1 true l0_0)) else (if x3_1 > 0 then ((jG.f x.f1 0 (wrap64 (x3_1 - 1))).bind fun t165=>(jA.j1 k1 x3_1 (!t165) l0_0)) else (jA.j1 k1 x3_1 false l0_0))))) else (none))=some r:=H
       have hle:x3_1≤(l0_0.length:Int):=by have:=ozD c3b0;omega
       have h0:0≤x3_1:=ozD c4b0
       rw [if_pos hle] at H
       obtain ⟨c,hc,H⟩:=bzS H
       obtain ⟨i0,hi0,_,_,_⟩:=info_parts info94
       have hcut:=cut_to (P:=Try.prog) 35 94 .i64 Try.underlying35 hi0 (some ad156) l0_0.length c0_0 x3_1 h0 hle HC0_0.out
       have hr18:=Kd.C_take (m:=(x3_1:Int).toNat) HRW.out (by omega)
       obtain ⟨y,hy⟩:∃ y:List S94,y=l0_0.take (x3_1:Int).toNat:=⟨_,rfl⟩
       have hyl:y.length=(x3_1:Int).toNat:=by rw [hy,List.length_take];omega
       have hyc:y.length≤c0_0:=by have:=HC0_0.out;omega
       rw [← hy] at hr18
       rw [← hyl] at hcut
       rw [← hy] at hc
       have HCN:=am (fun m=>(joa.calls k1 _ _ y x.f0 c (w16.drewN m) (Kd.C_drewN hr18 m) hyc hc).mono fun e w' h=>(⟨h.1,h.2.out⟩:e=.returned (.int .i64 c)∧∃ m',w'=(w16.drewN m).drewN m'))
       clear hr18 hc hy hyl hyc
       have b0:=ezT h0
       have b1:=ezT hle
       by_cases hc0:c≥0
       ·rw [if_pos hc0] at H
        have b2:decide (0≤c)=true:=dzT hc0
        have H':=am H
        clear H hc0 h0 hle
        go_big_quiet (first |(go_at_call 109;exact Calls.quiet_of (HN.out _)) |(go_at_call 110;exact Calls.quiet_of (HCN.out _)))
        go_wp2
        go_meet
        case rel=>exact ⟨_,_,rfl,H',⟨by have:=HK1.out;omega⟩,⟨jr BK154.out _⟩,⟨by rw [HGX.out];exact jr BK157.out _⟩,⟨jf HB.out _⟩⟩
       ·rw [if_neg hc0] at H
        have b2:decide (0≤c)=false:=dzF hc0
        clear hc0
        by_cases hz:x3_1=0
        ·rw [if_pos hz] at H
         have b3:(x3_1 == 0)=true:=beq_iff_eq.2 hz
         have b4:decide (0<x3_1)=false:=dzF (by omega)
         by_cases hf:x.f1 = -1
         ·rw [if_pos hf,if_neg (by omega)] at H
          have b5:(x.f1 != -1)=false:=by simpa using hf
          have H':=am H
          clear H hf h0 hle hz
          go_big_quiet (first |(go_at_call 109;exact Calls.quiet_of (HN.out _)) |(go_at_call 110;exact Calls.quiet_of (HCN.out _)))
          go_wp2
          go_meet
          case rel=>exact ⟨_,_,rfl,H',⟨by have:=HK1.out;omega⟩,⟨jr BK154.out _⟩,⟨by rw [HGX.out];exact jr BK157.out _⟩,⟨jf HB.out _⟩⟩
         ·rw [if_neg hf] at H
          have b5:(x.f1 != -1)=true:=by simpa using hf
          have H':=am H
          clear H hf h0 hle hz
          go_big_quiet (first |(go_at_call 109;exact Calls.quiet_of (HN.out _)) |(go_at_call 110;exact Calls.quiet_of (HCN.out _)))
          go_wp2
          go_meet
          case rel=>exact ⟨_,_,rfl,H',⟨by have:=HK1.out;omega⟩,⟨jr BK154.out _⟩,⟨by rw [HGX.out];exact jr BK157.out _⟩,⟨jf HB.out _⟩⟩
        ·rw [if_neg hz,if_pos (by omega)] at H
         have b3:(x3_1 == 0)=false:=beq_eq_false_iff_ne.2 hz
         have b4:decide (0<x3_1)=true:=dzT (by omega)
         obtain ⟨t,ht,H⟩:=bzS H
         have H':=am H
         have HI:=am (fun W=>(jG.calls _ _ _ t W ht).mono fun e w' h=>(⟨h.1,h.2.out⟩:e=.returned (.bool t)∧∃ m,w'=W.drewN m))
         clear H ht h0 hle hz
         go_big_quiet (first |(go_at_call 109;exact Calls.quiet_of (HN.out _)) |(go_at_call 110;exact Calls.quiet_of (HCN.out _)) |(go_at_call 98;exact Calls.quiet_of (HI.out _)))
         go_wp2
         go_meet
         case rel=>exact ⟨_,_,rfl,H',⟨by have:=HK1.out;omega⟩,⟨jr BK154.out _⟩,⟨by rw [HGX.out];exact jr BK157.out _⟩,⟨jf HB.out _⟩⟩
     case rest =>
      clear HC5
      try clear c1
      try clear c2
      try clear p2
      try clear c3
      try clear q3
      try clear p6
      try clear c11
      try clear c12
      try clear c13
      try clear c21
      try clear c32
      try clear c32b0
      try clear q39
      try clear q39
      obtain ⟨kq,x51_4,rfl,HA,HJ4,BK154,BK157,HB⟩:=hcut
      cases kq with
      | zero=>exact absurd HA.out (by simp [jA.j1])
      | succ kj4 =>
       have H:=HA.out
       clear HA
       simp only [jA.j1] at H
       by_cases c42:x51_4=true
       ·subst c42
        have H1:(some false)=some r:=by rw [if_pos rfl] at H;exact H
        clear H
        have H:=H1
        clear H1
        obtain rfl:=Option.some.inj H
        go_wp2
        go_ret
        exact ⟨Y1,Y50⟩
       ·replace c42:=Bool.eq_false_iff.mpr c42
        subst c42
        have H1:(jA.l0 kj4 (wrap64 (x3_1+1)) l0_0)=some r:=by rw [if_neg (show ¬ (false=true) by decide)] at H;exact H
        clear H
        have H:=H1
        clear H1
        have H':=am H
        clear H
        go_wp2
        go_roundg kj4
        case measure=>have:=HK1.out;have:=HJ4.out;omega
        case rel=>exact ⟨(wrap64 (x3_1+1)),(sq),H',⟨by have:=HK1.out;have:=HJ4.out;omega⟩,⟨kq BK154.out⟩,⟨Y50⟩⟩
    ·rw [if_neg c4] at H
     exact absurd H (by simp)
   ·rw [if_neg c3] at H
    have c3b0:decide (x3_1<(l0_0.length:Int))=false:=dzF c3
    clear c3
    replace H:=bzS H
    obtain ⟨t155,A430,H⟩:=H
    replace H:(some t155)=some r:=H
    have A43:=am A430
    clear A430
    obtain rfl:=Option.some.inj H
    have hcz44_0:=bc0 BK154.out
    have hfz44_0:=ja BK154.out 0
    go_wp2_with (first |((with_reducible refine jw (f:=98) rfl ?_);refine gL (some 55) Try.func98 #[.int .i64 (l0_0.length:Int), .int .i64 1, .int .i64 8] ?_;(with_reducible refine (jG.calls (l0_0.length:Int) 1 8 t155 _ A43.out).mono ?_);rintro e w' ⟨rfl,⟨nd,rfl⟩⟩;refine ⟨_,rfl,?_⟩))
    go_ret
    exact ⟨Y1,Y49⟩
mutual
def jm.l0 : Nat → Int → List (S94) → List (S54) → Option (Bool)
 | 0,_,_,_=>none
 | k+1,x5,x121000,x122000=>if x5<(x122000.length:Int) then (if 0≤x5 then ((jCa.f x121000 ((jc x122000 x5).f0)).bind fun t124=>(if t124=true then ((jG.f ((jc x122000 x5).f1) 0 99).bind fun t125=>(if t125=true then ((jza.f x122000 x5).bind fun t126=>(jm.j1 k x5 (!t126) x121000 x122000)) else (jm.j1 k x5 true x121000 x122000))) else (jm.j1 k x5 true x121000 x122000))) else (none)) else (jm.l1 k 0 x121000 x122000)
def jm.j1 : Nat → Int → Bool → List (S94) → List (S54) → Option (Bool)
 | 0,_,_,_,_=>none
 | k+1,x5,x37,x121000,x122000=>if x37=true then (some false) else (jm.l0 k (wrap64 (x5+1)) x121000 x122000)
def jm.l1 : Nat → Int → List (S94) → List (S54) → Option (Bool)
 | 0,_,_,_=>none
 | k+1,x7,x121000,x122000=>if x7<(x122000.length:Int) then ((jea.f k x122000 x7).bind fun t128=>(if 0≤(wrap64 ((t128.length:Int) - 1)) then (if (wrap64 ((t128.length:Int) - 1))<(t128.length:Int) then (if 0≤(rd t128 (wrap64 ((t128.length:Int) - 1))) then (if (rd t128 (wrap64 ((t128.length:Int) - 1)))<(x122000.length:Int) then (if ((jc x122000 (rd t128 (wrap64 ((t128.length:Int) - 1)))).f3)≥0 then (some false) else (jm.l1 k (wrap64 (x7+1)) x121000 x122000)) else (none)) else (none)) else (none)) else (none))) else ((jA.f k x121000).bind fun t127=>(if t127=true then (some (decide ((x122000.length:Int)≤24))) else (some false)))
end
def jm.f (k : Nat) (l0_0 : List (S94)) (l1_0 : List (S54)) : Option (Bool) := jm.l0 k 0 l0_0 l1_0
set_option maxHeartbeats 8000000 in
set_option maxRecDepth 100000 in
theorem jm.calls (k : Nat) (A0_0 : Option Addr) (c0_0 : Nat) (l0_0 : List (S94)) (A1_0 : Option Addr) (c1_0 : Nat) (l1_0 : List (S54)) (r : Bool) (w : World) (hr0_0 : Kd.C k94 w A0_0 l0_0.length l0_0) (hc0_0 : l0_0.length ≤ c0_0) (hr1_0 : Kd.C k54 w A1_0 l1_0.length l1_0) (hc1_0 : l1_0.length ≤ c1_0) (h : jm.f k l0_0 l1_0 = some r) :
  Calls Try.prog 66 #[.agg #[.slice A0_0 l0_0.length c0_0], .agg #[.slice A1_0 l1_0.length c1_0]] w fun e w'=>e=.returned (.bool r)∧Below w.heap.size w w':=by
 have hu37:=Try.underlying37
 have hu32:=Try.underlying32
 have hu54:=Try.underlying54
 have HR0_0:=am hr0_0
 have HC0_0:=am hc0_0
 clear hr0_0 hc0_0
 have HR1_0:=am hr1_0
 have HC1_0:=am hc1_0
 clear hr1_0 hc1_0
 have HB:=am (Below.refl w.heap.size w)
 have H:(jm.l0 k 0 l0_0 l1_0)=some r:=h
 clear h
 have H':=am H
 clear H
 go_enter Try.func66,Try.ntmps66
 go_wp2_with (first |((with_reducible refine jv (N:=2) rfl ?_);(try (refine jmb (by rfl) ?_;dsimp only));refine jsb ?hg (N:=2) ?hd (cs:=#[.slice A0_0 l0_0.length c0_0]) (t:=37) ?hr ?_;(case hd=>rfl);(case hg=>rfl);(case hr=>exact Y3);intro gb120 hg w3 hbox hb;have BK120:=am (hbox);have GW120:=am ((Y0:w.heap.size≤gb120));have GE120:=am ((Y0:w.heap.size≤gb120));replace HB:=am (jd (bq) hb);clear hb hbox hg) |((with_reducible refine jv (N:=3) rfl ?_);(try (refine jmb (by rfl) ?_;dsimp only));refine jsb ?hg (N:=3) ?hd (cs:=#[.slice A1_0 l1_0.length c1_0]) (t:=32) ?hr ?_;(case hd=>rfl);(case hg=>rfl);(case hr=>exact Y3);intro gb121 hg w4 hbox hb;have BK121:=am (hbox);have GW121:=am ((Y21:w.heap.size≤gb121));have GE121:=am ((Y21:w.heap.size≤gb121));have NB120_121:=am ((Y22:gb120≠gb121));have NB121_120:=am ((Y23:gb121≠gb120));replace BK120:=am (jb (g:=gb120) (o:=.cells #[.slice A0_0 l0_0.length c0_0] 37 (0,0)) (kq BK120.out) hb);replace HB:=am (jd (Y51) hb);clear hb hbox hg))
 repeat (go_quiet (first |((with_reducible refine jv (N:=2) rfl ?_);(try (refine jmb (by rfl) ?_;dsimp only));refine jsb ?hg (N:=2) ?hd (cs:=#[.slice A0_0 l0_0.length c0_0]) (t:=37) ?hr ?_;(case hd=>rfl);(case hg=>rfl);(case hr=>exact Y3);intro gb120 hg w3 hbox hb;have BK120:=am (hbox);have GW120:=am ((Y0:w.heap.size≤gb120));have GE120:=am ((Y0:w.heap.size≤gb120));replace HB:=am (jd (bq) hb);clear hb hbox hg) |((with_reducible refine jv (N:=3) rfl ?_);(try (refine jmb (by rfl) ?_;dsimp only));refine jsb ?hg (N:=3) ?hd (cs:=#[.slice A1_0 l1_0.length c1_0]) (t:=32) ?hr ?_;(case hd=>rfl);(case hg=>rfl);(case hr=>exact Y3);intro gb121 hg w4 hbox hb;have BK121:=am (hbox);have GW121:=am ((Y21:w.heap.size≤gb121));have GE121:=am ((Y21:w.heap.size≤gb121));have NB120_121:=am ((Y22:gb120≠gb121));have NB121_120:=am ((Y23:gb121≠gb120));replace BK120:=am (jb (g:=gb120) (o:=.cells #[.slice A0_0 l0_0.length c0_0] 37 (0,0)) (kq BK120.out) hb);replace HB:=am (jd (Y51) hb);clear hb hbox hg));try go_wp2_with (first |((with_reducible refine jv (N:=2) rfl ?_);(try (refine jmb (by rfl) ?_;dsimp only));refine jsb ?hg (N:=2) ?hd (cs:=#[.slice A0_0 l0_0.length c0_0]) (t:=37) ?hr ?_;(case hd=>rfl);(case hg=>rfl);(case hr=>exact Y3);intro gb120 hg w3 hbox hb;have BK120:=am (hbox);have GW120:=am ((Y0:w.heap.size≤gb120));have GE120:=am ((Y0:w.heap.size≤gb120));replace HB:=am (jd (bq) hb);clear hb hbox hg) |((with_reducible refine jv (N:=3) rfl ?_);(try (refine jmb (by rfl) ?_;dsimp only));refine jsb ?hg (N:=3) ?hd (cs:=#[.slice A1_0 l1_0.length c1_0]) (t:=32) ?hr ?_;(case hd=>rfl);(case hg=>rfl);(case hr=>exact Y3);intro gb121 hg w4 hbox hb;have BK121:=am (hbox);have GW121:=am ((Y21:w.heap.size≤gb121));have GE121:=am ((Y21:w.heap.size≤gb121));have NB120_121:=am ((Y22:gb120≠gb121));have NB121_120:=am ((Y23:gb121≠gb120));replace BK120:=am (jb (g:=gb120) (o:=.cells #[.slice A0_0 l0_0.length c0_0] 37 (0,0)) (kq BK120.out) hb);replace HB:=am (jd (Y51) hb);clear hb hbox hg)))
 go_loopg [5] k (fun kq v5 w'=>∃ (x5_1:Int),v5=.int .i64 x5_1∧jy (jm.l0 kq x5_1 l0_0 l1_0=some r)∧jy (kq≤k)∧jy (w'.heap[gb120]?=some (.cells #[(.slice A0_0 l0_0.length c0_0)] 37 (0,0)))∧jy (w'.heap[gb121]?=some (.cells #[(.slice A1_0 l1_0.length c1_0)] 32 (0,0)))∧jy (Below w.heap.size w w'))
 case atStart=>exact ⟨(0),(sq),H',⟨Nat.le_refl _⟩,⟨kq BK120.out⟩,⟨kq BK121.out⟩,⟨Y4⟩⟩
 case round =>
  clear H'
  try clear c1
  try clear p2
  obtain ⟨x5_1,rfl,HA,HK1,BK120,BK121,HB⟩:=hrel
  cases gk with
  | zero=>exact absurd HA.out (by simp [jm.l0])
  | succ k1 =>
   have H:=HA.out
   clear HA
   simp only [jm.l0] at H
   by_cases c5:x5_1<(l1_0.length:Int)
   ·rw [if_pos c5] at H
    have c5b0:decide (x5_1<(l1_0.length:Int))=true:=dzT c5
    clear c5
    by_cases c6:0≤x5_1
    ·rw [if_pos c6] at H
     have c6b0:decide (0≤x5_1)=true:=dzT c6
     clear c6
     have HC7:=am H
     clear H
     have hnb8:=NB121_120.out
     have hnc8:=NB120_121.out
     have hcz9_0:=bc0 BK121.out
     have hfz9_0:=ja BK121.out 0
     have p122:0≤(x5_1:Int):=ozD (uq)
     have q122:x5_1<(l1_0.length:Int):=ozD (uq)
     obtain ⟨ad122,e122,hx122_0,hx122_1,hx122_2,hx122_3,hx122_4⟩:=jjb HR1_0.out x5_1 p122 q122
     cases e122
     replace hx122_0:=cb HB.out hx122_0
     replace hx122_1:=cb HB.out hx122_1
     replace hx122_2:=cb HB.out hx122_2
     replace hx122_3:=cb HB.out hx122_3
     replace hx122_4:=cb HB.out hx122_4
     replace p122:=ezT p122
     replace q122:=ezT q122
     go_upto_region 5 with (first |((with_reducible refine jv (N:=6) rfl ?_);(try (refine jmb (by rfl) ?_;dsimp only));refine jsb ?hg (N:=6) ?hd (cs:=#[.int .i64 0, .int .i64 0, .int .i64 0, .int .i64 0, .bool false]) (t:=54) ?hr ?_;(case hd=>rfl);(case hg=>rfl);(case hr=>exact Y3);intro gb123 hg w10 hbox hb;have BK123:=am (hbox);have GW123:=am ((Y24:w.heap.size≤gb123));have GE123:=am ((Y24:w.heap.size≤gb123));have NB120_123:=am ((Y22:gb120≠gb123));have NB123_120:=am ((Y23:gb123≠gb120));have NB121_123:=am ((Y52:gb121≠gb123));have NB123_121:=am ((Y53:gb123≠gb121));replace BK120:=am (jb (g:=gb120) (o:=.cells #[.slice A0_0 l0_0.length c0_0] 37 (0,0)) (kq BK120.out) hb);replace BK121:=am (jb (g:=gb121) (o:=.cells #[.slice (some ad122) l1_0.length c1_0] 32 (0,0)) (kq BK121.out) hb);replace HB:=am (jd (Y4) hb);clear hb hbox hg;have hnb11:=NB123_120.out;have hnc11:=NB120_123.out;have hnb12:=NB123_121.out;have hnc12:=NB121_123.out;have hcz13_0:=bc0 BK123.out;have hcz13_1:=bc1 BK123.out;have hcz13_2:=bc2 BK123.out;have hcz13_3:=bc3 BK123.out;have hcz13_4:w10.cell? ⟨gb123,4,none⟩=some (.bool false):=(jL BK123.out 4).trans rfl;have hfz13_0:=ja BK123.out 0;have hfz13_1:=ja BK123.out 1;have hfz13_2:=ja BK123.out 2;have hfz13_3:=ja BK123.out 3;have hfz13_4:=ja BK123.out 4))
     repeat (go_quiet (first |((with_reducible refine jv (N:=6) rfl ?_);(try (refine jmb (by rfl) ?_;dsimp only));refine jsb ?hg (N:=6) ?hd (cs:=#[.int .i64 0, .int .i64 0, .int .i64 0, .int .i64 0, .bool false]) (t:=54) ?hr ?_;(case hd=>rfl);(case hg=>rfl);(case hr=>exact Y3);intro gb123 hg w10 hbox hb;have BK123:=am (hbox);have GW123:=am ((Y24:w.heap.size≤gb123));have GE123:=am ((Y24:w.heap.size≤gb123));have NB120_123:=am ((Y22:gb120≠gb123));have NB123_120:=am ((Y23:gb123≠gb120));have NB121_123:=am ((Y52:gb121≠gb123));have NB123_121:=am ((Y53:gb123≠gb121));replace BK120:=am (jb (g:=gb120) (o:=.cells #[.slice A0_0 l0_0.length c0_0] 37 (0,0)) (kq BK120.out) hb);replace BK121:=am (jb (g:=gb121) (o:=.cells #[.slice (some ad122) l1_0.length c1_0] 32 (0,0)) (kq BK121.out) hb);replace HB:=am (jd (Y4) hb);clear hb hbox hg;have hnb11:=NB123_120.out;have hnc11:=NB120_123.out;have hnb12:=NB123_121.out;have hnc12:=NB121_123.out;have hcz13_0:=bc0 BK123.out;have hcz13_1:=bc1 BK123.out;have hcz13_2:=bc2 BK123.out;have hcz13_3:=bc3 BK123.out;have hcz13_4:w10.cell? ⟨gb123,4,none⟩=some (.bool false):=(jL BK123.out 4).trans rfl;have hfz13_0:=ja BK123.out 0;have hfz13_1:=ja BK123.out 1;have hfz13_2:=ja BK123.out 2;have hfz13_3:=ja BK123.out 3;have hfz13_4:=ja BK123.out 4));go_upto_region 5 with (first |((with_reducible refine jv (N:=6) rfl ?_);(try (refine jmb (by rfl) ?_;dsimp only));refine jsb ?hg (N:=6) ?hd (cs:=#[.int .i64 0, .int .i64 0, .int .i64 0, .int .i64 0, .bool false]) (t:=54) ?hr ?_;(case hd=>rfl);(case hg=>rfl);(case hr=>exact Y3);intro gb123 hg w10 hbox hb;have BK123:=am (hbox);have GW123:=am ((Y24:w.heap.size≤gb123));have GE123:=am ((Y24:w.heap.size≤gb123));have NB120_123:=am ((Y22:gb120≠gb123));have NB123_120:=am ((Y23:gb123≠gb120));have NB121_123:=am ((Y52:gb121≠gb123));have NB123_121:=am ((Y53:gb123≠gb121));replace BK120:=am (jb (g:=gb120) (o:=.cells #[.slice A0_0 l0_0.length c0_0] 37 (0,0)) (kq BK120.out) hb);replace BK121:=am (jb (g:=gb121) (o:=.cells #[.slice (some ad122) l1_0.length c1_0] 32 (0,0)) (kq BK121.out) hb);replace HB:=am (jd (Y4) hb);clear hb hbox hg;have hnb11:=NB123_120.out;have hnc11:=NB120_123.out;have hnb12:=NB123_121.out;have hnc12:=NB121_123.out;have hcz13_0:=bc0 BK123.out;have hcz13_1:=bc1 BK123.out;have hcz13_2:=bc2 BK123.out;have hcz13_3:=bc3 BK123.out;have hcz13_4:w10.cell? ⟨gb123,4,none⟩=some (.bool false):=(jL BK123.out 4).trans rfl;have hfz13_0:=ja BK123.out 0;have hfz13_1:=ja BK123.out 1;have hfz13_2:=ja BK123.out 2;have hfz13_3:=ja BK123.out 3;have hfz13_4:=ja BK123.out 4)))
     (try simp only [Act.put,List.setIfInBounds_toArray,List.set_cons_zero,List.set_cons_succ])
     go_cut [37] (fun v37 wc=>∃ (kq:Nat) (x37_6:Bool),v37=.bool x37_6∧jy (jm.j1 kq x5_1 x37_6 l0_0 l1_0=some r)∧jy (kq≤k1)∧jy (wc.heap[gb120]?=some (.cells #[(.slice A0_0 l0_0.length c0_0)] 37 (0,0)))∧jy (wc.heap[gb121]?=some (.cells #[(.slice (some ad122) l1_0.length c1_0)] 32 (0,0)))∧jy (wc.heap[gb123]?=some (.cells #[.int .i64 ((jc l1_0 x5_1).f0), .int .i64 ((jc l1_0 x5_1).f1), .int .i64 ((jc l1_0 x5_1).f2), .int .i64 ((jc l1_0 x5_1).f3), .bool ((jc l1_0 x5_1).f4)] 54 (0,0)))∧jy (Below w.heap.size w wc))
     case first =>
      have H:=HC7.out
      clear HC7
      replace H:=bzS H
      obtain ⟨t124,A140,H⟩:=H
      replace H:(if t124=true then ((jG.f ((jc l1_0 x5_1).f1) 0 99).bind fun t125=>(if t125=true then ((jza.f l1_0 x5_1).bind fun t126=>(jm.j1 k1 x5_1 (!t126) l0_0 l1_0)) else (jm.j1 k1 x5_1 true l0_0 l1_0))) else (jm.j1 k1 x5_1 true l0_0 l1_0))=some r:=H
      have A14:=am A140
      clear A140
      by_cases c15:t124=true
      ·subst c15
       have H1:((jG.f ((jc l1_0 x5_1).f1) 0 99).bind fun t125=>(if t125=true then ((jza.f l1_0 x5_1).bind fun t126=>(jm.j1 k1 x5_1 (!t126) l0_0 l1_0)) else (jm.j1 k1 x5_1 true l0_0 l1_0)))=some r:=by rw [if_pos rfl] at H;exact H
       clear H
       have H:=H1
       clear H1
       replace H:=bzS H
       obtain ⟨t125,A160,H⟩:=H
       replace H:(if t125=true then ((jza.f l1_0 x5_1).bind fun t126=>(jm.j1 k1 x5_1 (!t126) l0_0 l1_0)) else (jm.j1 k1 x5_1 true l0_0 l1_0))=some r:=H
       have A16:=am A160
       clear A160
       by_cases c17:t125=true
       ·subst c17
        have H1:((jza.f l1_0 x5_1).bind fun t126=>(jm.j1 k1 x5_1 (!t126) l0_0 l1_0))=some r:=by rw [if_pos rfl] at H;exact H
        clear H
        have H:=H1
        clear H1
        replace H:=bzS H
        obtain ⟨t126,A180,H⟩:=H
        replace H:(jm.j1 k1 x5_1 (!t126) l0_0 l1_0)=some r:=H
        have A18:=am A180
        clear A180
        have H':=am H
        clear H
        have hnb19:=NB120_121.out
        have hnc19:=NB121_120.out
        have hnb20:=NB120_123.out
        have hnc20:=NB123_120.out
        have hcz21_0:=bc0 BK120.out
        have hfz21_0:=ja BK120.out 0
        have hnb22:=NB123_121.out
        have hnc22:=NB121_123.out
        have hcz23_0:=bc0 BK123.out
        have hcz23_1:=bc1 BK123.out
        have hcz23_2:=bc2 BK123.out
        have hcz23_3:=bc3 BK123.out
        have hcz23_4:w10.cell? ⟨gb123,4,none⟩=some (.bool false):=(jL BK123.out 4).trans rfl
        have hfz23_0:=ja BK123.out 0
        have hfz23_1:=ja BK123.out 1
        have hfz23_2:=ja BK123.out 2
        have hfz23_3:=ja BK123.out 3
        have hfz23_4:=ja BK123.out 4
        go_wp2_with (first |(go_at_call 97;(with_reducible refine (jCa.calls _ _ l0_0 ((jc l1_0 x5_1).f0) true _ ?side1 ?side2 A14.out).mono ?_);(case side1=>exact Kd.jI HR0_0.out (Y5));(case side2=>exact HC0_0.out);rintro e w24 ⟨rfl,hb⟩;replace BK120:=am (jb (g:=gb120) (o:=.cells #[.slice A0_0 l0_0.length c0_0] 37 (0,0)) (Y14) hb);replace BK121:=am (jb (g:=gb121) (o:=.cells #[.slice (some ad122) l1_0.length c1_0] 32 (0,0)) (Y15) hb);replace BK123:=am (jb (g:=gb123) (o:=.cells #[.int .i64 ((jc l1_0 x5_1).f0), .int .i64 ((jc l1_0 x5_1).f1), .int .i64 ((jc l1_0 x5_1).f2), .int .i64 ((jc l1_0 x5_1).f3), .bool ((jc l1_0 x5_1).f4)] 54 (0,0)) (Y16) hb);replace HB:=am (jd (Y5) hb);(try clear hb);(try clear hb2);(try clear hk);(try clear hi);have hcz25_0:=bc0 BK123.out;have hcz25_1:=bc1 BK123.out;have hcz25_2:=bc2 BK123.out;have hcz25_3:=bc3 BK123.out;have hcz25_4:w24.cell? ⟨gb123,4,none⟩=some (.bool ((jc l1_0 x5_1).f4)):=(jL BK123.out 4).trans rfl;have hfz25_0:=ja BK123.out 0;have hfz25_1:=ja BK123.out 1;have hfz25_2:=ja BK123.out 2;have hfz25_3:=ja BK123.out 3;have hfz25_4:=ja BK123.out 4) |(go_at_call 98;(with_reducible refine (jG.calls ((jc l1_0 x5_1).f1) 0 99 true _ A16.out).mono ?_);rintro e w' ⟨rfl,⟨nd,rfl⟩⟩;(try first | exact ⟨rfl,_,World.drewN_drewN _ _ _⟩ | exact ⟨rfl,_,Eq.trans (World.drewN_drewN _ _ _) (congrArg (World.drewN _) (Nat.add_assoc _ _ _))⟩);have hcz26_0:=bc0 BK121.out;have hfz26_0:=ja BK121.out 0) |(go_at_call 99;(with_reducible refine (jza.calls _ _ l1_0 x5_1 t126 _ ?side1 ?side2 A18.out).mono ?_);(case side1=>exact Y54);(case side2=>exact HC1_0.out);rintro e w27 ⟨rfl,hb⟩;replace BK120:=am (jb (g:=gb120) (o:=.cells #[.slice A0_0 l0_0.length c0_0] 37 (0,0)) (kq BK120.out) hb);replace BK121:=am (jb (g:=gb121) (o:=.cells #[.slice (some ad122) l1_0.length c1_0] 32 (0,0)) (kq BK121.out) hb);replace BK123:=am (jb (g:=gb123) (o:=.cells #[.int .i64 ((jc l1_0 x5_1).f0), .int .i64 ((jc l1_0 x5_1).f1), .int .i64 ((jc l1_0 x5_1).f2), .int .i64 ((jc l1_0 x5_1).f3), .bool ((jc l1_0 x5_1).f4)] 54 (0,0)) (kq BK123.out) hb);replace HB:=am (jd (Y5) hb);(try clear hb);(try clear hb2);(try clear hk);(try clear hi)))
        repeat (go_quiet (first |(go_at_call 97;(with_reducible refine (jCa.calls _ _ l0_0 ((jc l1_0 x5_1).f0) true _ ?side1 ?side2 A14.out).mono ?_);(case side1=>exact Kd.jI HR0_0.out (Y5));(case side2=>exact HC0_0.out);rintro e w24 ⟨rfl,hb⟩;replace BK120:=am (jb (g:=gb120) (o:=.cells #[.slice A0_0 l0_0.length c0_0] 37 (0,0)) (Y14) hb);replace BK121:=am (jb (g:=gb121) (o:=.cells #[.slice (some ad122) l1_0.length c1_0] 32 (0,0)) (Y15) hb);replace BK123:=am (jb (g:=gb123) (o:=.cells #[.int .i64 ((jc l1_0 x5_1).f0), .int .i64 ((jc l1_0 x5_1).f1), .int .i64 ((jc l1_0 x5_1).f2), .int .i64 ((jc l1_0 x5_1).f3), .bool ((jc l1_0 x5_1).f4)] 54 (0,0)) (Y16) hb);replace HB:=am (jd (Y5) hb);(try clear hb);(try clear hb2);(try clear hk);(try clear hi);have hcz25_0:=bc0 BK123.out;have hcz25_1:=bc1 BK123.out;have hcz25_2:=bc2 BK123.out;have hcz25_3:=bc3 BK123.out;have hcz25_4:w24.cell? ⟨gb123,4,none⟩=some (.bool ((jc l1_0 x5_1).f4)):=(jL BK123.out 4).trans rfl;have hfz25_0:=ja BK123.out 0;have hfz25_1:=ja BK123.out 1;have hfz25_2:=ja BK123.out 2;have hfz25_3:=ja BK123.out 3;have hfz25_4:=ja BK123.out 4) |(go_at_call 98;(with_reducible refine (jG.calls ((jc l1_0 x5_1).f1) 0 99 true _ A16.out).mono ?_);rintro e w' ⟨rfl,⟨nd,rfl⟩⟩;(try first | exact ⟨rfl,_,World.drewN_drewN _ _ _⟩ | exact ⟨rfl,_,Eq.trans (World.drewN_drewN _ _ _) (congrArg (World.drewN _) (Nat.add_assoc _ _ _))⟩);have hcz26_0:=bc0 BK121.out;have hfz26_0:=ja BK121.out 0) |(go_at_call 99;(with_reducible refine (jza.calls _ _ l1_0 x5_1 t126 _ ?side1 ?side2 A18.out).mono ?_);(case side1=>exact Y54);(case side2=>exact HC1_0.out);rintro e w27 ⟨rfl,hb⟩;replace BK120:=am (jb (g:=gb120) (o:=.cells #[.slice A0_0 l0_0.length c0_0] 37 (0,0)) (kq BK120.out) hb);replace BK121:=am (jb (g:=gb121) (o:=.cells #[.slice (some ad122) l1_0.length c1_0] 32 (0,0)) (kq BK121.out) hb);replace BK123:=am (jb (g:=gb123) (o:=.cells #[.int .i64 ((jc l1_0 x5_1).f0), .int .i64 ((jc l1_0 x5_1).f1), .int .i64 ((jc l1_0 x5_1).f2), .int .i64 ((jc l1_0 x5_1).f3), .bool ((jc l1_0 x5_1).f4)] 54 (0,0)) (kq BK123.out) hb);replace HB:=am (jd (Y5) hb);(try clear hb);(try clear hb2);(try clear hk);(try clear hi)));try go_wp2_with (first |(go_at_call 97;(with_reducible refine (jCa.calls _ _ l0_0 ((jc l1_0 x5_1).f0) true _ ?side1 ?side2 A14.out).mono ?_);(case side1=>exact Kd.jI HR0_0.out (Y5));(case side2=>exact HC0_0.out);rintro e w24 ⟨rfl,hb⟩;replace BK120:=am (jb (g:=gb120) (o:=.cells #[.slice A0_0 l0_0.length c0_0] 37 (0,0)) (Y14) hb);replace BK121:=am (jb (g:=gb121) (o:=.cells #[.slice (some ad122) l1_0.length c1_0] 32 (0,0)) (Y15) hb);replace BK123:=am (jb (g:=gb123) (o:=.cells #[.int .i64 ((jc l1_0 x5_1).f0), .int .i64 ((jc l1_0 x5_1).f1), .int .i64 ((jc l1_0 x5_1).f2), .int .i64 ((jc l1_0 x5_1).f3), .bool ((jc l1_0 x5_1).f4)] 54 (0,0)) (Y16) hb);replace HB:=am (jd (Y5) hb);(try clear hb);(try clear hb2);(try clear hk);(try clear hi);have hcz25_0:=bc0 BK123.out;have hcz25_1:=bc1 BK123.out;have hcz25_2:=bc2 BK123.out;have hcz25_3:=bc3 BK123.out;have hcz25_4:w24.cell? ⟨gb123,4,none⟩=some (.bool ((jc l1_0 x5_1).f4)):=(jL BK123.out 4).trans rfl;have hfz25_0:=ja BK123.out 0;have hfz25_1:=ja BK123.out 1;have hfz25_2:=ja BK123.out 2;have hfz25_3:=ja BK123.out 3;have hfz25_4:=ja BK123.out 4) |(go_at_call 98;(with_reducible refine (jG.calls ((jc l1_0 x5_1).f1) 0 99 true _ A16.out).mono ?_);rintro e w' ⟨rfl,⟨nd,rfl⟩⟩;(try first | exact ⟨rfl,_,World.drewN_drewN _ _ _⟩ | exact ⟨rfl,_,Eq.trans (World.drewN_drewN _ _ _) (congrArg (World.drewN _) (Nat.add_assoc _ _ _))⟩);have hcz26_0:=bc0 BK121.out;have hfz26_0:=ja BK121.out 0) |(go_at_call 99;(with_reducible refine (jza.calls _ _ l1_0 x5_1 t126 _ ?side1 ?side2 A18.out).mono ?_);(case side1=>exact Y54);(case side2=>exact HC1_0.out);rintro e w27 ⟨rfl,hb⟩;replace BK120:=am (jb (g:=gb120) (o:=.cells #[.slice A0_0 l0_0.length c0_0] 37 (0,0)) (kq BK120.out) hb);replace BK121:=am (jb (g:=gb121) (o:=.cells #[.slice (some ad122) l1_0.length c1_0] 32 (0,0)) (kq BK121.out) hb);replace BK123:=am (jb (g:=gb123) (o:=.cells #[.int .i64 ((jc l1_0 x5_1).f0), .int .i64 ((jc l1_0 x5_1).f1), .int .i64 ((jc l1_0 x5_1).f2), .int .i64 ((jc l1_0 x5_1).f3), .bool ((jc l1_0 x5_1).f4)] 54 (0,0)) (kq BK123.out) hb);replace HB:=am (jd (Y5) hb);(try clear hb);(try clear hb2);(try clear hk);(try clear hi))))
        go_meet
        case rel=>exact ⟨_,(!t126),(sq),H',⟨by have:=HK1.out;first | omega | exact Nat.le_refl _⟩,⟨kq BK120.out⟩,⟨kq BK121.out⟩,⟨kq BK123.out⟩,⟨Y5⟩⟩
       ·replace c17:=Bool.eq_false_iff.mpr c17
        subst c17
        have H1:(jm.j1 k1 x5_1 true l0_0 l1_0)=some r:=by rw [if_neg (show ¬ (false=true) by decide)] at H;exact H
        clear H
        have H:=H1
        clear H1
        have H':=am H
        clear H
        have hnb28:=NB120_121.out
        have hnc28:=NB121_120.out
        have hnb29:=NB120_123.out
        have hnc29:=NB123_120.out
        have hcz30_0:=bc0 BK120.out
        have hfz30_0:=ja BK120.out 0
        have hnb31:=NB123_121.out
        have hnc31:=NB121_123.out
        have hcz32_0:=bc0 BK123.out
        have hcz32_1:=bc1 BK123.out
        have hcz32_2:=bc2 BK123.out
        have hcz32_3:=bc3 BK123.out
        have hcz32_4:w10.cell? ⟨gb123,4,none⟩=some (.bool false):=(jL BK123.out 4).trans rfl
        have hfz32_0:=ja BK123.out 0
        have hfz32_1:=ja BK123.out 1
        have hfz32_2:=ja BK123.out 2
        have hfz32_3:=ja BK123.out 3
        have hfz32_4:=ja BK123.out 4
        go_wp2_with (first |(go_at_call 97;(with_reducible refine (jCa.calls _ _ l0_0 ((jc l1_0 x5_1).f0) true _ ?side1 ?side2 A14.out).mono ?_);(case side1=>exact Kd.jI HR0_0.out (Y5));(case side2=>exact HC0_0.out);rintro e w33 ⟨rfl,hb⟩;replace BK120:=am (jb (g:=gb120) (o:=.cells #[.slice A0_0 l0_0.length c0_0] 37 (0,0)) (Y14) hb);replace BK121:=am (jb (g:=gb121) (o:=.cells #[.slice (some ad122) l1_0.length c1_0] 32 (0,0)) (Y15) hb);replace BK123:=am (jb (g:=gb123) (o:=.cells #[.int .i64 ((jc l1_0 x5_1).f0), .int .i64 ((jc l1_0 x5_1).f1), .int .i64 ((jc l1_0 x5_1).f2), .int .i64 ((jc l1_0 x5_1).f3), .bool ((jc l1_0 x5_1).f4)] 54 (0,0)) (Y16) hb);replace HB:=am (jd (Y5) hb);(try clear hb);(try clear hb2);(try clear hk);(try clear hi);have hcz34_0:=bc0 BK123.out;have hcz34_1:=bc1 BK123.out;have hcz34_2:=bc2 BK123.out;have hcz34_3:=bc3 BK123.out;have hcz34_4:w33.cell? ⟨gb123,4,none⟩=some (.bool ((jc l1_0 x5_1).f4)):=(jL BK123.out 4).trans rfl;have hfz34_0:=ja BK123.out 0;have hfz34_1:=ja BK123.out 1;have hfz34_2:=ja BK123.out 2;have hfz34_3:=ja BK123.out 3;have hfz34_4:=ja BK123.out 4) |(go_at_call 98;(with_reducible refine (jG.calls ((jc l1_0 x5_1).f1) 0 99 false _ A16.out).mono ?_);rintro e w' ⟨rfl,⟨nd,rfl⟩⟩;(try first | exact ⟨rfl,_,World.drewN_drewN _ _ _⟩ | exact ⟨rfl,_,Eq.trans (World.drewN_drewN _ _ _) (congrArg (World.drewN _) (Nat.add_assoc _ _ _))⟩)))
        repeat (go_quiet (first |(go_at_call 97;(with_reducible refine (jCa.calls _ _ l0_0 ((jc l1_0 x5_1).f0) true _ ?side1 ?side2 A14.out).mono ?_);(case side1=>exact Kd.jI HR0_0.out (Y5));(case side2=>exact HC0_0.out);rintro e w33 ⟨rfl,hb⟩;replace BK120:=am (jb (g:=gb120) (o:=.cells #[.slice A0_0 l0_0.length c0_0] 37 (0,0)) (Y14) hb);replace BK121:=am (jb (g:=gb121) (o:=.cells #[.slice (some ad122) l1_0.length c1_0] 32 (0,0)) (Y15) hb);replace BK123:=am (jb (g:=gb123) (o:=.cells #[.int .i64 ((jc l1_0 x5_1).f0), .int .i64 ((jc l1_0 x5_1).f1), .int .i64 ((jc l1_0 x5_1).f2), .int .i64 ((jc l1_0 x5_1).f3), .bool ((jc l1_0 x5_1).f4)] 54 (0,0)) (Y16) hb);replace HB:=am (jd (Y5) hb);(try clear hb);(try clear hb2);(try clear hk);(try clear hi);have hcz34_0:=bc0 BK123.out;have hcz34_1:=bc1 BK123.out;have hcz34_2:=bc2 BK123.out;have hcz34_3:=bc3 BK123.out;have hcz34_4:w33.cell? ⟨gb123,4,none⟩=some (.bool ((jc l1_0 x5_1).f4)):=(jL BK123.out 4).trans rfl;have hfz34_0:=ja BK123.out 0;have hfz34_1:=ja BK123.out 1;have hfz34_2:=ja BK123.out 2;have hfz34_3:=ja BK123.out 3;have hfz34_4:=ja BK123.out 4) |(go_at_call 98;(with_reducible refine (jG.calls ((jc l1_0 x5_1).f1) 0 99 false _ A16.out).mono ?_);rintro e w' ⟨rfl,⟨nd,rfl⟩⟩;(try first | exact ⟨rfl,_,World.drewN_drewN _ _ _⟩ | exact ⟨rfl,_,Eq.trans (World.drewN_drewN _ _ _) (congrArg (World.drewN _) (Nat.add_assoc _ _ _))⟩)));try go_wp2_with (first |(go_at_call 97;(with_reducible refine (jCa.calls _ _ l0_0 ((jc l1_0 x5_1).f0) true _ ?side1 ?side2 A14.out).mono ?_);(case side1=>exact Kd.jI HR0_0.out (Y5));(case side2=>exact HC0_0.out);rintro e w33 ⟨rfl,hb⟩;replace BK120:=am (jb (g:=gb120) (o:=.cells #[.slice A0_0 l0_0.length c0_0] 37 (0,0)) (Y14) hb);replace BK121:=am (jb (g:=gb121) (o:=.cells #[.slice (some ad122) l1_0.length c1_0] 32 (0,0)) (Y15) hb);replace BK123:=am (jb (g:=gb123) (o:=.cells #[.int .i64 ((jc l1_0 x5_1).f0), .int .i64 ((jc l1_0 x5_1).f1), .int .i64 ((jc l1_0 x5_1).f2), .int .i64 ((jc l1_0 x5_1).f3), .bool ((jc l1_0 x5_1).f4)] 54 (0,0)) (Y16) hb);replace HB:=am (jd (Y5) hb);(try clear hb);(try clear hb2);(try clear hk);(try clear hi);have hcz34_0:=bc0 BK123.out;have hcz34_1:=bc1 BK123.out;have hcz34_2:=bc2 BK123.out;have hcz34_3:=bc3 BK123.out;have hcz34_4:w33.cell? ⟨gb123,4,none⟩=some (.bool ((jc l1_0 x5_1).f4)):=(jL BK123.out 4).trans rfl;have hfz34_0:=ja BK123.out 0;have hfz34_1:=ja BK123.out 1;have hfz34_2:=ja BK123.out 2;have hfz34_3:=ja BK123.out 3;have hfz34_4:=ja BK123.out 4) |(go_at_call 98;(with_reducible refine (jG.calls ((jc l1_0 x5_1).f1) 0 99 false _ A16.out).mono ?_);rintro e w' ⟨rfl,⟨nd,rfl⟩⟩;(try first | exact ⟨rfl,_,World.drewN_drewN _ _ _⟩ | exact ⟨rfl,_,Eq.trans (World.drewN_drewN _ _ _) (congrArg (World.drewN _) (Nat.add_assoc _ _ _))⟩))))
        go_meet
        case rel=>exact ⟨_,(true),(sq),H',⟨by have:=HK1.out;first | omega | exact Nat.le_refl _⟩,⟨kq BK120.out⟩,⟨kq BK121.out⟩,⟨kq BK123.out⟩,⟨Y5⟩⟩
      ·replace c15:=Bool.eq_false_iff.mpr c15
       subst c15
       have H1:(jm.j1 k1 x5_1 true l0_0 l1_0)=some r:=by rw [if_neg (show ¬ (false=true) by decide)] at H;exact H
       clear H
       have H:=H1
       clear H1
       have H':=am H
       clear H
       have hnb35:=NB120_121.out
       have hnc35:=NB121_120.out
       have hnb36:=NB120_123.out
       have hnc36:=NB123_120.out
       have hcz37_0:=bc0 BK120.out
       have hfz37_0:=ja BK120.out 0
       have hnb38:=NB123_121.out
       have hnc38:=NB121_123.out
       have hcz39_0:=bc0 BK123.out
       have hcz39_1:=bc1 BK123.out
       have hcz39_2:=bc2 BK123.out
       have hcz39_3:=bc3 BK123.out
       have hcz39_4:w10.cell? ⟨gb123,4,none⟩=some (.bool false):=(jL BK123.out 4).trans rfl
       have hfz39_0:=ja BK123.out 0
       have hfz39_1:=ja BK123.out 1
       have hfz39_2:=ja BK123.out 2
       have hfz39_3:=ja BK123.out 3
       have hfz39_4:=ja BK123.out 4
       go_wp2_with (first |(go_at_call 97;(with_reducible refine (jCa.calls _ _ l0_0 ((jc l1_0 x5_1).f0) false _ ?side1 ?side2 A14.out).mono ?_);(case side1=>exact Kd.jI HR0_0.out (Y5));(case side2=>exact HC0_0.out);rintro e w40 ⟨rfl,hb⟩;replace BK120:=am (jb (g:=gb120) (o:=.cells #[.slice A0_0 l0_0.length c0_0] 37 (0,0)) (Y14) hb);replace BK121:=am (jb (g:=gb121) (o:=.cells #[.slice (some ad122) l1_0.length c1_0] 32 (0,0)) (Y15) hb);replace BK123:=am (jb (g:=gb123) (o:=.cells #[.int .i64 ((jc l1_0 x5_1).f0), .int .i64 ((jc l1_0 x5_1).f1), .int .i64 ((jc l1_0 x5_1).f2), .int .i64 ((jc l1_0 x5_1).f3), .bool ((jc l1_0 x5_1).f4)] 54 (0,0)) (Y16) hb);replace HB:=am (jd (Y5) hb);(try clear hb);(try clear hb2);(try clear hk);(try clear hi)))
       repeat (go_quiet (first |(go_at_call 97;(with_reducible refine (jCa.calls _ _ l0_0 ((jc l1_0 x5_1).f0) false _ ?side1 ?side2 A14.out).mono ?_);(case side1=>exact Kd.jI HR0_0.out (Y5));(case side2=>exact HC0_0.out);rintro e w40 ⟨rfl,hb⟩;replace BK120:=am (jb (g:=gb120) (o:=.cells #[.slice A0_0 l0_0.length c0_0] 37 (0,0)) (Y14) hb);replace BK121:=am (jb (g:=gb121) (o:=.cells #[.slice (some ad122) l1_0.length c1_0] 32 (0,0)) (Y15) hb);replace BK123:=am (jb (g:=gb123) (o:=.cells #[.int .i64 ((jc l1_0 x5_1).f0), .int .i64 ((jc l1_0 x5_1).f1), .int .i64 ((jc l1_0 x5_1).f2), .int .i64 ((jc l1_0 x5_1).f3), .bool ((jc l1_0 x5_1).f4)] 54 (0,0)) (Y16) hb);replace HB:=am (jd (Y5) hb);(try clear hb);(try clear hb2);(try clear hk);(try clear hi)));try go_wp2_with (first |(go_at_call 97;(with_reducible refine (jCa.calls _ _ l0_0 ((jc l1_0 x5_1).f0) false _ ?side1 ?side2 A14.out).mono ?_);(case side1=>exact Kd.jI HR0_0.out (Y5));(case side2=>exact HC0_0.out);rintro e w40 ⟨rfl,hb⟩;replace BK120:=am (jb (g:=gb120) (o:=.cells #[.slice A0_0 l0_0.length c0_0] 37 (0,0)) (Y14) hb);replace BK121:=am (jb (g:=gb121) (o:=.cells #[.slice (some ad122) l1_0.length c1_0] 32 (0,0)) (Y15) hb);replace BK123:=am (jb (g:=gb123) (o:=.cells #[.int .i64 ((jc l1_0 x5_1).f0), .int .i64 ((jc l1_0 x5_1).f1), .int .i64 ((jc l1_0 x5_1).f2), .int .i64 ((jc l1_0 x5_1).f3), .bool ((jc l1_0 x5_1).f4)] 54 (0,0)) (Y16) hb);replace HB:=am (jd (Y5) hb);(try clear hb);(try clear hb2);(try clear hk);(try clear hi))))
       go_meet
       case rel=>exact ⟨_,(true),(sq),H',⟨by have:=HK1.out;first | omega | exact Nat.le_refl _⟩,⟨kq BK120.out⟩,⟨kq BK121.out⟩,⟨kq BK123.out⟩,⟨Y5⟩⟩
     case rest =>
      clear HC7
      try clear c1
      try clear p1
      try clear q1
      try clear hx1
      try clear c2
      try clear p2
      try clear c3
      try clear c5
      try clear c5b0
      try clear c6
      try clear c6b0
      try clear c8
      try clear c11
      try clear c12
      try clear p12
      try clear q12
      try clear hx12
      try clear c15
      try clear c17
      try clear c19
      try clear c20
      try clear c22
      try clear c28
      try clear c29
      try clear c31
      try clear c35
      try clear c36
      try clear c38
      try clear hcz13_0
      try clear hcz13_1
      try clear hcz13_2
      try clear hcz13_3
      try clear hcz13_4
      try clear hcz21_0
      try clear hcz23_0
      try clear hcz23_1
      try clear hcz23_2
      try clear hcz23_3
      try clear hcz23_4
      try clear hcz25_0
      try clear hcz25_1
      try clear hcz25_2
      try clear hcz25_3
      try clear hcz25_4
      try clear hcz26_0
      try clear hcz30_0
      try clear hcz32_0
      try clear hcz32_1
      try clear hcz32_2
      try clear hcz32_3
      try clear hcz32_4
      try clear hcz34_0
      try clear hcz34_1
      try clear hcz34_2
      try clear hcz34_3
      try clear hcz34_4
      try clear hcz37_0
      try clear hcz39_0
      try clear hcz39_1
      try clear hcz39_2
      try clear hcz39_3
      try clear hcz39_4
      try clear hcz9_0
      try clear hfz13_0
      try clear hfz13_1
      try clear hfz13_2
      try clear hfz13_3
      try clear hfz13_4
      try clear hfz21_0
      try clear hfz23_0
      try clear hfz23_1
      try clear hfz23_2
      try clear hfz23_3
      try clear hfz23_4
      try clear hfz25_0
      try clear hfz25_1
      try clear hfz25_2
      try clear hfz25_3
      try clear hfz25_4
      try clear hfz26_0
      try clear hfz30_0
      try clear hfz32_0
      try clear hfz32_1
      try clear hfz32_2
      try clear hfz32_3
      try clear hfz32_4
      try clear hfz34_0
      try clear hfz34_1
      try clear hfz34_2
      try clear hfz34_3
      try clear hfz34_4
      try clear hfz37_0
      try clear hfz39_0
      try clear hfz39_1
      try clear hfz39_2
      try clear hfz39_3
      try clear hfz39_4
      try clear hfz9_0
      try clear hx122_0
      try clear hx122_1
      try clear hx122_2
      try clear hx122_3
      try clear hx122_4
      try clear p122
      try clear p2
      try clear q122
      obtain ⟨kq,x37_6,rfl,HA,HJ6,BK120,BK121,BK123,HB⟩:=hcut
      cases kq with
      | zero=>exact absurd HA.out (by simp [jm.j1])
      | succ kj6 =>
       have H:=HA.out
       clear HA
       simp only [jm.j1] at H
       by_cases c41:x37_6=true
       ·subst c41
        have H1:(some false)=some r:=by rw [if_pos rfl] at H;exact H
        clear H
        have H:=H1
        clear H1
        obtain rfl:=Option.some.inj H
        go_wp2
        repeat (go_quiet (fail);try go_wp2)
        go_ret
        exact ⟨Y1,Y5⟩
       ·replace c41:=Bool.eq_false_iff.mpr c41
        subst c41
        have H1:(jm.l0 kj6 (wrap64 (x5_1+1)) l0_0 l1_0)=some r:=by rw [if_neg (show ¬ (false=true) by decide)] at H;exact H
        clear H
        have H:=H1
        clear H1
        have H':=am H
        clear H
        go_wp2
        repeat (go_quiet (fail);try go_wp2)
        go_roundg kj6
        case measure=>have:=HK1.out;have:=HJ6.out;omega
        case rel=>exact ⟨(wrap64 (x5_1+1)),(sq),H',⟨by have:=HK1.out;have:=HJ6.out;omega⟩,⟨kq BK120.out⟩,⟨kq BK121.out⟩,⟨Y5⟩⟩
    ·rw [if_neg c6] at H
     exact absurd H (by simp)
   ·rw [if_neg c5] at H
    have c5b0:decide (x5_1<(l1_0.length:Int))=false:=dzF c5
    clear c5
    have H':=am H
    clear H
    have hnb42:=NB121_120.out
    have hnc42:=NB120_121.out
    have hcz43_0:=bc0 BK121.out
    have hfz43_0:=ja BK121.out 0
    go_wp2
    repeat (go_quiet (fail);try go_wp2)
    go_loopg [7] k1 (fun kq v7 w'=>∃ (x7_2:Int),v7=.int .i64 x7_2∧jy (jm.l1 kq x7_2 l0_0 l1_0=some r)∧jy (kq≤k1)∧jy (w'.heap[gb120]?=some (.cells #[(.slice A0_0 l0_0.length c0_0)] 37 (0,0)))∧jy (w'.heap[gb121]?=some (.cells #[(.slice A1_0 l1_0.length c1_0)] 32 (0,0)))∧jy (Below w.heap.size w w'))
    case atStart=>exact ⟨(0),(sq),H',⟨Nat.le_refl _⟩,⟨kq BK120.out⟩,⟨kq BK121.out⟩,⟨Y4⟩⟩
    case round =>
     clear H'
     try clear c1
     try clear p1
     try clear q1
     try clear hx1
     try clear c2
     try clear p2
     try clear c3
     try clear c4
     try clear c5
     try clear c5b0
     try clear c6
     try clear c6b0
     try clear p6
     try clear c8
     try clear c11
     try clear c12
     try clear p12
     try clear q12
     try clear hx12
     try clear c15
     try clear c17
     try clear c19
     try clear c20
     try clear c22
     try clear c28
     try clear c29
     try clear c31
     try clear c35
     try clear c36
     try clear c38
     try clear c41
     try clear c42
     try clear hcz13_0
     try clear hcz13_1
     try clear hcz13_2
     try clear hcz13_3
     try clear hcz13_4
     try clear hcz21_0
     try clear hcz23_0
     try clear hcz23_1
     try clear hcz23_2
     try clear hcz23_3
     try clear hcz23_4
     try clear hcz25_0
     try clear hcz25_1
     try clear hcz25_2
     try clear hcz25_3
     try clear hcz25_4
     try clear hcz26_0
     try clear hcz30_0
     try clear hcz32_0
     try clear hcz32_1
     try clear hcz32_2
     try clear hcz32_3
     try clear hcz32_4
     try clear hcz34_0
     try clear hcz34_1
     try clear hcz34_2
     try clear hcz34_3
     try clear hcz34_4
     try clear hcz37_0
     try clear hcz39_0
     try clear hcz39_1
     try clear hcz39_2
     try clear hcz39_3
     try clear hcz39_4
     try clear hcz43_0
     try clear hcz9_0
     try clear hfz13_0
     try clear hfz13_1
     try clear hfz13_2
     try clear hfz13_3
     try clear hfz13_4
     try clear hfz21_0
     try clear hfz23_0
     try clear hfz23_1
     try clear hfz23_2
     try clear hfz23_3
     try clear hfz23_4
     try clear hfz25_0
     try clear hfz25_1
     try clear hfz25_2
     try clear hfz25_3
     try clear hfz25_4
     try clear hfz26_0
     try clear hfz30_0
     try clear hfz32_0
     try clear hfz32_1
     try clear hfz32_2
     try clear hfz32_3
     try clear hfz32_4
     try clear hfz34_0
     try clear hfz34_1
     try clear hfz34_2
     try clear hfz34_3
     try clear hfz34_4
     try clear hfz37_0
     try clear hfz39_0
     try clear hfz39_1
     try clear hfz39_2
     try clear hfz39_3
     try clear hfz39_4
     try clear hfz43_0
     try clear hfz9_0
     try clear hx122_0
     try clear hx122_1
     try clear hx122_2
     try clear hx122_3
     try clear hx122_4
     try clear p1
     try clear p12
     try clear p122
     try clear p2
     try clear q1
     try clear q12
     try clear q122
     obtain ⟨x7_2,rfl,HA,HK2,BK120,BK121,HB⟩:=hrel
     cases gk with
     | zero=>exact absurd HA.out (by simp [jm.l1])
     | succ k2 =>
      have H:=HA.out
      clear HA
      simp only [jm.l1] at H
      by_cases c44:x7_2<(l1_0.length:Int)
      ·rw [if_pos c44] at H
       have c44b0:decide (x7_2<(l1_0.length:Int))=true:=dzT c44
       clear c44
       replace H:=bzS H
       obtain ⟨t128,A450,H⟩:=H
       replace H:(if 0≤(wrap64 ((t128.length:Int) - 1)) then (if (wrap64 ((t128.length:Int) - 1))<(t128.length:Int) then (if 0≤(rd t128 (wrap64 ((t128.length:Int) - 1))) then (if (rd t128 (wrap64 ((t128.length:Int) - 1)))<(l1_0.length:Int) then (if ((jc l1_0 (rd t128 (wrap64 ((t128.length:Int) - 1)))).f3)≥0 then (some false) else (jm.l1 k2 (wrap64 (x7_2+1)) l0_0 l1_0)) else (none)) else (none)) else (none)) else (none))=some r:=H
       have A45:=am A450
       clear A450
       obtain ⟨ji46,hji46⟩:∃ j_:Int,(wrap64 ((t128.length:Int) - 1))=j_:=⟨_,rfl⟩
       replace H:(if 0≤(ji46) then (if (ji46)<(t128.length:Int) then (if 0≤(rd t128 (ji46)) then (if (rd t128 (ji46))<(l1_0.length:Int) then (if ((jc l1_0 (rd t128 (ji46))).f3)≥0 then (some false) else (jm.l1 k2 (wrap64 (x7_2+1)) l0_0 l1_0)) else (none)) else (none)) else (none)) else (none))=some r:=by first |(rw [hji46] at H;exact H) |(simp only [hji46] at H ⊢;exact H)
       (try rw [hji46] at A45)
       have hji46w:(IntKind.i64.wrap ((t128.length:Int) - 1))=ji46:=(jLb _).trans hji46
       by_cases c47:0≤(ji46)
       ·rw [if_pos c47] at H
        have c47b0:decide (0≤(ji46))=true:=dzT c47
        clear c47
        by_cases c48:(ji46)<(t128.length:Int)
        ·rw [if_pos c48] at H
         have c48b0:decide ((ji46)<(t128.length:Int))=true:=dzT c48
         clear c48
         by_cases c49:0≤(rd t128 (ji46))
         ·rw [if_pos c49] at H
          have c49b0:decide (0≤(rd t128 (ji46)))=true:=dzT c49
          clear c49
          by_cases c50:(rd t128 (ji46))<(l1_0.length:Int)
          ·rw [if_pos c50] at H
           have c50b0:decide ((rd t128 (ji46))<(l1_0.length:Int))=true:=dzT c50
           clear c50
           by_cases c51:((jc l1_0 (rd t128 (ji46))).f3)≥0
           ·rw [if_pos c51] at H
            have c51b0:decide (0≤((jc l1_0 (rd t128 (ji46))).f3))=true:=dzT c51
            clear c51
            obtain rfl:=Option.some.inj H
            have hnb52:=NB121_120.out
            have hnc52:=NB120_121.out
            have hcz53_0:=bc0 BK121.out
            have hfz53_0:=ja BK121.out 0
            go_wp2_with (first |(go_at_call 58;(with_reducible refine (jea.calls k2 _ _ l1_0 x7_2 t128 _ ?side1 ?side2 A45.out).mono ?_);(case side1=>exact cq (Kd.jI HR1_0.out HB.out));(case side2=>exact HC1_0.out);rintro e w54 ⟨v129,rfl,ho0,hb⟩;have HO130:=am (Kd.jya ho0 (jE (Y4)));replace BK120:=am (jb (g:=gb120) (o:=.cells #[.slice A0_0 l0_0.length c0_0] 37 (0,0)) (kq BK120.out) hb);replace BK121:=am (jb (g:=gb121) (o:=.cells #[.slice A1_0 l1_0.length c1_0] 32 (0,0)) (kq BK121.out) hb);replace HB:=am (jd (Y4) hb);(try clear hb);(try clear hb2);(try clear hk);(try clear hi);(try clear ho0);have hcz55_0:=bc0 BK121.out;have hfz55_0:=ja BK121.out 0;obtain ⟨Ao56,co56,eo56⟩:=Kd.jwa HO130.out;subst eo56;have p131:0≤((ji46):Int):=ozD (uq);have q131:(ji46)<(t128.length:Int):=ozD (uq);obtain ⟨ad131,e131,hx131_0⟩:=Kd.jrb (Kd.jq HO130.out).2.2 (ji46) p131 q131;cases e131;replace p131:=ezT p131;replace q131:=ezT q131;have p132:0≤((rd t128 (ji46)):Int):=ozD (uq);have q132:(rd t128 (ji46))<(l1_0.length:Int):=ozD (uq);obtain ⟨ad132,e132,hx132_0,hx132_1,hx132_2,hx132_3,hx132_4⟩:=jjb HR1_0.out (rd t128 (ji46)) p132 q132;cases e132;replace hx132_0:=cb HB.out hx132_0;replace hx132_1:=cb HB.out hx132_1;replace hx132_2:=cb HB.out hx132_2;replace hx132_3:=cb HB.out hx132_3;replace hx132_4:=cb HB.out hx132_4;replace p132:=ezT p132;replace q132:=ezT q132))
            repeat (go_quiet (first |(go_at_call 58;(with_reducible refine (jea.calls k2 _ _ l1_0 x7_2 t128 _ ?side1 ?side2 A45.out).mono ?_);(case side1=>exact cq (Kd.jI HR1_0.out HB.out));(case side2=>exact HC1_0.out);rintro e w54 ⟨v129,rfl,ho0,hb⟩;have HO130:=am (Kd.jya ho0 (jE (Y4)));replace BK120:=am (jb (g:=gb120) (o:=.cells #[.slice A0_0 l0_0.length c0_0] 37 (0,0)) (kq BK120.out) hb);replace BK121:=am (jb (g:=gb121) (o:=.cells #[.slice A1_0 l1_0.length c1_0] 32 (0,0)) (kq BK121.out) hb);replace HB:=am (jd (Y4) hb);(try clear hb);(try clear hb2);(try clear hk);(try clear hi);(try clear ho0);have hcz55_0:=bc0 BK121.out;have hfz55_0:=ja BK121.out 0;obtain ⟨Ao56,co56,eo56⟩:=Kd.jwa HO130.out;subst eo56;have p131:0≤((ji46):Int):=ozD (uq);have q131:(ji46)<(t128.length:Int):=ozD (uq);obtain ⟨ad131,e131,hx131_0⟩:=Kd.jrb (Kd.jq HO130.out).2.2 (ji46) p131 q131;cases e131;replace p131:=ezT p131;replace q131:=ezT q131;have p132:0≤((rd t128 (ji46)):Int):=ozD (uq);have q132:(rd t128 (ji46))<(l1_0.length:Int):=ozD (uq);obtain ⟨ad132,e132,hx132_0,hx132_1,hx132_2,hx132_3,hx132_4⟩:=jjb HR1_0.out (rd t128 (ji46)) p132 q132;cases e132;replace hx132_0:=cb HB.out hx132_0;replace hx132_1:=cb HB.out hx132_1;replace hx132_2:=cb HB.out hx132_2;replace hx132_3:=cb HB.out hx132_3;replace hx132_4:=cb HB.out hx132_4;replace p132:=ezT p132;replace q132:=ezT q132));try go_wp2_with (first |(go_at_call 58;(with_reducible refine (jea.calls k2 _ _ l1_0 x7_2 t128 _ ?side1 ?side2 A45.out).mono ?_);(case side1=>exact cq (Kd.jI HR1_0.out HB.out));(case side2=>exact HC1_0.out);rintro e w54 ⟨v129,rfl,ho0,hb⟩;have HO130:=am (Kd.jya ho0 (jE (Y4)));replace BK120:=am (jb (g:=gb120) (o:=.cells #[.slice A0_0 l0_0.length c0_0] 37 (0,0)) (kq BK120.out) hb);replace BK121:=am (jb (g:=gb121) (o:=.cells #[.slice A1_0 l1_0.length c1_0] 32 (0,0)) (kq BK121.out) hb);replace HB:=am (jd (Y4) hb);(try clear hb);(try clear hb2);(try clear hk);(try clear hi);(try clear ho0);have hcz55_0:=bc0 BK121.out;have hfz55_0:=ja BK121.out 0;obtain ⟨Ao56,co56,eo56⟩:=Kd.jwa HO130.out;subst eo56;have p131:0≤((ji46):Int):=ozD (uq);have q131:(ji46)<(t128.length:Int):=ozD (uq);obtain ⟨ad131,e131,hx131_0⟩:=Kd.jrb (Kd.jq HO130.out).2.2 (ji46) p131 q131;cases e131;replace p131:=ezT p131;replace q131:=ezT q131;have p132:0≤((rd t128 (ji46)):Int):=ozD (uq);have q132:(rd t128 (ji46))<(l1_0.length:Int):=ozD (uq);obtain ⟨ad132,e132,hx132_0,hx132_1,hx132_2,hx132_3,hx132_4⟩:=jjb HR1_0.out (rd t128 (ji46)) p132 q132;cases e132;replace hx132_0:=cb HB.out hx132_0;replace hx132_1:=cb HB.out hx132_1;replace hx132_2:=cb HB.out hx132_2;replace hx132_3:=cb HB.out hx132_3;replace hx132_4:=cb HB.out hx132_4;replace p132:=ezT p132;replace q132:=ezT q132)))
            go_ret
            exact ⟨by first | rfl |(simp [errW_none,errW_some] <;> rfl) |(simp only [← hji46];first | rfl |(simp [errW_none,errW_some] <;> rfl)) |(simp [*,errW_none,errW_some] <;> rfl),Y4⟩
           ·rw [if_neg c51] at H
            have c51b0:decide (0≤((jc l1_0 (rd t128 (ji46))).f3))=false:=dzF c51
            clear c51
            have H':=am H
            clear H
            have hnb57:=NB121_120.out
            have hnc57:=NB120_121.out
            have hcz58_0:=bc0 BK121.out
            have hfz58_0:=ja BK121.out 0
            go_wp2_with (first |(go_at_call 58;(with_reducible refine (jea.calls k2 _ _ l1_0 x7_2 t128 _ ?side1 ?side2 A45.out).mono ?_);(case side1=>exact cq (Kd.jI HR1_0.out HB.out));(case side2=>exact HC1_0.out);rintro e w59 ⟨v129,rfl,ho0,hb⟩;have HO130:=am (Kd.jya ho0 (jE (Y4)));replace BK120:=am (jb (g:=gb120) (o:=.cells #[.slice A0_0 l0_0.length c0_0] 37 (0,0)) (kq BK120.out) hb);replace BK121:=am (jb (g:=gb121) (o:=.cells #[.slice A1_0 l1_0.length c1_0] 32 (0,0)) (kq BK121.out) hb);replace HB:=am (jd (Y4) hb);(try clear hb);(try clear hb2);(try clear hk);(try clear hi);(try clear ho0);have hcz60_0:=bc0 BK121.out;have hfz60_0:=ja BK121.out 0;obtain ⟨Ao61,co61,eo61⟩:=Kd.jwa HO130.out;subst eo61;have p131:0≤((ji46):Int):=ozD (uq);have q131:(ji46)<(t128.length:Int):=ozD (uq);obtain ⟨ad131,e131,hx131_0⟩:=Kd.jrb (Kd.jq HO130.out).2.2 (ji46) p131 q131;cases e131;replace p131:=ezT p131;replace q131:=ezT q131;have p132:0≤((rd t128 (ji46)):Int):=ozD (uq);have q132:(rd t128 (ji46))<(l1_0.length:Int):=ozD (uq);obtain ⟨ad132,e132,hx132_0,hx132_1,hx132_2,hx132_3,hx132_4⟩:=jjb HR1_0.out (rd t128 (ji46)) p132 q132;cases e132;replace hx132_0:=cb HB.out hx132_0;replace hx132_1:=cb HB.out hx132_1;replace hx132_2:=cb HB.out hx132_2;replace hx132_3:=cb HB.out hx132_3;replace hx132_4:=cb HB.out hx132_4;replace p132:=ezT p132;replace q132:=ezT q132))
            repeat (go_quiet (first |(go_at_call 58;(with_reducible refine (jea.calls k2 _ _ l1_0 x7_2 t128 _ ?side1 ?side2 A45.out).mono ?_);(case side1=>exact cq (Kd.jI HR1_0.out HB.out));(case side2=>exact HC1_0.out);rintro e w59 ⟨v129,rfl,ho0,hb⟩;have HO130:=am (Kd.jya ho0 (jE (Y4)));replace BK120:=am (jb (g:=gb120) (o:=.cells #[.slice A0_0 l0_0.length c0_0] 37 (0,0)) (kq BK120.out) hb);replace BK121:=am (jb (g:=gb121) (o:=.cells #[.slice A1_0 l1_0.length c1_0] 32 (0,0)) (kq BK121.out) hb);replace HB:=am (jd (Y4) hb);(try clear hb);(try clear hb2);(try clear hk);(try clear hi);(try clear ho0);have hcz60_0:=bc0 BK121.out;have hfz60_0:=ja BK121.out 0;obtain ⟨Ao61,co61,eo61⟩:=Kd.jwa HO130.out;subst eo61;have p131:0≤((ji46):Int):=ozD (uq);have q131:(ji46)<(t128.length:Int):=ozD (uq);obtain ⟨ad131,e131,hx131_0⟩:=Kd.jrb (Kd.jq HO130.out).2.2 (ji46) p131 q131;cases e131;replace p131:=ezT p131;replace q131:=ezT q131;have p132:0≤((rd t128 (ji46)):Int):=ozD (uq);have q132:(rd t128 (ji46))<(l1_0.length:Int):=ozD (uq);obtain ⟨ad132,e132,hx132_0,hx132_1,hx132_2,hx132_3,hx132_4⟩:=jjb HR1_0.out (rd t128 (ji46)) p132 q132;cases e132;replace hx132_0:=cb HB.out hx132_0;replace hx132_1:=cb HB.out hx132_1;replace hx132_2:=cb HB.out hx132_2;replace hx132_3:=cb HB.out hx132_3;replace hx132_4:=cb HB.out hx132_4;replace p132:=ezT p132;replace q132:=ezT q132));try go_wp2_with (first |(go_at_call 58;(with_reducible refine (jea.calls k2 _ _ l1_0 x7_2 t128 _ ?side1 ?side2 A45.out).mono ?_);(case side1=>exact cq (Kd.jI HR1_0.out HB.out));(case side2=>exact HC1_0.out);rintro e w59 ⟨v129,rfl,ho0,hb⟩;have HO130:=am (Kd.jya ho0 (jE (Y4)));replace BK120:=am (jb (g:=gb120) (o:=.cells #[.slice A0_0 l0_0.length c0_0] 37 (0,0)) (kq BK120.out) hb);replace BK121:=am (jb (g:=gb121) (o:=.cells #[.slice A1_0 l1_0.length c1_0] 32 (0,0)) (kq BK121.out) hb);replace HB:=am (jd (Y4) hb);(try clear hb);(try clear hb2);(try clear hk);(try clear hi);(try clear ho0);have hcz60_0:=bc0 BK121.out;have hfz60_0:=ja BK121.out 0;obtain ⟨Ao61,co61,eo61⟩:=Kd.jwa HO130.out;subst eo61;have p131:0≤((ji46):Int):=ozD (uq);have q131:(ji46)<(t128.length:Int):=ozD (uq);obtain ⟨ad131,e131,hx131_0⟩:=Kd.jrb (Kd.jq HO130.out).2.2 (ji46) p131 q131;cases e131;replace p131:=ezT p131;replace q131:=ezT q131;have p132:0≤((rd t128 (ji46)):Int):=ozD (uq);have q132:(rd t128 (ji46))<(l1_0.length:Int):=ozD (uq);obtain ⟨ad132,e132,hx132_0,hx132_1,hx132_2,hx132_3,hx132_4⟩:=jjb HR1_0.out (rd t128 (ji46)) p132 q132;cases e132;replace hx132_0:=cb HB.out hx132_0;replace hx132_1:=cb HB.out hx132_1;replace hx132_2:=cb HB.out hx132_2;replace hx132_3:=cb HB.out hx132_3;replace hx132_4:=cb HB.out hx132_4;replace p132:=ezT p132;replace q132:=ezT q132)))
            go_roundg k2
            case measure=>have:=HK1.out;have:=HK2.out;omega
            case rel=>exact ⟨(wrap64 (x7_2+1)),(sq),H',⟨by have:=HK1.out;have:=HK2.out;omega⟩,⟨kq BK120.out⟩,⟨kq BK121.out⟩,⟨Y4⟩⟩
          ·rw [if_neg c50] at H
           exact absurd H (by simp)
         ·rw [if_neg c49] at H
          exact absurd H (by simp)
        ·rw [if_neg c48] at H
         exact absurd H (by simp)
       ·rw [if_neg c47] at H
        exact absurd H (by simp)
      ·rw [if_neg c44] at H
       have c44b0:decide (x7_2<(l1_0.length:Int))=false:=dzF c44
       clear c44
       replace H:=bzS H
       obtain ⟨t127,A620,H⟩:=H
       replace H:(if t127=true then (some (decide ((l1_0.length:Int)≤24))) else (some false))=some r:=H
       have A62:=am A620
       clear A620
       by_cases c63:t127=true
       ·subst c63
        have H1:(some (decide ((l1_0.length:Int)≤24)))=some r:=by rw [if_pos rfl] at H;exact H
        clear H
        have H:=H1
        clear H1
        obtain rfl:=Option.some.inj H
        have hnb64:=NB121_120.out
        have hnc64:=NB120_121.out
        have hcz65_0:=bc0 BK121.out
        have hfz65_0:=ja BK121.out 0
        have hcz66_0:=bc0 BK120.out
        have hfz66_0:=ja BK120.out 0
        go_wp2_with (first |(go_at_call 100;(with_reducible refine (jA.calls k2 _ _ l0_0 true _ ?side1 ?side2 A62.out).mono ?_);(case side1=>exact cq (Kd.jI HR0_0.out HB.out));(case side2=>exact HC0_0.out);rintro e w67 ⟨rfl,hb⟩;replace BK120:=am (jb (g:=gb120) (o:=.cells #[.slice A0_0 l0_0.length c0_0] 37 (0,0)) (kq BK120.out) hb);replace BK121:=am (jb (g:=gb121) (o:=.cells #[.slice A1_0 l1_0.length c1_0] 32 (0,0)) (kq BK121.out) hb);replace HB:=am (jd (Y4) hb);(try clear hb);(try clear hb2);(try clear hk);(try clear hi);have hcz68_0:=bc0 BK121.out;have hfz68_0:=ja BK121.out 0))
        repeat (go_quiet (first |(go_at_call 100;(with_reducible refine (jA.calls k2 _ _ l0_0 true _ ?side1 ?side2 A62.out).mono ?_);(case side1=>exact cq (Kd.jI HR0_0.out HB.out));(case side2=>exact HC0_0.out);rintro e w67 ⟨rfl,hb⟩;replace BK120:=am (jb (g:=gb120) (o:=.cells #[.slice A0_0 l0_0.length c0_0] 37 (0,0)) (kq BK120.out) hb);replace BK121:=am (jb (g:=gb121) (o:=.cells #[.slice A1_0 l1_0.length c1_0] 32 (0,0)) (kq BK121.out) hb);replace HB:=am (jd (Y4) hb);(try clear hb);(try clear hb2);(try clear hk);(try clear hi);have hcz68_0:=bc0 BK121.out;have hfz68_0:=ja BK121.out 0));try go_wp2_with (first |(go_at_call 100;(with_reducible refine (jA.calls k2 _ _ l0_0 true _ ?side1 ?side2 A62.out).mono ?_);(case side1=>exact cq (Kd.jI HR0_0.out HB.out));(case side2=>exact HC0_0.out);rintro e w67 ⟨rfl,hb⟩;replace BK120:=am (jb (g:=gb120) (o:=.cells #[.slice A0_0 l0_0.length c0_0] 37 (0,0)) (kq BK120.out) hb);replace BK121:=am (jb (g:=gb121) (o:=.cells #[.slice A1_0 l1_0.length c1_0] 32 (0,0)) (kq BK121.out) hb);replace HB:=am (jd (Y4) hb);(try clear hb);(try clear hb2);(try clear hk);(try clear hi);have hcz68_0:=bc0 BK121.out;have hfz68_0:=ja BK121.out 0)))
        go_ret
        exact ⟨Y1,Y4⟩
       ·replace c63:=Bool.eq_false_iff.mpr c63
        subst c63
        have H1:(some false)=some r:=by rw [if_neg (show ¬ (false=true) by decide)] at H;exact H
        clear H
        have H:=H1
        clear H1
        obtain rfl:=Option.some.inj H
        have hnb69:=NB121_120.out
        have hnc69:=NB120_121.out
        have hcz70_0:=bc0 BK121.out
        have hfz70_0:=ja BK121.out 0
        have hcz71_0:=bc0 BK120.out
        have hfz71_0:=ja BK120.out 0
        go_wp2_with (first |(go_at_call 100;(with_reducible refine (jA.calls k2 _ _ l0_0 false _ ?side1 ?side2 A62.out).mono ?_);(case side1=>exact cq (Kd.jI HR0_0.out HB.out));(case side2=>exact HC0_0.out);rintro e w72 ⟨rfl,hb⟩;replace BK120:=am (jb (g:=gb120) (o:=.cells #[.slice A0_0 l0_0.length c0_0] 37 (0,0)) (kq BK120.out) hb);replace BK121:=am (jb (g:=gb121) (o:=.cells #[.slice A1_0 l1_0.length c1_0] 32 (0,0)) (kq BK121.out) hb);replace HB:=am (jd (Y4) hb);(try clear hb);(try clear hb2);(try clear hk);(try clear hi)))
        repeat (go_quiet (first |(go_at_call 100;(with_reducible refine (jA.calls k2 _ _ l0_0 false _ ?side1 ?side2 A62.out).mono ?_);(case side1=>exact cq (Kd.jI HR0_0.out HB.out));(case side2=>exact HC0_0.out);rintro e w72 ⟨rfl,hb⟩;replace BK120:=am (jb (g:=gb120) (o:=.cells #[.slice A0_0 l0_0.length c0_0] 37 (0,0)) (kq BK120.out) hb);replace BK121:=am (jb (g:=gb121) (o:=.cells #[.slice A1_0 l1_0.length c1_0] 32 (0,0)) (kq BK121.out) hb);replace HB:=am (jd (Y4) hb);(try clear hb);(try clear hb2);(try clear hk);(try clear hi)));try go_wp2_with (first |(go_at_call 100;(with_reducible refine (jA.calls k2 _ _ l0_0 false _ ?side1 ?side2 A62.out).mono ?_);(case side1=>exact cq (Kd.jI HR0_0.out HB.out));(case side2=>exact HC0_0.out);rintro e w72 ⟨rfl,hb⟩;replace BK120:=am (jb (g:=gb120) (o:=.cells #[.slice A0_0 l0_0.length c0_0] 37 (0,0)) (kq BK120.out) hb);replace BK121:=am (jb (g:=gb121) (o:=.cells #[.slice A1_0 l1_0.length c1_0] 32 (0,0)) (kq BK121.out) hb);replace HB:=am (jd (Y4) hb);(try clear hb);(try clear hb2);(try clear hk);(try clear hi))))
        go_ret
        exact ⟨Y1,Y4⟩
def jUa.f (l0_0 : List (S54)) (a1 : Int) : Option (Bool) := (jG.f a1 0 (wrap64 ((l0_0.length : Int) - 1))).bind fun t134 => (some t134)
set_option maxHeartbeats 8000000 in
set_option maxRecDepth 100000 in
theorem jUa.calls (A0_0 : Option Addr) (c0_0 : Nat) (l0_0 : List (S54)) (a1 : Int) (r : Bool) (w : World) (hr0_0 : Kd.C k54 w A0_0 l0_0.length l0_0) (hc0_0 : l0_0.length ≤ c0_0) (h : jUa.f l0_0 a1 = some r) :
  Calls Try.prog 69 #[.agg #[.slice A0_0 l0_0.length c0_0], .int .i64 a1] w fun e w'=>e=.returned (.bool r)∧Below w.heap.size w w':=by
 have hu32:=Try.underlying32
 have HR0_0:=am hr0_0
 have HC0_0:=am hc0_0
 clear hr0_0 hc0_0
 have HB:=am (Below.refl w.heap.size w)
 have H:((jG.f a1 0 (wrap64 ((l0_0.length:Int) - 1))).bind fun t134=>(some t134))=some r:=h
 clear h
 replace H:=bzS H
 obtain ⟨t134,A30,H⟩:=H
 replace H:(some t134)=some r:=H
 have A3:=am A30
 clear A30
 obtain rfl:=Option.some.inj H
 go_enter Try.func69,Try.ntmps69
 go_wp2_with (first |((with_reducible refine jv (N:=2) rfl ?_);refine bE (N:=2) (cs:=#[.slice A0_0 l0_0.length c0_0]) (t:=32) ?_;intro gb133 hg w4 hbox hb;have BK133:=am (hbox);have GW133:=am ((Y0:w.heap.size≤gb133));have GE133:=am ((Y0:w.heap.size≤gb133));replace HB:=am (jd (bq) hb);clear hb hbox hg;have hcz5_0:=bc0 BK133.out;have hfz5_0:=ja BK133.out 0) |((with_reducible refine jw (f:=98) rfl ?_);refine gL (some 10) Try.func98 #[.int .i64 a1, .int .i64 0, .int .i64 (wrap64 ((l0_0.length:Int) - 1))] ?_;(with_reducible refine (jG.calls a1 0 (wrap64 ((l0_0.length:Int) - 1)) t134 _ A3.out).mono ?_);rintro e w' ⟨rfl,⟨nd,rfl⟩⟩;refine ⟨_,rfl,?_⟩))
 go_ret
 exact ⟨Y1,by repeat (first |(with_reducible first | exact HB.out | apply jk | apply jf | apply jl | refine jh ?_ GE133.out) | exact HB.out)⟩
def jQa.f (k : Nat) (l0_0 : List (S94)) (l1_0 : List (S54)) (a2 : Int) : Option (Bool) := (jm.f k l0_0 l1_0).bind fun t137 => (if t137 = true then ((jUa.f l1_0 a2).bind fun t138 => (some t138)) else (some false))
set_option maxHeartbeats 8000000 in
set_option maxRecDepth 100000 in
theorem jQa.calls (k : Nat) (A0_0 : Option Addr) (c0_0 : Nat) (l0_0 : List (S94)) (A1_0 : Option Addr) (c1_0 : Nat) (l1_0 : List (S54)) (a2 : Int) (r : Bool) (w : World) (hr0_0 : Kd.C k94 w A0_0 l0_0.length l0_0) (hc0_0 : l0_0.length ≤ c0_0) (hr1_0 : Kd.C k54 w A1_0 l1_0.length l1_0) (hc1_0 : l1_0.length ≤ c1_0) (h : jQa.f k l0_0 l1_0 a2 = some r) :
  Calls Try.prog 41 #[.agg #[.slice A0_0 l0_0.length c0_0], .agg #[.slice A1_0 l1_0.length c1_0], .int .i64 a2] w fun e w'=>e=.returned (.bool r)∧Below w.heap.size w w':=by
 have hu37:=Try.underlying37
 have hu32:=Try.underlying32
 have HR0_0:=am hr0_0
 have HC0_0:=am hc0_0
 clear hr0_0 hc0_0
 have HR1_0:=am hr1_0
 have HC1_0:=am hc1_0
 clear hr1_0 hc1_0
 have HB:=am (Below.refl w.heap.size w)
 have H:((jm.f k l0_0 l1_0).bind fun t137=>(if t137=true then ((jUa.f l1_0 a2).bind fun t138=>(some t138)) else (some false)))=some r:=h
 clear h
 replace H:=bzS H
 obtain ⟨t137,A40,H⟩:=H
 replace H:(if t137=true then ((jUa.f l1_0 a2).bind fun t138=>(some t138)) else (some false))=some r:=H
 have A4:=am A40
 clear A40
 by_cases c5:t137=true
 ·subst c5
  have H1:((jUa.f l1_0 a2).bind fun t138=>(some t138))=some r:=by rw [if_pos rfl] at H;exact H
  clear H
  have H:=H1
  clear H1
  replace H:=bzS H
  obtain ⟨t138,A60,H⟩:=H
  replace H:(some t138)=some r:=H
  have A6:=am A60
  clear A60
  obtain rfl:=Option.some.inj H
  go_enter Try.func41,Try.ntmps41
  go_wp2_with (first |((with_reducible refine jv (N:=3) rfl ?_);refine bE (N:=3) (cs:=#[.slice A0_0 l0_0.length c0_0]) (t:=37) ?_;intro gb135 hg w7 hbox hb;have BK135:=am (hbox);have GW135:=am ((Y0:w.heap.size≤gb135));have GE135:=am ((Y0:w.heap.size≤gb135));replace HB:=am (jd (bq) hb);clear hb hbox hg) |((with_reducible refine jv (N:=4) rfl ?_);refine bE (N:=4) (cs:=#[.slice A1_0 l1_0.length c1_0]) (t:=32) ?_;intro gb136 hg w8 hbox hb;have BK136:=am (hbox);have GW136:=am ((Y40:w.heap.size≤gb136));have GE136:=am ((Y40:w.heap.size≤gb136));have NB135_136:=am ((by rw [hg];exact Nat.ne_of_lt (jZ (g:=gb135) (o:=.cells #[.slice A0_0 l0_0.length c0_0] 37 (0,0)) (kq BK135.out)):gb135≠gb136));have NB136_135:=am ((by rw [hg];exact Nat.ne_of_gt (jZ (g:=gb135) (o:=.cells #[.slice A0_0 l0_0.length c0_0] 37 (0,0)) (kq BK135.out)):gb136≠gb135));replace BK135:=am (jb (g:=gb135) (o:=.cells #[.slice A0_0 l0_0.length c0_0] 37 (0,0)) (kq BK135.out) hb);replace HB:=am (jd (Y65) hb);clear hb hbox hg;have hnb9:=NB135_136.out;have hnc9:=NB136_135.out;have hcz10_0:=bc0 BK135.out;have hfz10_0:=ja BK135.out 0;have hcz11_0:=bc0 BK136.out;have hfz11_0:=ja BK136.out 0) |((with_reducible refine jw (f:=66) rfl ?_);refine gL (some 9) Try.func66 #[.agg #[.slice A0_0 l0_0.length c0_0], .agg #[.slice A1_0 l1_0.length c1_0]] ?_;(with_reducible refine (jm.calls k _ _ l0_0 _ _ l1_0 true _ ?side1 ?side2 ?side3 ?side4 A4.out).mono ?_);(case side1=>exact cq (Kd.jI HR0_0.out HB.out));(case side2=>exact HC0_0.out);(case side3=>exact cq (Kd.jI HR1_0.out HB.out));(case side4=>exact HC1_0.out);rintro e w12 ⟨rfl,hb⟩;refine ⟨_,rfl,?_⟩;replace BK135:=am (jb (g:=gb135) (o:=.cells #[.slice A0_0 l0_0.length c0_0] 37 (0,0)) (kq BK135.out) hb);replace BK136:=am (jb (g:=gb136) (o:=.cells #[.slice A1_0 l1_0.length c1_0] 32 (0,0)) (kq BK136.out) hb);replace HB:=am (jd (Y33) hb);(try clear hb);(try clear hb2);(try clear hk);(try clear hi);have hcz13_0:=bc0 BK136.out;have hfz13_0:=ja BK136.out 0) |(go_at_call 69;(with_reducible refine (jUa.calls _ _ l1_0 a2 t138 _ ?side1 ?side2 A6.out).mono ?_);(case side1=>exact cq (Kd.jI HR1_0.out HB.out));(case side2=>exact HC1_0.out);rintro e w14 ⟨rfl,hb⟩;replace BK135:=am (jb (g:=gb135) (o:=.cells #[.slice A0_0 l0_0.length c0_0] 37 (0,0)) (kq BK135.out) hb);replace BK136:=am (jb (g:=gb136) (o:=.cells #[.slice A1_0 l1_0.length c1_0] 32 (0,0)) (kq BK136.out) hb);replace HB:=am (jd (Y33) hb);(try clear hb);(try clear hb2);(try clear hk);(try clear hi)))
  go_ret
  exact ⟨Y1,Y33⟩
 ·replace c5:=Bool.eq_false_iff.mpr c5
  subst c5
  have H1:(some false)=some r:=by rw [if_neg (show ¬ (false=true) by decide)] at H;exact H
  clear H
  have H:=H1
  clear H1
  obtain rfl:=Option.some.inj H
  go_enter Try.func41,Try.ntmps41
  go_wp2_with (first |((with_reducible refine jv (N:=3) rfl ?_);refine bE (N:=3) (cs:=#[.slice A0_0 l0_0.length c0_0]) (t:=37) ?_;intro gb135 hg w15 hbox hb;have BK135:=am (hbox);have GW135:=am ((Y0:w.heap.size≤gb135));have GE135:=am ((Y0:w.heap.size≤gb135));replace HB:=am (jd (bq) hb);clear hb hbox hg) |((with_reducible refine jv (N:=4) rfl ?_);refine bE (N:=4) (cs:=#[.slice A1_0 l1_0.length c1_0]) (t:=32) ?_;intro gb136 hg w16 hbox hb;have BK136:=am (hbox);have GW136:=am ((Y40:w.heap.size≤gb136));have GE136:=am ((Y40:w.heap.size≤gb136));have NB135_136:=am ((by rw [hg];exact Nat.ne_of_lt (jZ (g:=gb135) (o:=.cells #[.slice A0_0 l0_0.length c0_0] 37 (0,0)) (kq BK135.out)):gb135≠gb136));have NB136_135:=am ((by rw [hg];exact Nat.ne_of_gt (jZ (g:=gb135) (o:=.cells #[.slice A0_0 l0_0.length c0_0] 37 (0,0)) (kq BK135.out)):gb136≠gb135));replace BK135:=am (jb (g:=gb135) (o:=.cells #[.slice A0_0 l0_0.length c0_0] 37 (0,0)) (kq BK135.out) hb);replace HB:=am (jd (Y65) hb);clear hb hbox hg;have hnb17:=NB135_136.out;have hnc17:=NB136_135.out;have hcz18_0:=bc0 BK135.out;have hfz18_0:=ja BK135.out 0;have hcz19_0:=bc0 BK136.out;have hfz19_0:=ja BK136.out 0) |((with_reducible refine jw (f:=66) rfl ?_);refine gL (some 9) Try.func66 #[.agg #[.slice A0_0 l0_0.length c0_0], .agg #[.slice A1_0 l1_0.length c1_0]] ?_;(with_reducible refine (jm.calls k _ _ l0_0 _ _ l1_0 false _ ?side1 ?side2 ?side3 ?side4 A4.out).mono ?_);(case side1=>exact cq (Kd.jI HR0_0.out HB.out));(case side2=>exact HC0_0.out);(case side3=>exact cq (Kd.jI HR1_0.out HB.out));(case side4=>exact HC1_0.out);rintro e w20 ⟨rfl,hb⟩;refine ⟨_,rfl,?_⟩;replace BK135:=am (jb (g:=gb135) (o:=.cells #[.slice A0_0 l0_0.length c0_0] 37 (0,0)) (kq BK135.out) hb);replace BK136:=am (jb (g:=gb136) (o:=.cells #[.slice A1_0 l1_0.length c1_0] 32 (0,0)) (kq BK136.out) hb);replace HB:=am (jd (Y33) hb);(try clear hb);(try clear hb2);(try clear hk);(try clear hi)))
  go_ret
  exact ⟨Y1,Y33⟩
end Go.Proofs.Ytecdfgejmbpclaa.P
end
