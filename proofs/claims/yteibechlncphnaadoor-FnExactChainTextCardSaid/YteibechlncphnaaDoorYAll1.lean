/- One part of the proofs on this program: functions of the program as plain functions, that the code comes to them, and facts on them. -/
import Derived.ArgAppend
import Derived.Below
import Derived.BigQuiet
import Derived.Deep.AppendLies
import Derived.Deep.CutBlock
import Derived.Deep.DeepCutAuto
import Derived.Deep.Draws
import Derived.Deep.LoopGhost
import Derived.Deep.OwnRows
import Derived.Deep.QuietTactic
import Derived.Deep.RegionHeld3
import Derived.KernelRfl
import Derived.Laws.BitsLemmas
import Derived.Laws.BytesArg
import Derived.Laws.IdiomCopy
import Derived.Laws.MakeOwn
import Derived.Laws.OwnMore
import Derived.Laws.Rows
import Derived.Laws.Slices
import Derived.Laws.StructEq
import Derived.Lib.AppendStr
import Derived.Lib.ConvBytes
import Derived.LoopTactic
import Derived.Maps.AppendAt
import Derived.OrdersHeld
import Derived.OwnWalk
import Derived.RowKit
import Derived.RowKit3
import Derived.Shelf.Strconv.Itoa3
import Derived.Tactics
import Derived.WalkKit
import Derived.WideLaws
import Derived.Test.YteibechlncphnaaDoorProg
import Derived.Test.YteibechlncphnaaDoorYWApart
import Derived.Test.YteibechlncphnaaDoorYWAuto
import Derived.Test.YteibechlncphnaaDoorYWClip
import Derived.Test.YteibechlncphnaaDoorYWFoot
import Derived.Test.YteibechlncphnaaDoorYWGuard
import Derived.Test.YteibechlncphnaaDoorYWIdx
import Derived.Test.YteibechlncphnaaDoorYWKept
import Derived.Test.YteibechlncphnaaDoorYWLast
import Derived.Test.YteibechlncphnaaDoorYWMore
import Derived.Test.YteibechlncphnaaDoorYWN
import Derived.Test.YteibechlncphnaaDoorYWRepsOne
import Derived.Test.YteibechlncphnaaDoorYWShare
import Derived.Test.YteibechlncphnaaDoorYWSome
import Derived.Test.YteibechlncphnaaDoorYWTab
import Derived.Test.YteibechlncphnaaDoorYWWords
section
namespace Go.Proofs.YteibechlncphnaaDoor.P
open Go.RowKit Go.Proofs.YteibechlncphnaaDoorW.PrintWords Go.Proofs.YteibechlncphnaaDoorW.PrintLast Go.Proofs.YteibechlncphnaaDoorW.PrintMore
attribute [local go_sem] jS jQ jba jaa jK jJ jR jP jg
set_option linter.unusedVariables false
set_option linter.unusedSimpArgs false
def errW : Option Int → Value
 | none=>.nilIface
 | some c=>.iface 0 (.int .i64 c)
theorem errW_none : errW none = .nilIface := rfl
theorem errW_some (c : Int) : errW (some c) = .iface 0 (.int .i64 c) := rfl
theorem info3 : (Tryd.prog.info? 3).map (fun i => (i.zero, i.size, i.bytes)) = some (some (.int .i64 0), 1, 8) := by kernel_rfl
theorem info66 : (Tryd.prog.info? 66).map (fun i => (i.zero, i.size, i.bytes)) = some (some (.agg #[(.int .i64 0), (.int .i64 0), (.int .i64 0), (.int .i64 0), (.bool false)]), 5, 40) := by kernel_rfl
theorem info99 : (Tryd.prog.info? 99).map (fun i => (i.zero, i.size, i.bytes)) = some (some (.agg #[(.string ⟨#[]⟩), (.int .i64 0)]), 2, 24) := by kernel_rfl
structure S66 where
 f0:Int
 f1:Int
 f2:Int
 f3:Int
 f4:Bool
def z66 : S66 := ⟨(0 : Int), (0 : Int), (0 : Int), (0 : Int), false⟩
def k66 : Kd S66 := Kd.iso (Kd.pair (Kd.int .i64) (Kd.pair (Kd.int .i64) (Kd.pair (Kd.int .i64) (Kd.pair (Kd.int .i64) Kd.bool)))) (fun x : S66 => (x.f0, x.f1, x.f2, x.f3, x.f4))
theorem k66_open {w : World} {x : S66} {cs : List Value} (h : k66.K w x cs) : cs = [.int .i64 x.f0, .int .i64 x.f1, .int .i64 x.f2, .int .i64 x.f3, .bool x.f4] := by
 obtain ⟨_,_,rfl,rfl,⟨_,_,rfl,rfl,⟨_,_,rfl,rfl,⟨_,_,rfl,rfl,rfl⟩⟩⟩⟩:=h
 exact rfl
theorem k66_openM {w : World} {base : Nat} {ok : Nat → Prop} {x : S66} {cs : List Value} (h : k66.M w base ok x cs) : cs = [.int .i64 x.f0, .int .i64 x.f1, .int .i64 x.f2, .int .i64 x.f3, .bool x.f4] := by
 obtain ⟨_,_,rfl,rfl,⟨_,_,rfl,rfl,⟨_,_,rfl,rfl,⟨_,_,rfl,rfl,rfl⟩⟩⟩⟩:=h
 exact rfl
theorem k66_mkM (w : World) (base : Nat) (ok : Nat → Prop) (x : S66)  : k66.M w base ok x [.int .i64 x.f0, .int .i64 x.f1, .int .i64 x.f2, .int .i64 x.f3, .bool x.f4] := ⟨[.int .i64 x.f0], [.int .i64 x.f1, .int .i64 x.f2, .int .i64 x.f3, .bool x.f4], rfl, rfl, ⟨[.int .i64 x.f1], [.int .i64 x.f2, .int .i64 x.f3, .bool x.f4], rfl, rfl, ⟨[.int .i64 x.f2], [.int .i64 x.f3, .bool x.f4], rfl, rfl, ⟨[.int .i64 x.f3], [.bool x.f4], rfl, rfl, rfl⟩⟩⟩⟩
def jb (xs : List S66) (i : Int) : S66 := xs.getD i.toNat z66
theorem jLa {w : World} {A : Option Addr} {n : Nat} {xs : List S66} (h : Kd.C k66 w A n xs) (i : Int) (h0 : 0 ≤ i) (h1 : i < n) : ∃ ad , A = some ad ∧ w.cell? (ad.add (i.toNat * 5)) = some (.int .i64 (jb xs i).f0) ∧ w.cell? ⟨(ad.add (i.toNat * 5)).block, (ad.add (i.toNat * 5)).off + 1, none⟩ = some (.int .i64 (jb xs i).f1) ∧ w.cell? ⟨(ad.add (i.toNat * 5)).block, (ad.add (i.toNat * 5)).off + 2, none⟩ = some (.int .i64 (jb xs i).f2) ∧ w.cell? ⟨(ad.add (i.toNat * 5)).block, (ad.add (i.toNat * 5)).off + 3, none⟩ = some (.int .i64 (jb xs i).f3) ∧ w.cell? ⟨(ad.add (i.toNat * 5)).block, (ad.add (i.toNat * 5)).off + 4, none⟩ = some (.bool (jb xs i).f4) := by
 obtain ⟨ad,c,e,_,hK,hc0⟩:=Kd.C_get h z66 i h0 h1
 have hc:∀ j u,c[j]?=some u→w.cell? (ad.add (i.toNat * 5+j))=some u:=hc0
 obtain rfl:=k66_open hK
 exact ⟨ad,e,hc 0 _ rfl,by rw [← jfb _ _ 1 (by omega)];exact hc 1 _ rfl,by rw [← jfb _ _ 2 (by omega)];exact hc 2 _ rfl,by rw [← jfb _ _ 3 (by omega)];exact hc 3 _ rfl,by rw [← jfb _ _ 4 (by omega)];exact hc 4 _ rfl⟩
structure S99 where
 f0:ByteArray
 f1:Int
def z99 : S99 := ⟨(⟨#[]⟩ : ByteArray), (0 : Int)⟩
def k99 : Kd S99 := Kd.iso (Kd.pair Kd.string (Kd.int .i64)) (fun x : S99 => (x.f0, x.f1))
theorem k99_open {w : World} {x : S99} {cs : List Value} (h : k99.K w x cs) : cs = [.string x.f0, .int .i64 x.f1] := by
 obtain ⟨_,_,rfl,rfl,rfl⟩:=h
 exact rfl
theorem k99_openM {w : World} {base : Nat} {ok : Nat → Prop} {x : S99} {cs : List Value} (h : k99.M w base ok x cs) : cs = [.string x.f0, .int .i64 x.f1] := by
 obtain ⟨_,_,rfl,rfl,rfl⟩:=h
 exact rfl
theorem k99_mkM (w : World) (base : Nat) (ok : Nat → Prop) (x : S99)  : k99.M w base ok x [.string x.f0, .int .i64 x.f1] := ⟨[.string x.f0], [.int .i64 x.f1], rfl, rfl, rfl⟩
def jA (xs : List S99) (i : Int) : S99 := xs.getD i.toNat z99
theorem jxb {w : World} {A : Option Addr} {n : Nat} {xs : List S99} (h : Kd.C k99 w A n xs) (i : Int) (h0 : 0 ≤ i) (h1 : i < n) : ∃ ad , A = some ad ∧ w.cell? (ad.add (i.toNat * 2)) = some (.string (jA xs i).f0) ∧ w.cell? ⟨(ad.add (i.toNat * 2)).block, (ad.add (i.toNat * 2)).off + 1, none⟩ = some (.int .i64 (jA xs i).f1) := by
 obtain ⟨ad,c,e,_,hK,hc0⟩:=Kd.C_get h z99 i h0 h1
 have hc:∀ j u,c[j]?=some u→w.cell? (ad.add (i.toNat * 2+j))=some u:=hc0
 obtain rfl:=k99_open hK
 exact ⟨ad,e,hc 0 _ rfl,by rw [← jfb _ _ 1 (by omega)];exact hc 1 _ rfl⟩
structure S98 where
 f0:ByteArray
 f1:Int
def z98 : S98 := ⟨(⟨#[]⟩ : ByteArray), (0 : Int)⟩
def k98 : Kd S98 := Kd.iso (Kd.pair Kd.string (Kd.int .i64)) (fun x : S98 => (x.f0, x.f1))
theorem k98_open {w : World} {x : S98} {cs : List Value} (h : k98.K w x cs) : cs = [.string x.f0, .int .i64 x.f1] := by
 obtain ⟨_,_,rfl,rfl,rfl⟩:=h
 exact rfl
theorem k98_mk (w : World) (x : S98)  : k98.K w x [.string x.f0, .int .i64 x.f1] := ⟨[.string x.f0], [.int .i64 x.f1], rfl, rfl, rfl⟩
def jbb (xs : List S98) (i : Int) : S98 := xs.getD i.toNat z98
theorem at_T98 {w : World} {A : Option Addr} {n : Nat} {xs : List S98} (h : Kd.C k98 w A n xs) (i : Int) (h0 : 0 ≤ i) (h1 : i < n) : ∃ ad , A = some ad ∧ w.cell? (ad.add (i.toNat * 2)) = some (.string (jbb xs i).f0) ∧ w.cell? ⟨(ad.add (i.toNat * 2)).block, (ad.add (i.toNat * 2)).off + 1, none⟩ = some (.int .i64 (jbb xs i).f1) := by
 obtain ⟨ad,c,e,_,hK,hc0⟩:=Kd.C_get h z98 i h0 h1
 have hc:∀ j u,c[j]?=some u→w.cell? (ad.add (i.toNat * 2+j))=some u:=hc0
 obtain rfl:=k98_open hK
 exact ⟨ad,e,hc 0 _ rfl,by rw [← jfb _ _ 1 (by omega)];exact hc 1 _ rfl⟩
structure S102 where
 f0:Int
 f1:Int
 f2:Int
 f3:Int
 f4:Bool
def z102 : S102 := ⟨(0 : Int), (0 : Int), (0 : Int), (0 : Int), false⟩
def k102 : Kd S102 := Kd.iso (Kd.pair (Kd.int .i64) (Kd.pair (Kd.int .i64) (Kd.pair (Kd.int .i64) (Kd.pair (Kd.int .i64) Kd.bool)))) (fun x : S102 => (x.f0, x.f1, x.f2, x.f3, x.f4))
theorem k102_open {w : World} {x : S102} {cs : List Value} (h : k102.K w x cs) : cs = [.int .i64 x.f0, .int .i64 x.f1, .int .i64 x.f2, .int .i64 x.f3, .bool x.f4] := by
 obtain ⟨_,_,rfl,rfl,⟨_,_,rfl,rfl,⟨_,_,rfl,rfl,⟨_,_,rfl,rfl,rfl⟩⟩⟩⟩:=h
 exact rfl
theorem k102_mk (w : World) (x : S102)  : k102.K w x [.int .i64 x.f0, .int .i64 x.f1, .int .i64 x.f2, .int .i64 x.f3, .bool x.f4] := ⟨[.int .i64 x.f0], [.int .i64 x.f1, .int .i64 x.f2, .int .i64 x.f3, .bool x.f4], rfl, rfl, ⟨[.int .i64 x.f1], [.int .i64 x.f2, .int .i64 x.f3, .bool x.f4], rfl, rfl, ⟨[.int .i64 x.f2], [.int .i64 x.f3, .bool x.f4], rfl, rfl, ⟨[.int .i64 x.f3], [.bool x.f4], rfl, rfl, rfl⟩⟩⟩⟩
def jJa (xs : List S102) (i : Int) : S102 := xs.getD i.toNat z102
theorem at_T102 {w : World} {A : Option Addr} {n : Nat} {xs : List S102} (h : Kd.C k102 w A n xs) (i : Int) (h0 : 0 ≤ i) (h1 : i < n) : ∃ ad , A = some ad ∧ w.cell? (ad.add (i.toNat * 5)) = some (.int .i64 (jJa xs i).f0) ∧ w.cell? ⟨(ad.add (i.toNat * 5)).block, (ad.add (i.toNat * 5)).off + 1, none⟩ = some (.int .i64 (jJa xs i).f1) ∧ w.cell? ⟨(ad.add (i.toNat * 5)).block, (ad.add (i.toNat * 5)).off + 2, none⟩ = some (.int .i64 (jJa xs i).f2) ∧ w.cell? ⟨(ad.add (i.toNat * 5)).block, (ad.add (i.toNat * 5)).off + 3, none⟩ = some (.int .i64 (jJa xs i).f3) ∧ w.cell? ⟨(ad.add (i.toNat * 5)).block, (ad.add (i.toNat * 5)).off + 4, none⟩ = some (.bool (jJa xs i).f4) := by
 obtain ⟨ad,c,e,_,hK,hc0⟩:=Kd.C_get h z102 i h0 h1
 have hc:∀ j u,c[j]?=some u→w.cell? (ad.add (i.toNat * 5+j))=some u:=hc0
 obtain rfl:=k102_open hK
 exact ⟨ad,e,hc 0 _ rfl,by rw [← jfb _ _ 1 (by omega)];exact hc 1 _ rfl,by rw [← jfb _ _ 2 (by omega)];exact hc 2 _ rfl,by rw [← jfb _ _ 3 (by omega)];exact hc 3 _ rfl,by rw [← jfb _ _ 4 (by omega)];exact hc 4 _ rfl⟩
def jI.l0 : Nat → List Int → Int → Int → Int → Option (Int)
 | 0,_,_,_,_=>none
 | k+1,x0,x1,x7,x8=>if x8<x7 then (if 0≤x8 then (if x8<(x0.length:Int) then (if x1=(rd x0 x8) then (some x8) else (jI.l0 k x0 x1 x7 (wrap64 (x8+1)))) else (none)) else (none)) else (some (-1))
def jI.f (k : Nat) (l0 : List Int) (a1 : Int) : Option (Int) := jI.l0 k l0 a1 (l0.length : Int) 0
set_option maxHeartbeats 8000000 in
set_option maxRecDepth 100000 in
theorem jI.calls (k : Nat) (A0 : Option Addr) (c0 : Nat) (l0 : List Int) (a1 : Int) (r : Int) (w : World) (hr0 : Kd.C (Kd.int .i64) w A0 l0.length l0) (hc0 : l0.length ≤ c0) (h : jI.f k l0 a1 = some r) :
  Calls Tryd.prog 84 #[.slice A0 l0.length c0, .int .i64 a1] w fun e w'=>e=.returned (.int .i64 r)∧jMa w w':=by
 have HR0:=am hr0
 have HC0:=am hc0
 clear hr0 hc0
 have H:(jI.l0 k l0 a1 (l0.length:Int) 0)=some r:=h
 clear h
 have H':=am H
 clear H
 go_enter Tryd.func84,Tryd.ntmps84
 go_wp2
 go_loopg [8] k (fun kq v8 w'=>∃ (x8_1:Int),v8=.int .i64 x8_1∧jH (jI.l0 kq l0 a1 (l0.length:Int) x8_1=some r)∧jH (kq≤k)∧jMa w w')
 case atStart=>exact ⟨(0),(sq),H',⟨Nat.le_refl _⟩,Y2⟩
 case round =>
  clear H'
  try clear p2
  obtain ⟨x8_1,rfl,HA,HK1,⟨m1,rfl⟩⟩:=hrel
  cases gk with
  | zero=>exact absurd HA.out (by simp [jI.l0])
  | succ k1 =>
   have H:=HA.out
   clear HA
   simp only [jI.l0] at H
   by_cases c3:x8_1<(l0.length:Int)
   ·rw [if_pos c3] at H
    have c3b0:decide (x8_1<(l0.length:Int))=true:=dzT c3
    clear c3
    by_cases c4:0≤x8_1
    ·rw [if_pos c4] at H
     have c4b0:decide (0≤x8_1)=true:=dzT c4
     clear c4
     by_cases c5:x8_1<(l0.length:Int)
     ·rw [if_pos c5] at H
      have c5b0:decide (x8_1<(l0.length:Int))=true:=dzT c5
      clear c5
      by_cases c6:a1=(rd l0 x8_1)
      ·rw [if_pos c6] at H
       have c6b0:(a1 == (rd l0 x8_1))=true:=beq_iff_eq.mpr c6
       have c6b1:(a1 != (rd l0 x8_1))=false:=bne_eq_false_iff_eq.mpr c6
       clear c6
       obtain rfl:=Option.some.inj H
       have p315:0≤(x8_1:Int):=ozD (uq)
       have q315:x8_1<(l0.length:Int):=ozD (uq)
       obtain ⟨ad315,e315,hx315_0⟩:=Kd.jtb HR0.out x8_1 p315 q315
       cases e315
       replace p315:=ezT p315
       replace q315:=ezT q315
       go_wp2
       go_ret
       exact ⟨sq,Y2⟩
      ·rw [if_neg c6] at H
       have c6b0:(a1 == (rd l0 x8_1))=false:=beq_eq_false_iff_ne.mpr c6
       have c6b1:(a1 != (rd l0 x8_1))=true:=bne_iff_ne.mpr c6
       have H':=am H
       clear H
       have p315:0≤(x8_1:Int):=ozD (uq)
       have q315:x8_1<(l0.length:Int):=ozD (uq)
       obtain ⟨ad315,e315,hx315_0⟩:=Kd.jtb HR0.out x8_1 p315 q315
       cases e315
       replace p315:=ezT p315
       replace q315:=ezT q315
       go_wp2
       go_roundg k1
       case measure=>have:=HK1.out;omega
       case rel=>exact ⟨(wrap64 (x8_1+1)),(sq),H',⟨by have:=HK1.out;omega⟩,Y2⟩
     ·rw [if_neg c5] at H
      exact absurd H (by simp)
    ·rw [if_neg c4] at H
     exact absurd H (by simp)
   ·rw [if_neg c3] at H
    have c3b0:decide (x8_1<(l0.length:Int))=false:=dzF c3
    clear c3
    obtain rfl:=Option.some.inj H
    go_wp2
    go_ret
    exact ⟨sq,Y2⟩
def jea.f (k : Nat) (l0 : List Int) (a1 : Int) : Option (Bool) := (jI.f k l0 a1).bind fun t316 => (some (decide (t316 ≥ 0)))
set_option maxHeartbeats 8000000 in
set_option maxRecDepth 100000 in
theorem jea.calls (k : Nat) (A0 : Option Addr) (c0 : Nat) (l0 : List Int) (a1 : Int) (r : Bool) (w : World) (hr0 : Kd.C (Kd.int .i64) w A0 l0.length l0) (hc0 : l0.length ≤ c0) (h : jea.f k l0 a1 = some r) :
  Calls Tryd.prog 53 #[.slice A0 l0.length c0, .int .i64 a1] w fun e w'=>e=.returned (.bool r)∧jMa w w':=by
 have HR0:=am hr0
 have HC0:=am hc0
 clear hr0 hc0
 have H:((jI.f k l0 a1).bind fun t316=>(some (decide (t316≥0))))=some r:=h
 clear h
 replace H:=bzS H
 obtain ⟨t316,A30,H⟩:=H
 replace H:(some (decide (t316≥0)))=some r:=H
 have A3:=am A30
 clear A30
 obtain rfl:=Option.some.inj H
 go_enter Tryd.func53,Tryd.ntmps53
 go_wp2_with (first |((with_reducible refine jB (f:=84) rfl ?_);refine gL (some 7) Tryd.func84 #[.slice A0 l0.length c0, .int .i64 a1] ?_;(with_reducible refine (jI.calls k _ _ l0 a1 t316 _ ?side1 ?side2 A3.out).mono ?_);(case side1=>repeat (first | exact HR0.out |(with_reducible refine Kd.C_alloc ?_ _) |(with_reducible refine Kd.C_drewN ?_ _) |(with_reducible refine Kd.C_drew ?_)));(case side2=>exact HC0.out);rintro e w' ⟨rfl,⟨nd,rfl⟩⟩;refine ⟨_,rfl,?_⟩))
 go_ret
 exact ⟨sq,Y2⟩
def jia.f (l0 : List Int) : Option (List Int) := some (l0)
set_option maxHeartbeats 8000000 in
set_option maxRecDepth 100000 in
theorem jia.calls (P0_ : Nat → Prop) (u9000_ : Value) (l0 : List Int) (r : List Int) (w0 w : World) (hB : Below w0.heap.size w0 w) (ho0 : Kd.R (Kd.int .i64) 3 w w0.heap.size P0_ u9000_ l0) (h : jia.f l0 = some r) :
  Calls Tryd.prog 54 #[u9000_] w fun e w'=>∃ v0_:Value,e=.returned (v0_)∧Kd.R (Kd.int .i64) 3 w' w0.heap.size (fun k_=>(P0_ k_∨w.heap.size≤k_)) v0_ r∧Below w0.heap.size w0 w'∧Kept w w' (fun k_=>P0_ k_):=by
 have HO0:=am (show Kd.R (Kd.int .i64) 3 w w0.heap.size (fun k_=>(P0_ k_∨w.heap.size≤k_)) u9000_ l0 from Kd.jcb ho0 (fun k_ hk=>(.inl hk)))
 have HK:=am (Kept.refl w (fun k_=>P0_ k_))
 have HW0:=am hB.size
 have HB:=am hB
 clear hB
 have H:(some (l0))=some r:=h
 clear h
 obtain ⟨y317,hy317⟩:∃ y_:List Int,y_=(l0):=⟨_,rfl⟩
 replace H:(some y317)=some r:=by first |(rw [hy317];with_reducible exact H) |(have H2_:=(Option.bind_some _ _).symm.trans H;rw [hy317];with_reducible exact H2_) |(have H2_:=(Option.bind_some _ _).symm.trans H;with_reducible exact H2_) | with_reducible exact H |(rw [hy317];exact H) | exact H
 have Ny317:=am hy317
 clear hy317
 obtain rfl:=Option.some.inj H
 obtain ⟨Ao2,co2,eo2⟩:=Kd.jEa HO0.out
 subst eo2
 obtain ⟨i03,hi03,_,hsz3,_⟩:=info_parts info3
 have hy3:y317.length=l0.length:=(by rw [Ny317.out])
 have hcut3:=cut_clip (P:=Tryd.prog) 32 3 Tryd.underlying32 hi03 Ao2 _ co2 _ (Kd.jN HO0.out).2.1 hy3
 have hr3:=Kd.R_clip HO0.out Ny317.out
 clear hy3 hi03 hsz3 HO0
 have HO319:=am hr3
 clear hr3
 go_enter Tryd.func54,Tryd.ntmps54
 go_wp2
 go_ret
 exact ⟨_,Y1,rq HO319.out,bq,by repeat (first |(with_reducible first | exact HK.out | apply Kept.alloc | apply Kept.drewN | apply Kept.drew) | exact HK.out)⟩
def jTa (nx : Int → Option Int) : Nat → Int → List Int → Option (List Int)
 | 0,_,_=>none
 | k+1,f,acc=>if f≥0 then ((jea.f k acc f).bind fun b=>if b=true then some acc else (if acc.length<17592186044416 then (nx f).bind fun g=>jTa nx k g (acc ++ [f]) else none)) else some acc
set_option maxHeartbeats 8000000 in
set_option maxRecDepth 100000 in
theorem impl_contexts_walk (k : Nat) (B0_ : Nat) (nx : Int → Option Int) (a0 : Int) (r : List Int) (w : World) (h : jTa nx k a0 [] = some r)
  (hp:∀ W,Below w.heap.size w W→∀ (x y:Int),nx x=some y→Calls Tryd.prog 90 #[.int .i64 x, .pointer (some ⟨B0_,0,none⟩)] W fun e w'=>e=.returned (.int .i64 y)∧Below W.heap.size W w') :
  Calls Tryd.prog 29 #[.int .i64 a0, .func (.func 90) #[] #[.pointer (some ⟨B0_,0,none⟩)]] w fun e w'=>∃ v0_:Value,e=.returned v0_∧Kd.R (Kd.int .i64) 3 w' w.heap.size (fun _=>True) v0_ r∧Below w.heap.size w w':=by
 have HP:=am hp
 have H0:=am h
 have HB:=am (Below.refl w.heap.size w)
 clear hp h
 go_enter Tryd.func29,Tryd.ntmps29
 go_wp2_with ((with_reducible refine jr (N:=6) rfl ?_);refine Kd.R_lit (Kd.int .i64) _ 3 ?hg (N:=6) ?hd (xs:=([]:List Int)) (inner:=[]) (ok:=fun _=>True) (okp:=fun _=>True) ?hr ?hp (fun _ hk=>hk) trivial (Below.refl _ _) (Nat.le_refl _) (by simp) ?_;(case hd=>rfl);(case hg=>rfl);(case hr=>exact Y6);(case hp=>exact (Reps.none _ _));intro v111 w4 ho5 hb hg_ hnew_;clear hg_ hnew_;have n0_:=am (Kd.jGa ho5 (jE (bq)));have n2_:=am (jd (bq) hb);clear HB;have HO:=n0_;have HB:=n2_;clear n0_ n2_ hb ho5)
 go_loopg [0,5] k (fun kq v0 v5 w'=>∃ (x:Int) (acc:List Int),v0=.int .i64 x∧jH (jTa nx kq x acc=some r)∧jH (kq≤k)∧jH (Kd.R (Kd.int .i64) 3 w' w.heap.size (fun _=>True) v5 acc)∧jH (Below w.heap.size w w'))
 case atStart=>exact ⟨a0,[],(sq),H0,⟨Nat.le_refl _⟩,⟨rq HO.out⟩,⟨bq⟩⟩
 case round =>
  clear H0 HO HB
  obtain ⟨x,acc,rfl,HA,HK1,HO,HB⟩:=hrel
  cases gk with
  | zero=>exact absurd HA.out (by simp [jTa])
  | succ k1 =>
   have H:=HA.out
   clear HA
   simp only [jTa] at H
   obtain ⟨Ao,co,eo⟩:=Kd.jEa HO.out
   subst eo
   by_cases c6:x≥0
   ·rw [if_pos c6] at H
    have c6b0:decide (0≤x)=true:=dzT c6
    clear c6
    obtain ⟨b,A70,H⟩:=bzS H
    have A7:=am A70
    clear A70
    cases b with
    | true =>
     rw [if_pos rfl] at H
     obtain rfl:=Option.some.inj H
     clear H
     go_wp2_with (first |(go_at_call 53;(with_reducible refine (jea.calls k1 _ _ acc x true _ ?side1 ?side2 A7.out).mono ?_);(case side1=>exact cq (Kd.jN HO.out).2.2);(case side2=>exact (Kd.jN HO.out).2.1);rintro e w' ⟨rfl,⟨nd,rfl⟩⟩) |(go_at_call 54;refine (jia.calls (fun _=>True) _ acc acc w _ (bq) (rq HO.out) (show jia.f acc=some acc from rfl)).mono ?_;rintro e w9 ⟨v9,rfl,hR9,hB9,hK9⟩))
     go_ret
     exact ⟨_,rfl,Kd.jcb hR9 (fun _ _=>trivial),hB9⟩
    | false =>
     rw [if_neg (by simp)] at H
     by_cases c10:acc.length<17592186044416
     ·rw [if_pos c10] at H
      have LM:=am c10
      clear c10
      obtain ⟨y,hy,H⟩:=bzS H
      have HQ:=am hy
      have H':=am H
      clear H hy
      go_wp2_with (first |(go_at_call 53;(with_reducible refine (jea.calls k1 _ _ acc x false _ ?side1 ?side2 A7.out).mono ?_);(case side1=>exact cq (Kd.jN HO.out).2.2);(case side2=>exact (Kd.jN HO.out).2.1);rintro e w' ⟨rfl,⟨nd,rfl⟩⟩) |(go_at_call 90;refine (HP.out _ (bq) _ _ HQ.out).mono ?_;rintro e w2 ⟨rfl,hb2⟩;have n1_:=am (Kd.jfa (rq HO.out) hb2);have n2_:=am (jd (bq) hb2);clear HO HB;have HO:=n1_;have HB:=n2_;clear n1_ n2_ hb2) |((with_reducible refine jCb (b:=.append) (xs:=#[.tmp 18, .tmp 20]) rfl ?_);at_builtin;refine Kd.R_append (Kd.int .i64) (w0:=w) w.heap.size rfl (.tmp 18) (.tmp 20) 32 3 (.int .i64 0) 8 rfl Tryd.underlying32 info3 rfl (by decide) (by omega) (.slice Ao acc.length co) acc x [.int .i64 x] (fun _=>True) (fun _=>False) rfl rfl ?aP (fun _ hk=>hk.elim) ?aF ?aO ?aB ?aS ?aL ?_;(case aP=>exact rfl);(case aB=>exact (bq));(case aF=>exact (fun _ _=>trivial));(case aO=>exact (rq HO.out));(case aS=>exact (jE (bq)));(case aL=>have:=LM.out;omega);intro v115 w14 ho hb hg hat;have n1_:=am (hb);have n2_:=am (ho);clear HB HO;have HB:=n1_;have HO:=n2_;clear n1_ n2_ ho hb hg hat))
      go_roundg k1
      case measure=>have:=HK1.out;omega
      case rel=>exact ⟨y,acc ++ [x],(sq),H',⟨by have:=HK1.out;omega⟩,⟨rq HO.out⟩,⟨bq⟩⟩
     ·rw [if_neg c10] at H
      cases H
   ·rw [if_neg c6] at H
    have c6b0:decide (0≤x)=false:=dzF c6
    clear c6
    obtain rfl:=Option.some.inj H
    clear H
    go_wp2_with (go_at_call 54;refine (jia.calls (fun _=>True) _ acc acc w _ (bq) (rq HO.out) (show jia.f acc=some acc from rfl)).mono ?_;rintro e w9 ⟨v9,rfl,hR9,hB9,hK9⟩)
    go_ret
    exact ⟨_,rfl,Kd.jcb hR9 (fun _ _=>trivial),hB9⟩
def ctxF (h : List S66) (g : Int) : Option Int := if 0 ≤ g then if g < (h.length : Int) then some (jb h g).f3 else none else none
theorem impl_contexts1_calls (A_ : Option Addr) (c_ : Nat) (l : List S66) (x y : Int) (B0 : Nat) (w : World) (hr : Kd.C k66 w A_ l.length l) (hc : w.cell? ⟨B0, 0, none⟩ = some (.slice A_ l.length c_)) (h : ctxF l x = some y) :
  Calls Tryd.prog 90 #[.int .i64 x, .pointer (some ⟨B0,0,none⟩)] w fun e w'=>e=.returned (.int .i64 y)∧Below w.heap.size w w':=by
 unfold ctxF at h
 by_cases h0:0≤x
 ·rw [if_pos h0] at h
  by_cases h1:x<(l.length:Int)
  ·rw [if_pos h1] at h
   obtain ⟨ad,rfl,hx0,hx1,hx2,hx3,hx4⟩:=jLa hr x h0 h1
   have HY:=am (Option.some.inj h)
   have HB:=am (Below.refl w.heap.size w)
   clear h hr
   have p0:=ezT h0
   have p1:=ezT h1
   have hu28:=Tryd.underlying28
   go_enter Tryd.func90,Tryd.ntmps90
   go_wp2
   go_ret
   exact ⟨by rw [← HY.out];rfl,bq⟩
  ·rw [if_neg h1] at h;cases h
 ·rw [if_neg h0] at h;cases h
def jCa.f (k : Nat) (l0_0 : List S66) (a1 : Int) : Option (List Int) := jTa (ctxF l0_0) k a1 []
theorem hp_cell_new (w : World) (v : Value) (t : TypeId) : (w.alloc (.cells #[v] t)).cell? ⟨w.heap.size, 0, none⟩ = some v := by simp
set_option maxHeartbeats 8000000 in
set_option maxRecDepth 100000 in
theorem jCa.calls (k : Nat) (A0_0 : Option Addr) (c0_0 : Nat) (l0_0 : List (S66)) (a1 : Int) (r : List Int) (w : World) (hr0_0 : Kd.C k66 w A0_0 l0_0.length l0_0) (hc0_0 : l0_0.length ≤ c0_0) (h : jCa.f k l0_0 a1 = some r) :
  Calls Tryd.prog 76 #[.agg #[.slice A0_0 l0_0.length c0_0], .int .i64 a1] w fun e w'=>∃ v0_:Value,e=.returned (v0_)∧Kd.R (Kd.int .i64) 3 w' w.heap.size (fun _=>True) v0_ r∧Below w.heap.size w w':=by
 have hu28:=Tryd.underlying28
 have B3:=am ((Below.refl w.heap.size w).alloc (Nat.le_refl _) (.cells #[.slice A0_0 l0_0.length c0_0] 28))
 have KC:=am (hp_cell_new w (.slice A0_0 l0_0.length c0_0) 28)
 have HF:=am (fun W (hb:Below w.heap.size w W) (B0:Nat) (hc:W.cell? ⟨B0,0,none⟩=some (.slice A0_0 l0_0.length c0_0))=>impl_contexts_walk k B0 (ctxF l0_0) a1 r W h (fun W' hb' x y hx =>
  impl_contexts1_calls A0_0 c0_0 l0_0 x y B0 W' (Kd.jD (Kd.jD hr0_0 hb) hb') (jG hb' hc) hx))
 clear h hr0_0
 go_enter Tryd.func76,Tryd.ntmps76
 go_wp2_with (go_at_call 29;refine (HF.out _ B3.out _ KC.out).mono ?_;rintro e w2 ⟨v2,rfl,hr2,hb3⟩)
 go_ret
 exact ⟨_,rfl,Kd.jGa hr2 B3.out.size,jZa B3.out B3.out.size hb3⟩
def jjb (w0 W : World) (g : Nat) (f0 : List Int) (f1 : Int) : Prop := ∃ A0 c0, W.heap[g]? = some (.cells #[.slice A0 f0.length c0, .int .i64 f1] 84 (0, 0)) ∧ w0.heap.size ≤ g ∧ Kd.C (Kd.int .u8) w0 A0 f0.length f0
theorem jjb.grown {w0 W : World} {g : Nat} {f0 : List Int} {f1 : Int} {W1 : World} {row : Option Nat} (h : jjb w0 W g f0 f1) (hw : W.grownBy W1 row) (hne : some g ≠ row) : jjb w0 W1 g f0 f1 := by
 obtain ⟨A0,c0,hb,hg,hr0⟩:=h
 exact ⟨A0,c0,blk_grown hb hw hne,hg,hr0⟩
theorem jjb.kept {w0 W : World} {g : Nat} {f0 : List Int} {f1 : Int} {W1 : World} {S : Nat → Prop} (h : jjb w0 W g f0 f1) (hk : Kept W W1 S) (hne : ¬ S g) : jjb w0 W1 g f0 f1 := by
 obtain ⟨A0,c0,hb,hg,hr0⟩:=h
 exact ⟨A0,c0,blk_kept hb hk hne,hg,hr0⟩
theorem jjb.below {w0 W : World} {g : Nat} {f0 : List Int} {f1 : Int} {W1 : World} (h : jjb w0 W g f0 f1) (hw : Below W.heap.size W W1) : jjb w0 W1 g f0 f1 := h.grown (grown_of_below hw none) (by simp)
theorem jjb.alloc {w0 W : World} {g : Nat} {f0 : List Int} {f1 : Int} (h : jjb w0 W g f0 f1) (o : Obj) : jjb w0 (W.alloc o) g f0 f1 := h.below (jh (Below.refl _ _) o)
theorem jjb.drewN {w0 W : World} {g : Nat} {f0 : List Int} {f1 : Int} (h : jjb w0 W g f0 f1) (m : Nat) : jjb w0 (W.drewN m) g f0 f1 := h
theorem jjb.drew {w0 W : World} {g : Nat} {f0 : List Int} {f1 : Int} (h : jjb w0 W g f0 f1) : jjb w0 W.drew g f0 f1 := h
theorem jjb.at_ {w0 W : World} {g : Nat} {f0 : List Int} {f1 : Int} {w' : World} {m : Nat} (hq : W.drewN m = w') (h : jjb w0 W g f0 f1) : jjb w0 w' g f0 f1 := by subst hq; exact jjb.drewN h m
theorem jjb.apart {w0 W : World} {g : Nat} {f0 : List Int} {f1 : Int} {α : Type} {d : Kd α} {e : Nat} {base : Nat} {ok : Nat → Prop} {v : Value} {xs : List α} (h : jjb w0 W g f0 f1) (ho : d.R e W base ok v xs) (ht : ∀ q, q ∈ e :: d.E → q ≠ 84) : d.R e W base (fun k => ok k ∧ k ≠ g) v xs := by
 obtain ⟨A0,c0,hb,hg,hr0⟩:=h
 exact Kd.jnb ho hb ht
theorem jjb.own_ne {w0 W : World} {g : Nat} {f0 : List Int} {f1 : Int} {α : Type} {d : Kd α} {e : Nat} {base : Nat} {ok : Nat → Prop} {v : Value} {xs : List α} (h : jjb w0 W g f0 f1) (ho : d.R e W base ok v xs) (ht : e ≠ 84) : some g ≠ v.ownBlock := by
 obtain ⟨A0,c0,hb,hg,hr0⟩:=h
 exact Kd.R_ne ho hb ht
theorem jjb.lt {w0 W : World} {g : Nat} {f0 : List Int} {f1 : Int} (h : jjb w0 W g f0 f1) : g < W.heap.size := by
 obtain ⟨A0,c0,hb,hg,hr0⟩:=h
 exact jT hb
theorem jjb.new (w0 W : World) (A0 : Option Addr) (c0 : Nat) (f0 : List Int) (f1 : Int) (hB : Below w0.heap.size w0 W) (hr0 : Kd.C (Kd.int .u8) w0 A0 f0.length f0) : jjb w0 (W.alloc (.cells #[.slice A0 f0.length c0, .int .i64 f1] 84)) W.heap.size f0 f1 := ⟨A0, c0, by simpa using heap_alloc_new W _, hB.size, hr0⟩
def jW.f (a0 : Int) (a1 : Int) (a2 : Int) : Option (Bool) := if a0 ≥ a1 then (some (decide (a0 ≤ a2))) else (some false)
set_option maxHeartbeats 8000000 in
set_option maxRecDepth 100000 in
theorem jW.calls (a0 : Int) (a1 : Int) (a2 : Int) (r : Bool) (w : World) (h : jW.f a0 a1 a2 = some r) :
  Calls Tryd.prog 60 #[.int .i64 a0, .int .i64 a1, .int .i64 a2] w fun e w'=>e=.returned (.bool r)∧jMa w w':=by
 have H:(if a0≥a1 then (some (decide (a0≤a2))) else (some false))=some r:=h
 clear h
 by_cases c4:a0≥a1
 ·rw [if_pos c4] at H
  have c4b0:decide (a1≤a0)=true:=dzT c4
  clear c4
  obtain rfl:=Option.some.inj H
  go_enter Tryd.func60,Tryd.ntmps60
  go_wp2
  go_ret
  exact ⟨sq,Y2⟩
 ·rw [if_neg c4] at H
  have c4b0:decide (a1≤a0)=false:=dzF c4
  clear c4
  obtain rfl:=Option.some.inj H
  go_enter Tryd.func60,Tryd.ntmps60
  go_wp2
  go_ret
  exact ⟨sq,Y2⟩
def jAa.f (l0_0 : List (S99)) (a1 : Int) : Option (Bool) := (jW.f a1 0 (wrap64 ((l0_0.length : Int) - 1))).bind fun t313 => (some t313)
set_option maxHeartbeats 8000000 in
set_option maxRecDepth 100000 in
theorem jAa.calls (A0_0 : Option Addr) (c0_0 : Nat) (l0_0 : List (S99)) (a1 : Int) (r : Bool) (w : World) (hr0_0 : Kd.C k99 w A0_0 l0_0.length l0_0) (hc0_0 : l0_0.length ≤ c0_0) (h : jAa.f l0_0 a1 = some r) :
  Calls Tryd.prog 74 #[.agg #[.slice A0_0 l0_0.length c0_0], .int .i64 a1] w fun e w'=>e=.returned (.bool r)∧Below w.heap.size w w':=by
 have hu25:=Tryd.underlying25
 have HR0_0:=am hr0_0
 have HC0_0:=am hc0_0
 clear hr0_0 hc0_0
 have HB:=am (Below.refl w.heap.size w)
 have H:((jW.f a1 0 (wrap64 ((l0_0.length:Int) - 1))).bind fun t313=>(some t313))=some r:=h
 clear h
 replace H:=bzS H
 obtain ⟨t313,A30,H⟩:=H
 replace H:(some t313)=some r:=H
 have A3:=am A30
 clear A30
 obtain rfl:=Option.some.inj H
 go_enter Tryd.func74,Tryd.ntmps74
 go_wp2_with (first |((with_reducible refine jr (N:=2) rfl ?_);refine bE (N:=2) (cs:=#[.slice A0_0 l0_0.length c0_0]) (t:=25) ?_;intro gb312 hg w4 hbox hb;have BK312:=am (hbox);have GW312:=am ((Y0:w.heap.size≤gb312));have GE312:=am ((Y0:w.heap.size≤gb312));replace HB:=am (jd (bq) hb);clear hb hbox hg;have hcz5_0:=bc0 BK312.out;have hfz5_0:=ja BK312.out 0) |((with_reducible refine jB (f:=60) rfl ?_);refine gL (some 10) Tryd.func60 #[.int .i64 a1, .int .i64 0, .int .i64 (wrap64 ((l0_0.length:Int) - 1))] ?_;(with_reducible refine (jW.calls a1 0 (wrap64 ((l0_0.length:Int) - 1)) t313 _ A3.out).mono ?_);rintro e w' ⟨rfl,⟨nd,rfl⟩⟩;refine ⟨_,rfl,?_⟩))
 go_ret
 exact ⟨Y1,by repeat (first |(with_reducible first | exact HB.out | apply jh | apply je | apply jk | refine jf ?_ GE312.out) | exact HB.out)⟩
def jOa.f (a0 : Int) : Option (Bool) := (jW.f a0 0 99).bind fun t314 => (some t314)
set_option maxHeartbeats 8000000 in
set_option maxRecDepth 100000 in
theorem jOa.calls (a0 : Int) (r : Bool) (w : World) (h : jOa.f a0 = some r) :
  Calls Tryd.prog 75 #[.int .i64 a0] w fun e w'=>e=.returned (.bool r)∧jMa w w':=by
 have H:((jW.f a0 0 99).bind fun t314=>(some t314))=some r:=h
 clear h
 replace H:=bzS H
 obtain ⟨t314,A20,H⟩:=H
 replace H:(some t314)=some r:=H
 have A2:=am A20
 clear A20
 obtain rfl:=Option.some.inj H
 go_enter Tryd.func75,Tryd.ntmps75
 go_wp2_with (first |((with_reducible refine jB (f:=60) rfl ?_);refine gL (some 4) Tryd.func60 #[.int .i64 a0, .int .i64 0, .int .i64 99] ?_;(with_reducible refine (jW.calls a0 0 99 t314 _ A2.out).mono ?_);rintro e w' ⟨rfl,⟨nd,rfl⟩⟩;refine ⟨_,rfl,?_⟩))
 go_ret
 exact ⟨sq,Y2⟩
def jja.l0 : Nat → ByteArray → Int → Int → Option (Bool)
 | 0,_,_,_=>none
 | k+1,x0,x5,x6=>if x6<x5 then (if 0≤x6 then (if x6<(x0.size:Int) then (if (bt x0 x6)<97 then (some false) else (if (bt x0 x6) > 122 then (some false) else (jja.l0 k x0 x5 (wrap64 (x6+1))))) else (none)) else (none)) else ((jW.f (x0.size:Int) 1 6).bind fun t320=>(some t320))
def jja.f (k : Nat) (a0 : ByteArray) : Option (Bool) := jja.l0 k a0 (a0.size : Int) 0
set_option maxHeartbeats 8000000 in
set_option maxRecDepth 100000 in
theorem jja.calls (k : Nat) (a0 : ByteArray) (r : Bool) (w : World) (h : jja.f k a0 = some r) :
  Calls Tryd.prog 91 #[.string a0] w fun e w'=>e=.returned (.bool r)∧jMa w w':=by
 have H:(jja.l0 k a0 (a0.size:Int) 0)=some r:=h
 clear h
 have H':=am H
 clear H
 go_enter Tryd.func91,Tryd.ntmps91
 go_wp2
 go_loopg [6] k (fun kq v6 w'=>∃ (x6_1:Int),v6=.int .i64 x6_1∧jH (jja.l0 kq a0 (a0.size:Int) x6_1=some r)∧jH (kq≤k)∧jMa w w')
 case atStart=>exact ⟨(0),(sq),H',⟨Nat.le_refl _⟩,Y2⟩
 case round =>
  clear H'
  obtain ⟨x6_1,rfl,HA,HK1,⟨m1,rfl⟩⟩:=hrel
  cases gk with
  | zero=>exact absurd HA.out (by simp [jja.l0])
  | succ k1 =>
   have H:=HA.out
   clear HA
   simp only [jja.l0] at H
   by_cases c2:x6_1<(a0.size:Int)
   ·rw [if_pos c2] at H
    have c2b0:decide (x6_1<(a0.size:Int))=true:=dzT c2
    clear c2
    by_cases c3:0≤x6_1
    ·rw [if_pos c3] at H
     have c3b0:decide (0≤x6_1)=true:=dzT c3
     clear c3
     by_cases c4:x6_1<(a0.size:Int)
     ·rw [if_pos c4] at H
      have c4b0:decide (x6_1<(a0.size:Int))=true:=dzT c4
      clear c4
      by_cases c6:(bt a0 x6_1)<97
      ·rw [if_pos c6] at H
       have c6b0:decide ((bt a0 x6_1)<97)=true:=dzT c6
       clear c6
       obtain rfl:=Option.some.inj H
       have p5:0≤(x6_1:Int):=ozD (uq)
       have q5:x6_1<(a0.size:Int):=ozD (uq)
       have hx5:=bt_at a0 x6_1
       replace p5:=ezT p5
       replace q5:=ezT q5
       go_wp2
       go_ret
       exact ⟨sq,Y2⟩
      ·rw [if_neg c6] at H
       have c6b0:decide ((bt a0 x6_1)<97)=false:=dzF c6
       clear c6
       by_cases c8:(bt a0 x6_1) > 122
       ·rw [if_pos c8] at H
        have c8b0:decide (122<(bt a0 x6_1))=true:=dzT c8
        clear c8
        obtain rfl:=Option.some.inj H
        have p5:0≤(x6_1:Int):=ozD (uq)
        have q5:x6_1<(a0.size:Int):=ozD (uq)
        have hx5:=bt_at a0 x6_1
        replace p5:=ezT p5
        replace q5:=ezT q5
        have p7:0≤(x6_1:Int):=ozD (uq)
        have q7:x6_1<(a0.size:Int):=ozD (uq)
        have hx7:=bt_at a0 x6_1
        replace p7:=ezT p7
        replace q7:=ezT q7
        go_wp2
        go_ret
        exact ⟨sq,Y2⟩
       ·rw [if_neg c8] at H
        have c8b0:decide (122<(bt a0 x6_1))=false:=dzF c8
        clear c8
        have H':=am H
        clear H
        have p5:0≤(x6_1:Int):=ozD (uq)
        have q5:x6_1<(a0.size:Int):=ozD (uq)
        have hx5:=bt_at a0 x6_1
        replace p5:=ezT p5
        replace q5:=ezT q5
        have p7:0≤(x6_1:Int):=ozD (uq)
        have q7:x6_1<(a0.size:Int):=ozD (uq)
        have hx7:=bt_at a0 x6_1
        replace p7:=ezT p7
        replace q7:=ezT q7
        go_wp2
        go_roundg k1
        case measure=>have:=HK1.out;omega
        case rel=>exact ⟨(wrap64 (x6_1+1)),(sq),H',⟨by have:=HK1.out;omega⟩,Y2⟩
     ·rw [if_neg c4] at H
      exact absurd H (by simp)
    ·rw [if_neg c3] at H
     exact absurd H (by simp)
   ·rw [if_neg c2] at H
    have c2b0:decide (x6_1<(a0.size:Int))=false:=dzF c2
    clear c2
    replace H:=bzS H
    obtain ⟨t320,A90,H⟩:=H
    replace H:(some t320)=some r:=H
    have A9:=am A90
    clear A90
    obtain rfl:=Option.some.inj H
    go_wp2_with (first |((with_reducible refine jB (f:=60) rfl ?_);refine gL (some 22) Tryd.func60 #[.int .i64 (a0.size:Int), .int .i64 1, .int .i64 6] ?_;(with_reducible refine (jW.calls (a0.size:Int) 1 6 t320 _ A9.out).mono ?_);rintro e w' ⟨rfl,⟨nd,rfl⟩⟩;refine ⟨_,rfl,?_⟩))
    go_ret
    exact ⟨sq,Y2⟩

theorem impl_named1_calls (a b : ByteArray) (p : Int) (B : Nat) (w : World) (hB : B < w.heap.size) (hc : w.cell? ⟨B, 0, none⟩ = some (.string b)) :
  Calls Tryd.prog 97 #[.agg #[.string a, .int .i64 p], .pointer (some ⟨B,0,none⟩)] w fun e w'=>e=.returned (.bool (a.toList == b.toList))∧Below w.heap.size w w':=by
 have hne:B≠w.heap.size:=by omega
 go_enter Tryd.func97,Tryd.ntmps97
 go_wp2
 go_ret
 exact ⟨rfl,(Below.refl _ _).alloc (Nat.le_refl _) _⟩
set_option maxHeartbeats 8000000 in
set_option maxRecDepth 100000 in
theorem impl_named_idx (A_ : Option Addr) (c_ : Nat) (l : List (S99)) (B0_ : Nat) (p : S99 → Option Bool) (r : Int) (w : World) (hr : Kd.C k99 w A_ l.length l) (h : idxFrom p l 0 = some r)
  (hp:∀ W,Below w.heap.size w W→∀ (x:S99) (b:Bool),p x=some b→Calls Tryd.prog 97 #[.agg #[.string x.f0, .int .i64 x.f1], .pointer (some ⟨B0_,0,none⟩)] W fun e w'=>e=.returned (.bool b)∧Below W.heap.size W w') :
  Calls Tryd.prog 96 #[.slice A_ l.length c_, .func (.func 97) #[] #[.pointer (some ⟨B0_,0,none⟩)]] w fun e w'=>e=.returned (.int .i64 r)∧Below w.heap.size w w':=by
 have hm:l.length≤9223372036854775807:=Kd.C_max hr
 have HR:=am hr
 have HP:=am hp
 have H0:=am h
 clear hr hp h
 go_enter Tryd.func96,Tryd.ntmps96
 go_wp2
 go_loopw [5,8] (fun i5 i8 wr=>∃ k:Nat,k≤l.length∧i8=.int .i64 k∧jH (idxFrom p (l.drop k) k=some r)∧Below w.heap.size w wr) (fun _ i8 _=>l.length - (intOf i8).toNat)
 case atStart=>exact ⟨0,Nat.zero_le _,rfl,H0,Below.refl _ _⟩
 case round =>
  clear H0
  obtain ⟨k,hk,rfl,HA,hb⟩:=hrel
  by_cases hlt:k<l.length
  ·have HB:=am (idxFrom_step hlt HA.out)
   clear HA
   obtain ⟨ad,rfl,hx0,hx1⟩:=jxb HR.out (k:Int) (by omega) (by omega)
   have hrd:jA l (k:Int)=l[k]:=by simp [jA,List.getD_eq_getElem?_getD,hlt]
   replace hx0:=jG hb hx0
   replace hx1:=jG hb hx1
   rw [hrd] at hx0 hx1
   simp only [Int.toNat_natCast] at hx0 hx1
   clear hrd
   obtain ⟨b,hb1,hb0⟩:=HB.out
   have HQ:=am hb1
   clear hb1 HB
   cases b with
   | true =>
    have HZ:=am (by simpa using hb0:(k:Int)=r)
    clear hb0
    go_wp2_with (go_at_call 97;refine (HP.out _ hb _ _ HQ.out).mono ?_;rintro e w' ⟨rfl,hb2⟩)
    go_ret
    exact ⟨by rw [← HZ.out];rfl,jZa hb hb.size hb2⟩
   | false =>
    have HZ:=am (by simpa using hb0:idxFrom p (l.drop (k+1)) (k+1)=some r)
    clear hb0
    go_wp2_with (go_at_call 97;refine (HP.out _ hb _ _ HQ.out).mono ?_;rintro e w' ⟨rfl,hb2⟩)
    go_roundw
    case rel=>exact ⟨k+1,hlt,by go_num,HZ,jZa hb hb.size hb2⟩
    case measure=>simp [intOf];omega
  ·have HZ:=am (idxFrom_end (by omega) HA.out)
   clear HA
   go_wp2
   go_ret
   exact ⟨by rw [HZ.out];rfl,hb⟩
def jra.f (l0_0 : List S99) (a1 : ByteArray) : Option Int := idxFrom (fun x : S99 => some (x.f0.toList == a1.toList)) l0_0 0
set_option maxHeartbeats 8000000 in
set_option maxRecDepth 100000 in
theorem jra.calls (A0_0 : Option Addr) (c0_0 : Nat) (l0_0 : List (S99)) (a1 : ByteArray) (r : Int) (w : World) (hr0_0 : Kd.C k99 w A0_0 l0_0.length l0_0) (hc0_0 : l0_0.length ≤ c0_0) (h : jra.f l0_0 a1 = some r) :
  Calls Tryd.prog 92 #[.agg #[.slice A0_0 l0_0.length c0_0], .string a1] w fun e w'=>e=.returned (.int .i64 r)∧Below w.heap.size w w':=by
 have hu25:=Tryd.underlying25
 have HF:=am (fun W (hb:Below w.heap.size w W) (B:Nat) (hB:B<W.heap.size) (hc:W.cell? ⟨B,0,none⟩=some (.string a1))=>impl_named_idx A0_0 c0_0 l0_0 B (fun x:S99=>some (x.f0.toList == a1.toList)) r W (Kd.jD hr0_0 hb) h (fun W' hb' x b hx=>by
  obtain rfl:=Option.some.inj hx
  exact impl_named1_calls x.f0 a1 x.f1 B W' (Nat.lt_of_lt_of_le hB hb'.size) (jG hb' hc)))
 clear h hr0_0
 go_enter Tryd.func92,Tryd.ntmps92
 go_wp2_with (go_at_call 96;refine (HF.out _ (((Below.refl _ _).alloc (Nat.le_refl _) _).alloc (by simp) _) _ (by simp) (by simp)).mono ?_;rintro e w' ⟨rfl,hb2⟩)
 go_ret
 exact ⟨rfl,(((Below.refl _ _).alloc (Nat.le_refl _) _).alloc (by simp) _).trans (hb2.mono (by simp;omega))⟩
mutual
def jq.l0 : Nat → List (S99) → Int → Int → List (S99) → Option (Bool)
 | 0,_,_,_,_=>none
 | k+1,x6,x7,x8,x322000=>if x8<x7 then (if 0≤x8 then (if x8<(x6.length:Int) then ((jja.f k ((jA x6 x8).f0)).bind fun t325=>(if t325=true then ((jra.f x322000 ((jA x6 x8).f0)).bind fun t326=>(if t326=x8 then (if x8=0 then (if ((jA x6 x8).f1)=(-1) then (if x8 > 0 then ((jW.f ((jA x6 x8).f1) 0 (wrap64 (x8 - 1))).bind fun t327=>(jq.j1 k x6 x7 x8 (!t327) x322000)) else (jq.j1 k x6 x7 x8 false x322000)) else (jq.j1 k x6 x7 x8 true x322000)) else (if x8 > 0 then ((jW.f ((jA x6 x8).f1) 0 (wrap64 (x8 - 1))).bind fun t328=>(jq.j1 k x6 x7 x8 (!t328) x322000)) else (jq.j1 k x6 x7 x8 false x322000))) else (jq.j1 k x6 x7 x8 true x322000))) else (jq.j1 k x6 x7 x8 true x322000))) else (none)) else (none)) else ((jW.f (x322000.length:Int) 1 8).bind fun t322=>(some t322))
def jq.j1 : Nat → List (S99) → Int → Int → Bool → List (S99) → Option (Bool)
 | 0,_,_,_,_,_=>none
 | k+1,x6,x7,x8,x45,x322000=>if x45=true then (some false) else (jq.l0 k x6 x7 (wrap64 (x8+1)) x322000)
end
def jq.f (k : Nat) (l0_0 : List (S99)) : Option (Bool) := jq.l0 k l0_0 (l0_0.length : Int) 0 l0_0
set_option maxHeartbeats 8000000 in
set_option maxRecDepth 100000 in
theorem jq.calls (k : Nat) (A0_0 : Option Addr) (c0_0 : Nat) (l0_0 : List (S99)) (r : Bool) (w : World) (hr0_0 : Kd.C k99 w A0_0 l0_0.length l0_0) (hc0_0 : l0_0.length ≤ c0_0) (h : jq.f k l0_0 = some r) :
  Calls Tryd.prog 77 #[.agg #[.slice A0_0 l0_0.length c0_0]] w fun e w'=>e=.returned (.bool r)∧Below w.heap.size w w':=by
 have hu25:=Tryd.underlying25
 have hu99:=Tryd.underlying99
 have HR0_0:=am hr0_0
 have HC0_0:=am hc0_0
 clear hr0_0 hc0_0
 have HB:=am (Below.refl w.heap.size w)
 have H:(jq.l0 k l0_0 (l0_0.length:Int) 0 l0_0)=some r:=h
 clear h
 have H':=am H
 clear H
 go_enter Tryd.func77,Tryd.ntmps77
 go_wp2_with (first |((with_reducible refine jr (N:=1) rfl ?_);refine bE (N:=1) (cs:=#[.slice A0_0 l0_0.length c0_0]) (t:=25) ?_;intro gb321 hg w2 hbox hb;have BK321:=am (hbox);have GW321:=am ((Y0:w.heap.size≤gb321));have GE321:=am ((Y0:w.heap.size≤gb321));replace HB:=am (jd (bq) hb);clear hb hbox hg;have hcz3_0:=bc0 BK321.out;have hfz3_0:=ja BK321.out 0))
 go_loopg [8] k (fun kq v8 w'=>∃ (x8_1:Int),v8=.int .i64 x8_1∧jH (jq.l0 kq l0_0 (l0_0.length:Int) x8_1 l0_0=some r)∧jH (kq≤k)∧jH (w'.heap[gb321]?=some (.cells #[(.slice A0_0 l0_0.length c0_0)] 25 (0,0)))∧jH (Below w.heap.size w w'))
 case atStart=>exact ⟨(0),(sq),H',⟨Nat.le_refl _⟩,⟨kq BK321.out⟩,⟨Y57⟩⟩
 case round =>
  clear H'
  try clear p2
  try clear hcz3_0
  try clear hfz3_0
  obtain ⟨x8_1,rfl,HA,HK1,BK321,HB⟩:=hrel
  cases gk with
  | zero=>exact absurd HA.out (by simp [jq.l0])
  | succ k1 =>
   have H:=HA.out
   clear HA
   simp only [jq.l0] at H
   by_cases c4:x8_1<(l0_0.length:Int)
   ·rw [if_pos c4] at H
    have c4b0:decide (x8_1<(l0_0.length:Int))=true:=dzT c4
    clear c4
    by_cases c5:0≤x8_1
    ·rw [if_pos c5] at H
     have c5b0:decide (0≤x8_1)=true:=dzT c5
     clear c5
     by_cases c6:x8_1<(l0_0.length:Int)
     ·rw [if_pos c6] at H
      have c6b0:decide (x8_1<(l0_0.length:Int))=true:=dzT c6
      clear c6
      have HC7:=am H
      clear H
      have p323:0≤(x8_1:Int):=ozD (uq)
      have q323:x8_1<(l0_0.length:Int):=ozD (uq)
      obtain ⟨ad323,e323,hx323_0,hx323_1⟩:=jxb HR0_0.out x8_1 p323 q323
      cases e323
      replace hx323_0:=cb HB.out hx323_0
      replace hx323_1:=cb HB.out hx323_1
      replace p323:=ezT p323
      replace q323:=ezT q323
      go_upto_region 4 with (first |((with_reducible refine jr (N:=4) rfl ?_);refine bE (N:=4) (cs:=#[.string (⟨#[]⟩:ByteArray), .int .i64 0]) (t:=99) ?_;intro gb324 hg w8 hbox hb;have BK324:=am (hbox);have GW324:=am ((Y79:w.heap.size≤gb324));have GE324:=am ((Y79:w.heap.size≤gb324));have NB321_324:=am ((by rw [hg];exact Nat.ne_of_lt (jT (g:=gb321) (o:=.cells #[.slice (some ad323) l0_0.length c0_0] 25 (0,0)) (kq BK321.out)):gb321≠gb324));have NB324_321:=am ((by rw [hg];exact Nat.ne_of_gt (jT (g:=gb321) (o:=.cells #[.slice (some ad323) l0_0.length c0_0] 25 (0,0)) (kq BK321.out)):gb324≠gb321));replace BK321:=am (jc (g:=gb321) (o:=.cells #[.slice (some ad323) l0_0.length c0_0] 25 (0,0)) (kq BK321.out) hb);replace HB:=am (jd (Y57) hb);clear hb hbox hg;have hnb9:=NB324_321.out;have hnc9:=NB321_324.out;have hcz10_0:=bc0 BK324.out;have hcz10_1:=bc1 BK324.out;have hfz10_0:=ja BK324.out 0;have hfz10_1:=ja BK324.out 1))
      (try simp only [Act.put,List.setIfInBounds_toArray,List.set_cons_zero,List.set_cons_succ])
      go_cut [45] (fun v45 wc=>∃ (kq:Nat) (x45_6:Bool),v45=.bool x45_6∧jH (jq.j1 kq l0_0 (l0_0.length:Int) x8_1 x45_6 l0_0=some r)∧jH (kq≤k1)∧jH (wc.heap[gb321]?=some (.cells #[(.slice (some ad323) l0_0.length c0_0)] 25 (0,0)))∧jH (wc.heap[gb324]?=some (.cells #[.string ((jA l0_0 x8_1).f0), .int .i64 ((jA l0_0 x8_1).f1)] 99 (0,0)))∧jH (Below w.heap.size w wc))
      case first =>
       have H:=HC7.out
       clear HC7
       replace H:=bzS H
       obtain ⟨t325,A110,H⟩:=H
       replace H:(if t325=true then ((jra.f l0_0 ((jA l0_0 x8_1).f0)).bind fun t326=>(if t326=x8_1 then (if x8_1=0 then (if ((jA l0_0 x8_1).f1)=(-1) then (if x8_1 > 0 then ((jW.f ((jA l0_0 x8_1).f1) 0 (wrap64 (x8_1 - 1))).bind fun t327=>(jq.j1 k1 l0_0 (l0_0.length:Int) x8_1 (!t327) l0_0)) else (jq.j1 k1 l0_0 (l0_0.length:Int) x8_1 false l0_0)) else (jq.j1 k1 l0_0 (l0_0.length:Int) x8_1 true l0_0)) else (if x8_1 > 0 then ((jW.f ((jA l0_0 x8_1).f1) 0 (wrap64 (x8_1 - 1))).bind fun t328=>(jq.j1 k1 l0_0 (l0_0.length:Int) x8_1 (!t328) l0_0)) else (jq.j1 k1 l0_0 (l0_0.length:Int) x8_1 false l0_0))) else (jq.j1 k1 l0_0 (l0_0.length:Int) x8_1 true l0_0))) else (jq.j1 k1 l0_0 (l0_0.length:Int) x8_1 true l0_0))=some r:=H
       have A11:=am A110
       clear A110
       by_cases c12:t325=true
       ·subst c12
        have H1:((jra.f l0_0 ((jA l0_0 x8_1).f0)).bind fun t326=>(if t326=x8_1 then (if x8_1=0 then (if ((jA l0_0 x8_1).f1)=(-1) then (if x8_1 > 0 then ((jW.f ((jA l0_0 x8_1).f1) 0 (wrap64 (x8_1 - 1))).bind fun t327=>(jq.j1 k1 l0_0 (l0_0.length:Int) x8_1 (!t327) l0_0)) else (jq.j1 k1 l0_0 (l0_0.length:Int) x8_1 false l0_0)) else (jq.j1 k1 l0_0 (l0_0.length:Int) x8_1 true l0_0)) else (if x8_1 > 0 then ((jW.f ((jA l0_0 x8_1).f1) 0 (wrap64 (x8_1 - 1))).bind fun t328=>(jq.j1 k1 l0_0 (l0_0.length:Int) x8_1 (!t328) l0_0)) else (jq.j1 k1 l0_0 (l0_0.length:Int) x8_1 false l0_0))) else (jq.j1 k1 l0_0 (l0_0.length:Int) x8_1 true l0_0)))=some r:=by rw [if_pos rfl] at H;exact H
        clear H
        have H:=H1
        clear H1
        replace H:=bzS H
        obtain ⟨t326,A130,H⟩:=H
        replace H:(if t326=x8_1 then (if x8_1=0 then (if ((jA l0_0 x8_1).f1)=(-1) then (if x8_1 > 0 then ((jW.f ((jA l0_0 x8_1).f1) 0 (wrap64 (x8_1 - 1))).bind fun t327=>(jq.j1 k1 l0_0 (l0_0.length:Int) x8_1 (!t327) l0_0)) else (jq.j1 k1 l0_0 (l0_0.length:Int) x8_1 false l0_0)) else (jq.j1 k1 l0_0 (l0_0.length:Int) x8_1 true l0_0)) else (if x8_1 > 0 then ((jW.f ((jA l0_0 x8_1).f1) 0 (wrap64 (x8_1 - 1))).bind fun t328=>(jq.j1 k1 l0_0 (l0_0.length:Int) x8_1 (!t328) l0_0)) else (jq.j1 k1 l0_0 (l0_0.length:Int) x8_1 false l0_0))) else (jq.j1 k1 l0_0 (l0_0.length:Int) x8_1 true l0_0))=some r:=H
        have A13:=am A130
        clear A130
        by_cases c14:t326=x8_1
        ·rw [if_pos c14] at H
         have c14b0:(t326 == x8_1)=true:=beq_iff_eq.mpr c14
         have c14b1:(t326 != x8_1)=false:=bne_eq_false_iff_eq.mpr c14
         clear c14
         (first | rw [c14b0] |(simp only [jEb,i32_w];rw [c14b0]) | skip)
         by_cases c15:x8_1=0
         ·rw [if_pos c15] at H
          have c15b0:(x8_1 == 0)=true:=beq_iff_eq.mpr c15
          have c15b1:(x8_1 != 0)=false:=bne_eq_false_iff_eq.mpr c15
          clear c15
          by_cases c16:((jA l0_0 x8_1).f1)=(-1)
          ·rw [if_pos c16] at H
           have c16b0:(((jA l0_0 x8_1).f1) == (-1))=true:=beq_iff_eq.mpr c16
           have c16b1:(((jA l0_0 x8_1).f1) != (-1))=false:=bne_eq_false_iff_eq.mpr c16
           clear c16
           by_cases c17:x8_1 > 0
           ·rw [if_pos c17] at H
            have c17b0:decide (0<x8_1)=true:=dzT c17
            clear c17
            replace H:=bzS H
            obtain ⟨t327,A180,H⟩:=H
            replace H:(jq.j1 k1 l0_0 (l0_0.length:Int) x8_1 (!t327) l0_0)=some r:=H
            have A18:=am A180
            clear A180
            have H':=am H
            clear H
            have hnb19:=NB324_321.out
            have hnc19:=NB321_324.out
            have hcz20_0:=bc0 BK324.out
            have hcz20_1:=bc1 BK324.out
            have hfz20_0:=ja BK324.out 0
            have hfz20_1:=ja BK324.out 1
            go_wp2_with (first |((with_reducible refine jB (f:=91) rfl ?_);refine gL (some 15) Tryd.func91 #[.string ((jA l0_0 x8_1).f0)] ?_;(with_reducible refine (jja.calls k1 ((jA l0_0 x8_1).f0) true _ A11.out).mono ?_);rintro e w' ⟨rfl,⟨nd,rfl⟩⟩;refine ⟨_,rfl,?_⟩;have hcz21_0:=bc0 BK321.out;have hfz21_0:=ja BK321.out 0) |(go_at_call 92;(with_reducible refine (jra.calls _ _ l0_0 ((jA l0_0 x8_1).f0) t326 _ ?side1 ?side2 A13.out).mono ?_);(case side1=>exact Kd.jD HR0_0.out (Y5));(case side2=>exact HC0_0.out);rintro e w22 ⟨rfl,hb⟩;replace BK321:=am (jc (g:=gb321) (o:=.cells #[.slice (some ad323) l0_0.length c0_0] 25 (0,0)) (Y19) hb);replace BK324:=am (jc (g:=gb324) (o:=.cells #[.string ((jA l0_0 x8_1).f0), .int .i64 ((jA l0_0 x8_1).f1)] 99 (0,0)) (Y20) hb);replace HB:=am (jd (Y5) hb);(try clear hb);(try clear hb2);(try clear hk);(try clear hi);have hcz23_0:=bc0 BK324.out;have hcz23_1:=bc1 BK324.out;have hfz23_0:=ja BK324.out 0;have hfz23_1:=ja BK324.out 1) |(go_at_call 60;(with_reducible refine (jW.calls ((jA l0_0 x8_1).f1) 0 (wrap64 (x8_1 - 1)) t327 _ A18.out).mono ?_);rintro e w' ⟨rfl,⟨nd,rfl⟩⟩))
            go_meet
            case rel=>exact ⟨_,(!t327),(sq),H',⟨by have:=HK1.out;first | omega | exact Nat.le_refl _⟩,⟨kq BK321.out⟩,⟨kq BK324.out⟩,⟨Y5⟩⟩
           ·rw [if_neg c17] at H
            have c17b0:decide (0<x8_1)=false:=dzF c17
            clear c17
            have H':=am H
            clear H
            have hnb24:=NB324_321.out
            have hnc24:=NB321_324.out
            have hcz25_0:=bc0 BK324.out
            have hcz25_1:=bc1 BK324.out
            have hfz25_0:=ja BK324.out 0
            have hfz25_1:=ja BK324.out 1
            go_wp2_with (first |((with_reducible refine jB (f:=91) rfl ?_);refine gL (some 15) Tryd.func91 #[.string ((jA l0_0 x8_1).f0)] ?_;(with_reducible refine (jja.calls k1 ((jA l0_0 x8_1).f0) true _ A11.out).mono ?_);rintro e w' ⟨rfl,⟨nd,rfl⟩⟩;refine ⟨_,rfl,?_⟩;have hcz26_0:=bc0 BK321.out;have hfz26_0:=ja BK321.out 0) |(go_at_call 92;(with_reducible refine (jra.calls _ _ l0_0 ((jA l0_0 x8_1).f0) t326 _ ?side1 ?side2 A13.out).mono ?_);(case side1=>exact Kd.jD HR0_0.out (Y5));(case side2=>exact HC0_0.out);rintro e w27 ⟨rfl,hb⟩;replace BK321:=am (jc (g:=gb321) (o:=.cells #[.slice (some ad323) l0_0.length c0_0] 25 (0,0)) (Y19) hb);replace BK324:=am (jc (g:=gb324) (o:=.cells #[.string ((jA l0_0 x8_1).f0), .int .i64 ((jA l0_0 x8_1).f1)] 99 (0,0)) (Y20) hb);replace HB:=am (jd (Y5) hb);(try clear hb);(try clear hb2);(try clear hk);(try clear hi);have hcz28_0:=bc0 BK324.out;have hcz28_1:=bc1 BK324.out;have hfz28_0:=ja BK324.out 0;have hfz28_1:=ja BK324.out 1))
            go_meet
            case rel=>exact ⟨_,(false),(sq),H',⟨by have:=HK1.out;first | omega | exact Nat.le_refl _⟩,⟨kq BK321.out⟩,⟨kq BK324.out⟩,⟨Y5⟩⟩
          ·rw [if_neg c16] at H
           have c16b0:(((jA l0_0 x8_1).f1) == (-1))=false:=beq_eq_false_iff_ne.mpr c16
           have c16b1:(((jA l0_0 x8_1).f1) != (-1))=true:=bne_iff_ne.mpr c16
           have H':=am H
           clear H
           have hnb29:=NB324_321.out
           have hnc29:=NB321_324.out
           have hcz30_0:=bc0 BK324.out
           have hcz30_1:=bc1 BK324.out
           have hfz30_0:=ja BK324.out 0
           have hfz30_1:=ja BK324.out 1
           go_wp2_with (first |((with_reducible refine jB (f:=91) rfl ?_);refine gL (some 15) Tryd.func91 #[.string ((jA l0_0 x8_1).f0)] ?_;(with_reducible refine (jja.calls k1 ((jA l0_0 x8_1).f0) true _ A11.out).mono ?_);rintro e w' ⟨rfl,⟨nd,rfl⟩⟩;refine ⟨_,rfl,?_⟩;have hcz31_0:=bc0 BK321.out;have hfz31_0:=ja BK321.out 0) |(go_at_call 92;(with_reducible refine (jra.calls _ _ l0_0 ((jA l0_0 x8_1).f0) t326 _ ?side1 ?side2 A13.out).mono ?_);(case side1=>exact Kd.jD HR0_0.out (Y5));(case side2=>exact HC0_0.out);rintro e w32 ⟨rfl,hb⟩;replace BK321:=am (jc (g:=gb321) (o:=.cells #[.slice (some ad323) l0_0.length c0_0] 25 (0,0)) (Y19) hb);replace BK324:=am (jc (g:=gb324) (o:=.cells #[.string ((jA l0_0 x8_1).f0), .int .i64 ((jA l0_0 x8_1).f1)] 99 (0,0)) (Y20) hb);replace HB:=am (jd (Y5) hb);(try clear hb);(try clear hb2);(try clear hk);(try clear hi);have hcz33_0:=bc0 BK324.out;have hcz33_1:=bc1 BK324.out;have hfz33_0:=ja BK324.out 0;have hfz33_1:=ja BK324.out 1))
           go_meet
           case rel=>exact ⟨_,(true),(sq),H',⟨by have:=HK1.out;first | omega | exact Nat.le_refl _⟩,⟨kq BK321.out⟩,⟨kq BK324.out⟩,⟨Y5⟩⟩
         ·rw [if_neg c15] at H
          have c15b0:(x8_1 == 0)=false:=beq_eq_false_iff_ne.mpr c15
          have c15b1:(x8_1 != 0)=true:=bne_iff_ne.mpr c15
          by_cases c34:x8_1 > 0
          ·rw [if_pos c34] at H
           have c34b0:decide (0<x8_1)=true:=dzT c34
           clear c34
           replace H:=bzS H
           obtain ⟨t328,A350,H⟩:=H
           replace H:(jq.j1 k1 l0_0 (l0_0.length:Int) x8_1 (!t328) l0_0)=some r:=H
           have A35:=am A350
           clear A350
           have H':=am H
           clear H
           have hnb36:=NB324_321.out
           have hnc36:=NB321_324.out
           have hcz37_0:=bc0 BK324.out
           have hcz37_1:=bc1 BK324.out
           have hfz37_0:=ja BK324.out 0
           have hfz37_1:=ja BK324.out 1
           go_wp2_with (first |((with_reducible refine jB (f:=91) rfl ?_);refine gL (some 15) Tryd.func91 #[.string ((jA l0_0 x8_1).f0)] ?_;(with_reducible refine (jja.calls k1 ((jA l0_0 x8_1).f0) true _ A11.out).mono ?_);rintro e w' ⟨rfl,⟨nd,rfl⟩⟩;refine ⟨_,rfl,?_⟩;have hcz38_0:=bc0 BK321.out;have hfz38_0:=ja BK321.out 0) |(go_at_call 92;(with_reducible refine (jra.calls _ _ l0_0 ((jA l0_0 x8_1).f0) t326 _ ?side1 ?side2 A13.out).mono ?_);(case side1=>exact Kd.jD HR0_0.out (Y5));(case side2=>exact HC0_0.out);rintro e w39 ⟨rfl,hb⟩;replace BK321:=am (jc (g:=gb321) (o:=.cells #[.slice (some ad323) l0_0.length c0_0] 25 (0,0)) (Y19) hb);replace BK324:=am (jc (g:=gb324) (o:=.cells #[.string ((jA l0_0 x8_1).f0), .int .i64 ((jA l0_0 x8_1).f1)] 99 (0,0)) (Y20) hb);replace HB:=am (jd (Y5) hb);(try clear hb);(try clear hb2);(try clear hk);(try clear hi);have hcz40_0:=bc0 BK324.out;have hcz40_1:=bc1 BK324.out;have hfz40_0:=ja BK324.out 0;have hfz40_1:=ja BK324.out 1) |(go_at_call 60;(with_reducible refine (jW.calls ((jA l0_0 x8_1).f1) 0 (wrap64 (x8_1 - 1)) t328 _ A35.out).mono ?_);rintro e w' ⟨rfl,⟨nd,rfl⟩⟩))
           go_meet
           case rel=>exact ⟨_,(!t328),(sq),H',⟨by have:=HK1.out;first | omega | exact Nat.le_refl _⟩,⟨kq BK321.out⟩,⟨kq BK324.out⟩,⟨Y5⟩⟩
          ·rw [if_neg c34] at H
           have c34b0:decide (0<x8_1)=false:=dzF c34
           clear c34
           have H':=am H
           clear H
           have hnb41:=NB324_321.out
           have hnc41:=NB321_324.out
           have hcz42_0:=bc0 BK324.out
           have hcz42_1:=bc1 BK324.out
           have hfz42_0:=ja BK324.out 0
           have hfz42_1:=ja BK324.out 1
           go_wp2_with (first |((with_reducible refine jB (f:=91) rfl ?_);refine gL (some 15) Tryd.func91 #[.string ((jA l0_0 x8_1).f0)] ?_;(with_reducible refine (jja.calls k1 ((jA l0_0 x8_1).f0) true _ A11.out).mono ?_);rintro e w' ⟨rfl,⟨nd,rfl⟩⟩;refine ⟨_,rfl,?_⟩;have hcz43_0:=bc0 BK321.out;have hfz43_0:=ja BK321.out 0) |(go_at_call 92;(with_reducible refine (jra.calls _ _ l0_0 ((jA l0_0 x8_1).f0) t326 _ ?side1 ?side2 A13.out).mono ?_);(case side1=>exact Kd.jD HR0_0.out (Y5));(case side2=>exact HC0_0.out);rintro e w44 ⟨rfl,hb⟩;replace BK321:=am (jc (g:=gb321) (o:=.cells #[.slice (some ad323) l0_0.length c0_0] 25 (0,0)) (Y19) hb);replace BK324:=am (jc (g:=gb324) (o:=.cells #[.string ((jA l0_0 x8_1).f0), .int .i64 ((jA l0_0 x8_1).f1)] 99 (0,0)) (Y20) hb);replace HB:=am (jd (Y5) hb);(try clear hb);(try clear hb2);(try clear hk);(try clear hi)))
           go_meet
           case rel=>exact ⟨_,(false),(sq),H',⟨by have:=HK1.out;first | omega | exact Nat.le_refl _⟩,⟨kq BK321.out⟩,⟨kq BK324.out⟩,⟨Y5⟩⟩
        ·rw [if_neg c14] at H
         have c14b0:(t326 == x8_1)=false:=beq_eq_false_iff_ne.mpr c14
         have c14b1:(t326 != x8_1)=true:=bne_iff_ne.mpr c14
         (first | rw [c14b0] |(simp only [jEb,i32_w];rw [c14b0]) | skip)
         have H':=am H
         clear H
         have hnb45:=NB324_321.out
         have hnc45:=NB321_324.out
         have hcz46_0:=bc0 BK324.out
         have hcz46_1:=bc1 BK324.out
         have hfz46_0:=ja BK324.out 0
         have hfz46_1:=ja BK324.out 1
         go_wp2_with (first |((with_reducible refine jB (f:=91) rfl ?_);refine gL (some 15) Tryd.func91 #[.string ((jA l0_0 x8_1).f0)] ?_;(with_reducible refine (jja.calls k1 ((jA l0_0 x8_1).f0) true _ A11.out).mono ?_);rintro e w' ⟨rfl,⟨nd,rfl⟩⟩;refine ⟨_,rfl,?_⟩;have hcz47_0:=bc0 BK321.out;have hfz47_0:=ja BK321.out 0) |(go_at_call 92;(with_reducible refine (jra.calls _ _ l0_0 ((jA l0_0 x8_1).f0) t326 _ ?side1 ?side2 A13.out).mono ?_);(case side1=>exact Kd.jD HR0_0.out (Y5));(case side2=>exact HC0_0.out);rintro e w48 ⟨rfl,hb⟩;replace BK321:=am (jc (g:=gb321) (o:=.cells #[.slice (some ad323) l0_0.length c0_0] 25 (0,0)) (Y19) hb);replace BK324:=am (jc (g:=gb324) (o:=.cells #[.string ((jA l0_0 x8_1).f0), .int .i64 ((jA l0_0 x8_1).f1)] 99 (0,0)) (Y20) hb);replace HB:=am (jd (Y5) hb);(try clear hb);(try clear hb2);(try clear hk);(try clear hi)))
         go_meet
         case rel=>exact ⟨_,(true),(sq),H',⟨by have:=HK1.out;first | omega | exact Nat.le_refl _⟩,⟨kq BK321.out⟩,⟨kq BK324.out⟩,⟨Y5⟩⟩
       ·replace c12:=Bool.eq_false_iff.mpr c12
        subst c12
        have H1:(jq.j1 k1 l0_0 (l0_0.length:Int) x8_1 true l0_0)=some r:=by rw [if_neg (show ¬ (false=true) by decide)] at H;exact H
        clear H
        have H:=H1
        clear H1
        have H':=am H
        clear H
        have hnb49:=NB324_321.out
        have hnc49:=NB321_324.out
        have hcz50_0:=bc0 BK324.out
        have hcz50_1:=bc1 BK324.out
        have hfz50_0:=ja BK324.out 0
        have hfz50_1:=ja BK324.out 1
        go_wp2_with (first |((with_reducible refine jB (f:=91) rfl ?_);refine gL (some 15) Tryd.func91 #[.string ((jA l0_0 x8_1).f0)] ?_;(with_reducible refine (jja.calls k1 ((jA l0_0 x8_1).f0) false _ A11.out).mono ?_);rintro e w' ⟨rfl,⟨nd,rfl⟩⟩;refine ⟨_,rfl,?_⟩))
        go_meet
        case rel=>exact ⟨_,(true),(sq),H',⟨by have:=HK1.out;first | omega | exact Nat.le_refl _⟩,⟨by (with_reducible repeat (first | refine jm ?_ _ | refine jv ?_ | refine jw ?_ _));refine jma ?_ NB321_324.out _;(with_reducible repeat (first | refine jm ?_ _ | refine jv ?_ | refine jw ?_ _));refine jma ?_ NB321_324.out _;(with_reducible repeat (first | refine jm ?_ _ | refine jv ?_ | refine jw ?_ _));exact BK321.out⟩,⟨by (with_reducible repeat (first | refine jm ?_ _ | refine jv ?_ | refine jw ?_ _));refine jDa (cs:=#[.string ((jA l0_0 x8_1).f0), .int .i64 0]) ?_ 1 _ rfl;(with_reducible repeat (first | refine jm ?_ _ | refine jv ?_ | refine jw ?_ _));refine jDa (cs:=#[.string (⟨#[]⟩:ByteArray), .int .i64 0]) ?_ 0 _ rfl;(with_reducible repeat (first | refine jm ?_ _ | refine jv ?_ | refine jw ?_ _));exact BK324.out⟩,⟨Y5⟩⟩
      case rest =>
       clear HC7
       try clear c1
       try clear c2
       try clear p2
       try clear c3
       try clear p3
       try clear q3
       try clear hx3
       try clear c4
       try clear c4b0
       try clear c5
       try clear c5b0
       try clear c6
       try clear c6b0
       try clear p6
       try clear c7
       try clear c9
       try clear c12
       try clear c14
       try clear c14b0
       try clear c14b1
       try clear c15
       try clear c15b0
       try clear c15b1
       try clear c16
       try clear c16b0
       try clear c16b1
       try clear c17
       try clear c17b0
       try clear c19
       try clear c24
       try clear c29
       try clear p32
       try clear q32
       try clear hx32
       try clear c34
       try clear c34b0
       try clear c36
       try clear c41
       try clear c45
       try clear c49
       try clear hcz10_0
       try clear hcz10_1
       try clear hcz20_0
       try clear hcz20_1
       try clear hcz21_0
       try clear hcz23_0
       try clear hcz23_1
       try clear hcz25_0
       try clear hcz25_1
       try clear hcz26_0
       try clear hcz28_0
       try clear hcz28_1
       try clear hcz30_0
       try clear hcz30_1
       try clear hcz31_0
       try clear hcz33_0
       try clear hcz33_1
       try clear hcz37_0
       try clear hcz37_1
       try clear hcz38_0
       try clear hcz3_0
       try clear hcz40_0
       try clear hcz40_1
       try clear hcz42_0
       try clear hcz42_1
       try clear hcz43_0
       try clear hcz46_0
       try clear hcz46_1
       try clear hcz47_0
       try clear hcz50_0
       try clear hcz50_1
       try clear hfz10_0
       try clear hfz10_1
       try clear hfz20_0
       try clear hfz20_1
       try clear hfz21_0
       try clear hfz23_0
       try clear hfz23_1
       try clear hfz25_0
       try clear hfz25_1
       try clear hfz26_0
       try clear hfz28_0
       try clear hfz28_1
       try clear hfz30_0
       try clear hfz30_1
       try clear hfz31_0
       try clear hfz33_0
       try clear hfz33_1
       try clear hfz37_0
       try clear hfz37_1
       try clear hfz38_0
       try clear hfz3_0
       try clear hfz40_0
       try clear hfz40_1
       try clear hfz42_0
       try clear hfz42_1
       try clear hfz43_0
       try clear hfz46_0
       try clear hfz46_1
       try clear hfz47_0
       try clear hfz50_0
       try clear hfz50_1
       try clear hx323_0
       try clear hx323_1
       try clear p2
       try clear p323
       try clear q323
       obtain ⟨kq,x45_6,rfl,HA,HJ6,BK321,BK324,HB⟩:=hcut
       cases kq with
       | zero=>exact absurd HA.out (by simp [jq.j1])
       | succ kj6 =>
        have H:=HA.out
        clear HA
        simp only [jq.j1] at H
        by_cases c51:x45_6=true
        ·subst c51
         have H1:(some false)=some r:=by rw [if_pos rfl] at H;exact H
         clear H
         have H:=H1
         clear H1
         obtain rfl:=Option.some.inj H
         go_wp2
         go_ret
         exact ⟨Y1,Y5⟩
        ·replace c51:=Bool.eq_false_iff.mpr c51
         subst c51
         have H1:(jq.l0 kj6 l0_0 (l0_0.length:Int) (wrap64 (x8_1+1)) l0_0)=some r:=by rw [if_neg (show ¬ (false=true) by decide)] at H;exact H
         clear H
         have H:=H1
         clear H1
         have H':=am H
         clear H
         go_wp2
         go_roundg kj6
         case measure=>have:=HK1.out;have:=HJ6.out;omega
         case rel=>exact ⟨(wrap64 (x8_1+1)),(sq),H',⟨by have:=HK1.out;have:=HJ6.out;omega⟩,⟨kq BK321.out⟩,⟨Y5⟩⟩
     ·rw [if_neg c6] at H
      exact absurd H (by simp)
    ·rw [if_neg c5] at H
     exact absurd H (by simp)
   ·rw [if_neg c4] at H
    have c4b0:decide (x8_1<(l0_0.length:Int))=false:=dzF c4
    clear c4
    replace H:=bzS H
    obtain ⟨t322,A520,H⟩:=H
    replace H:(some t322)=some r:=H
    have A52:=am A520
    clear A520
    obtain rfl:=Option.some.inj H
    have hcz53_0:=bc0 BK321.out
    have hfz53_0:=ja BK321.out 0
    go_wp2_with (first |((with_reducible refine jB (f:=60) rfl ?_);refine gL (some 50) Tryd.func60 #[.int .i64 (l0_0.length:Int), .int .i64 1, .int .i64 8] ?_;(with_reducible refine (jW.calls (l0_0.length:Int) 1 8 t322 _ A52.out).mono ?_);rintro e w' ⟨rfl,⟨nd,rfl⟩⟩;refine ⟨_,rfl,?_⟩))
    go_ret
    exact ⟨Y1,Y57⟩
theorem jua {w : World} {b : Nat} {v : Value} {l : List Value} {t : TypeId} (h : w.heap[b]? = some (.cells ⟨v :: l⟩ t (0, 0))) : w.cell? ⟨b, 0, none⟩ = some v := (jC h 0).trans rfl
theorem cellA1 {w : World} {b : Nat} {v v1 : Value} {l : List Value} {t : TypeId} (h : w.heap[b]? = some (.cells ⟨v :: v1 :: l⟩ t (0, 0))) : w.cell? ⟨b, 1, none⟩ = some v1 := (jC h 1).trans rfl
theorem cellA2 {w : World} {b : Nat} {v v1 v2 : Value} {l : List Value} {t : TypeId} (h : w.heap[b]? = some (.cells ⟨v :: v1 :: v2 :: l⟩ t (0, 0))) : w.cell? ⟨b, 2, none⟩ = some v2 := (jC h 2).trans rfl
theorem cellA3 {w : World} {b : Nat} {v v1 v2 v3 : Value} {l : List Value} {t : TypeId} (h : w.heap[b]? = some (.cells ⟨v :: v1 :: v2 :: v3 :: l⟩ t (0, 0))) : w.cell? ⟨b, 3, none⟩ = some v3 := (jC h 3).trans rfl
def hpIn (a lo hi : Int) : Bool := decide (lo ≤ a) && decide (a ≤ hi)
theorem hp_within (a lo hi : Int) : jW.f a lo hi = some (hpIn a lo hi) := by
 unfold jW.f hpIn
 by_cases h:a≥lo
 ·rw [if_pos h];simp [show lo≤a from h]
 ·rw [if_neg h];simp [show ¬ lo≤a from h]
theorem hp_has (l : List S99) (a : Int) : jAa.f l a = some (hpIn a 0 (wrap64 ((l.length : Int) - 1))) := by unfold jAa.f; rw [hp_within]; rfl
theorem hp_code (a : Int) : jOa.f a = some (hpIn a 0 99) := by unfold jOa.f; rw [hp_within]; rfl
def hpLk (m : Nat) (i z : Int) : Bool := decide (z = -1) || (hpIn z 0 ((m : Int) - 1) && decide (z ≠ i))
def hpBad (t : List S99) (m : Nat) (i : Int) (x : S66) : Bool := !hpIn x.f0 0 (wrap64 ((t.length : Int) - 1)) || (!hpIn x.f1 0 99 || (!hpLk m i x.f2 || !hpLk m i x.f3))
def hpAny (t : List S99) (h : List S66) : Nat → Nat → Bool
 | 0,_=>false
 | n+1,i=>if hpBad t h.length (i:Int) (jb h (i:Int))=true then true else hpAny t h n (i+1)
def hpEnds (k : Nat) (h : List S66) : Nat → Nat → Option Bool
 | 0,_=>some true
 | n+1,i=>(jCa.f k h (i:Int)).bind fun l=>if 1≤l.length then (ctxF h (rd l ((l.length:Int) - 1))).bind fun c=>if c = -1 then hpEnds k h n (i+1) else some false else none
def jya.f (k : Nat) (l0_0 : List S99) (l1_0 : List S66) : Option Bool :=
 if hpAny l0_0 l1_0 l1_0.length 0=true then some false else (hpEnds k l1_0 l1_0.length 0).bind fun b=>if b=true then ((jq.f k l0_0).bind fun v=>some (if v=true then decide ((l1_0.length:Int)≤24) else false)) else some false
set_option maxHeartbeats 8000000 in
set_option maxRecDepth 100000 in
theorem jDb (A_ : Option Addr) (c_ : Nat) (m : Nat) (i z : Int) (B0 : Nat) (w : World) (hm : m ≤ 9223372036854775807) (hc : w.cell? ⟨B0, 0, none⟩ = some (.slice A_ m c_)) :
  Calls Tryd.prog 73 #[.int .i64 i, .int .i64 z, .pointer (some ⟨B0,0,none⟩)] w fun e w'=>e=.returned (.bool (hpLk m i z))∧Below w.heap.size w w':=by
 have HB:=am (Below.refl w.heap.size w)
 have hu28:=Tryd.underlying28
 have hw2:IntKind.i64.wrap ((m:Int) - 1)=(m:Int) - 1:=IntWalk.i64_in _ (by omega)
 by_cases h0:z = -1
 ·subst h0
  have HZ:=am (by simp [hpLk]:hpLk m i (-1)=true)
  go_enter Tryd.func73,Tryd.ntmps73
  go_wp2
  go_ret
  exact ⟨by rw [HZ.out];rfl,(bq)⟩
 ·have hb0:(z == -1)=false:=by simpa using h0
  by_cases h1:z≥0
  ·have hb1:=dzT h1
   by_cases h2:z≤(m:Int) - 1
   ·have hb2:=dzT h2
    by_cases h3:z=i
    ·have hb3:(z != i)=false:=by simpa using h3
     have HZ:=am (by subst h3;simp [hpLk,h0]:hpLk m i z=false)
     clear h0 h1 h2 h3
     go_enter Tryd.func73,Tryd.ntmps73
     go_wp2
     go_ret
     exact ⟨by rw [HZ.out];rfl,(bq)⟩
    ·have hb3:(z != i)=true:=by simpa using h3
     have HZ:=am (by simp [hpLk,h0,h3,hpIn];omega:hpLk m i z=true)
     clear h0 h1 h2 h3
     go_enter Tryd.func73,Tryd.ntmps73
     go_wp2
     go_ret
     exact ⟨by rw [HZ.out];rfl,(bq)⟩
   ·have hb2:=dzF h2
    have HZ:=am (by simp [hpLk,h0,hpIn];omega:hpLk m i z=false)
    clear h0 h1 h2
    go_enter Tryd.func73,Tryd.ntmps73
    go_wp2
    go_ret
    exact ⟨by rw [HZ.out];rfl,(bq)⟩
  ·have hb1:=dzF h1
   have HZ:=am (by simp [hpLk,h0,hpIn];omega:hpLk m i z=false)
   clear h0 h1
   go_enter Tryd.func73,Tryd.ntmps73
   go_wp2
   go_ret
   exact ⟨by rw [HZ.out];rfl,(bq)⟩
set_option maxHeartbeats 8000000 in
set_option maxRecDepth 100000 in
theorem jya.calls (k : Nat) (A0_0 : Option Addr) (c0_0 : Nat) (l0_0 : List (S99)) (A0 : Option Addr) (c0 : Nat) (l0 : List (S66)) (r : Bool) (w : World) (hr0_0 : Kd.C k99 w A0_0 l0_0.length l0_0) (hc0_0 : l0_0.length ≤ c0_0) (hr0 : Kd.C k66 w A0 l0.length l0) (hc0 : l0.length ≤ c0) (h : jya.f k l0_0 l0 = some r) :
  Calls Tryd.prog 45 #[.agg #[.slice A0_0 l0_0.length c0_0], .agg #[.slice A0 l0.length c0]] w fun e w'=>e=.returned (.bool r)∧Below w.heap.size w w':=by
 have hu28:=Tryd.underlying28
 have hu25:=Tryd.underlying25
 have hu66:=Tryd.underlying66
 have hm:l0.length≤9223372036854775807:=Kd.C_max hr0
 have HRT:=am hr0_0
 have HRH:=am hr0
 have hcT:=hc0_0
 have hcH:=hc0
 have H':=am h
 have HB:=am (((Below.refl w.heap.size w).alloc (Nat.le_refl _) (.cells #[.slice A0_0 l0_0.length c0_0] 25)).alloc (by simp) (.cells #[.slice A0 l0.length c0] 28))
 have BT:=am (jw (heap_alloc_new w (.cells #[.slice A0_0 l0_0.length c0_0] 25)) (.cells #[.slice A0 l0.length c0] 28))
 have BH:=am (show ((w.alloc (.cells #[.slice A0_0 l0_0.length c0_0] 25)).alloc (.cells #[.slice A0 l0.length c0] 28)).heap[w.heap.size+1]?=some (.cells #[.slice A0 l0.length c0] 28 (0,0)) by have h:=heap_alloc_new (w.alloc (.cells #[.slice A0_0 l0_0.length c0_0] 25)) (.cells #[.slice A0 l0.length c0] 28);simpa only [World.size_alloc] using h)
 have hmH:=hm
 clear hr0_0 hr0 h hc0_0 hc0
 go_enter Tryd.func45,Tryd.ntmps45
 go_wp2
 go_loopw [14] (fun v14 wr=>∃ i:Nat,i≤l0.length∧v14=.int .i64 i∧jH (hpAny l0_0 l0 (l0.length - i) i=hpAny l0_0 l0 l0.length 0)∧jH (wr.heap[w.heap.size]?=some (.cells #[.slice A0_0 l0_0.length c0_0] 25 (0,0)))∧jH (wr.heap[w.heap.size+1]?=some (.cells #[.slice A0 l0.length c0] 28 (0,0)))∧jH (Below w.heap.size w wr)) (fun v14 _=>l0.length - (intOf v14).toNat)
 case atStart=>exact ⟨0,Nat.zero_le _,rfl,⟨rfl⟩,BT,BH,HB⟩
 case round =>
  clear HB BT BH
  obtain ⟨i,hi,rfl,HA,BT,BH,HB⟩:=hrel
  have cT:=jua BT.out
  have cH:=jua BH.out
  by_cases hlt:i<l0.length
  ·obtain ⟨ad,rfl,x0,x1,x2,x3,x4⟩:=jLa (Kd.jD HRH.out HB.out) (i:Int) (by omega) (by omega)
   rw [Int.toNat_natCast] at x0 x1 x2 x3 x4
   have hneT:w.heap.size<wr.heap.size:=jT BT.out
   have hneH:w.heap.size+1<wr.heap.size:=jT BH.out
   have BX:=am (heap_alloc_new wr (.cells #[.int .i64 (jb l0 (i:Int)).f0, .int .i64 (jb l0 (i:Int)).f1, .int .i64 (jb l0 (i:Int)).f2, .int .i64 (jb l0 (i:Int)).f3, .bool (jb l0 (i:Int)).f4] 66))
   have HS:=am (show hpAny l0_0 l0 (l0.length - i) i=if hpBad l0_0 l0.length (i:Int) (jb l0 (i:Int))=true then true else hpAny l0_0 l0 (l0.length - (i+1)) (i+1) by rw [show l0.length - i=(l0.length - (i+1))+1 by omega];rfl)

   cases e0:hpIn (jb l0 (i:Int)).f0 0 (wrap64 ((l0_0.length:Int) - 1)) with
   | false =>
    have E0:=am (show jAa.f l0_0 (jb l0 (i:Int)).f0=some false by rw [hp_has,e0])
    have HZ:=am (show r=false by have h:=H'.out;unfold jya.f at h;rw [← HA.out,HS.out,if_pos (show hpBad l0_0 l0.length (i:Int) (jb l0 (i:Int))=true by simp [hpBad,e0]),if_pos rfl] at h;exact (Option.some.inj h).symm)
    clear e0 HA HS H'
    go_wp2_with (first |(go_at_call 74;refine (jAa.calls _ _ _ _ false _ (Kd.jD HRT.out (bq)) hcT E0.out).mono ?_;rintro e w2 ⟨rfl,hb2⟩;have n0_:=am (jc (g:=wr.heap.size) (o:=.cells #[.int .i64 (jb l0 (i:Int)).f0, .int .i64 (jb l0 (i:Int)).f1, .int .i64 (jb l0 (i:Int)).f2, .int .i64 (jb l0 (i:Int)).f3, .bool (jb l0 (i:Int)).f4] 66 (0,0)) (Y8) hb2);have n1_:=am (jc (g:=w.heap.size) (o:=.cells #[.slice A0_0 l0_0.length c0_0] 25 (0,0)) (kq BT.out) hb2);have n2_:=am (jc (g:=w.heap.size+1) (o:=.cells #[.slice (some ad) l0.length c0] 28 (0,0)) (kq BH.out) hb2);have n3_:=am (jd (bq) hb2);clear BX BT BH HB;(try clear cx0 cx1 cx2 cx3);have BX:=n0_;have BT:=n1_;have BH:=n2_;have HB:=n3_;clear n0_ n1_ n2_ n3_ hb2;have cT:=jua BT.out;have cH:=jua BH.out;have cx0:=jua BX.out;have cx1:=cellA1 BX.out;have cx2:=cellA2 BX.out;have cx3:=cellA3 BX.out))
    go_ret
    exact ⟨by rw [HZ.out];rfl,(bq)⟩
   | true =>
    have E0:=am (show jAa.f l0_0 (jb l0 (i:Int)).f0=some true by rw [hp_has,e0])
    cases e1:hpIn (jb l0 (i:Int)).f1 0 99 with
    | false =>
     have E1:=am (show jOa.f (jb l0 (i:Int)).f1=some false by rw [hp_code,e1])
     have HZ:=am (show r=false by have h:=H'.out;unfold jya.f at h;rw [← HA.out,HS.out,if_pos (show hpBad l0_0 l0.length (i:Int) (jb l0 (i:Int))=true by simp [hpBad,e0,e1]),if_pos rfl] at h;exact (Option.some.inj h).symm)
     clear e0 e1 HA HS H'
     go_wp2_with (first |(go_at_call 74;refine (jAa.calls _ _ _ _ true _ (Kd.jD HRT.out (bq)) hcT E0.out).mono ?_;rintro e w2 ⟨rfl,hb2⟩;have n0_:=am (jc (g:=wr.heap.size) (o:=.cells #[.int .i64 (jb l0 (i:Int)).f0, .int .i64 (jb l0 (i:Int)).f1, .int .i64 (jb l0 (i:Int)).f2, .int .i64 (jb l0 (i:Int)).f3, .bool (jb l0 (i:Int)).f4] 66 (0,0)) (Y8) hb2);have n1_:=am (jc (g:=w.heap.size) (o:=.cells #[.slice A0_0 l0_0.length c0_0] 25 (0,0)) (kq BT.out) hb2);have n2_:=am (jc (g:=w.heap.size+1) (o:=.cells #[.slice (some ad) l0.length c0] 28 (0,0)) (kq BH.out) hb2);have n3_:=am (jd (bq) hb2);clear BX BT BH HB;(try clear cx0 cx1 cx2 cx3);have BX:=n0_;have BT:=n1_;have BH:=n2_;have HB:=n3_;clear n0_ n1_ n2_ n3_ hb2;have cT:=jua BT.out;have cH:=jua BH.out;have cx0:=jua BX.out;have cx1:=cellA1 BX.out;have cx2:=cellA2 BX.out;have cx3:=cellA3 BX.out) |(go_at_call 75;refine (jOa.calls _ false _ E1.out).mono ?_;rintro e w3 ⟨rfl,hd3⟩;have hb3:=hd3.below;clear hd3;have n0_:=am (jc (g:=wr.heap.size) (o:=.cells #[.int .i64 (jb l0 (i:Int)).f0, .int .i64 (jb l0 (i:Int)).f1, .int .i64 (jb l0 (i:Int)).f2, .int .i64 (jb l0 (i:Int)).f3, .bool (jb l0 (i:Int)).f4] 66 (0,0)) (Y8) hb3);have n1_:=am (jc (g:=w.heap.size) (o:=.cells #[.slice A0_0 l0_0.length c0_0] 25 (0,0)) (kq BT.out) hb3);have n2_:=am (jc (g:=w.heap.size+1) (o:=.cells #[.slice (some ad) l0.length c0] 28 (0,0)) (kq BH.out) hb3);have n3_:=am (jd (bq) hb3);clear BX BT BH HB;(try clear cx0 cx1 cx2 cx3);have BX:=n0_;have BT:=n1_;have BH:=n2_;have HB:=n3_;clear n0_ n1_ n2_ n3_ hb3;have cT:=jua BT.out;have cH:=jua BH.out;have cx0:=jua BX.out;have cx1:=cellA1 BX.out;have cx2:=cellA2 BX.out;have cx3:=cellA3 BX.out))
     go_ret
     exact ⟨by rw [HZ.out];rfl,(bq)⟩
    | true =>
     have E1:=am (show jOa.f (jb l0 (i:Int)).f1=some true by rw [hp_code,e1])
     cases e2:hpLk l0.length (i:Int) (jb l0 (i:Int)).f2 with
     | false =>
      have E2:=am (e2)
      have HZ:=am (show r=false by have h:=H'.out;unfold jya.f at h;rw [← HA.out,HS.out,if_pos (show hpBad l0_0 l0.length (i:Int) (jb l0 (i:Int))=true by simp [hpBad,e0,e1,e2]),if_pos rfl] at h;exact (Option.some.inj h).symm)
      clear e0 e1 e2 HA HS H'
      go_wp2_with (first |(go_at_call 74;refine (jAa.calls _ _ _ _ true _ (Kd.jD HRT.out (bq)) hcT E0.out).mono ?_;rintro e w2 ⟨rfl,hb2⟩;have n0_:=am (jc (g:=wr.heap.size) (o:=.cells #[.int .i64 (jb l0 (i:Int)).f0, .int .i64 (jb l0 (i:Int)).f1, .int .i64 (jb l0 (i:Int)).f2, .int .i64 (jb l0 (i:Int)).f3, .bool (jb l0 (i:Int)).f4] 66 (0,0)) (Y8) hb2);have n1_:=am (jc (g:=w.heap.size) (o:=.cells #[.slice A0_0 l0_0.length c0_0] 25 (0,0)) (kq BT.out) hb2);have n2_:=am (jc (g:=w.heap.size+1) (o:=.cells #[.slice (some ad) l0.length c0] 28 (0,0)) (kq BH.out) hb2);have n3_:=am (jd (bq) hb2);clear BX BT BH HB;(try clear cx0 cx1 cx2 cx3);have BX:=n0_;have BT:=n1_;have BH:=n2_;have HB:=n3_;clear n0_ n1_ n2_ n3_ hb2;have cT:=jua BT.out;have cH:=jua BH.out;have cx0:=jua BX.out;have cx1:=cellA1 BX.out;have cx2:=cellA2 BX.out;have cx3:=cellA3 BX.out) |(go_at_call 75;refine (jOa.calls _ true _ E1.out).mono ?_;rintro e w3 ⟨rfl,hd3⟩;have hb3:=hd3.below;clear hd3;have n0_:=am (jc (g:=wr.heap.size) (o:=.cells #[.int .i64 (jb l0 (i:Int)).f0, .int .i64 (jb l0 (i:Int)).f1, .int .i64 (jb l0 (i:Int)).f2, .int .i64 (jb l0 (i:Int)).f3, .bool (jb l0 (i:Int)).f4] 66 (0,0)) (Y8) hb3);have n1_:=am (jc (g:=w.heap.size) (o:=.cells #[.slice A0_0 l0_0.length c0_0] 25 (0,0)) (kq BT.out) hb3);have n2_:=am (jc (g:=w.heap.size+1) (o:=.cells #[.slice (some ad) l0.length c0] 28 (0,0)) (kq BH.out) hb3);have n3_:=am (jd (bq) hb3);clear BX BT BH HB;(try clear cx0 cx1 cx2 cx3);have BX:=n0_;have BT:=n1_;have BH:=n2_;have HB:=n3_;clear n0_ n1_ n2_ n3_ hb3;have cT:=jua BT.out;have cH:=jua BH.out;have cx0:=jua BX.out;have cx1:=cellA1 BX.out;have cx2:=cellA2 BX.out;have cx3:=cellA3 BX.out) |(go_at_call 73;refine (jDb _ _ _ _ _ _ _ hmH cH).mono ?_;rw [E2.out];rintro e w4 ⟨rfl,hb4⟩;have n0_:=am (jc (g:=wr.heap.size) (o:=.cells #[.int .i64 (jb l0 (i:Int)).f0, .int .i64 (jb l0 (i:Int)).f1, .int .i64 (jb l0 (i:Int)).f2, .int .i64 (jb l0 (i:Int)).f3, .bool (jb l0 (i:Int)).f4] 66 (0,0)) (Y8) hb4);have n1_:=am (jc (g:=w.heap.size) (o:=.cells #[.slice A0_0 l0_0.length c0_0] 25 (0,0)) (kq BT.out) hb4);have n2_:=am (jc (g:=w.heap.size+1) (o:=.cells #[.slice (some ad) l0.length c0] 28 (0,0)) (kq BH.out) hb4);have n3_:=am (jd (bq) hb4);clear BX BT BH HB;(try clear cx0 cx1 cx2 cx3);have BX:=n0_;have BT:=n1_;have BH:=n2_;have HB:=n3_;clear n0_ n1_ n2_ n3_ hb4;have cT:=jua BT.out;have cH:=jua BH.out;have cx0:=jua BX.out;have cx1:=cellA1 BX.out;have cx2:=cellA2 BX.out;have cx3:=cellA3 BX.out))
      go_ret
      exact ⟨by rw [HZ.out];rfl,(bq)⟩
     | true =>
      have E2:=am (e2)
      cases e3:hpLk l0.length (i:Int) (jb l0 (i:Int)).f3 with
      | false =>
       have E3:=am (e3)
       have HZ:=am (show r=false by have h:=H'.out;unfold jya.f at h;rw [← HA.out,HS.out,if_pos (show hpBad l0_0 l0.length (i:Int) (jb l0 (i:Int))=true by simp [hpBad,e0,e1,e2,e3]),if_pos rfl] at h;exact (Option.some.inj h).symm)
       clear e0 e1 e2 e3 HA HS H'
       go_wp2_with (first |(go_at_call 74;refine (jAa.calls _ _ _ _ true _ (Kd.jD HRT.out (bq)) hcT E0.out).mono ?_;rintro e w2 ⟨rfl,hb2⟩;have n0_:=am (jc (g:=wr.heap.size) (o:=.cells #[.int .i64 (jb l0 (i:Int)).f0, .int .i64 (jb l0 (i:Int)).f1, .int .i64 (jb l0 (i:Int)).f2, .int .i64 (jb l0 (i:Int)).f3, .bool (jb l0 (i:Int)).f4] 66 (0,0)) (Y8) hb2);have n1_:=am (jc (g:=w.heap.size) (o:=.cells #[.slice A0_0 l0_0.length c0_0] 25 (0,0)) (kq BT.out) hb2);have n2_:=am (jc (g:=w.heap.size+1) (o:=.cells #[.slice (some ad) l0.length c0] 28 (0,0)) (kq BH.out) hb2);have n3_:=am (jd (bq) hb2);clear BX BT BH HB;(try clear cx0 cx1 cx2 cx3);have BX:=n0_;have BT:=n1_;have BH:=n2_;have HB:=n3_;clear n0_ n1_ n2_ n3_ hb2;have cT:=jua BT.out;have cH:=jua BH.out;have cx0:=jua BX.out;have cx1:=cellA1 BX.out;have cx2:=cellA2 BX.out;have cx3:=cellA3 BX.out) |(go_at_call 75;refine (jOa.calls _ true _ E1.out).mono ?_;rintro e w3 ⟨rfl,hd3⟩;have hb3:=hd3.below;clear hd3;have n0_:=am (jc (g:=wr.heap.size) (o:=.cells #[.int .i64 (jb l0 (i:Int)).f0, .int .i64 (jb l0 (i:Int)).f1, .int .i64 (jb l0 (i:Int)).f2, .int .i64 (jb l0 (i:Int)).f3, .bool (jb l0 (i:Int)).f4] 66 (0,0)) (Y8) hb3);have n1_:=am (jc (g:=w.heap.size) (o:=.cells #[.slice A0_0 l0_0.length c0_0] 25 (0,0)) (kq BT.out) hb3);have n2_:=am (jc (g:=w.heap.size+1) (o:=.cells #[.slice (some ad) l0.length c0] 28 (0,0)) (kq BH.out) hb3);have n3_:=am (jd (bq) hb3);clear BX BT BH HB;(try clear cx0 cx1 cx2 cx3);have BX:=n0_;have BT:=n1_;have BH:=n2_;have HB:=n3_;clear n0_ n1_ n2_ n3_ hb3;have cT:=jua BT.out;have cH:=jua BH.out;have cx0:=jua BX.out;have cx1:=cellA1 BX.out;have cx2:=cellA2 BX.out;have cx3:=cellA3 BX.out) |(go_at_call 73;refine (jDb _ _ _ _ _ _ _ hmH cH).mono ?_;(first | rw [E2.out] | rw [E3.out]);rintro e w4 ⟨rfl,hb4⟩;have n0_:=am (jc (g:=wr.heap.size) (o:=.cells #[.int .i64 (jb l0 (i:Int)).f0, .int .i64 (jb l0 (i:Int)).f1, .int .i64 (jb l0 (i:Int)).f2, .int .i64 (jb l0 (i:Int)).f3, .bool (jb l0 (i:Int)).f4] 66 (0,0)) (Y8) hb4);have n1_:=am (jc (g:=w.heap.size) (o:=.cells #[.slice A0_0 l0_0.length c0_0] 25 (0,0)) (kq BT.out) hb4);have n2_:=am (jc (g:=w.heap.size+1) (o:=.cells #[.slice (some ad) l0.length c0] 28 (0,0)) (kq BH.out) hb4);have n3_:=am (jd (bq) hb4);clear BX BT BH HB;(try clear cx0 cx1 cx2 cx3);have BX:=n0_;have BT:=n1_;have BH:=n2_;have HB:=n3_;clear n0_ n1_ n2_ n3_ hb4;have cT:=jua BT.out;have cH:=jua BH.out;have cx0:=jua BX.out;have cx1:=cellA1 BX.out;have cx2:=cellA2 BX.out;have cx3:=cellA3 BX.out))
       go_ret
       exact ⟨by rw [HZ.out];rfl,(bq)⟩
      | true =>
       have E3:=am (e3)
       have HN:=am (show hpAny l0_0 l0 (l0.length - (i+1)) (i+1)=hpAny l0_0 l0 l0.length 0 by rw [← HA.out,HS.out,if_neg (show ¬ hpBad l0_0 l0.length (i:Int) (jb l0 (i:Int))=true by simp [hpBad,e0,e1,e2,e3])])
       clear e0 e1 e2 e3 HA HS H'
       go_wp2_with (first |(go_at_call 74;refine (jAa.calls _ _ _ _ true _ (Kd.jD HRT.out (bq)) hcT E0.out).mono ?_;rintro e w2 ⟨rfl,hb2⟩;have n0_:=am (jc (g:=wr.heap.size) (o:=.cells #[.int .i64 (jb l0 (i:Int)).f0, .int .i64 (jb l0 (i:Int)).f1, .int .i64 (jb l0 (i:Int)).f2, .int .i64 (jb l0 (i:Int)).f3, .bool (jb l0 (i:Int)).f4] 66 (0,0)) (Y8) hb2);have n1_:=am (jc (g:=w.heap.size) (o:=.cells #[.slice A0_0 l0_0.length c0_0] 25 (0,0)) (kq BT.out) hb2);have n2_:=am (jc (g:=w.heap.size+1) (o:=.cells #[.slice (some ad) l0.length c0] 28 (0,0)) (kq BH.out) hb2);have n3_:=am (jd (bq) hb2);clear BX BT BH HB;(try clear cx0 cx1 cx2 cx3);have BX:=n0_;have BT:=n1_;have BH:=n2_;have HB:=n3_;clear n0_ n1_ n2_ n3_ hb2;have cT:=jua BT.out;have cH:=jua BH.out;have cx0:=jua BX.out;have cx1:=cellA1 BX.out;have cx2:=cellA2 BX.out;have cx3:=cellA3 BX.out) |(go_at_call 75;refine (jOa.calls _ true _ E1.out).mono ?_;rintro e w3 ⟨rfl,hd3⟩;have hb3:=hd3.below;clear hd3;have n0_:=am (jc (g:=wr.heap.size) (o:=.cells #[.int .i64 (jb l0 (i:Int)).f0, .int .i64 (jb l0 (i:Int)).f1, .int .i64 (jb l0 (i:Int)).f2, .int .i64 (jb l0 (i:Int)).f3, .bool (jb l0 (i:Int)).f4] 66 (0,0)) (Y8) hb3);have n1_:=am (jc (g:=w.heap.size) (o:=.cells #[.slice A0_0 l0_0.length c0_0] 25 (0,0)) (kq BT.out) hb3);have n2_:=am (jc (g:=w.heap.size+1) (o:=.cells #[.slice (some ad) l0.length c0] 28 (0,0)) (kq BH.out) hb3);have n3_:=am (jd (bq) hb3);clear BX BT BH HB;(try clear cx0 cx1 cx2 cx3);have BX:=n0_;have BT:=n1_;have BH:=n2_;have HB:=n3_;clear n0_ n1_ n2_ n3_ hb3;have cT:=jua BT.out;have cH:=jua BH.out;have cx0:=jua BX.out;have cx1:=cellA1 BX.out;have cx2:=cellA2 BX.out;have cx3:=cellA3 BX.out) |(go_at_call 73;refine (jDb _ _ _ _ _ _ _ hmH cH).mono ?_;(first | rw [E2.out] | rw [E3.out]);rintro e w4 ⟨rfl,hb4⟩;have n0_:=am (jc (g:=wr.heap.size) (o:=.cells #[.int .i64 (jb l0 (i:Int)).f0, .int .i64 (jb l0 (i:Int)).f1, .int .i64 (jb l0 (i:Int)).f2, .int .i64 (jb l0 (i:Int)).f3, .bool (jb l0 (i:Int)).f4] 66 (0,0)) (Y8) hb4);have n1_:=am (jc (g:=w.heap.size) (o:=.cells #[.slice A0_0 l0_0.length c0_0] 25 (0,0)) (kq BT.out) hb4);have n2_:=am (jc (g:=w.heap.size+1) (o:=.cells #[.slice (some ad) l0.length c0] 28 (0,0)) (kq BH.out) hb4);have n3_:=am (jd (bq) hb4);clear BX BT BH HB;(try clear cx0 cx1 cx2 cx3);have BX:=n0_;have BT:=n1_;have BH:=n2_;have HB:=n3_;clear n0_ n1_ n2_ n3_ hb4;have cT:=jua BT.out;have cH:=jua BH.out;have cx0:=jua BX.out;have cx1:=cellA1 BX.out;have cx2:=cellA2 BX.out;have cx3:=cellA3 BX.out))
       go_roundw
       case rel=>exact ⟨i+1,hlt,by go_num,HN,⟨kq BT.out⟩,⟨kq BH.out⟩,⟨(bq)⟩⟩
       case measure=>simp [intOf];omega
  ·obtain rfl:i=l0.length:=by omega
   have HG:=am (show (hpEnds k l0 l0.length 0).bind (fun b=>if b=true then ((jq.f k l0_0).bind fun v=>some (if v=true then decide ((l0.length:Int)≤24) else false)) else some false)=some r by
    have h:=H'.out
    unfold jya.f at h
    have hA:=HA.out
    rw [Nat.sub_self] at hA
    rw [if_neg (show ¬ hpAny l0_0 l0 l0.length 0=true by rw [← hA];simp [hpAny])] at h
    exact h)
   clear HA H'
   obtain ⟨b,hE,hG⟩:=bzS HG.out
   have HE:=am hE
   have HG2:=am hG
   clear HG hE hG
   go_wp2
   go_loopw [50] (fun v50 wr=>∃ j:Nat,j≤l0.length∧v50=.int .i64 j∧jH (hpEnds k l0 (l0.length - j) j=some b)∧jH (wr.heap[w.heap.size]?=some (.cells #[.slice A0_0 l0_0.length c0_0] 25 (0,0)))∧jH (wr.heap[w.heap.size+1]?=some (.cells #[.slice A0 l0.length c0] 28 (0,0)))∧jH (Below w.heap.size w wr)) (fun v50 _=>l0.length - (intOf v50).toNat)
   case atStart=>exact ⟨0,Nat.zero_le _,rfl,HE,BT,BH,HB⟩
   case round =>
    clear HB BT BH cT cH HE hlt
    obtain ⟨j,hj,rfl,HA,BT,BH,HB⟩:=hrel
    have cT:=jua BT.out
    have cH:=jua BH.out
    by_cases hlt:j<l0.length
    ·have hA:=HA.out
     rw [show l0.length - j=(l0.length - (j+1))+1 by omega,hpEnds] at hA
     obtain ⟨l,hl,hA⟩:=bzS hA
     have HC:=am (fun W (hb:Below w.heap.size w W)=>jCa.calls k A0 c0 l0 (j:Int) l W (Kd.jD HRH.out hb) hcH hl)
     clear HA hl
     by_cases hlen:1≤l.length
     ·rw [if_pos hlen] at hA
      obtain ⟨c,hc,hA⟩:=bzS hA
      unfold ctxF at hc
      obtain ⟨ji,hji⟩:∃ ji,ji=(l.length:Int) - 1:=⟨_,rfl⟩
      rw [← hji] at hc
      have HJ:=am hji
      by_cases hc1:0≤rd l ji
      ·rw [if_pos hc1] at hc
       by_cases hc2:rd l ji<(l0.length:Int)
       ·rw [if_pos hc2] at hc
        have hc3:=Option.some.inj hc
        clear hc
        have hl0:0≤ji:=by omega
        have hl1:ji<(l.length:Int):=by omega
        clear hji
        have p0:=ezT hc1
        have p1:=ezT hc2
        have p2:=ezT hl0
        have p3:=ezT hl1
        by_cases e1:c = -1
        ·rw [if_pos e1] at hA
         have HN:=am hA
         have hcb:((jb l0 (rd l ji)).f3 != -1)=false:=by rw [hc3];simpa using e1
         clear hA e1 hc3 hlen
         go_wp2_with (go_at_call 76;refine (HC.out _ (bq)).mono ?_;rintro e w2 ⟨v2,rfl,hr2,hb2⟩;have n1_:=am (jc (g:=w.heap.size) (o:=.cells #[.slice A0_0 l0_0.length c0_0] 25 (0,0)) (kq BT.out) hb2);have n2_:=am (jc (g:=w.heap.size+1) (o:=.cells #[.slice A0 l0.length c0] 28 (0,0)) (kq BH.out) hb2);have n3_:=am (jd (bq) hb2);clear BT BH HB;have BT:=n1_;have BH:=n2_;have HB:=n3_;clear n1_ n2_ n3_ hb2;have cT:=jua BT.out;have cH:=jua BH.out;obtain ⟨Ao,co,eo⟩:=Kd.jEa hr2;subst eo;have hw2:IntKind.i64.wrap ((l.length:Int) - 1)=ji:=(by rw [HJ.out];exact IntWalk.i64_in _ (by have:=Kd.C_max (Kd.jN hr2).2.2;omega));obtain ⟨ad2,rfl,hz⟩:=Kd.jtb (Kd.jN hr2).2.2 ji hl0 hl1;obtain ⟨ad,e3,y0,y1,y2,y3,y4⟩:=jLa (Kd.jD HRH.out HB.out) (rd l ji) hc1 hc2;cases e3;clear hr2)
         repeat (go_quiet (fail);try go_wp2)
         go_roundw
         case rel=>exact ⟨j+1,hlt,by go_num,HN,⟨kq BT.out⟩,⟨kq BH.out⟩,⟨(bq)⟩⟩
         case measure=>simp [intOf];omega
        ·rw [if_neg e1] at hA
         have hcb:((jb l0 (rd l ji)).f3 != -1)=true:=by rw [hc3];simpa using e1
         have HZ:=am (show r=false by
          have h:=HG2.out
          rw [← Option.some.inj hA,if_neg (by simp)] at h
          exact (Option.some.inj h).symm)
         clear hA e1 hc3 hlen HG2
         go_wp2_with (go_at_call 76;refine (HC.out _ (bq)).mono ?_;rintro e w2 ⟨v2,rfl,hr2,hb2⟩;have n1_:=am (jc (g:=w.heap.size) (o:=.cells #[.slice A0_0 l0_0.length c0_0] 25 (0,0)) (kq BT.out) hb2);have n2_:=am (jc (g:=w.heap.size+1) (o:=.cells #[.slice A0 l0.length c0] 28 (0,0)) (kq BH.out) hb2);have n3_:=am (jd (bq) hb2);clear BT BH HB;have BT:=n1_;have BH:=n2_;have HB:=n3_;clear n1_ n2_ n3_ hb2;have cT:=jua BT.out;have cH:=jua BH.out;obtain ⟨Ao,co,eo⟩:=Kd.jEa hr2;subst eo;have hw2:IntKind.i64.wrap ((l.length:Int) - 1)=ji:=(by rw [HJ.out];exact IntWalk.i64_in _ (by have:=Kd.C_max (Kd.jN hr2).2.2;omega));obtain ⟨ad2,rfl,hz⟩:=Kd.jtb (Kd.jN hr2).2.2 ji hl0 hl1;obtain ⟨ad,e3,y0,y1,y2,y3,y4⟩:=jLa (Kd.jD HRH.out HB.out) (rd l ji) hc1 hc2;cases e3;clear hr2)
         repeat (go_quiet (fail);try go_wp2)
         go_ret
         exact ⟨by rw [HZ.out];rfl,(bq)⟩
       ·rw [if_neg hc2] at hc;cases hc
      ·rw [if_neg hc1] at hc;cases hc
     ·rw [if_neg hlen] at hA;cases hA
    ·obtain rfl:j=l0.length:=by omega
     have hA:=HA.out
     rw [Nat.sub_self] at hA
     have hG:=HG2.out
     rw [← Option.some.inj (show some true=some b from hA),if_pos rfl] at hG
     obtain ⟨v,hv,hG⟩:=bzS hG
     have HV:=am (fun W (hb:Below w.heap.size w W)=>jq.calls k A0_0 c0_0 l0_0 v W (Kd.jD HRT.out hb) hcT hv)
     have hZ:=Option.some.inj hG
     clear HA HG2 hA hG hv
     cases v with
     | false =>
      have HZ:=am (show r=false by rw [← hZ];rfl)
      clear hZ
      go_wp2_with (go_at_call 77;refine (HV.out _ (bq)).mono ?_;rintro e w2 ⟨rfl,hb2⟩;have n1_:=am (jc (g:=w.heap.size) (o:=.cells #[.slice A0_0 l0_0.length c0_0] 25 (0,0)) (kq BT.out) hb2);have n2_:=am (jc (g:=w.heap.size+1) (o:=.cells #[.slice A0 l0.length c0] 28 (0,0)) (kq BH.out) hb2);have n3_:=am (jd (bq) hb2);clear BT BH HB;have BT:=n1_;have BH:=n2_;have HB:=n3_;clear n1_ n2_ n3_ hb2;have cT:=jua BT.out;have cH:=jua BH.out)
      go_ret
      exact ⟨by rw [HZ.out];rfl,(bq)⟩
     | true =>
      rw [if_pos rfl] at hZ
      have HZ:=am hZ
      clear hZ
      go_wp2_with (go_at_call 77;refine (HV.out _ (bq)).mono ?_;rintro e w2 ⟨rfl,hb2⟩;have n1_:=am (jc (g:=w.heap.size) (o:=.cells #[.slice A0_0 l0_0.length c0_0] 25 (0,0)) (kq BT.out) hb2);have n2_:=am (jc (g:=w.heap.size+1) (o:=.cells #[.slice A0 l0.length c0] 28 (0,0)) (kq BH.out) hb2);have n3_:=am (jd (bq) hb2);clear BT BH HB;have BT:=n1_;have BH:=n2_;have HB:=n3_;clear n1_ n2_ n3_ hb2;have cT:=jua BT.out;have cH:=jua BH.out)
      go_ret
      exact ⟨by rw [← HZ.out];rfl,(bq)⟩
set_option maxHeartbeats 8000000 in
set_option maxRecDepth 100000 in
theorem impl_faultsIn1_calls (A_ : Option Addr) (c_ : Nat) (m : Nat) (x : Int) (B0 : Nat) (w : World) (hm : m ≤ 9223372036854775807) (hc : w.cell? ⟨B0, 0, none⟩ = some (.slice A_ m c_)) :
  Calls Tryd.prog 52 #[.int .i64 x, .pointer (some ⟨B0,0,none⟩)] w fun e w'=>e=.returned (.bool (!hpIn x 0 ((m:Int) - 1)))∧Below w.heap.size w w':=by
 have HB:=am (Below.refl w.heap.size w)
 have hu28:=Tryd.underlying28
 have hw2:IntKind.i64.wrap ((m:Int) - 1)=(m:Int) - 1:=IntWalk.i64_in _ (by omega)
 by_cases h1:x≥0
 ·have hb1:=dzT h1
  by_cases h2:x≤(m:Int) - 1
  ·have hb2:=dzT h2
   have HZ:=am (by simp [hpIn];omega:hpIn x 0 ((m:Int) - 1)=true)
   clear h1 h2
   go_enter Tryd.func52,Tryd.ntmps52
   go_wp2
   go_ret
   exact ⟨by rw [HZ.out];rfl,(bq)⟩
  ·have hb2:=dzF h2
   have HZ:=am (by simp [hpIn];omega:hpIn x 0 ((m:Int) - 1)=false)
   clear h1 h2
   go_enter Tryd.func52,Tryd.ntmps52
   go_wp2
   go_ret
   exact ⟨by rw [HZ.out];rfl,(bq)⟩
 ·have hb1:=dzF h1
  have HZ:=am (by simp [hpIn];omega:hpIn x 0 ((m:Int) - 1)=false)
  clear h1
  go_enter Tryd.func52,Tryd.ntmps52
  go_wp2
  go_ret
  exact ⟨by rw [HZ.out];rfl,(bq)⟩
set_option maxHeartbeats 8000000 in
set_option maxRecDepth 100000 in
theorem impl_faultsIn_idx (A_ : Option Addr) (c_ : Nat) (l : List (Int)) (B0_ : Nat) (p : Int → Option Bool) (r : Int) (w : World) (hr : Kd.C (Kd.int .i64) w A_ l.length l) (h : idxFrom p l 0 = some r)
  (hp:∀ W,Below w.heap.size w W→∀ (x:Int) (b:Bool),p x=some b→Calls Tryd.prog 52 #[.int .i64 x, .pointer (some ⟨B0_,0,none⟩)] W fun e w'=>e=.returned (.bool b)∧Below W.heap.size W w') :
  Calls Tryd.prog 83 #[.slice A_ l.length c_, .func (.func 52) #[] #[.pointer (some ⟨B0_,0,none⟩)]] w fun e w'=>e=.returned (.int .i64 r)∧Below w.heap.size w w':=by
 have hm:l.length≤9223372036854775807:=Kd.C_max hr
 have HR:=am hr
 have HP:=am hp
 have H0:=am h
 clear hr hp h
 go_enter Tryd.func83,Tryd.ntmps83
 go_wp2
 go_loopw [5,8] (fun i5 i8 wr=>∃ k:Nat,k≤l.length∧i8=.int .i64 k∧jH (idxFrom p (l.drop k) k=some r)∧Below w.heap.size w wr) (fun _ i8 _=>l.length - (intOf i8).toNat)
 case atStart=>exact ⟨0,Nat.zero_le _,rfl,H0,Below.refl _ _⟩
 case round =>
  clear H0
  obtain ⟨k,hk,rfl,HA,hb⟩:=hrel
  by_cases hlt:k<l.length
  ·have HB:=am (idxFrom_step hlt HA.out)
   clear HA
   obtain ⟨ad,rfl,hx0⟩:=Kd.jtb HR.out (k:Int) (by omega) (by omega)
   have hrd:rd l (k:Int)=l[k]:=by simp [rd,List.getD_eq_getElem?_getD,hlt]
   replace hx0:=jG hb hx0
   rw [hrd] at hx0
   simp only [Int.toNat_natCast] at hx0
   clear hrd
   obtain ⟨b,hb1,hb0⟩:=HB.out
   have HQ:=am hb1
   clear hb1 HB
   cases b with
   | true =>
    have HZ:=am (by simpa using hb0:(k:Int)=r)
    clear hb0
    go_wp2_with (go_at_call 52;refine (HP.out _ hb _ _ HQ.out).mono ?_;rintro e w' ⟨rfl,hb2⟩)
    go_ret
    exact ⟨by rw [← HZ.out];rfl,jZa hb hb.size hb2⟩
   | false =>
    have HZ:=am (by simpa using hb0:idxFrom p (l.drop (k+1)) (k+1)=some r)
    clear hb0
    go_wp2_with (go_at_call 52;refine (HP.out _ hb _ _ HQ.out).mono ?_;rintro e w' ⟨rfl,hb2⟩)
    go_roundw
    case rel=>exact ⟨k+1,hlt,by go_num,HZ,jZa hb hb.size hb2⟩
    case measure=>simp [intOf];omega
  ·have HZ:=am (idxFrom_end (by omega) HA.out)
   clear HA
   go_wp2
   go_ret
   exact ⟨by rw [HZ.out];rfl,hb⟩
set_option maxHeartbeats 8000000 in
set_option maxRecDepth 100000 in
theorem impl_faultsIn_any (A_ : Option Addr) (c_ : Nat) (l : List Int) (B0_ : Nat) (p : Int → Option Bool) (r : Int) (w : World) (hr : Kd.C (Kd.int .i64) w A_ l.length l) (h : idxFrom p l 0 = some r)
  (hp:∀ W,Below w.heap.size w W→∀ (x:Int) (b:Bool),p x=some b→Calls Tryd.prog 52 #[.int .i64 x, .pointer (some ⟨B0_,0,none⟩)] W fun e w'=>e=.returned (.bool b)∧Below W.heap.size W w') :
  Calls Tryd.prog 51 #[.slice A_ l.length c_, .func (.func 52) #[] #[.pointer (some ⟨B0_,0,none⟩)]] w fun e w'=>e=.returned (.bool (decide (0≤r)))∧Below w.heap.size w w':=by
 have HF:=am (impl_faultsIn_idx A_ c_ l B0_ p r w hr h hp)
 clear hr h hp
 go_enter Tryd.func51,Tryd.ntmps51
 go_wp2_with (go_at_call 83;refine HF.out.mono ?_;rintro e w' ⟨rfl,hb2⟩)
 go_ret
 exact ⟨rfl,hb2⟩
def jHa.f (k : Nat) (l0_0 : List S99) (l1_0 : List S66) (l2 : List Int) : Option Bool := (jya.f k l0_0 l1_0).bind fun v => if v then (idxFrom (fun x => some (!hpIn x 0 ((l1_0.length : Int) - 1))) l2 0).bind fun r => some (!decide (0 ≤ r)) else some false
set_option maxHeartbeats 8000000 in
set_option maxRecDepth 100000 in
theorem jHa.calls (k : Nat) (A0_0 : Option Addr) (c0_0 : Nat) (l0_0 : List (S99)) (A1_0 : Option Addr) (c1_0 : Nat) (l1_0 : List (S66)) (A2 : Option Addr) (c2 : Nat) (l2 : List Int) (r : Bool) (w : World) (hr0_0 : Kd.C k99 w A0_0 l0_0.length l0_0) (hc0_0 : l0_0.length ≤ c0_0) (hr1_0 : Kd.C k66 w A1_0 l1_0.length l1_0) (hc1_0 : l1_0.length ≤ c1_0) (hr2 : Kd.C (Kd.int .i64) w A2 l2.length l2) (hc2 : l2.length ≤ c2) (h : jHa.f k l0_0 l1_0 l2 = some r) :
  Calls Tryd.prog 28 #[.agg #[.slice A0_0 l0_0.length c0_0], .agg #[.slice A1_0 l1_0.length c1_0], .slice A2 l2.length c2] w fun e w'=>e=.returned (.bool r)∧Below w.heap.size w w':=by
 obtain ⟨v,hv,h⟩:=bzS h
 have hu25:=Tryd.underlying25
 have hu28:=Tryd.underlying28
 have hm:l1_0.length≤9223372036854775807:=Kd.C_max hr1_0
 have B0:=am (((Below.refl w.heap.size w).alloc (Nat.le_refl _) (.cells #[.slice A0_0 l0_0.length c0_0] 25)).alloc (by simp) (.cells #[.slice A1_0 l1_0.length c1_0] 28))
 have KC:=am (show ((w.alloc (.cells #[.slice A0_0 l0_0.length c0_0] 25)).alloc (.cells #[.slice A1_0 l1_0.length c1_0] 28)).cell? ⟨w.heap.size+1,0,none⟩=some (.slice A1_0 l1_0.length c1_0) by have h:=hp_cell_new (w.alloc (.cells #[.slice A0_0 l0_0.length c0_0] 25)) (.slice A1_0 l1_0.length c1_0) 28;simpa only [World.size_alloc] using h)
 have HV:=am (fun W (hb:Below w.heap.size w W)=>jya.calls k A0_0 c0_0 l0_0 A1_0 c1_0 l1_0 v W (Kd.jD hr0_0 hb) hc0_0 (Kd.jD hr1_0 hb) hc1_0 hv)
 cases v with
 | false =>
  obtain rfl:false=r:=by simpa using h
  clear hv h hr0_0 hr1_0 hr2
  go_enter Tryd.func28,Tryd.ntmps28
  go_wp2_with (go_at_call 45;refine (HV.out _ B0.out).mono ?_;rintro e w' ⟨rfl,hb2⟩)
  go_ret
  exact ⟨rfl,jZa B0.out B0.out.size hb2⟩
 | true =>
  simp only [if_true] at h
  obtain ⟨q,hq,h⟩:=bzS h
  have HZ:=am (Option.some.inj h)
  have HF:=am (fun W (hb:Below w.heap.size w W) (B:Nat) (hc:W.cell? ⟨B,0,none⟩=some (.slice A1_0 l1_0.length c1_0))=>impl_faultsIn_any A2 c2 l2 B (fun x=>some (!hpIn x 0 ((l1_0.length:Int) - 1))) q W (Kd.jD hr2 hb) hq (fun W' hb' x b hx=>by
   obtain rfl:=Option.some.inj hx
   exact impl_faultsIn1_calls A1_0 c1_0 l1_0.length x B W' hm (jG hb' hc)))
  clear hv h hq hr0_0 hr1_0 hr2
  go_enter Tryd.func28,Tryd.ntmps28
  go_wp2_with (first |(go_at_call 45;refine (HV.out _ B0.out).mono ?_;rintro e w1 ⟨rfl,hb2⟩;have hb1:=jZa B0.out B0.out.size hb2;have hcell:=jG hb2 KC.out) |(go_at_call 51;refine (HF.out _ hb1 _ hcell).mono ?_;rintro e w2 ⟨rfl,hb3⟩))
  go_ret
  exact ⟨by rw [← HZ.out];rfl,jZa hb1 hb1.size hb3⟩
def jBa.f (l0_0 : List (S66)) (a1 : Int) : Option (Int) := if 0 ≤ a1 then (if a1 < (l0_0.length : Int) then (if ((jb l0_0 a1).f2) ≥ 0 then (some ((jb l0_0 a1).f2)) else (if (jb l0_0 a1).f4 = true then (some (-1)) else (some ((jb l0_0 a1).f3)))) else (none)) else (none)
set_option maxHeartbeats 8000000 in
set_option maxRecDepth 100000 in
theorem jBa.calls (A0_0 : Option Addr) (c0_0 : Nat) (l0_0 : List (S66)) (a1 : Int) (r : Int) (w : World) (hr0_0 : Kd.C k66 w A0_0 l0_0.length l0_0) (hc0_0 : l0_0.length ≤ c0_0) (h : jBa.f l0_0 a1 = some r) :
  Calls Tryd.prog 30 #[.agg #[.slice A0_0 l0_0.length c0_0], .int .i64 a1] w fun e w'=>e=.returned (.int .i64 r)∧Below w.heap.size w w':=by
 have hu28:=Tryd.underlying28
 have hu66:=Tryd.underlying66
 have HR0_0:=am hr0_0
 have HC0_0:=am hc0_0
 clear hr0_0 hc0_0
 have HB:=am (Below.refl w.heap.size w)
 have H:(if 0≤a1 then (if a1<(l0_0.length:Int) then (if ((jb l0_0 a1).f2)≥0 then (some ((jb l0_0 a1).f2)) else (if (jb l0_0 a1).f4=true then (some (-1)) else (some ((jb l0_0 a1).f3)))) else (none)) else (none))=some r:=h
 clear h
 by_cases c3:0≤a1
 ·rw [if_pos c3] at H
  have c3b0:decide (0≤a1)=true:=dzT c3
  clear c3
  by_cases c4:a1<(l0_0.length:Int)
  ·rw [if_pos c4] at H
   have c4b0:decide (a1<(l0_0.length:Int))=true:=dzT c4
   clear c4
   by_cases c5:((jb l0_0 a1).f2)≥0
   ·rw [if_pos c5] at H
    have c5b0:decide (0≤((jb l0_0 a1).f2))=true:=dzT c5
    clear c5
    obtain rfl:=Option.some.inj H
    go_enter Tryd.func30,Tryd.ntmps30
    go_wp2_with (first |((with_reducible refine jr (N:=2) rfl ?_);refine bE (N:=2) (cs:=#[.slice A0_0 l0_0.length c0_0]) (t:=28) ?_;intro gb329 hg w6 hbox hb;have BK329:=am (hbox);have GW329:=am ((Y0:w.heap.size≤gb329));have GE329:=am ((Y0:w.heap.size≤gb329));replace HB:=am (jd (bq) hb);clear hb hbox hg;have hcz7_0:=bc0 BK329.out;have hfz7_0:=ja BK329.out 0;have p330:0≤(a1:Int):=ozD (uq);have q330:a1<(l0_0.length:Int):=ozD (uq);obtain ⟨ad330,e330,hx330_0,hx330_1,hx330_2,hx330_3,hx330_4⟩:=jLa HR0_0.out a1 p330 q330;cases e330;replace hx330_0:=cb HB.out hx330_0;replace hx330_1:=cb HB.out hx330_1;replace hx330_2:=cb HB.out hx330_2;replace hx330_3:=cb HB.out hx330_3;replace hx330_4:=cb HB.out hx330_4;replace p330:=ezT p330;replace q330:=ezT q330) |((with_reducible refine jr (N:=5) rfl ?_);refine bE (N:=5) (cs:=#[.int .i64 0, .int .i64 0, .int .i64 0, .int .i64 0, .bool false]) (t:=66) ?_;intro gb331 hg w8 hbox hb;have BK331:=am (hbox);have GW331:=am ((Y21:w.heap.size≤gb331));have GE331:=am ((Y21:w.heap.size≤gb331));have NB329_331:=am ((Y58:gb329≠gb331));have NB331_329:=am ((Y59:gb331≠gb329));replace BK329:=am (jc (g:=gb329) (o:=.cells #[.slice (some ad330) l0_0.length c0_0] 28 (0,0)) (kq BK329.out) hb);replace HB:=am (jd (Y60) hb);clear hb hbox hg;have hnb9:=NB331_329.out;have hnc9:=NB329_331.out;have hcz10_0:=bc0 BK331.out;have hcz10_1:=bc1 BK331.out;have hcz10_2:=bc2 BK331.out;have hcz10_3:=bc3 BK331.out;have hcz10_4:w8.cell? ⟨gb331,4,none⟩=some (.bool false):=(jC BK331.out 4).trans rfl;have hfz10_0:=ja BK331.out 0;have hfz10_1:=ja BK331.out 1;have hfz10_2:=ja BK331.out 2;have hfz10_3:=ja BK331.out 3;have hfz10_4:=ja BK331.out 4))
    go_ret
    exact ⟨Y1,Y61⟩
   ·rw [if_neg c5] at H
    have c5b0:decide (0≤((jb l0_0 a1).f2))=false:=dzF c5
    clear c5
    obtain ⟨bq11,hbq11⟩:∃ b_:Bool,b_=((jb l0_0 a1).f4):=⟨_,rfl⟩
    replace H:(if bq11=true then (some (-1)) else (some ((jb l0_0 a1).f3)))=some r:=by rw [← hbq11] at H;exact H
    have Nbq11:=am hbq11
    clear hbq11
    by_cases c12:bq11=true
    ·subst c12
     have H1:(some (-1))=some r:=by rw [if_pos rfl] at H;exact H
     clear H
     have H:=H1
     clear H1
     obtain rfl:=Option.some.inj H
     go_enter Tryd.func30,Tryd.ntmps30
     go_wp2_with (first |((with_reducible refine jr (N:=2) rfl ?_);refine bE (N:=2) (cs:=#[.slice A0_0 l0_0.length c0_0]) (t:=28) ?_;intro gb329 hg w13 hbox hb;have BK329:=am (hbox);have GW329:=am ((Y0:w.heap.size≤gb329));have GE329:=am ((Y0:w.heap.size≤gb329));replace HB:=am (jd (bq) hb);clear hb hbox hg;have hcz14_0:=bc0 BK329.out;have hfz14_0:=ja BK329.out 0;have p330:0≤(a1:Int):=ozD (uq);have q330:a1<(l0_0.length:Int):=ozD (uq);obtain ⟨ad330,e330,hx330_0,hx330_1,hx330_2,hx330_3,hx330_4⟩:=jLa HR0_0.out a1 p330 q330;(try rw [← Nbq11.out] at hx330_4);cases e330;replace hx330_0:=cb HB.out hx330_0;replace hx330_1:=cb HB.out hx330_1;replace hx330_2:=cb HB.out hx330_2;replace hx330_3:=cb HB.out hx330_3;replace hx330_4:=cb HB.out hx330_4;replace p330:=ezT p330;replace q330:=ezT q330) |((with_reducible refine jr (N:=5) rfl ?_);refine bE (N:=5) (cs:=#[.int .i64 0, .int .i64 0, .int .i64 0, .int .i64 0, .bool false]) (t:=66) ?_;intro gb331 hg w15 hbox hb;have BK331:=am (hbox);have GW331:=am ((Y21:w.heap.size≤gb331));have GE331:=am ((Y21:w.heap.size≤gb331));have NB329_331:=am ((Y58:gb329≠gb331));have NB331_329:=am ((Y59:gb331≠gb329));replace BK329:=am (jc (g:=gb329) (o:=.cells #[.slice (some ad330) l0_0.length c0_0] 28 (0,0)) (kq BK329.out) hb);replace HB:=am (jd (Y60) hb);clear hb hbox hg;have hnb16:=NB331_329.out;have hnc16:=NB329_331.out;have hcz17_0:=bc0 BK331.out;have hcz17_1:=bc1 BK331.out;have hcz17_2:=bc2 BK331.out;have hcz17_3:=bc3 BK331.out;have hcz17_4:w15.cell? ⟨gb331,4,none⟩=some (.bool false):=(jC BK331.out 4).trans rfl;have hfz17_0:=ja BK331.out 0;have hfz17_1:=ja BK331.out 1;have hfz17_2:=ja BK331.out 2;have hfz17_3:=ja BK331.out 3;have hfz17_4:=ja BK331.out 4))
     go_ret
     exact ⟨Y1,Y61⟩
    ·replace c12:=Bool.eq_false_iff.mpr c12
     subst c12
     have H1:(some ((jb l0_0 a1).f3))=some r:=by rw [if_neg (show ¬ (false=true) by decide)] at H;exact H
     clear H
     have H:=H1
     clear H1
     obtain rfl:=Option.some.inj H
     go_enter Tryd.func30,Tryd.ntmps30
     go_wp2_with (first |((with_reducible refine jr (N:=2) rfl ?_);refine bE (N:=2) (cs:=#[.slice A0_0 l0_0.length c0_0]) (t:=28) ?_;intro gb329 hg w18 hbox hb;have BK329:=am (hbox);have GW329:=am ((Y0:w.heap.size≤gb329));have GE329:=am ((Y0:w.heap.size≤gb329));replace HB:=am (jd (bq) hb);clear hb hbox hg;have hcz19_0:=bc0 BK329.out;have hfz19_0:=ja BK329.out 0;have p330:0≤(a1:Int):=ozD (uq);have q330:a1<(l0_0.length:Int):=ozD (uq);obtain ⟨ad330,e330,hx330_0,hx330_1,hx330_2,hx330_3,hx330_4⟩:=jLa HR0_0.out a1 p330 q330;(try rw [← Nbq11.out] at hx330_4);cases e330;replace hx330_0:=cb HB.out hx330_0;replace hx330_1:=cb HB.out hx330_1;replace hx330_2:=cb HB.out hx330_2;replace hx330_3:=cb HB.out hx330_3;replace hx330_4:=cb HB.out hx330_4;replace p330:=ezT p330;replace q330:=ezT q330) |((with_reducible refine jr (N:=5) rfl ?_);refine bE (N:=5) (cs:=#[.int .i64 0, .int .i64 0, .int .i64 0, .int .i64 0, .bool false]) (t:=66) ?_;intro gb331 hg w20 hbox hb;have BK331:=am (hbox);have GW331:=am ((Y21:w.heap.size≤gb331));have GE331:=am ((Y21:w.heap.size≤gb331));have NB329_331:=am ((Y58:gb329≠gb331));have NB331_329:=am ((Y59:gb331≠gb329));replace BK329:=am (jc (g:=gb329) (o:=.cells #[.slice (some ad330) l0_0.length c0_0] 28 (0,0)) (kq BK329.out) hb);replace HB:=am (jd (Y60) hb);clear hb hbox hg;have hnb21:=NB331_329.out;have hnc21:=NB329_331.out;have hcz22_0:=bc0 BK331.out;have hcz22_1:=bc1 BK331.out;have hcz22_2:=bc2 BK331.out;have hcz22_3:=bc3 BK331.out;have hcz22_4:w20.cell? ⟨gb331,4,none⟩=some (.bool false):=(jC BK331.out 4).trans rfl;have hfz22_0:=ja BK331.out 0;have hfz22_1:=ja BK331.out 1;have hfz22_2:=ja BK331.out 2;have hfz22_3:=ja BK331.out 3;have hfz22_4:=ja BK331.out 4))
     go_ret
     exact ⟨Y1,Y61⟩
  ·rw [if_neg c4] at H
   exact absurd H (by simp)
 ·rw [if_neg c3] at H
  exact absurd H (by simp)
def sh171_ren : Go.Shelf.Ren := ⟨fun | 171 => 86 | 243 => 95 | 246 => 98 | 283 => 99 | 284 => 100 | 285 => 101 | 286 => 102 | 129 => 104 | 317 => 103 | 318 => 105 | 319 => 106 | 320 => 107 | 337 => 108 | 338 => 109 | n => n, fun | 3 => 3 | 9 => 9 | 2 => 2 | 4 => 4 | 171 => 124 | 0 => 0 | 53 => 125 | 37 => 22 | 5 => 5 | 173 => 128 | 212 => 131 | 51 => 132 | 20 => 20 | 213 => 133 | 46 => 134 | 232 => 137 | 233 => 138 | n => n, fun | 17 => 0 | 18 => 1 | 19 => 2 | n => n⟩
theorem sh171 : Go.Proofs.Lays.n171 Tryd.prog sh171_ren := {
 mixed:=by kernel_rfl
 f129:=Tryd.func104.trans (congrArg some (by kernel_rfl))
 f171:=Tryd.func86.trans (congrArg some (by kernel_rfl))
 f243:=Tryd.func95.trans (congrArg some (by kernel_rfl))
 f246:=Tryd.func98.trans (congrArg some (by kernel_rfl))
 f283:=Tryd.func99.trans (congrArg some (by kernel_rfl))
 f284:=Tryd.func100.trans (congrArg some (by kernel_rfl))
 f285:=Tryd.func101.trans (congrArg some (by kernel_rfl))
 f286:=Tryd.func102.trans (congrArg some (by kernel_rfl))
 f317:=Tryd.func103.trans (congrArg some (by kernel_rfl))
 f318:=Tryd.func105.trans (congrArg some (by kernel_rfl))
 f319:=Tryd.func106.trans (congrArg some (by kernel_rfl))
 f320:=Tryd.func107.trans (congrArg some (by kernel_rfl))
 f337:=Tryd.func108.trans (congrArg some (by kernel_rfl))
 f338:=Tryd.func109.trans (congrArg some (by kernel_rfl))
 t0:=Tryd.underlying0
 a0:=Tryd.isAgg0
 z0:=Tryd.sizeOf0
 v0:=Tryd.zeroValue0
 t2:=Tryd.underlying2
 a2:=Tryd.isAgg2
 z2:=Tryd.sizeOf2
 v2:=Tryd.zeroValue2
 t3:=Tryd.underlying3
 a3:=Tryd.isAgg3
 z3:=Tryd.sizeOf3
 v3:=Tryd.zeroValue3
 t4:=Tryd.underlying4
 a4:=Tryd.isAgg4
 z4:=Tryd.sizeOf4
 v4:=Tryd.zeroValue4
 t5:=Tryd.underlying5
 a5:=Tryd.isAgg5
 z5:=Tryd.sizeOf5
 v5:=Tryd.zeroValue5
 t9:=Tryd.underlying9
 a9:=Tryd.isAgg9
 z9:=Tryd.sizeOf9
 v9:=Tryd.zeroValue9
 t20:=Tryd.underlying20
 a20:=Tryd.isAgg20
 z20:=Tryd.sizeOf20
 v20:=Tryd.zeroValue20
 t37:=Tryd.underlying22
 a37:=Tryd.isAgg22
 z37:=Tryd.sizeOf22
 v37:=Tryd.zeroValue22
 t46:=Tryd.underlying134
 a46:=Tryd.isAgg134
 z46:=Tryd.sizeOf134
 v46:=Tryd.zeroValue134
 t51:=Tryd.underlying132
 a51:=Tryd.isAgg132
 z51:=Tryd.sizeOf132
 v51:=Tryd.zeroValue132
 t53:=Tryd.underlying125
 a53:=Tryd.isAgg125
 z53:=Tryd.sizeOf125
 v53:=Tryd.zeroValue125
 t171:=Tryd.underlying124
 a171:=Tryd.isAgg124
 z171:=Tryd.sizeOf124
 v171:=Tryd.zeroValue124
 t173:=Tryd.underlying128
 a173:=Tryd.isAgg128
 z173:=Tryd.sizeOf128
 v173:=Tryd.zeroValue128
 t212:=Tryd.underlying131
 a212:=Tryd.isAgg131
 z212:=Tryd.sizeOf131
 v212:=Tryd.zeroValue131
 t213:=Tryd.underlying133
 a213:=Tryd.isAgg133
 z213:=Tryd.sizeOf133
 t232:=Tryd.underlying137
 a232:=Tryd.isAgg137
 z232:=Tryd.sizeOf137
 v232:=Tryd.zeroValue137
 t233:=Tryd.underlying138
 a233:=Tryd.isAgg138
 z233:=Tryd.sizeOf138
 v233:=Tryd.zeroValue138
 g17:=by kernel_rfl
 g18:=by kernel_rfl
 g19:=by kernel_rfl }
def strconv_Itoa.f (a0 : Int) : Option ByteArray := if 0 ≤ a0 then (if a0 < 100 then some ⟨(Lib.decDigits a0.toNat).toArray⟩ else none) else none
set_option maxHeartbeats 8000000 in
set_option maxRecDepth 100000 in
theorem strconv_Itoa.calls (a0 : Int) (r : ByteArray) (w : World) (h : strconv_Itoa.f a0 = some r) :
  Calls Tryd.prog 86 #[.int .i64 a0] w fun e w'=>e=.returned (.string r)∧jMa w w':=by
 unfold strconv_Itoa.f at h
 by_cases h0:0≤a0
 ·rw [if_pos h0] at h
  by_cases h1:a0<100
  ·rw [if_pos h1] at h
   obtain rfl:=Option.some.inj h
   have hs:=Go.Proofs.Any.strconv_Itoa_small sh171 a0.toNat (by omega) w
   rw [Int.toNat_of_nonneg h0] at hs
   refine Calls.mono (show Calls Tryd.prog 86 _ w _ from hs) ?_
   rintro e w' ⟨rfl,rfl⟩
   exact ⟨rfl,jMa.refl _⟩
  ·rw [if_neg h1] at h;cases h
 ·rw [if_neg h0] at h;cases h
def jpa.f (l0_0 : List (S99)) (a1 : Int) (a2 : Int) : Option (ByteArray) := if 0 ≤ a1 then (if a1 < (l0_0.length : Int) then (if ((jA l0_0 a1).f0).size + 1 ≤ 9223372036854775807 then ((strconv_Itoa.f a2).bind fun t409 => (if (((jA l0_0 a1).f0) ++ (⟨#[58]⟩ : ByteArray)).size + t409.size ≤ 9223372036854775807 then (some ((((jA l0_0 a1).f0) ++ (⟨#[58]⟩ : ByteArray)) ++ t409)) else (none))) else (none)) else (none)) else (none)
set_option maxHeartbeats 8000000 in
set_option maxRecDepth 100000 in
theorem jpa.calls (A0_0 : Option Addr) (c0_0 : Nat) (l0_0 : List (S99)) (a1 : Int) (a2 : Int) (r : ByteArray) (w : World) (hr0_0 : Kd.C k99 w A0_0 l0_0.length l0_0) (hc0_0 : l0_0.length ≤ c0_0) (h : jpa.f l0_0 a1 a2 = some r) :
  Calls Tryd.prog 59 #[.agg #[.slice A0_0 l0_0.length c0_0], .int .i64 a1, .int .i64 a2] w fun e w'=>e=.returned (.string r)∧Below w.heap.size w w':=by
 have hu25:=Tryd.underlying25
 have HR0_0:=am hr0_0
 have HC0_0:=am hc0_0
 clear hr0_0 hc0_0
 have HB:=am (Below.refl w.heap.size w)
 have H:(if 0≤a1 then (if a1<(l0_0.length:Int) then (if ((jA l0_0 a1).f0).size+1≤9223372036854775807 then ((strconv_Itoa.f a2).bind fun t409=>(if (((jA l0_0 a1).f0) ++ (⟨#[58]⟩:ByteArray)).size+t409.size≤9223372036854775807 then (some ((((jA l0_0 a1).f0) ++ (⟨#[58]⟩:ByteArray)) ++ t409)) else (none))) else (none)) else (none)) else (none))=some r:=h
 clear h
 by_cases c4:0≤a1
 ·rw [if_pos c4] at H
  have c4b0:decide (0≤a1)=true:=dzT c4
  clear c4
  by_cases c5:a1<(l0_0.length:Int)
  ·rw [if_pos c5] at H
   have c5b0:decide (a1<(l0_0.length:Int))=true:=dzT c5
   clear c5
   by_cases c6:((jA l0_0 a1).f0).size+1≤9223372036854775807
   ·rw [if_pos c6] at H
    have c6b0:=ezT c6
    have c6b1:decide (((jA l0_0 a1).f0).size+1≤9223372036854775807)=true:=dzT c6
    try have c6b2:(9223372036854775807<((jA l0_0 a1).f0).size+1)=False:=eq_false (Nat.not_lt.2 c6)
    replace H:=bzS H
    obtain ⟨t409,A70,H⟩:=H
    replace H:(if (((jA l0_0 a1).f0) ++ (⟨#[58]⟩:ByteArray)).size+t409.size≤9223372036854775807 then (some ((((jA l0_0 a1).f0) ++ (⟨#[58]⟩:ByteArray)) ++ t409)) else (none))=some r:=H
    have A7:=am A70
    clear A70
    by_cases c8:(((jA l0_0 a1).f0) ++ (⟨#[58]⟩:ByteArray)).size+t409.size≤9223372036854775807
    ·rw [if_pos c8] at H
     have c8b0:=ezT c8
     have c8b1:decide ((((jA l0_0 a1).f0) ++ (⟨#[58]⟩:ByteArray)).size+t409.size≤9223372036854775807)=true:=dzT c8
     try have c8b2:(9223372036854775807<(((jA l0_0 a1).f0) ++ (⟨#[58]⟩:ByteArray)).size+t409.size)=False:=eq_false (Nat.not_lt.2 c8)
     try have c8s:(9223372036854775807<((jA l0_0 a1).f0).size+1+t409.size)=False:=eq_false (Nat.not_lt.2 (by have h_:=c8;simp only [ByteArray.size_append] at h_;exact h_))
     obtain rfl:=Option.some.inj H
     go_enter Tryd.func59,Tryd.ntmps59
     go_wp2_with (first |((with_reducible refine jr (N:=3) rfl ?_);refine bE (N:=3) (cs:=#[.slice A0_0 l0_0.length c0_0]) (t:=25) ?_;intro gb407 hg w9 hbox hb;have BK407:=am (hbox);have GW407:=am ((Y0:w.heap.size≤gb407));have GE407:=am ((Y0:w.heap.size≤gb407));replace HB:=am (jd (bq) hb);clear hb hbox hg;have hcz10_0:=bc0 BK407.out;have hfz10_0:=ja BK407.out 0;have p408:0≤(a1:Int):=ozD (uq);have q408:a1<(l0_0.length:Int):=ozD (uq);obtain ⟨ad408,e408,hx408_0,hx408_1⟩:=jxb HR0_0.out a1 p408 q408;cases e408;replace hx408_0:=cb HB.out hx408_0;replace hx408_1:=cb HB.out hx408_1;replace p408:=ezT p408;replace q408:=ezT q408) |(go_at_call 86;(with_reducible refine (strconv_Itoa.calls a2 t409 _ A7.out).mono ?_);rintro e w' ⟨rfl,⟨nd,rfl⟩⟩;(try first | exact ⟨rfl,_,World.drewN_drewN _ _ _⟩ | exact ⟨rfl,_,Eq.trans (World.drewN_drewN _ _ _) (congrArg (World.drewN _) (Nat.add_assoc _ _ _))⟩)))
     repeat (go_quiet (first |((with_reducible refine jr (N:=3) rfl ?_);refine bE (N:=3) (cs:=#[.slice A0_0 l0_0.length c0_0]) (t:=25) ?_;intro gb407 hg w9 hbox hb;have BK407:=am (hbox);have GW407:=am ((Y0:w.heap.size≤gb407));have GE407:=am ((Y0:w.heap.size≤gb407));replace HB:=am (jd (bq) hb);clear hb hbox hg;have hcz10_0:=bc0 BK407.out;have hfz10_0:=ja BK407.out 0;have p408:0≤(a1:Int):=ozD (uq);have q408:a1<(l0_0.length:Int):=ozD (uq);obtain ⟨ad408,e408,hx408_0,hx408_1⟩:=jxb HR0_0.out a1 p408 q408;cases e408;replace hx408_0:=cb HB.out hx408_0;replace hx408_1:=cb HB.out hx408_1;replace p408:=ezT p408;replace q408:=ezT q408) |(go_at_call 86;(with_reducible refine (strconv_Itoa.calls a2 t409 _ A7.out).mono ?_);rintro e w' ⟨rfl,⟨nd,rfl⟩⟩;(try first | exact ⟨rfl,_,World.drewN_drewN _ _ _⟩ | exact ⟨rfl,_,Eq.trans (World.drewN_drewN _ _ _) (congrArg (World.drewN _) (Nat.add_assoc _ _ _))⟩)));try go_wp2_with (first |((with_reducible refine jr (N:=3) rfl ?_);refine bE (N:=3) (cs:=#[.slice A0_0 l0_0.length c0_0]) (t:=25) ?_;intro gb407 hg w9 hbox hb;have BK407:=am (hbox);have GW407:=am ((Y0:w.heap.size≤gb407));have GE407:=am ((Y0:w.heap.size≤gb407));replace HB:=am (jd (bq) hb);clear hb hbox hg;have hcz10_0:=bc0 BK407.out;have hfz10_0:=ja BK407.out 0;have p408:0≤(a1:Int):=ozD (uq);have q408:a1<(l0_0.length:Int):=ozD (uq);obtain ⟨ad408,e408,hx408_0,hx408_1⟩:=jxb HR0_0.out a1 p408 q408;cases e408;replace hx408_0:=cb HB.out hx408_0;replace hx408_1:=cb HB.out hx408_1;replace p408:=ezT p408;replace q408:=ezT q408) |(go_at_call 86;(with_reducible refine (strconv_Itoa.calls a2 t409 _ A7.out).mono ?_);rintro e w' ⟨rfl,⟨nd,rfl⟩⟩;(try first | exact ⟨rfl,_,World.drewN_drewN _ _ _⟩ | exact ⟨rfl,_,Eq.trans (World.drewN_drewN _ _ _) (congrArg (World.drewN _) (Nat.add_assoc _ _ _))⟩))))
     go_ret
     exact ⟨Y1,by repeat (first |(with_reducible first | exact HB.out | apply jh | apply je | apply jk | refine jf ?_ GE407.out) | exact HB.out)⟩
    ·rw [if_neg c8] at H
     exact absurd H (by simp)
   ·rw [if_neg c6] at H
    exact absurd H (by simp)
  ·rw [if_neg c5] at H
   exact absurd H (by simp)
 ·rw [if_neg c4] at H
  exact absurd H (by simp)
end Go.Proofs.YteibechlncphnaaDoor.P
end
