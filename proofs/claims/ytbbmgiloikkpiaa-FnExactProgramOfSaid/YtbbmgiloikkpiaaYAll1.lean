/- One part of the proofs on this program: functions of the program as plain functions, that the code comes to them, and facts on them. -/
import Derived.ArgAppend
import Derived.Below
import Derived.BigQuiet
import Derived.Deep.AppendLies
import Derived.Deep.CutBlock
import Derived.Deep.DeepCutAuto
import Derived.Deep.Draws
import Derived.Deep.LoopGhost
import Derived.Deep.OwnRows
import Derived.Deep.QuietTactic
import Derived.Deep.RegionHeld3
import Derived.KernelRfl
import Derived.Laws.BitsLemmas
import Derived.Laws.BytesArg
import Derived.Laws.IdiomCopy
import Derived.Laws.MakeOwn
import Derived.Laws.OwnMore
import Derived.Laws.Rows
import Derived.Laws.Slices
import Derived.Lib.AppendStr
import Derived.Lib.ConvBytes
import Derived.LoopTactic
import Derived.Maps.AppendAt
import Derived.OrdersHeld
import Derived.OwnWalk
import Derived.RowKit
import Derived.RowKit3
import Derived.Tactics
import Derived.WalkKit
import Derived.WideLaws
import Derived.Test.YtbbmgiloikkpiaaProg
import Derived.Test.YtbbmgiloikkpiaaYWApart
import Derived.Test.YtbbmgiloikkpiaaYWArr
import Derived.Test.YtbbmgiloikkpiaaYWAuto
import Derived.Test.YtbbmgiloikkpiaaYWClip
import Derived.Test.YtbbmgiloikkpiaaYWEqStruct
import Derived.Test.YtbbmgiloikkpiaaYWFoot
import Derived.Test.YtbbmgiloikkpiaaYWGuard
import Derived.Test.YtbbmgiloikkpiaaYWIdx
import Derived.Test.YtbbmgiloikkpiaaYWInvWords
import Derived.Test.YtbbmgiloikkpiaaYWKept
import Derived.Test.YtbbmgiloikkpiaaYWLast
import Derived.Test.YtbbmgiloikkpiaaYWMkcap
import Derived.Test.YtbbmgiloikkpiaaYWMore
import Derived.Test.YtbbmgiloikkpiaaYWN
import Derived.Test.YtbbmgiloikkpiaaYWNEv
import Derived.Test.YtbbmgiloikkpiaaYWRepsOne
import Derived.Test.YtbbmgiloikkpiaaYWShare
import Derived.Test.YtbbmgiloikkpiaaYWSome
import Derived.Test.YtbbmgiloikkpiaaYWTab
import Derived.Test.YtbbmgiloikkpiaaYWWords
import Derived.Test.YtbbmgiloikkpiaaYWZeros
section
namespace Go.Proofs.Ytbbmgiloikkpiaa.P
open Go.RowKit Go.Proofs.YtbbmgiloikkpiaaW.PrintWords Go.Proofs.YtbbmgiloikkpiaaW.PrintLast Go.Proofs.YtbbmgiloikkpiaaW.PrintMore
attribute [local go_sem] jaa jY joa jna jR jQ jZ jX jh
set_option linter.unusedVariables false
set_option linter.unusedSimpArgs false
def errW : Option Int → Value
 | none=>.nilIface
 | some c=>.iface 0 (.int .i64 c)
theorem errW_none : errW none = .nilIface := rfl
theorem errW_some (c : Int) : errW (some c) = .iface 0 (.int .i64 c) := rfl
theorem info3 : (Try.prog.info? 3).map (fun i => (i.zero, i.size, i.bytes)) = some (some (.int .i64 0), 1, 8) := by kernel_rfl
theorem info51 : (Try.prog.info? 51).map (fun i => (i.zero, i.size, i.bytes)) = some (some (.agg #[(.int .i64 0), (.int .i64 0), (.int .i64 0), (.int .i64 0)]), 4, 32) := by kernel_rfl
theorem info54 : (Try.prog.info? 54).map (fun i => (i.zero, i.size, i.bytes)) = some (some (.agg #[(.int .i64 0), (.int .i64 0), (.int .i64 0)]), 3, 24) := by kernel_rfl
theorem info75 : (Try.prog.info? 75).map (fun i => (i.zero, i.size, i.bytes)) = some (some (.agg #[(.string ⟨#[]⟩), (.int .i64 0)]), 2, 24) := by kernel_rfl
structure S71 where
 f0:ByteArray
 f1:Int
def z71 : S71 := ⟨(⟨#[]⟩ : ByteArray), (0 : Int)⟩
def k71 : Kd S71 := Kd.iso (Kd.pair Kd.string (Kd.int .i64)) (fun x : S71 => (x.f0, x.f1))
theorem k71_open {w : World} {x : S71} {cs : List Value} (h : k71.K w x cs) : cs = [.string x.f0, .int .i64 x.f1] := by
 obtain ⟨_,_,rfl,rfl,rfl⟩:=h
 exact rfl
theorem k71_mk (w : World) (x : S71)  : k71.K w x [.string x.f0, .int .i64 x.f1] := ⟨[.string x.f0], [.int .i64 x.f1], rfl, rfl, rfl⟩
def jQb (xs : List S71) (i : Int) : S71 := xs.getD i.toNat z71
theorem at_T71 {w : World} {A : Option Addr} {n : Nat} {xs : List S71} (h : Kd.C k71 w A n xs) (i : Int) (h0 : 0 ≤ i) (h1 : i < n) : ∃ ad , A = some ad ∧ w.cell? (ad.add (i.toNat * 2)) = some (.string (jQb xs i).f0) ∧ w.cell? ⟨(ad.add (i.toNat * 2)).block, (ad.add (i.toNat * 2)).off + 1, none⟩ = some (.int .i64 (jQb xs i).f1) := by
 obtain ⟨ad,c,e,_,hK,hc0⟩:=Kd.C_get h z71 i h0 h1
 have hc:∀ j u,c[j]?=some u→w.cell? (ad.add (i.toNat * 2+j))=some u:=hc0
 obtain rfl:=k71_open hK
 exact ⟨ad,e,hc 0 _ rfl,by rw [← jZb _ _ 1 (by omega)];exact hc 1 _ rfl⟩
structure S58 where
 f0:Int
 f1:Int
 f2:Int
def z58 : S58 := ⟨(0 : Int), (0 : Int), (0 : Int)⟩
def k58 : Kd S58 := Kd.iso (Kd.pair (Kd.int .i64) (Kd.pair (Kd.int .i64) (Kd.int .i64))) (fun x : S58 => (x.f0, x.f1, x.f2))
theorem k58_open {w : World} {x : S58} {cs : List Value} (h : k58.K w x cs) : cs = [.int .i64 x.f0, .int .i64 x.f1, .int .i64 x.f2] := by
 obtain ⟨_,_,rfl,rfl,⟨_,_,rfl,rfl,rfl⟩⟩:=h
 exact rfl
theorem k58_mk (w : World) (x : S58)  : k58.K w x [.int .i64 x.f0, .int .i64 x.f1, .int .i64 x.f2] := ⟨[.int .i64 x.f0], [.int .i64 x.f1, .int .i64 x.f2], rfl, rfl, ⟨[.int .i64 x.f1], [.int .i64 x.f2], rfl, rfl, rfl⟩⟩
def jyc (xs : List S58) (i : Int) : S58 := xs.getD i.toNat z58
theorem at_T58 {w : World} {A : Option Addr} {n : Nat} {xs : List S58} (h : Kd.C k58 w A n xs) (i : Int) (h0 : 0 ≤ i) (h1 : i < n) : ∃ ad , A = some ad ∧ w.cell? (ad.add (i.toNat * 3)) = some (.int .i64 (jyc xs i).f0) ∧ w.cell? ⟨(ad.add (i.toNat * 3)).block, (ad.add (i.toNat * 3)).off + 1, none⟩ = some (.int .i64 (jyc xs i).f1) ∧ w.cell? ⟨(ad.add (i.toNat * 3)).block, (ad.add (i.toNat * 3)).off + 2, none⟩ = some (.int .i64 (jyc xs i).f2) := by
 obtain ⟨ad,c,e,_,hK,hc0⟩:=Kd.C_get h z58 i h0 h1
 have hc:∀ j u,c[j]?=some u→w.cell? (ad.add (i.toNat * 3+j))=some u:=hc0
 obtain rfl:=k58_open hK
 exact ⟨ad,e,hc 0 _ rfl,by rw [← jZb _ _ 1 (by omega)];exact hc 1 _ rfl,by rw [← jZb _ _ 2 (by omega)];exact hc 2 _ rfl⟩
structure S75 where
 f0:ByteArray
 f1:Int
def z75 : S75 := ⟨(⟨#[]⟩ : ByteArray), (0 : Int)⟩
def k75 : Kd S75 := Kd.iso (Kd.pair Kd.string (Kd.int .i64)) (fun x : S75 => (x.f0, x.f1))
theorem k75_heap : Kd.Heap k75 := Kd.heap_iso _ (Kd.heap_pair Kd.heap_string (Kd.heap_int .i64))
theorem k75_open {w : World} {x : S75} {cs : List Value} (h : k75.K w x cs) : cs = [.string x.f0, .int .i64 x.f1] := by
 obtain ⟨_,_,rfl,rfl,rfl⟩:=h
 exact rfl
theorem jGc {w : World} {base : Nat} {ok : Nat → Prop} {x : S75} {cs : List Value} (h : k75.M w base ok x cs) : cs = [.string x.f0, .int .i64 x.f1] := by
 obtain ⟨_,_,rfl,rfl,rfl⟩:=h
 exact rfl
theorem k75_mkM (w : World) (base : Nat) (ok : Nat → Prop) (x : S75)  : k75.M w base ok x [.string x.f0, .int .i64 x.f1] := ⟨[.string x.f0], [.int .i64 x.f1], rfl, rfl, rfl⟩
def jM (xs : List S75) (i : Int) : S75 := xs.getD i.toNat z75
theorem at_T75 {w : World} {A : Option Addr} {n : Nat} {xs : List S75} (h : Kd.C k75 w A n xs) (i : Int) (h0 : 0 ≤ i) (h1 : i < n) : ∃ ad , A = some ad ∧ w.cell? (ad.add (i.toNat * 2)) = some (.string (jM xs i).f0) ∧ w.cell? ⟨(ad.add (i.toNat * 2)).block, (ad.add (i.toNat * 2)).off + 1, none⟩ = some (.int .i64 (jM xs i).f1) := by
 obtain ⟨ad,c,e,_,hK,hc0⟩:=Kd.C_get h z75 i h0 h1
 have hc:∀ j u,c[j]?=some u→w.cell? (ad.add (i.toNat * 2+j))=some u:=hc0
 obtain rfl:=k75_open hK
 exact ⟨ad,e,hc 0 _ rfl,by rw [← jZb _ _ 1 (by omega)];exact hc 1 _ rfl⟩
structure S54 where
 f0:Int
 f1:Int
 f2:Int
def z54 : S54 := ⟨(0 : Int), (0 : Int), (0 : Int)⟩
def k54 : Kd S54 := Kd.iso (Kd.pair (Kd.int .i64) (Kd.pair (Kd.int .i64) (Kd.int .i64))) (fun x : S54 => (x.f0, x.f1, x.f2))
theorem k54_open {w : World} {x : S54} {cs : List Value} (h : k54.K w x cs) : cs = [.int .i64 x.f0, .int .i64 x.f1, .int .i64 x.f2] := by
 obtain ⟨_,_,rfl,rfl,⟨_,_,rfl,rfl,rfl⟩⟩:=h
 exact rfl
theorem jmc {w : World} {base : Nat} {ok : Nat → Prop} {x : S54} {cs : List Value} (h : k54.M w base ok x cs) : cs = [.int .i64 x.f0, .int .i64 x.f1, .int .i64 x.f2] := by
 obtain ⟨_,_,rfl,rfl,⟨_,_,rfl,rfl,rfl⟩⟩:=h
 exact rfl
theorem k54_mkM (w : World) (base : Nat) (ok : Nat → Prop) (x : S54)  : k54.M w base ok x [.int .i64 x.f0, .int .i64 x.f1, .int .i64 x.f2] := ⟨[.int .i64 x.f0], [.int .i64 x.f1, .int .i64 x.f2], rfl, rfl, ⟨[.int .i64 x.f1], [.int .i64 x.f2], rfl, rfl, rfl⟩⟩
def jN (xs : List S54) (i : Int) : S54 := xs.getD i.toNat z54
theorem at_T54 {w : World} {A : Option Addr} {n : Nat} {xs : List S54} (h : Kd.C k54 w A n xs) (i : Int) (h0 : 0 ≤ i) (h1 : i < n) : ∃ ad , A = some ad ∧ w.cell? (ad.add (i.toNat * 3)) = some (.int .i64 (jN xs i).f0) ∧ w.cell? ⟨(ad.add (i.toNat * 3)).block, (ad.add (i.toNat * 3)).off + 1, none⟩ = some (.int .i64 (jN xs i).f1) ∧ w.cell? ⟨(ad.add (i.toNat * 3)).block, (ad.add (i.toNat * 3)).off + 2, none⟩ = some (.int .i64 (jN xs i).f2) := by
 obtain ⟨ad,c,e,_,hK,hc0⟩:=Kd.C_get h z54 i h0 h1
 have hc:∀ j u,c[j]?=some u→w.cell? (ad.add (i.toNat * 3+j))=some u:=hc0
 obtain rfl:=k54_open hK
 exact ⟨ad,e,hc 0 _ rfl,by rw [← jZb _ _ 1 (by omega)];exact hc 1 _ rfl,by rw [← jZb _ _ 2 (by omega)];exact hc 2 _ rfl⟩
structure S51 where
 f0:Int
 f1:Int
 f2:Int
 f3:Int
def z51 : S51 := ⟨(0 : Int), (0 : Int), (0 : Int), (0 : Int)⟩
def k51 : Kd S51 := Kd.iso (Kd.pair (Kd.int .i64) (Kd.pair (Kd.int .i64) (Kd.pair (Kd.int .i64) (Kd.int .i64)))) (fun x : S51 => (x.f0, x.f1, x.f2, x.f3))
theorem k51_open {w : World} {x : S51} {cs : List Value} (h : k51.K w x cs) : cs = [.int .i64 x.f0, .int .i64 x.f1, .int .i64 x.f2, .int .i64 x.f3] := by
 obtain ⟨_,_,rfl,rfl,⟨_,_,rfl,rfl,⟨_,_,rfl,rfl,rfl⟩⟩⟩:=h
 exact rfl
theorem jTb {w : World} {base : Nat} {ok : Nat → Prop} {x : S51} {cs : List Value} (h : k51.M w base ok x cs) : cs = [.int .i64 x.f0, .int .i64 x.f1, .int .i64 x.f2, .int .i64 x.f3] := by
 obtain ⟨_,_,rfl,rfl,⟨_,_,rfl,rfl,⟨_,_,rfl,rfl,rfl⟩⟩⟩:=h
 exact rfl
theorem jfb (w : World) (base : Nat) (ok : Nat → Prop) (x : S51)  : k51.M w base ok x [.int .i64 x.f0, .int .i64 x.f1, .int .i64 x.f2, .int .i64 x.f3] := ⟨[.int .i64 x.f0], [.int .i64 x.f1, .int .i64 x.f2, .int .i64 x.f3], rfl, rfl, ⟨[.int .i64 x.f1], [.int .i64 x.f2, .int .i64 x.f3], rfl, rfl, ⟨[.int .i64 x.f2], [.int .i64 x.f3], rfl, rfl, rfl⟩⟩⟩
def jd (xs : List S51) (i : Int) : S51 := xs.getD i.toNat z51
theorem jAa {w : World} {A : Option Addr} {n : Nat} {xs : List S51} (h : Kd.C k51 w A n xs) (i : Int) (h0 : 0 ≤ i) (h1 : i < n) : ∃ ad , A = some ad ∧ w.cell? (ad.add (i.toNat * 4)) = some (.int .i64 (jd xs i).f0) ∧ w.cell? ⟨(ad.add (i.toNat * 4)).block, (ad.add (i.toNat * 4)).off + 1, none⟩ = some (.int .i64 (jd xs i).f1) ∧ w.cell? ⟨(ad.add (i.toNat * 4)).block, (ad.add (i.toNat * 4)).off + 2, none⟩ = some (.int .i64 (jd xs i).f2) ∧ w.cell? ⟨(ad.add (i.toNat * 4)).block, (ad.add (i.toNat * 4)).off + 3, none⟩ = some (.int .i64 (jd xs i).f3) := by
 obtain ⟨ad,c,e,_,hK,hc0⟩:=Kd.C_get h z51 i h0 h1
 have hc:∀ j u,c[j]?=some u→w.cell? (ad.add (i.toNat * 4+j))=some u:=hc0
 obtain rfl:=k51_open hK
 exact ⟨ad,e,hc 0 _ rfl,by rw [← jZb _ _ 1 (by omega)];exact hc 1 _ rfl,by rw [← jZb _ _ 2 (by omega)];exact hc 2 _ rfl,by rw [← jZb _ _ 3 (by omega)];exact hc 3 _ rfl⟩
def jIb.f (a0_0 : ByteArray) (a0_1 : Int) (a1 : Int) : Option (Int) := if (wrap64 (a1 - (a0_0.size : Int))) < 0 then (some (-1)) else (some (wrap64 (a1 - (a0_0.size : Int))))
set_option maxHeartbeats 8000000 in
set_option maxRecDepth 100000 in
theorem jIb.calls (a0_0 : ByteArray) (a0_1 : Int) (a1 : Int) (r : Int) (w : World) (h : jIb.f a0_0 a0_1 a1 = some r) :
  Calls Try.prog 33 #[.agg #[.string a0_0, .int .i64 a0_1], .int .i64 a1] w fun e w'=>e=.returned (.int .i64 r)∧Below w.heap.size w w':=by
 have hu71:=Try.underlying71
 have HB:=am (Below.refl w.heap.size w)
 have H:(if (wrap64 (a1 - (a0_0.size:Int)))<0 then (some (-1)) else (some (wrap64 (a1 - (a0_0.size:Int)))))=some r:=h
 clear h
 by_cases c3:(wrap64 (a1 - (a0_0.size:Int)))<0
 ·rw [if_pos c3] at H
  have c3b0:decide ((wrap64 (a1 - (a0_0.size:Int)))<0)=true:=dzT c3
  clear c3
  obtain rfl:=Option.some.inj H
  go_enter Try.func33,Try.ntmps33
  go_wp2_with (first |((with_reducible refine jB (N:=2) rfl ?_);refine bE (N:=2) (cs:=#[.string a0_0, .int .i64 a0_1]) (t:=71) ?_;intro gb101 hg w4 hbox hb;have BK101:=am (hbox);have GW101:=am ((Y1:w.heap.size≤gb101));have GE101:=am ((Y1:w.heap.size≤gb101));replace HB:=am (jc (bq) hb);clear hb hbox hg;have hcz5_0:=bc0 BK101.out;have hcz5_1:=bc1 BK101.out;have hfz5_0:=ja BK101.out 0;have hfz5_1:=ja BK101.out 1))
  go_ret
  exact ⟨Y0,Y67⟩
 ·rw [if_neg c3] at H
  have c3b0:decide ((wrap64 (a1 - (a0_0.size:Int)))<0)=false:=dzF c3
  clear c3
  obtain rfl:=Option.some.inj H
  go_enter Try.func33,Try.ntmps33
  go_wp2_with (first |((with_reducible refine jB (N:=2) rfl ?_);refine bE (N:=2) (cs:=#[.string a0_0, .int .i64 a0_1]) (t:=71) ?_;intro gb101 hg w6 hbox hb;have BK101:=am (hbox);have GW101:=am ((Y1:w.heap.size≤gb101));have GE101:=am ((Y1:w.heap.size≤gb101));replace HB:=am (jc (bq) hb);clear hb hbox hg;have hcz7_0:=bc0 BK101.out;have hcz7_1:=bc1 BK101.out;have hfz7_0:=ja BK101.out 0;have hfz7_1:=ja BK101.out 1))
  go_ret
  exact ⟨Y0,Y67⟩
def jDa.l0 : Nat → List (S71) → Int → Int → Option (Int)
 | 0,_,_,_=>none
 | k+1,x0,x1,x5=>if x5<(x0.length:Int) then (if 0≤x5 then ((jIb.f ((jQb x0 x5).f0) ((jQb x0 x5).f1) x1).bind fun t103=>(if t103<0 then (some (-1)) else (jDa.l0 k x0 t103 (wrap64 (x5+1))))) else (none)) else (some x1)
def jDa.f (k : Nat) (l0 : List (S71)) (a1 : Int) : Option (Int) := if (wrap64 (a1 - (l0.length : Int))) < 0 then (some (-1)) else (jDa.l0 k l0 (wrap64 (a1 - (l0.length : Int))) 0)
set_option maxHeartbeats 8000000 in
set_option maxRecDepth 100000 in
theorem jDa.calls (k : Nat) (A0 : Option Addr) (c0 : Nat) (l0 : List (S71)) (a1 : Int) (r : Int) (w : World) (hr0 : Kd.C k71 w A0 l0.length l0) (hc0 : l0.length ≤ c0) (h : jDa.f k l0 a1 = some r) :
  Calls Try.prog 18 #[.slice A0 l0.length c0, .int .i64 a1] w fun e w'=>e=.returned (.int .i64 r)∧Below w.heap.size w w':=by
 have hu71:=Try.underlying71
 have HR0:=am hr0
 have HC0:=am hc0
 clear hr0 hc0
 have HB:=am (Below.refl w.heap.size w)
 have H:(if (wrap64 (a1 - (l0.length:Int)))<0 then (some (-1)) else (jDa.l0 k l0 (wrap64 (a1 - (l0.length:Int))) 0))=some r:=h
 clear h
 by_cases c3:(wrap64 (a1 - (l0.length:Int)))<0
 ·rw [if_pos c3] at H
  have c3b0:decide ((wrap64 (a1 - (l0.length:Int)))<0)=true:=dzT c3
  clear c3
  obtain rfl:=Option.some.inj H
  go_enter Try.func18,Try.ntmps18
  go_wp2
  go_ret
  exact ⟨Y0,bq⟩
 ·rw [if_neg c3] at H
  have c3b0:decide ((wrap64 (a1 - (l0.length:Int)))<0)=false:=dzF c3
  clear c3
  have H':=am H
  clear H
  go_enter Try.func18,Try.ntmps18
  go_wp2
  go_loopg [1,5] k (fun kq v1 v5 w'=>∃ (x1_1:Int) (x5_1:Int),v1=.int .i64 x1_1∧v5=.int .i64 x5_1∧jq (jDa.l0 kq l0 x1_1 x5_1=some r)∧jq (kq≤k)∧jq (Below w.heap.size w w'))
  case atStart=>exact ⟨(wrap64 (a1 - (l0.length:Int))),(0),(sq),(sq),H',⟨Nat.le_refl _⟩,⟨bq⟩⟩
  case round =>
   clear H'
   try clear c1
   try clear p2
   try clear c3
   try clear c3b0
   obtain ⟨x1_1,x5_1,rfl,rfl,HA,HK1,HB⟩:=hrel
   cases gk with
   | zero=>exact absurd HA.out (by simp [jDa.l0])
   | succ k1 =>
    have H:=HA.out
    clear HA
    simp only [jDa.l0] at H
    by_cases c4:x5_1<(l0.length:Int)
    ·rw [if_pos c4] at H
     have c4b0:decide (x5_1<(l0.length:Int))=true:=dzT c4
     clear c4
     by_cases c5:0≤x5_1
     ·rw [if_pos c5] at H
      have c5b0:decide (0≤x5_1)=true:=dzT c5
      clear c5
      replace H:=bzS H
      obtain ⟨t103,A60,H⟩:=H
      replace H:(if t103<0 then (some (-1)) else (jDa.l0 k1 l0 t103 (wrap64 (x5_1+1))))=some r:=H
      have A6:=am A60
      clear A60
      by_cases c7:t103<0
      ·rw [if_pos c7] at H
       have c7b0:decide (t103<0)=true:=dzT c7
       clear c7
       obtain rfl:=Option.some.inj H
       have p102:0≤(x5_1:Int):=ozD (uq)
       have q102:x5_1<(l0.length:Int):=ozD (uq)
       obtain ⟨ad102,e102,hx102_0,hx102_1⟩:=at_T71 HR0.out x5_1 p102 q102
       cases e102
       replace hx102_0:=cb HB.out hx102_0
       replace hx102_1:=cb HB.out hx102_1
       replace p102:=ezT p102
       replace q102:=ezT q102
       go_wp2_with (first |((with_reducible refine jg (f:=33) rfl ?_);refine gL (some 23) Try.func33 #[.agg #[.string ((jQb l0 x5_1).f0), .int .i64 ((jQb l0 x5_1).f1)], .int .i64 x1_1] ?_;(with_reducible refine (jIb.calls ((jQb l0 x5_1).f0) ((jQb l0 x5_1).f1) x1_1 t103 _ A6.out).mono ?_);rintro e w8 ⟨rfl,hb⟩;refine ⟨_,rfl,?_⟩;replace HB:=am (jc (bq) hb);(try clear hb);(try clear hb2);(try clear hk);(try clear hi)))
       go_ret
       exact ⟨Y0,bq⟩
      ·rw [if_neg c7] at H
       have c7b0:decide (t103<0)=false:=dzF c7
       clear c7
       have H':=am H
       clear H
       have p102:0≤(x5_1:Int):=ozD (uq)
       have q102:x5_1<(l0.length:Int):=ozD (uq)
       obtain ⟨ad102,e102,hx102_0,hx102_1⟩:=at_T71 HR0.out x5_1 p102 q102
       cases e102
       replace hx102_0:=cb HB.out hx102_0
       replace hx102_1:=cb HB.out hx102_1
       replace p102:=ezT p102
       replace q102:=ezT q102
       go_wp2_with (first |((with_reducible refine jg (f:=33) rfl ?_);refine gL (some 23) Try.func33 #[.agg #[.string ((jQb l0 x5_1).f0), .int .i64 ((jQb l0 x5_1).f1)], .int .i64 x1_1] ?_;(with_reducible refine (jIb.calls ((jQb l0 x5_1).f0) ((jQb l0 x5_1).f1) x1_1 t103 _ A6.out).mono ?_);rintro e w9 ⟨rfl,hb⟩;refine ⟨_,rfl,?_⟩;replace HB:=am (jc (bq) hb);(try clear hb);(try clear hb2);(try clear hk);(try clear hi)))
       go_roundg k1
       case measure=>have:=HK1.out;omega
       case rel=>exact ⟨(t103),(wrap64 (x5_1+1)),(sq),(sq),H',⟨by have:=HK1.out;omega⟩,⟨bq⟩⟩
     ·rw [if_neg c5] at H
      exact absurd H (by simp)
    ·rw [if_neg c4] at H
     have c4b0:decide (x5_1<(l0.length:Int))=false:=dzF c4
     clear c4
     obtain rfl:=Option.some.inj H
     go_wp2
     go_ret
     exact ⟨Y0,bq⟩
def jAb.f (k : Nat) (l0_0 : List (S71)) (a1 : Int) : Option (Int) := (jDa.f k l0_0 a1).bind fun t105 => (if t105 < 0 then (some (-1)) else (some t105))
set_option maxHeartbeats 8000000 in
set_option maxRecDepth 100000 in
theorem jAb.calls (k : Nat) (A0_0 : Option Addr) (c0_0 : Nat) (l0_0 : List (S71)) (a1 : Int) (r : Int) (w : World) (hr0_0 : Kd.C k71 w A0_0 l0_0.length l0_0) (hc0_0 : l0_0.length ≤ c0_0) (h : jAb.f k l0_0 a1 = some r) :
  Calls Try.prog 4 #[.agg #[.slice A0_0 l0_0.length c0_0], .int .i64 a1] w fun e w'=>e=.returned (.int .i64 r)∧Below w.heap.size w w':=by
 have hu24:=Try.underlying24
 have HR0_0:=am hr0_0
 have HC0_0:=am hc0_0
 clear hr0_0 hc0_0
 have HB:=am (Below.refl w.heap.size w)
 have H:((jDa.f k l0_0 a1).bind fun t105=>(if t105<0 then (some (-1)) else (some t105)))=some r:=h
 clear h
 replace H:=bzS H
 obtain ⟨t105,A30,H⟩:=H
 replace H:(if t105<0 then (some (-1)) else (some t105))=some r:=H
 have A3:=am A30
 clear A30
 by_cases c4:t105<0
 ·rw [if_pos c4] at H
  have c4b0:decide (t105<0)=true:=dzT c4
  clear c4
  obtain rfl:=Option.some.inj H
  go_enter Try.func4,Try.ntmps4
  go_wp2_with (first |((with_reducible refine jB (N:=2) rfl ?_);refine bE (N:=2) (cs:=#[.slice A0_0 l0_0.length c0_0]) (t:=24) ?_;intro gb104 hg w5 hbox hb;have BK104:=am (hbox);have GW104:=am ((Y1:w.heap.size≤gb104));have GE104:=am ((Y1:w.heap.size≤gb104));replace HB:=am (jc (bq) hb);clear hb hbox hg;have hcz6_0:=bc0 BK104.out;have hfz6_0:=ja BK104.out 0) |((with_reducible refine jg (f:=18) rfl ?_);refine gL (some 8) Try.func18 #[.slice A0_0 l0_0.length c0_0, .int .i64 a1] ?_;(with_reducible refine (jDa.calls k _ _ l0_0 a1 t105 _ ?side1 ?side2 A3.out).mono ?_);(case side1=>exact cq (Kd.jF HR0_0.out HB.out));(case side2=>exact HC0_0.out);rintro e w7 ⟨rfl,hb⟩;refine ⟨_,rfl,?_⟩;replace BK104:=am (je (g:=gb104) (o:=.cells #[.slice A0_0 l0_0.length c0_0] 24 (0,0)) (kq BK104.out) hb);replace HB:=am (jc (Y37) hb);(try clear hb);(try clear hb2);(try clear hk);(try clear hi)))
  go_ret
  exact ⟨Y0,Y37⟩
 ·rw [if_neg c4] at H
  have c4b0:decide (t105<0)=false:=dzF c4
  clear c4
  obtain rfl:=Option.some.inj H
  go_enter Try.func4,Try.ntmps4
  go_wp2_with (first |((with_reducible refine jB (N:=2) rfl ?_);refine bE (N:=2) (cs:=#[.slice A0_0 l0_0.length c0_0]) (t:=24) ?_;intro gb104 hg w8 hbox hb;have BK104:=am (hbox);have GW104:=am ((Y1:w.heap.size≤gb104));have GE104:=am ((Y1:w.heap.size≤gb104));replace HB:=am (jc (bq) hb);clear hb hbox hg;have hcz9_0:=bc0 BK104.out;have hfz9_0:=ja BK104.out 0) |((with_reducible refine jg (f:=18) rfl ?_);refine gL (some 8) Try.func18 #[.slice A0_0 l0_0.length c0_0, .int .i64 a1] ?_;(with_reducible refine (jDa.calls k _ _ l0_0 a1 t105 _ ?side1 ?side2 A3.out).mono ?_);(case side1=>exact cq (Kd.jF HR0_0.out HB.out));(case side2=>exact HC0_0.out);rintro e w10 ⟨rfl,hb⟩;refine ⟨_,rfl,?_⟩;replace BK104:=am (je (g:=gb104) (o:=.cells #[.slice A0_0 l0_0.length c0_0] 24 (0,0)) (kq BK104.out) hb);replace HB:=am (jc (Y37) hb);(try clear hb);(try clear hb2);(try clear hk);(try clear hi)))
  go_ret
  exact ⟨Y0,Y37⟩
def jqb.f (l0 : List (S58)) (a1 : Int) : Option (Int) := if (wrap64 (a1 - (l0.length : Int))) < 0 then (some (-1)) else (some (wrap64 (a1 - (l0.length : Int))))
set_option maxHeartbeats 8000000 in
set_option maxRecDepth 100000 in
theorem jqb.calls (A0 : Option Addr) (c0 : Nat) (l0 : List (S58)) (a1 : Int) (r : Int) (w : World) (hr0 : Kd.C k58 w A0 l0.length l0) (hc0 : l0.length ≤ c0) (h : jqb.f l0 a1 = some r) :
  Calls Try.prog 5 #[.slice A0 l0.length c0, .int .i64 a1] w fun e w'=>e=.returned (.int .i64 r)∧jZa w w':=by
 have HR0:=am hr0
 have HC0:=am hc0
 clear hr0 hc0
 have H:(if (wrap64 (a1 - (l0.length:Int)))<0 then (some (-1)) else (some (wrap64 (a1 - (l0.length:Int)))))=some r:=h
 clear h
 by_cases c3:(wrap64 (a1 - (l0.length:Int)))<0
 ·rw [if_pos c3] at H
  have c3b0:decide ((wrap64 (a1 - (l0.length:Int)))<0)=true:=dzT c3
  clear c3
  obtain rfl:=Option.some.inj H
  go_enter Try.func5,Try.ntmps5
  go_wp2
  go_ret
  exact ⟨sq,Y2⟩
 ·rw [if_neg c3] at H
  have c3b0:decide ((wrap64 (a1 - (l0.length:Int)))<0)=false:=dzF c3
  clear c3
  obtain rfl:=Option.some.inj H
  go_enter Try.func5,Try.ntmps5
  go_wp2
  go_ret
  exact ⟨sq,Y2⟩
def jy.f (a0 : Int) (a1 : Int) (a2 : Int) : Option (Bool) := if a1 ≤ a0 then (some (decide (a0 ≤ a2))) else (some false)
set_option maxHeartbeats 8000000 in
set_option maxRecDepth 100000 in
theorem jy.calls (a0 : Int) (a1 : Int) (a2 : Int) (r : Bool) (w : World) (h : jy.f a0 a1 a2 = some r) :
  Calls Try.prog 55 #[.int .i64 a0, .int .i64 a1, .int .i64 a2] w fun e w'=>e=.returned (.bool r)∧jZa w w':=by
 have H:(if a1≤a0 then (some (decide (a0≤a2))) else (some false))=some r:=h
 clear h
 by_cases c4:a1≤a0
 ·rw [if_pos c4] at H
  have c4b0:decide (a1≤a0)=true:=dzT c4
  clear c4
  obtain rfl:=Option.some.inj H
  go_enter Try.func55,Try.ntmps55
  go_wp2
  go_ret
  exact ⟨sq,Y2⟩
 ·rw [if_neg c4] at H
  have c4b0:decide (a1≤a0)=false:=dzF c4
  clear c4
  obtain rfl:=Option.some.inj H
  go_enter Try.func55,Try.ntmps55
  go_wp2
  go_ret
  exact ⟨sq,Y2⟩
def jja.f (l0_0 : List (S75)) (a1 : Int) : Option (Bool) := (jy.f a1 0 (wrap64 ((l0_0.length : Int) - 1))).bind fun t107 => (some t107)
set_option maxHeartbeats 8000000 in
set_option maxRecDepth 100000 in
theorem jja.calls (A0_0 : Option Addr) (c0_0 : Nat) (l0_0 : List (S75)) (a1 : Int) (r : Bool) (w : World) (hr0_0 : Kd.C k75 w A0_0 l0_0.length l0_0) (hc0_0 : l0_0.length ≤ c0_0) (h : jja.f l0_0 a1 = some r) :
  Calls Try.prog 54 #[.agg #[.slice A0_0 l0_0.length c0_0], .int .i64 a1] w fun e w'=>e=.returned (.bool r)∧Below w.heap.size w w':=by
 have hu35:=Try.underlying35
 have HR0_0:=am hr0_0
 have HC0_0:=am hc0_0
 clear hr0_0 hc0_0
 have HB:=am (Below.refl w.heap.size w)
 have H:((jy.f a1 0 (wrap64 ((l0_0.length:Int) - 1))).bind fun t107=>(some t107))=some r:=h
 clear h
 replace H:=bzS H
 obtain ⟨t107,A30,H⟩:=H
 replace H:(some t107)=some r:=H
 have A3:=am A30
 clear A30
 obtain rfl:=Option.some.inj H
 go_enter Try.func54,Try.ntmps54
 go_wp2_with (first |((with_reducible refine jB (N:=2) rfl ?_);refine bE (N:=2) (cs:=#[.slice A0_0 l0_0.length c0_0]) (t:=35) ?_;intro gb106 hg w4 hbox hb;have BK106:=am (hbox);have GW106:=am ((Y1:w.heap.size≤gb106));have GE106:=am ((Y1:w.heap.size≤gb106));replace HB:=am (jc (bq) hb);clear hb hbox hg;have hcz5_0:=bc0 BK106.out;have hfz5_0:=ja BK106.out 0) |((with_reducible refine jg (f:=55) rfl ?_);refine gL (some 10) Try.func55 #[.int .i64 a1, .int .i64 0, .int .i64 (wrap64 ((l0_0.length:Int) - 1))] ?_;(with_reducible refine (jy.calls a1 0 (wrap64 ((l0_0.length:Int) - 1)) t107 _ A3.out).mono ?_);rintro e w' ⟨rfl,⟨nd,rfl⟩⟩;refine ⟨_,rfl,?_⟩))
 go_ret
 exact ⟨Y0,by repeat (first |(with_reducible first | exact HB.out | apply jk | apply jf | apply jm | refine jl ?_ GE106.out) | exact HB.out)⟩
def jIa.j0 : Nat → Int → Bool → List (S75) → Int → Int → Int → Option (Bool)
 | 0,_,_,_,_,_,_=>none
 | k+1,x6,x7,x109000,x110000,x110001,x110002=>if x7=true then ((jy.f x110001 0 99).bind fun t110=>(if t110=true then (some (x110002 == 0)) else (some false))) else (if x6=2 then ((jja.f x109000 x110001).bind fun t111=>(if t111=true then (some (x110002 == 0)) else (some false))) else (if x6=3 then ((jja.f x109000 x110001).bind fun t112=>(if t112=true then ((jy.f x110002 0 99).bind fun t113=>(some t113)) else (some false))) else (some false)))
def jIa.f (k : Nat) (l0_0 : List (S75)) (a1_0 : Int) (a1_1 : Int) (a1_2 : Int) : Option (Bool) := if a1_0 = 0 then (jIa.j0 k a1_0 (a1_0 == 0) l0_0 a1_0 a1_1 a1_2) else (jIa.j0 k a1_0 (a1_0 == 1) l0_0 a1_0 a1_1 a1_2)
set_option maxHeartbeats 8000000 in
set_option maxRecDepth 100000 in
theorem jIa.calls (k : Nat) (A0_0 : Option Addr) (c0_0 : Nat) (l0_0 : List (S75)) (a1_0 : Int) (a1_1 : Int) (a1_2 : Int) (r : Bool) (w : World) (hr0_0 : Kd.C k75 w A0_0 l0_0.length l0_0) (hc0_0 : l0_0.length ≤ c0_0) (h : jIa.f k l0_0 a1_0 a1_1 a1_2 = some r) :
  Calls Try.prog 52 #[.agg #[.slice A0_0 l0_0.length c0_0], .agg #[.int .i64 a1_0, .int .i64 a1_1, .int .i64 a1_2]] w fun e w'=>e=.returned (.bool r)∧Below w.heap.size w w':=by
 have hu35:=Try.underlying35
 have hu54:=Try.underlying54
 have HR0_0:=am hr0_0
 have HC0_0:=am hc0_0
 clear hr0_0 hc0_0
 have HB:=am (Below.refl w.heap.size w)
 have H:(if a1_0=0 then (jIa.j0 k a1_0 (a1_0 == 0) l0_0 a1_0 a1_1 a1_2) else (jIa.j0 k a1_0 (a1_0 == 1) l0_0 a1_0 a1_1 a1_2))=some r:=h
 clear h
 have HC3:=am H
 clear H
 go_enter Try.func52,Try.ntmps52
 go_upto_if 7 with (first |((with_reducible refine jB (N:=2) rfl ?_);refine bE (N:=2) (cs:=#[.slice A0_0 l0_0.length c0_0]) (t:=35) ?_;intro gb108 hg w4 hbox hb;have BK108:=am (hbox);have GW108:=am ((Y1:w.heap.size≤gb108));have GE108:=am ((Y1:w.heap.size≤gb108));replace HB:=am (jc (bq) hb);clear hb hbox hg) |((with_reducible refine jB (N:=3) rfl ?_);refine bE (N:=3) (cs:=#[.int .i64 a1_0, .int .i64 a1_1, .int .i64 a1_2]) (t:=54) ?_;intro gb109 hg w5 hbox hb;have BK109:=am (hbox);have GW109:=am ((Y68:w.heap.size≤gb109));have GE109:=am ((Y68:w.heap.size≤gb109));have NB108_109:=am ((by rw [hg];exact Nat.ne_of_lt (jza (g:=gb108) (o:=.cells #[.slice A0_0 l0_0.length c0_0] 35 (0,0)) (kq BK108.out)):gb108≠gb109));have NB109_108:=am ((by rw [hg];exact Nat.ne_of_gt (jza (g:=gb108) (o:=.cells #[.slice A0_0 l0_0.length c0_0] 35 (0,0)) (kq BK108.out)):gb109≠gb108));replace BK108:=am (je (g:=gb108) (o:=.cells #[.slice A0_0 l0_0.length c0_0] 35 (0,0)) (kq BK108.out) hb);replace HB:=am (jc (by repeat (first |(with_reducible first | exact HB.out | apply jk | apply jf | apply jm | refine jl ?_ GE108.out) | exact HB.out)) hb);clear hb hbox hg;have hnb6:=NB109_108.out;have hnc6:=NB108_109.out;have hcz7_0:=bc0 BK109.out;have hcz7_1:=bc1 BK109.out;have hcz7_2:=bc2 BK109.out;have hfz7_0:=ja BK109.out 0;have hfz7_1:=ja BK109.out 1;have hfz7_2:=ja BK109.out 2))
 (try simp only [Act.put,List.setIfInBounds_toArray,List.set_cons_zero,List.set_cons_succ])
 go_cut [7] (fun v7 wc=>∃ (kq:Nat) (x7_2:Bool),v7=.bool x7_2∧jq (jIa.j0 kq a1_0 x7_2 l0_0 a1_0 a1_1 a1_2=some r)∧jq (kq≤k)∧jq (wc.heap[gb108]?=some (.cells #[(.slice A0_0 l0_0.length c0_0)] 35 (0,0)))∧jq (wc.heap[gb109]?=some (.cells #[.int .i64 a1_0, .int .i64 a1_1, .int .i64 a1_2] 54 (0,0)))∧jq (Below w.heap.size w wc))
 case first =>
  have H:=HC3.out
  clear HC3
  by_cases c8:a1_0=0
  ·rw [if_pos c8] at H
   have c8b0:(a1_0 == 0)=true:=beq_iff_eq.mpr c8
   have c8b1:(a1_0 != 0)=false:=bne_eq_false_iff_eq.mpr c8
   clear c8
   (first | rw [c8b0] |(simp only [jcb,jdb];rw [c8b0]) | skip)
   have H':=am H
   clear H
   go_wp2
   go_meet
   case rel=>exact ⟨_,((a1_0 == 0)),(sq),H',⟨Y15⟩,⟨kq BK108.out⟩,⟨kq BK109.out⟩,⟨Y13⟩⟩
  ·rw [if_neg c8] at H
   have c8b0:(a1_0 == 0)=false:=beq_eq_false_iff_ne.mpr c8
   have c8b1:(a1_0 != 0)=true:=bne_iff_ne.mpr c8
   (first | rw [c8b0] |(simp only [jcb,jdb];rw [c8b0]) | skip)
   have H':=am H
   clear H
   go_wp2
   go_meet
   case rel=>exact ⟨_,((a1_0 == 1)),(sq),H',⟨Y15⟩,⟨kq BK108.out⟩,⟨kq BK109.out⟩,⟨Y13⟩⟩
 case rest =>
  clear HC3
  try clear p2
  try clear c5
  try clear c6
  try clear c8
  try clear c8b0
  try clear c8b1
  try clear hcz7_0
  try clear hcz7_1
  try clear hcz7_2
  try clear hfz7_0
  try clear hfz7_1
  try clear hfz7_2
  obtain ⟨kq,x7_2,rfl,HA,HJ2,BK108,BK109,HB⟩:=hcut
  cases kq with
  | zero=>exact absurd HA.out (by simp [jIa.j0])
  | succ kj2 =>
   have H:=HA.out
   clear HA
   simp only [jIa.j0] at H
   by_cases c9:x7_2=true
   ·subst c9
    have H1:((jy.f a1_1 0 99).bind fun t110=>(if t110=true then (some (a1_2 == 0)) else (some false)))=some r:=by rw [if_pos rfl] at H;exact H
    clear H
    have H:=H1
    clear H1
    replace H:=bzS H
    obtain ⟨t110,A100,H⟩:=H
    replace H:(if t110=true then (some (a1_2 == 0)) else (some false))=some r:=H
    have A10:=am A100
    clear A100
    by_cases c11:t110=true
    ·subst c11
     have H1:(some (a1_2 == 0))=some r:=by rw [if_pos rfl] at H;exact H
     clear H
     have H:=H1
     clear H1
     obtain rfl:=Option.some.inj H
     have hnb12:=NB109_108.out
     have hnc12:=NB108_109.out
     have hcz13_0:=bc0 BK109.out
     have hcz13_1:=bc1 BK109.out
     have hcz13_2:=bc2 BK109.out
     have hfz13_0:=ja BK109.out 0
     have hfz13_1:=ja BK109.out 1
     have hfz13_2:=ja BK109.out 2
     go_wp2_with (first |((with_reducible refine jg (f:=55) rfl ?_);refine gL (some 12) Try.func55 #[.int .i64 a1_1, .int .i64 0, .int .i64 99] ?_;(with_reducible refine (jy.calls a1_1 0 99 true _ A10.out).mono ?_);rintro e w' ⟨rfl,⟨nd,rfl⟩⟩;refine ⟨_,rfl,?_⟩))
     go_ret
     exact ⟨Y0,Y13⟩
    ·replace c11:=Bool.eq_false_iff.mpr c11
     subst c11
     have H1:(some false)=some r:=by rw [if_neg (show ¬ (false=true) by decide)] at H;exact H
     clear H
     have H:=H1
     clear H1
     obtain rfl:=Option.some.inj H
     have hnb14:=NB109_108.out
     have hnc14:=NB108_109.out
     have hcz15_0:=bc0 BK109.out
     have hcz15_1:=bc1 BK109.out
     have hcz15_2:=bc2 BK109.out
     have hfz15_0:=ja BK109.out 0
     have hfz15_1:=ja BK109.out 1
     have hfz15_2:=ja BK109.out 2
     go_wp2_with (first |((with_reducible refine jg (f:=55) rfl ?_);refine gL (some 12) Try.func55 #[.int .i64 a1_1, .int .i64 0, .int .i64 99] ?_;(with_reducible refine (jy.calls a1_1 0 99 false _ A10.out).mono ?_);rintro e w' ⟨rfl,⟨nd,rfl⟩⟩;refine ⟨_,rfl,?_⟩))
     go_ret
     exact ⟨Y0,Y13⟩
   ·replace c9:=Bool.eq_false_iff.mpr c9
    subst c9
    have H1:(if a1_0=2 then ((jja.f l0_0 a1_1).bind fun t111=>(if t111=true then (some (a1_2 == 0)) else (some false))) else (if a1_0=3 then ((jja.f l0_0 a1_1).bind fun t112=>(if t112=true then ((jy.f a1_2 0 99).bind fun t113=>(some t113)) else (some false))) else (some false)))=some r:=by rw [if_neg (show ¬ (false=true) by decide)] at H;exact H
    clear H
    have H:=H1
    clear H1
    by_cases c16:a1_0=2
    ·rw [if_pos c16] at H
     have c16b0:(a1_0 == 2)=true:=beq_iff_eq.mpr c16
     have c16b1:(a1_0 != 2)=false:=bne_eq_false_iff_eq.mpr c16
     clear c16
     replace H:=bzS H
     obtain ⟨t111,A170,H⟩:=H
     replace H:(if t111=true then (some (a1_2 == 0)) else (some false))=some r:=H
     have A17:=am A170
     clear A170
     by_cases c18:t111=true
     ·subst c18
      have H1:(some (a1_2 == 0))=some r:=by rw [if_pos rfl] at H;exact H
      clear H
      have H:=H1
      clear H1
      obtain rfl:=Option.some.inj H
      have hnb19:=NB108_109.out
      have hnc19:=NB109_108.out
      have hcz20_0:=bc0 BK108.out
      have hfz20_0:=ja BK108.out 0
      have hcz21_0:=bc0 BK109.out
      have hcz21_1:=bc1 BK109.out
      have hcz21_2:=bc2 BK109.out
      have hfz21_0:=ja BK109.out 0
      have hfz21_1:=ja BK109.out 1
      have hfz21_2:=ja BK109.out 2
      go_wp2_with (first |((with_reducible refine jg (f:=54) rfl ?_);refine gL (some 23) Try.func54 #[.agg #[.slice A0_0 l0_0.length c0_0], .int .i64 a1_1] ?_;(with_reducible refine (jja.calls _ _ l0_0 a1_1 true _ ?side1 ?side2 A17.out).mono ?_);(case side1=>exact cq (Kd.jF HR0_0.out HB.out));(case side2=>exact HC0_0.out);rintro e w22 ⟨rfl,hb⟩;refine ⟨_,rfl,?_⟩;replace BK108:=am (je (g:=gb108) (o:=.cells #[.slice A0_0 l0_0.length c0_0] 35 (0,0)) (kq BK108.out) hb);replace BK109:=am (je (g:=gb109) (o:=.cells #[.int .i64 a1_0, .int .i64 a1_1, .int .i64 a1_2] 54 (0,0)) (kq BK109.out) hb);replace HB:=am (jc (Y13) hb);(try clear hb);(try clear hb2);(try clear hk);(try clear hi);have hcz23_0:=bc0 BK109.out;have hcz23_1:=bc1 BK109.out;have hcz23_2:=bc2 BK109.out;have hfz23_0:=ja BK109.out 0;have hfz23_1:=ja BK109.out 1;have hfz23_2:=ja BK109.out 2))
      go_ret
      exact ⟨Y0,Y13⟩
     ·replace c18:=Bool.eq_false_iff.mpr c18
      subst c18
      have H1:(some false)=some r:=by rw [if_neg (show ¬ (false=true) by decide)] at H;exact H
      clear H
      have H:=H1
      clear H1
      obtain rfl:=Option.some.inj H
      have hnb24:=NB108_109.out
      have hnc24:=NB109_108.out
      have hcz25_0:=bc0 BK108.out
      have hfz25_0:=ja BK108.out 0
      have hcz26_0:=bc0 BK109.out
      have hcz26_1:=bc1 BK109.out
      have hcz26_2:=bc2 BK109.out
      have hfz26_0:=ja BK109.out 0
      have hfz26_1:=ja BK109.out 1
      have hfz26_2:=ja BK109.out 2
      go_wp2_with (first |((with_reducible refine jg (f:=54) rfl ?_);refine gL (some 23) Try.func54 #[.agg #[.slice A0_0 l0_0.length c0_0], .int .i64 a1_1] ?_;(with_reducible refine (jja.calls _ _ l0_0 a1_1 false _ ?side1 ?side2 A17.out).mono ?_);(case side1=>exact cq (Kd.jF HR0_0.out HB.out));(case side2=>exact HC0_0.out);rintro e w27 ⟨rfl,hb⟩;refine ⟨_,rfl,?_⟩;replace BK108:=am (je (g:=gb108) (o:=.cells #[.slice A0_0 l0_0.length c0_0] 35 (0,0)) (kq BK108.out) hb);replace BK109:=am (je (g:=gb109) (o:=.cells #[.int .i64 a1_0, .int .i64 a1_1, .int .i64 a1_2] 54 (0,0)) (kq BK109.out) hb);replace HB:=am (jc (Y13) hb);(try clear hb);(try clear hb2);(try clear hk);(try clear hi)))
      go_ret
      exact ⟨Y0,Y13⟩
    ·rw [if_neg c16] at H
     have c16b0:(a1_0 == 2)=false:=beq_eq_false_iff_ne.mpr c16
     have c16b1:(a1_0 != 2)=true:=bne_iff_ne.mpr c16
     by_cases c28:a1_0=3
     ·rw [if_pos c28] at H
      have c28b0:(a1_0 == 3)=true:=beq_iff_eq.mpr c28
      have c28b1:(a1_0 != 3)=false:=bne_eq_false_iff_eq.mpr c28
      clear c28
      replace H:=bzS H
      obtain ⟨t112,A290,H⟩:=H
      replace H:(if t112=true then ((jy.f a1_2 0 99).bind fun t113=>(some t113)) else (some false))=some r:=H
      have A29:=am A290
      clear A290
      by_cases c30:t112=true
      ·subst c30
       have H1:((jy.f a1_2 0 99).bind fun t113=>(some t113))=some r:=by rw [if_pos rfl] at H;exact H
       clear H
       have H:=H1
       clear H1
       replace H:=bzS H
       obtain ⟨t113,A310,H⟩:=H
       replace H:(some t113)=some r:=H
       have A31:=am A310
       clear A310
       obtain rfl:=Option.some.inj H
       have hnb32:=NB108_109.out
       have hnc32:=NB109_108.out
       have hcz33_0:=bc0 BK108.out
       have hfz33_0:=ja BK108.out 0
       have hcz34_0:=bc0 BK109.out
       have hcz34_1:=bc1 BK109.out
       have hcz34_2:=bc2 BK109.out
       have hfz34_0:=ja BK109.out 0
       have hfz34_1:=ja BK109.out 1
       have hfz34_2:=ja BK109.out 2
       go_wp2_with (first |((with_reducible refine jg (f:=54) rfl ?_);refine gL (some 34) Try.func54 #[.agg #[.slice A0_0 l0_0.length c0_0], .int .i64 a1_1] ?_;(with_reducible refine (jja.calls _ _ l0_0 a1_1 true _ ?side1 ?side2 A29.out).mono ?_);(case side1=>exact cq (Kd.jF HR0_0.out HB.out));(case side2=>exact HC0_0.out);rintro e w35 ⟨rfl,hb⟩;refine ⟨_,rfl,?_⟩;replace BK108:=am (je (g:=gb108) (o:=.cells #[.slice A0_0 l0_0.length c0_0] 35 (0,0)) (kq BK108.out) hb);replace BK109:=am (je (g:=gb109) (o:=.cells #[.int .i64 a1_0, .int .i64 a1_1, .int .i64 a1_2] 54 (0,0)) (kq BK109.out) hb);replace HB:=am (jc (Y13) hb);(try clear hb);(try clear hb2);(try clear hk);(try clear hi);have hcz36_0:=bc0 BK109.out;have hcz36_1:=bc1 BK109.out;have hcz36_2:=bc2 BK109.out;have hfz36_0:=ja BK109.out 0;have hfz36_1:=ja BK109.out 1;have hfz36_2:=ja BK109.out 2) |(go_at_call 55;(with_reducible refine (jy.calls a1_2 0 99 t113 _ A31.out).mono ?_);rintro e w' ⟨rfl,⟨nd,rfl⟩⟩))
       go_ret
       exact ⟨Y0,Y13⟩
      ·replace c30:=Bool.eq_false_iff.mpr c30
       subst c30
       have H1:(some false)=some r:=by rw [if_neg (show ¬ (false=true) by decide)] at H;exact H
       clear H
       have H:=H1
       clear H1
       obtain rfl:=Option.some.inj H
       have hnb37:=NB108_109.out
       have hnc37:=NB109_108.out
       have hcz38_0:=bc0 BK108.out
       have hfz38_0:=ja BK108.out 0
       have hcz39_0:=bc0 BK109.out
       have hcz39_1:=bc1 BK109.out
       have hcz39_2:=bc2 BK109.out
       have hfz39_0:=ja BK109.out 0
       have hfz39_1:=ja BK109.out 1
       have hfz39_2:=ja BK109.out 2
       go_wp2_with (first |((with_reducible refine jg (f:=54) rfl ?_);refine gL (some 34) Try.func54 #[.agg #[.slice A0_0 l0_0.length c0_0], .int .i64 a1_1] ?_;(with_reducible refine (jja.calls _ _ l0_0 a1_1 false _ ?side1 ?side2 A29.out).mono ?_);(case side1=>exact cq (Kd.jF HR0_0.out HB.out));(case side2=>exact HC0_0.out);rintro e w40 ⟨rfl,hb⟩;refine ⟨_,rfl,?_⟩;replace BK108:=am (je (g:=gb108) (o:=.cells #[.slice A0_0 l0_0.length c0_0] 35 (0,0)) (kq BK108.out) hb);replace BK109:=am (je (g:=gb109) (o:=.cells #[.int .i64 a1_0, .int .i64 a1_1, .int .i64 a1_2] 54 (0,0)) (kq BK109.out) hb);replace HB:=am (jc (Y13) hb);(try clear hb);(try clear hb2);(try clear hk);(try clear hi)))
       go_ret
       exact ⟨Y0,Y13⟩
     ·rw [if_neg c28] at H
      have c28b0:(a1_0 == 3)=false:=beq_eq_false_iff_ne.mpr c28
      have c28b1:(a1_0 != 3)=true:=bne_iff_ne.mpr c28
      obtain rfl:=Option.some.inj H
      go_wp2
      go_ret
      exact ⟨Y0,Y13⟩
def jNa.l0 : Nat → ByteArray → Int → Option (Bool)
 | 0,_,_=>none
 | k+1,x0,x3=>if x3<(x0.size:Int) then (if 0≤x3 then (if (bt x0 x3)<97 then (some false) else (if (bt x0 x3) > 122 then (some false) else (jNa.l0 k x0 (wrap64 (x3+1))))) else (none)) else ((jy.f (x0.size:Int) 1 6).bind fun t114=>(some t114))
def jNa.f (k : Nat) (a0 : ByteArray) : Option (Bool) := jNa.l0 k a0 0
set_option maxHeartbeats 8000000 in
set_option maxRecDepth 100000 in
theorem jNa.calls (k : Nat) (a0 : ByteArray) (r : Bool) (w : World) (h : jNa.f k a0 = some r) :
  Calls Try.prog 66 #[.string a0] w fun e w'=>e=.returned (.bool r)∧jZa w w':=by
 have H:(jNa.l0 k a0 0)=some r:=h
 clear h
 have H':=am H
 clear H
 go_enter Try.func66,Try.ntmps66
 go_wp2
 go_loopg [3] k (fun kq v3 w'=>∃ (x3_1:Int),v3=.int .i64 x3_1∧jq (jNa.l0 kq a0 x3_1=some r)∧jq (kq≤k)∧jZa w w')
 case atStart=>exact ⟨(0),(sq),H',⟨Nat.le_refl _⟩,Y2⟩
 case round =>
  clear H'
  obtain ⟨x3_1,rfl,HA,HK1,⟨m1,rfl⟩⟩:=hrel
  cases gk with
  | zero=>exact absurd HA.out (by simp [jNa.l0])
  | succ k1 =>
   have H:=HA.out
   clear HA
   simp only [jNa.l0] at H
   by_cases c2:x3_1<(a0.size:Int)
   ·rw [if_pos c2] at H
    have c2b0:decide (x3_1<(a0.size:Int))=true:=dzT c2
    clear c2
    by_cases c3:0≤x3_1
    ·rw [if_pos c3] at H
     have c3b0:decide (0≤x3_1)=true:=dzT c3
     clear c3
     by_cases c5:(bt a0 x3_1)<97
     ·rw [if_pos c5] at H
      have c5b0:decide ((bt a0 x3_1)<97)=true:=dzT c5
      clear c5
      obtain rfl:=Option.some.inj H
      have p4:0≤(x3_1:Int):=ozD (uq)
      have q4:x3_1<(a0.size:Int):=ozD (uq)
      have hx4:=bt_at a0 x3_1
      replace p4:=ezT p4
      replace q4:=ezT q4
      go_wp2
      go_ret
      exact ⟨sq,Y2⟩
     ·rw [if_neg c5] at H
      have c5b0:decide ((bt a0 x3_1)<97)=false:=dzF c5
      clear c5
      by_cases c7:(bt a0 x3_1) > 122
      ·rw [if_pos c7] at H
       have c7b0:decide (122<(bt a0 x3_1))=true:=dzT c7
       clear c7
       obtain rfl:=Option.some.inj H
       have p4:0≤(x3_1:Int):=ozD (uq)
       have q4:x3_1<(a0.size:Int):=ozD (uq)
       have hx4:=bt_at a0 x3_1
       replace p4:=ezT p4
       replace q4:=ezT q4
       have p6:0≤(x3_1:Int):=ozD (uq)
       have q6:x3_1<(a0.size:Int):=ozD (uq)
       have hx6:=bt_at a0 x3_1
       replace p6:=ezT p6
       replace q6:=ezT q6
       go_wp2
       go_ret
       exact ⟨sq,Y2⟩
      ·rw [if_neg c7] at H
       have c7b0:decide (122<(bt a0 x3_1))=false:=dzF c7
       clear c7
       have H':=am H
       clear H
       have p4:0≤(x3_1:Int):=ozD (uq)
       have q4:x3_1<(a0.size:Int):=ozD (uq)
       have hx4:=bt_at a0 x3_1
       replace p4:=ezT p4
       replace q4:=ezT q4
       have p6:0≤(x3_1:Int):=ozD (uq)
       have q6:x3_1<(a0.size:Int):=ozD (uq)
       have hx6:=bt_at a0 x3_1
       replace p6:=ezT p6
       replace q6:=ezT q6
       go_wp2
       go_roundg k1
       case measure=>have:=HK1.out;omega
       case rel=>exact ⟨(wrap64 (x3_1+1)),(sq),H',⟨by have:=HK1.out;omega⟩,Y2⟩
    ·rw [if_neg c3] at H
     exact absurd H (by simp)
   ·rw [if_neg c2] at H
    have c2b0:decide (x3_1<(a0.size:Int))=false:=dzF c2
    clear c2
    replace H:=bzS H
    obtain ⟨t114,A80,H⟩:=H
    replace H:(some t114)=some r:=H
    have A8:=am A80
    clear A80
    obtain rfl:=Option.some.inj H
    go_wp2_with (first |((with_reducible refine jg (f:=55) rfl ?_);refine gL (some 22) Try.func55 #[.int .i64 (a0.size:Int), .int .i64 1, .int .i64 6] ?_;(with_reducible refine (jy.calls (a0.size:Int) 1 6 t114 _ A8.out).mono ?_);rintro e w' ⟨rfl,⟨nd,rfl⟩⟩;refine ⟨_,rfl,?_⟩))
    go_ret
    exact ⟨sq,Y2⟩
def jJa.l0 : Nat → List (S75) → ByteArray → Int → Option (Int)
 | 0,_,_,_=>none
 | k+1,x0,x1,x5=>if x5<(x0.length:Int) then (if 0≤x5 then (if ((jM x0 x5).f0).toList=x1.toList then (some x5) else (jJa.l0 k x0 x1 (wrap64 (x5+1)))) else (none)) else (some (-1))
def jJa.f (k : Nat) (l0 : List (S75)) (a1 : ByteArray) : Option (Int) := jJa.l0 k l0 a1 0
set_option maxHeartbeats 8000000 in
set_option maxRecDepth 100000 in
theorem jJa.calls (k : Nat) (A0 : Option Addr) (c0 : Nat) (l0 : List (S75)) (a1 : ByteArray) (r : Int) (w : World) (hr0 : Kd.C k75 w A0 l0.length l0) (hc0 : l0.length ≤ c0) (h : jJa.f k l0 a1 = some r) :
  Calls Try.prog 67 #[.slice A0 l0.length c0, .string a1] w fun e w'=>e=.returned (.int .i64 r)∧jZa w w':=by
 have HR0:=am hr0
 have HC0:=am hc0
 clear hr0 hc0
 have H:(jJa.l0 k l0 a1 0)=some r:=h
 clear h
 have H':=am H
 clear H
 go_enter Try.func67,Try.ntmps67
 go_wp2
 go_loopg [5] k (fun kq v5 w'=>∃ (x5_1:Int),v5=.int .i64 x5_1∧jq (jJa.l0 kq l0 a1 x5_1=some r)∧jq (kq≤k)∧jZa w w')
 case atStart=>exact ⟨(0),(sq),H',⟨Nat.le_refl _⟩,Y2⟩
 case round =>
  clear H'
  try clear p2
  obtain ⟨x5_1,rfl,HA,HK1,⟨m1,rfl⟩⟩:=hrel
  cases gk with
  | zero=>exact absurd HA.out (by simp [jJa.l0])
  | succ k1 =>
   have H:=HA.out
   clear HA
   simp only [jJa.l0] at H
   by_cases c3:x5_1<(l0.length:Int)
   ·rw [if_pos c3] at H
    have c3b0:decide (x5_1<(l0.length:Int))=true:=dzT c3
    clear c3
    by_cases c4:0≤x5_1
    ·rw [if_pos c4] at H
     have c4b0:decide (0≤x5_1)=true:=dzT c4
     clear c4
     by_cases c5:((jM l0 x5_1).f0).toList=a1.toList
     ·rw [if_pos c5] at H
      have c5b0:(((jM l0 x5_1).f0).toList == a1.toList)=true:=beq_iff_eq.mpr c5
      have c5b1:(((jM l0 x5_1).f0).toList != a1.toList)=false:=bne_eq_false_iff_eq.mpr c5
      clear c5
      obtain rfl:=Option.some.inj H
      have p115:0≤(x5_1:Int):=ozD (uq)
      have q115:x5_1<(l0.length:Int):=ozD (uq)
      obtain ⟨ad115,e115,hx115_0,hx115_1⟩:=at_T75 HR0.out x5_1 p115 q115
      cases e115
      replace p115:=ezT p115
      replace q115:=ezT q115
      go_wp2
      go_ret
      exact ⟨sq,Y2⟩
     ·rw [if_neg c5] at H
      have c5b0:(((jM l0 x5_1).f0).toList == a1.toList)=false:=beq_eq_false_iff_ne.mpr c5
      have c5b1:(((jM l0 x5_1).f0).toList != a1.toList)=true:=bne_iff_ne.mpr c5
      have H':=am H
      clear H
      have p115:0≤(x5_1:Int):=ozD (uq)
      have q115:x5_1<(l0.length:Int):=ozD (uq)
      obtain ⟨ad115,e115,hx115_0,hx115_1⟩:=at_T75 HR0.out x5_1 p115 q115
      cases e115
      replace p115:=ezT p115
      replace q115:=ezT q115
      go_wp2
      go_roundg k1
      case measure=>have:=HK1.out;omega
      case rel=>exact ⟨(wrap64 (x5_1+1)),(sq),H',⟨by have:=HK1.out;omega⟩,Y2⟩
    ·rw [if_neg c4] at H
     exact absurd H (by simp)
   ·rw [if_neg c3] at H
    have c3b0:decide (x5_1<(l0.length:Int))=false:=dzF c3
    clear c3
    obtain rfl:=Option.some.inj H
    go_wp2
    go_ret
    exact ⟨sq,Y2⟩
mutual
def jG.l0 : Nat → Int → List (S75) → Option (Bool)
 | 0,_,_=>none
 | k+1,x3,x155000=>if x3<(x155000.length:Int) then (if 0≤x3 then ((jNa.f k ((jM x155000 x3).f0)).bind fun t158=>(if t158=true then (if x3≤(x155000.length:Int) then ((jJa.f k (x155000.take (x3:Int).toNat) ((jM x155000 x3).f0)).bind fun t163=>(if t163≥0 then (jG.j1 k x3 true x155000) else (if x3=0 then (if ((jM x155000 x3).f1)=(-1) then (if x3 > 0 then ((jy.f ((jM x155000 x3).f1) 0 (wrap64 (x3 - 1))).bind fun t164=>(jG.j1 k x3 (!t164) x155000)) else (jG.j1 k x3 false x155000)) else (jG.j1 k x3 true x155000)) else (if x3 > 0 then ((jy.f ((jM x155000 x3).f1) 0 (wrap64 (x3 - 1))).bind fun t165=>(jG.j1 k x3 (!t165) x155000)) else (jG.j1 k x3 false x155000))))) else (none)) else (jG.j1 k x3 true x155000))) else (none)) else ((jy.f (x155000.length:Int) 1 8).bind fun t155=>(some t155))
def jG.j1 : Nat → Int → Bool → List (S75) → Option (Bool)
 | 0,_,_,_=>none
 | k+1,x3,x51,x155000=>if x51=true then (some false) else (jG.l0 k (wrap64 (x3+1)) x155000)
end
def jG.f (k : Nat) (l0_0 : List (S75)) : Option (Bool) := jG.l0 k 0 l0_0
set_option maxHeartbeats 8000000 in
set_option maxRecDepth 100000 in
theorem jG.calls (k : Nat) (A0_0 : Option Addr) (c0_0 : Nat) (l0_0 : List (S75)) (r : Bool) (w : World) (hr0_0 : Kd.C k75 w A0_0 l0_0.length l0_0) (hc0_0 : l0_0.length ≤ c0_0) (h : jG.f k l0_0 = some r) :
  Calls Try.prog 53 #[.agg #[.slice A0_0 l0_0.length c0_0]] w fun e w'=>e=.returned (.bool r)∧Below w.heap.size w w':=by
 have hu35:=Try.underlying35
 have hu75:=Try.underlying75
 have HR0_0:=am hr0_0
 have HC0_0:=am hc0_0
 clear hr0_0 hc0_0
 have HB:=am (Below.refl w.heap.size w)
 have H:(jG.l0 k 0 l0_0)=some r:=h
 clear h
 have H':=am H
 clear H
 go_enter Try.func53,Try.ntmps53
 go_wp2_with (first |((with_reducible refine jB (N:=1) rfl ?_);refine bE (N:=1) (cs:=#[.slice A0_0 l0_0.length c0_0]) (t:=35) ?_;intro gb154 hg w2 hbox hb;have BK154:=am (hbox);have GW154:=am ((Y1:w.heap.size≤gb154));have GE154:=am ((Y1:w.heap.size≤gb154));replace HB:=am (jc (bq) hb);clear hb hbox hg))
 go_loopg [3] k (fun kq v3 w'=>∃ (x3_1:Int),v3=.int .i64 x3_1∧jq (jG.l0 kq x3_1 l0_0=some r)∧jq (kq≤k)∧jq (w'.heap[gb154]?=some (.cells #[(.slice A0_0 l0_0.length c0_0)] 35 (0,0)))∧jq (Below w.heap.size w w'))
 case atStart=>exact ⟨(0),(sq),H',⟨Nat.le_refl _⟩,⟨kq BK154.out⟩,⟨Y55⟩⟩
 case round =>
  clear H'
  try clear c1
  try clear p2
  obtain ⟨x3_1,rfl,HA,HK1,BK154,HB⟩:=hrel
  cases gk with
  | zero=>exact absurd HA.out (by simp [jG.l0])
  | succ k1 =>
   have H:=HA.out
   clear HA
   simp only [jG.l0] at H
   by_cases c3:x3_1<(l0_0.length:Int)
   ·rw [if_pos c3] at H
    have c3b0:decide (x3_1<(l0_0.length:Int))=true:=dzT c3
    clear c3
    by_cases c4:0≤x3_1
    ·rw [if_pos c4] at H
     have c4b0:decide (0≤x3_1)=true:=dzT c4
     clear c4
     have HC5:=am H
     clear H
     have hcz6_0:=bc0 BK154.out
     have hfz6_0:=ja BK154.out 0
     have p156:0≤(x3_1:Int):=ozD (uq)
     have q156:x3_1<(l0_0.length:Int):=ozD (uq)
     obtain ⟨ad156,e156,hx156_0,hx156_1⟩:=at_T75 HR0_0.out x3_1 p156 q156
     cases e156
     replace hx156_0:=cb HB.out hx156_0
     replace hx156_1:=cb HB.out hx156_1
     replace p156:=ezT p156
     replace q156:=ezT q156
     go_upto_region 5 with (first |((with_reducible refine jB (N:=4) rfl ?_);refine bE (N:=4) (cs:=#[.string (⟨#[]⟩:ByteArray), .int .i64 0]) (t:=75) ?_;intro gb157 hg w7 hbox hb;have BK157:=am (hbox);have GW157:=am ((Y69:w.heap.size≤gb157));have GE157:=am ((Y69:w.heap.size≤gb157));have NB154_157:=am ((by rw [hg];exact Nat.ne_of_lt (jza (g:=gb154) (o:=.cells #[.slice (some ad156) l0_0.length c0_0] 35 (0,0)) (kq BK154.out)):gb154≠gb157));have NB157_154:=am ((by rw [hg];exact Nat.ne_of_gt (jza (g:=gb154) (o:=.cells #[.slice (some ad156) l0_0.length c0_0] 35 (0,0)) (kq BK154.out)):gb157≠gb154));replace BK154:=am (je (g:=gb154) (o:=.cells #[.slice (some ad156) l0_0.length c0_0] 35 (0,0)) (kq BK154.out) hb);replace HB:=am (jc (Y55) hb);clear hb hbox hg;have hnb8:=NB157_154.out;have hnc8:=NB154_157.out;have hcz9_0:=bc0 BK157.out;have hcz9_1:=bc1 BK157.out;have hfz9_0:=ja BK157.out 0;have hfz9_1:=ja BK157.out 1))
     (try simp only [Act.put,List.setIfInBounds_toArray,List.set_cons_zero,List.set_cons_succ])
     go_cut [51] (fun v51 wc=>∃ (kq:Nat) (x51_4:Bool),v51=.bool x51_4∧jq (jG.j1 kq x3_1 x51_4 l0_0=some r)∧jq (kq≤k1)∧jq (wc.heap[gb154]?=some (.cells #[(.slice (some ad156) l0_0.length c0_0)] 35 (0,0)))∧jq (wc.heap[gb157]?=some (.cells #[.string ((jM l0_0 x3_1).f0), .int .i64 ((jM l0_0 x3_1).f1)] 75 (0,0)))∧jq (Below w.heap.size w wc))
     case first =>
      have n0_:jq (((w7.setCell ⟨gb157,0,none⟩ (.string ((jM l0_0 x3_1).f0))).setCell ⟨gb157,1,none⟩ (.int .i64 ((jM l0_0 x3_1).f1))).heap[gb154]?=some (.cells #[.slice (some ad156) l0_0.length c0_0] 35 (0,0))):=⟨by (with_reducible repeat (first | refine jL ?_ _ | refine jS ?_ | refine jT ?_ _));refine jKb ?_ NB154_157.out _;(with_reducible repeat (first | refine jL ?_ _ | refine jS ?_ | refine jT ?_ _));refine jKb ?_ NB154_157.out _;(with_reducible repeat (first | refine jL ?_ _ | refine jS ?_ | refine jT ?_ _));exact BK154.out⟩
      have n1_:jq (((w7.setCell ⟨gb157,0,none⟩ (.string ((jM l0_0 x3_1).f0))).setCell ⟨gb157,1,none⟩ (.int .i64 ((jM l0_0 x3_1).f1))).heap[gb157]?=some (.cells #[.string ((jM l0_0 x3_1).f0), .int .i64 ((jM l0_0 x3_1).f1)] 75 (0,0))):=⟨by (with_reducible repeat (first | refine jL ?_ _ | refine jS ?_ | refine jT ?_ _));refine jub (cs:=#[.string ((jM l0_0 x3_1).f0), .int .i64 0]) ?_ 1 _ rfl;(with_reducible repeat (first | refine jL ?_ _ | refine jS ?_ | refine jT ?_ _));refine jub (cs:=#[.string (⟨#[]⟩:ByteArray), .int .i64 0]) ?_ 0 _ rfl;(with_reducible repeat (first | refine jL ?_ _ | refine jS ?_ | refine jT ?_ _));exact BK157.out⟩
      have n2_:jq (Below w.heap.size w ((w7.setCell ⟨gb157,0,none⟩ (.string ((jM l0_0 x3_1).f0))).setCell ⟨gb157,1,none⟩ (.int .i64 ((jM l0_0 x3_1).f1)))):=⟨Y56⟩
      clear BK154 BK157 HB hcz9_0 hcz9_1 hfz9_0 hfz9_1
      generalize ((w7.setCell ⟨gb157,0,none⟩ (.string ((jM l0_0 x3_1).f0))).setCell ⟨gb157,1,none⟩ (.int .i64 ((jM l0_0 x3_1).f1)))=w16 at n0_ n1_ n2_ ⊢
      have BK154:=n0_
      have BK157:=n1_
      have HB:=n2_
      clear n0_ n1_ n2_
      have HRW:=am (Kd.jF HR0_0.out HB.out)
      have e0:w16.cell? ⟨gb157,0,none⟩=some (.string ((jM l0_0 x3_1).f0)):=(jr BK157.out 0).trans rfl
      have e1:w16.cell? ⟨gb157,1,none⟩=some (.int .i64 ((jM l0_0 x3_1).f1)):=(jr BK157.out 1).trans rfl
      have e2:w16.cell? ⟨gb154,0,none⟩=some (.slice (some ad156) l0_0.length c0_0):=(jr BK154.out 0).trans rfl
      have H:=HC5.out
      clear HC5
      obtain ⟨v,hv,H⟩:=bzS H
      have HN:=am (fun W=>(jNa.calls k1 _ v W hv).mono fun e w' h=>(⟨h.1,h.2.out⟩:e=.returned (.bool v)∧∃ m,w'=W.drewN m))
      clear hv hx156_0 hx156_1
      generalize hgx:jM l0_0 x3_1=x at H e0 e1 HN BK157
      have HGX:=am hgx
      clear hgx
      cases v with
      | false =>
       have H':=am (show jG.j1 k1 x3_1 true l0_0=some r from H)
       clear H
       go_big_quiet ((go_at_call 66;exact Calls.quiet_of (HN.out _)))
       go_wp2
       go_meet
       case rel=>exact ⟨_,_,rfl,H',⟨by have:=HK1.out;omega⟩,⟨jL BK154.out _⟩,⟨by rw [HGX.out];exact jL BK157.out _⟩,⟨jf HB.out _⟩⟩
      | true =>
       replace H:(if x3_1≤(l0_0.length:Int) then ((jJa.f k1 (l0_0.take (x3_1:Int).toNat) x.f0).bind fun t163=>(if t163≥0 then (jG.j1 k1 x3_1 true l0_0) else (if x3_1=0 then (if x.f1=(-1) then (if x3_1 > 0 then ((jy.f x.f1 0 (wrap64 (x3_1 - 1))).bind fun t164=>(jG.j1 k1 x3_1 (!t164) l0_0)) else (jG.j1 k1 x3_1 false l0_0)) else (jG.j1 k1 x3_1 true l0_0)) else (if x3_1 > 0 then ((jy.f x.f1 0 (wrap64 (x3_1 - 1))).bind fun t165=>(jG.j1 k1 x3_1 (!t165) l0_0)) else (jG.j1 k1 x3_1 false l0_0))))) else (none))=some r:=H
       have hle:x3_1≤(l0_0.length:Int):=by have:=ozD c3b0;omega
       have h0:0≤x3_1:=ozD c4b0
       rw [if_pos hle] at H
       obtain ⟨c,hc,H⟩:=bzS H
       obtain ⟨i0,hi0,_,_,_⟩:=info_parts info75
       have hcut:=cut_to (P:=Try.prog) 33 75 .i64 Try.underlying33 hi0 (some ad156) l0_0.length c0_0 x3_1 h0 hle HC0_0.out
       have hr18:=Kd.C_take (m:=(x3_1:Int).toNat) HRW.out (by omega)
       obtain ⟨y,hy⟩:∃ y:List S75,y=l0_0.take (x3_1:Int).toNat:=⟨_,rfl⟩
       have hyl:y.length=(x3_1:Int).toNat:=by rw [hy,List.length_take];omega
       have hyc:y.length≤c0_0:=by have:=HC0_0.out;omega
       rw [← hy] at hr18
       rw [← hyl] at hcut
       rw [← hy] at hc
       have HCN:=am (fun m=>(jJa.calls k1 _ _ y x.f0 c (w16.drewN m) (Kd.jEc hr18 m) hyc hc).mono fun e w' h=>(⟨h.1,h.2.out⟩:e=.returned (.int .i64 c)∧∃ m',w'=(w16.drewN m).drewN m'))
       clear hr18 hc hy hyl hyc
       have b0:=ezT h0
       have b1:=ezT hle
       by_cases hc0:c≥0
       ·rw [if_pos hc0] at H
        have b2:decide (0≤c)=true:=dzT hc0
        have H':=am H
        clear H hc0 h0 hle
        go_big_quiet (first |(go_at_call 66;exact Calls.quiet_of (HN.out _)) |(go_at_call 67;exact Calls.quiet_of (HCN.out _)))
        go_wp2
        go_meet
        case rel=>exact ⟨_,_,rfl,H',⟨by have:=HK1.out;omega⟩,⟨jL BK154.out _⟩,⟨by rw [HGX.out];exact jL BK157.out _⟩,⟨jf HB.out _⟩⟩
       ·rw [if_neg hc0] at H
        have b2:decide (0≤c)=false:=dzF hc0
        clear hc0
        by_cases hz:x3_1=0
        ·rw [if_pos hz] at H
         have b3:(x3_1 == 0)=true:=beq_iff_eq.2 hz
         have b4:decide (0<x3_1)=false:=dzF (by omega)
         by_cases hf:x.f1 = -1
         ·rw [if_pos hf,if_neg (by omega)] at H
          have b5:(x.f1 != -1)=false:=by simpa using hf
          have H':=am H
          clear H hf h0 hle hz
          go_big_quiet (first |(go_at_call 66;exact Calls.quiet_of (HN.out _)) |(go_at_call 67;exact Calls.quiet_of (HCN.out _)))
          go_wp2
          go_meet
          case rel=>exact ⟨_,_,rfl,H',⟨by have:=HK1.out;omega⟩,⟨jL BK154.out _⟩,⟨by rw [HGX.out];exact jL BK157.out _⟩,⟨jf HB.out _⟩⟩
         ·rw [if_neg hf] at H
          have b5:(x.f1 != -1)=true:=by simpa using hf
          have H':=am H
          clear H hf h0 hle hz
          go_big_quiet (first |(go_at_call 66;exact Calls.quiet_of (HN.out _)) |(go_at_call 67;exact Calls.quiet_of (HCN.out _)))
          go_wp2
          go_meet
          case rel=>exact ⟨_,_,rfl,H',⟨by have:=HK1.out;omega⟩,⟨jL BK154.out _⟩,⟨by rw [HGX.out];exact jL BK157.out _⟩,⟨jf HB.out _⟩⟩
        ·rw [if_neg hz,if_pos (by omega)] at H
         have b3:(x3_1 == 0)=false:=beq_eq_false_iff_ne.2 hz
         have b4:decide (0<x3_1)=true:=dzT (by omega)
         obtain ⟨t,ht,H⟩:=bzS H
         have H':=am H
         have HI:=am (fun W=>(jy.calls _ _ _ t W ht).mono fun e w' h=>(⟨h.1,h.2.out⟩:e=.returned (.bool t)∧∃ m,w'=W.drewN m))
         clear H ht h0 hle hz
         go_big_quiet (first |(go_at_call 66;exact Calls.quiet_of (HN.out _)) |(go_at_call 67;exact Calls.quiet_of (HCN.out _)) |(go_at_call 55;exact Calls.quiet_of (HI.out _)))
         go_wp2
         go_meet
         case rel=>exact ⟨_,_,rfl,H',⟨by have:=HK1.out;omega⟩,⟨jL BK154.out _⟩,⟨by rw [HGX.out];exact jL BK157.out _⟩,⟨jf HB.out _⟩⟩
     case rest =>
      clear HC5
      try clear c1
      try clear c2
      try clear p2
      try clear c3
      try clear q3
      try clear p6
      try clear c11
      try clear c12
      try clear c13
      try clear c21
      try clear c32
      try clear c32b0
      try clear q39
      try clear q39
      obtain ⟨kq,x51_4,rfl,HA,HJ4,BK154,BK157,HB⟩:=hcut
      cases kq with
      | zero=>exact absurd HA.out (by simp [jG.j1])
      | succ kj4 =>
       have H:=HA.out
       clear HA
       simp only [jG.j1] at H
       by_cases c42:x51_4=true
       ·subst c42
        have H1:(some false)=some r:=by rw [if_pos rfl] at H;exact H
        clear H
        have H:=H1
        clear H1
        obtain rfl:=Option.some.inj H
        go_wp2
        go_ret
        exact ⟨Y0,Y56⟩
       ·replace c42:=Bool.eq_false_iff.mpr c42
        subst c42
        have H1:(jG.l0 kj4 (wrap64 (x3_1+1)) l0_0)=some r:=by rw [if_neg (show ¬ (false=true) by decide)] at H;exact H
        clear H
        have H:=H1
        clear H1
        have H':=am H
        clear H
        go_wp2
        go_roundg kj4
        case measure=>have:=HK1.out;have:=HJ4.out;omega
        case rel=>exact ⟨(wrap64 (x3_1+1)),(sq),H',⟨by have:=HK1.out;have:=HJ4.out;omega⟩,⟨kq BK154.out⟩,⟨Y56⟩⟩
    ·rw [if_neg c4] at H
     exact absurd H (by simp)
   ·rw [if_neg c3] at H
    have c3b0:decide (x3_1<(l0_0.length:Int))=false:=dzF c3
    clear c3
    replace H:=bzS H
    obtain ⟨t155,A430,H⟩:=H
    replace H:(some t155)=some r:=H
    have A43:=am A430
    clear A430
    obtain rfl:=Option.some.inj H
    have hcz44_0:=bc0 BK154.out
    have hfz44_0:=ja BK154.out 0
    go_wp2_with (first |((with_reducible refine jg (f:=55) rfl ?_);refine gL (some 55) Try.func55 #[.int .i64 (l0_0.length:Int), .int .i64 1, .int .i64 8] ?_;(with_reducible refine (jy.calls (l0_0.length:Int) 1 8 t155 _ A43.out).mono ?_);rintro e w' ⟨rfl,⟨nd,rfl⟩⟩;refine ⟨_,rfl,?_⟩))
    go_ret
    exact ⟨Y0,Y55⟩
def jva.l0 : Nat → List (S54) → Int → List (S75) → Option (Bool)
 | 0,_,_,_=>none
 | k+1,x1,x5,x117000=>if x5<(x1.length:Int) then (if 0≤x5 then ((jIa.f k x117000 ((jN x1 x5).f0) ((jN x1 x5).f1) ((jN x1 x5).f2)).bind fun t119=>(if t119=true then (jva.l0 k x1 (wrap64 (x5+1)) x117000) else (some false))) else (none)) else ((jG.f k x117000).bind fun t117=>(if t117=true then (some (decide ((x1.length:Int)≤8))) else (some false)))
def jva.f (k : Nat) (l0_0 : List (S75)) (l1 : List (S54)) : Option (Bool) := jva.l0 k l1 0 l0_0
set_option maxHeartbeats 8000000 in
set_option maxRecDepth 100000 in
theorem jva.calls (k : Nat) (A0_0 : Option Addr) (c0_0 : Nat) (l0_0 : List (S75)) (A1 : Option Addr) (c1 : Nat) (l1 : List (S54)) (r : Bool) (w : World) (hr0_0 : Kd.C k75 w A0_0 l0_0.length l0_0) (hc0_0 : l0_0.length ≤ c0_0) (hr1 : Kd.C k54 w A1 l1.length l1) (hc1 : l1.length ≤ c1) (h : jva.f k l0_0 l1 = some r) :
  Calls Try.prog 34 #[.agg #[.slice A0_0 l0_0.length c0_0], .slice A1 l1.length c1] w fun e w'=>e=.returned (.bool r)∧Below w.heap.size w w':=by
 have hu35:=Try.underlying35
 have hu54:=Try.underlying54
 have HR0_0:=am hr0_0
 have HC0_0:=am hc0_0
 clear hr0_0 hc0_0
 have HR1:=am hr1
 have HC1:=am hc1
 clear hr1 hc1
 have HB:=am (Below.refl w.heap.size w)
 have H:(jva.l0 k l1 0 l0_0)=some r:=h
 clear h
 have H':=am H
 clear H
 go_enter Try.func34,Try.ntmps34
 go_wp2_with (first |((with_reducible refine jB (N:=2) rfl ?_);(try (refine gate_guard (by rfl) ?_;dsimp only));refine box_event ?hg (N:=2) ?hd (cs:=#[.slice A0_0 l0_0.length c0_0]) (t:=35) ?hr ?_;(case hd=>rfl);(case hg=>rfl);(case hr=>exact Y4);intro gb116 hg w3 hbox hb;have BK116:=am (hbox);have GW116:=am ((Y1:w.heap.size≤gb116));have GE116:=am ((Y1:w.heap.size≤gb116));replace HB:=am (jc (bq) hb);clear hb hbox hg))
 go_loopg [5] k (fun kq v5 w'=>∃ (x5_1:Int),v5=.int .i64 x5_1∧jq (jva.l0 kq l1 x5_1 l0_0=some r)∧jq (kq≤k)∧jq (w'.heap[gb116]?=some (.cells #[(.slice A0_0 l0_0.length c0_0)] 35 (0,0)))∧jq (Below w.heap.size w w'))
 case atStart=>exact ⟨(0),(sq),H',⟨Nat.le_refl _⟩,⟨kq BK116.out⟩,⟨Y18⟩⟩
 case round =>
  clear H'
  try clear c1
  try clear p2
  try clear c3
  obtain ⟨x5_1,rfl,HA,HK1,BK116,HB⟩:=hrel
  cases gk with
  | zero=>exact absurd HA.out (by simp [jva.l0])
  | succ k1 =>
   have H:=HA.out
   clear HA
   simp only [jva.l0] at H
   by_cases c4:x5_1<(l1.length:Int)
   ·rw [if_pos c4] at H
    have c4b0:decide (x5_1<(l1.length:Int))=true:=dzT c4
    clear c4
    by_cases c5:0≤x5_1
    ·rw [if_pos c5] at H
     have c5b0:decide (0≤x5_1)=true:=dzT c5
     clear c5
     replace H:=bzS H
     obtain ⟨t119,A60,H⟩:=H
     replace H:(if t119=true then (jva.l0 k1 l1 (wrap64 (x5_1+1)) l0_0) else (some false))=some r:=H
     have A6:=am A60
     clear A60
     by_cases c7:t119=true
     ·subst c7
      have H1:(jva.l0 k1 l1 (wrap64 (x5_1+1)) l0_0)=some r:=by rw [if_pos rfl] at H;exact H
      clear H
      have H:=H1
      clear H1
      have H':=am H
      clear H
      try go_wp2
      replace BK116:=am (jS BK116.out)
      replace HB:=am (jm HB.out)
      have p118:0≤(x5_1:Int):=ozD (uq)
      have q118:x5_1<(l1.length:Int):=ozD (uq)
      obtain ⟨ad118,e118,hx118_0,hx118_1,hx118_2⟩:=at_T54 HR1.out x5_1 p118 q118
      have hw118_2:=hx118_2
      have hw118_1:=hx118_1
      have hw118_0:=hx118_0
      cases e118
      replace hx118_0:=cb HB.out hx118_0
      replace hx118_1:=cb HB.out hx118_1
      replace hx118_2:=cb HB.out hx118_2
      replace p118:=ezT p118
      replace q118:=ezT q118
      refine jxc (n:=7) (S:=fun w'=>w'.cell? ⟨gb116,0,none⟩=some (.slice A0_0 l0_0.length c0_0)∧w'.cell? (ad118.add ((x5_1).toNat * 3))=some (.int .i64 ((jN l1 x5_1).f0))∧w'.cell? ⟨(ad118.add ((x5_1).toNat * 3)).block,(ad118.add ((x5_1).toNat * 3)).off+1,none⟩=some (.int .i64 ((jN l1 x5_1).f1))∧w'.cell? ⟨(ad118.add ((x5_1).toNat * 3)).block,(ad118.add ((x5_1).toNat * 3)).off+2,none⟩=some (.int .i64 ((jN l1 x5_1).f2))) (ds:=[]) #[false,false,false,false,false,false,false] (by kernel_rfl) rfl rfl ⟨(jr BK116.out 0).trans rfl,((HB.out.cell (World.block_lt_of_cell? w _ hw118_0)).trans hw118_0),((HB.out.cell (World.block_lt_of_cell? w _ hw118_1)).trans hw118_1),((HB.out.cell (World.block_lt_of_cell? w _ hw118_2)).trans hw118_2)⟩ (fun hHeld=>?_)
      generalize wr.drew=w8 at BK116 HB hx118_0 hx118_1 hx118_2 hHeld ⊢
      refine pure_ (i:=1) (N:=some 13) (v:=?_) (a':=?_) #[false,true,false,false,false,false,false] rfl rfl (by kernel_rfl) (fun _ _ _ h=>h) (Or.inl ⟨by rfl,?_⟩) ?_ ?_
      rotate_left
      ·exact sb
      rotate_left
      ·exact sa
      refine pure_ (i:=2) (N:=some 14) (v:=?_) (a':=?_) #[false,true,true,false,false,false,false] rfl rfl (by kernel_rfl) (fun _ _ _ h=>h) (Or.inl ⟨by rfl,?_⟩) ?_ ?_
      rotate_left
      ·exact sb
      rotate_left
      ·exact sa
      refine pure_ (i:=3) (N:=some 15) (v:=?_) (a':=?_) #[false,true,true,true,false,false,false] rfl rfl (by kernel_rfl) (fun _ _ _ h=>h) (Or.inl ⟨by rfl,?_⟩) ?_ ?_
      rotate_left
      ·exact sb
      rotate_left
      ·exact sa
      refine jcc (i:=0) (N:=some 12) (v:=?_) (a':=?_) #[true,true,true,true,false,false,false] rfl rfl (by kernel_rfl) (fun _ _ _ h=>h) (Or.inl ⟨by rfl,?_⟩) hHeld ?_ ?_
      rotate_left
      ·rintro w' ⟨s0,s1,s2,s3⟩
       go_simp
       with_reducible rfl
      rotate_left
      ·exact sa
      refine jcc (i:=4) (N:=some 16) (v:=?_) (a':=?_) #[true,true,true,true,true,false,false] rfl rfl (by kernel_rfl) (fun _ _ _ h=>h) (Or.inl ⟨by rfl,?_⟩) hHeld ?_ ?_
      rotate_left
      ·rintro w' ⟨s0,s1,s2,s3⟩
       go_simp
       with_reducible rfl
      rotate_left
      ·exact sa
      refine one_ (i:=5) (N:=some 17) #[true,true,true,true,true,true,false] rfl rfl (by kernel_rfl) (by decide) (fun K hK=>?_)
      refine jqc Try.func52 (by kernel_rfl) rfl #[.agg #[.slice A0_0 l0_0.length c0_0], .agg #[.int .i64 ((jN l1 x5_1).f0), .int .i64 ((jN l1 x5_1).f1), .int .i64 ((jN l1 x5_1).f2)]] (by rfl) rfl rfl (aq) ?_
      with_reducible refine (jIa.calls k1 _ _ l0_0 ((jN l1 x5_1).f0) ((jN l1 x5_1).f1) ((jN l1 x5_1).f2) true _ ?side1 ?side2 A6.out).mono ?_
      (case side1=>exact cq (Kd.jF HR0_0.out HB.out))
      (case side2=>exact HC0_0.out)
      rintro e w9 ⟨rfl,hb⟩
      refine ⟨_,rfl,?_⟩
      replace BK116:=am (je (g:=gb116) (o:=.cells #[.slice A0_0 l0_0.length c0_0] 35 (0,0)) (kq BK116.out) hb)
      replace HB:=am (jc (Y18) hb)
      (try clear hb)
      (try clear hb2)
      (try clear hk)
      (try clear hi)
      refine hK.out _ _ ⟨(jr BK116.out 0).trans rfl,((HB.out.cell (World.block_lt_of_cell? w _ hw118_0)).trans hw118_0),((HB.out.cell (World.block_lt_of_cell? w _ hw118_1)).trans hw118_1),((HB.out.cell (World.block_lt_of_cell? w _ hw118_2)).trans hw118_2)⟩ (fun hHeld=>?_)
      clear hK K
      refine jGb (a':=?_) ?_ ?_
      rotate_left
      ·show Act.put _ (some 17) _=_
       simp only [Act.put,List.setIfInBounds_toArray,List.set_cons_zero,List.set_cons_succ,jcb,jdb]
       rfl
      refine pure_ (i:=6) (N:=some 18) (v:=?_) (a':=?_) #[true,true,true,true,true,true,true] rfl rfl (by kernel_rfl) (fun _ _ _ h=>h) (Or.inl ⟨by rfl,?_⟩) ?_ ?_
      rotate_left
      ·exact sb
      rotate_left
      ·exact sa
      refine done_ (by kernel_rfl) ?_
      try go_wp2
      go_roundg k1
      case measure=>have:=HK1.out;omega
      case rel=>exact ⟨(wrap64 (x5_1+1)),(sq),H',⟨by have:=HK1.out;omega⟩,⟨kq BK116.out⟩,⟨Y18⟩⟩
     ·replace c7:=Bool.eq_false_iff.mpr c7
      subst c7
      have H1:(some false)=some r:=by rw [if_neg (show ¬ (false=true) by decide)] at H;exact H
      clear H
      have H:=H1
      clear H1
      obtain rfl:=Option.some.inj H
      try go_wp2
      replace BK116:=am (jS BK116.out)
      replace HB:=am (jm HB.out)
      have p118:0≤(x5_1:Int):=ozD (uq)
      have q118:x5_1<(l1.length:Int):=ozD (uq)
      obtain ⟨ad118,e118,hx118_0,hx118_1,hx118_2⟩:=at_T54 HR1.out x5_1 p118 q118
      have hw118_2:=hx118_2
      have hw118_1:=hx118_1
      have hw118_0:=hx118_0
      cases e118
      replace hx118_0:=cb HB.out hx118_0
      replace hx118_1:=cb HB.out hx118_1
      replace hx118_2:=cb HB.out hx118_2
      replace p118:=ezT p118
      replace q118:=ezT q118
      refine jxc (n:=7) (S:=fun w'=>w'.cell? ⟨gb116,0,none⟩=some (.slice A0_0 l0_0.length c0_0)∧w'.cell? (ad118.add ((x5_1).toNat * 3))=some (.int .i64 ((jN l1 x5_1).f0))∧w'.cell? ⟨(ad118.add ((x5_1).toNat * 3)).block,(ad118.add ((x5_1).toNat * 3)).off+1,none⟩=some (.int .i64 ((jN l1 x5_1).f1))∧w'.cell? ⟨(ad118.add ((x5_1).toNat * 3)).block,(ad118.add ((x5_1).toNat * 3)).off+2,none⟩=some (.int .i64 ((jN l1 x5_1).f2))) (ds:=[]) #[false,false,false,false,false,false,false] (by kernel_rfl) rfl rfl ⟨(jr BK116.out 0).trans rfl,((HB.out.cell (World.block_lt_of_cell? w _ hw118_0)).trans hw118_0),((HB.out.cell (World.block_lt_of_cell? w _ hw118_1)).trans hw118_1),((HB.out.cell (World.block_lt_of_cell? w _ hw118_2)).trans hw118_2)⟩ (fun hHeld=>?_)
      generalize wr.drew=w10 at BK116 HB hx118_0 hx118_1 hx118_2 hHeld ⊢
      refine pure_ (i:=1) (N:=some 13) (v:=?_) (a':=?_) #[false,true,false,false,false,false,false] rfl rfl (by kernel_rfl) (fun _ _ _ h=>h) (Or.inl ⟨by rfl,?_⟩) ?_ ?_
      rotate_left
      ·exact sb
      rotate_left
      ·exact sa
      refine pure_ (i:=2) (N:=some 14) (v:=?_) (a':=?_) #[false,true,true,false,false,false,false] rfl rfl (by kernel_rfl) (fun _ _ _ h=>h) (Or.inl ⟨by rfl,?_⟩) ?_ ?_
      rotate_left
      ·exact sb
      rotate_left
      ·exact sa
      refine pure_ (i:=3) (N:=some 15) (v:=?_) (a':=?_) #[false,true,true,true,false,false,false] rfl rfl (by kernel_rfl) (fun _ _ _ h=>h) (Or.inl ⟨by rfl,?_⟩) ?_ ?_
      rotate_left
      ·exact sb
      rotate_left
      ·exact sa
      refine jcc (i:=0) (N:=some 12) (v:=?_) (a':=?_) #[true,true,true,true,false,false,false] rfl rfl (by kernel_rfl) (fun _ _ _ h=>h) (Or.inl ⟨by rfl,?_⟩) hHeld ?_ ?_
      rotate_left
      ·rintro w' ⟨s0,s1,s2,s3⟩
       go_simp
       with_reducible rfl
      rotate_left
      ·exact sa
      refine jcc (i:=4) (N:=some 16) (v:=?_) (a':=?_) #[true,true,true,true,true,false,false] rfl rfl (by kernel_rfl) (fun _ _ _ h=>h) (Or.inl ⟨by rfl,?_⟩) hHeld ?_ ?_
      rotate_left
      ·rintro w' ⟨s0,s1,s2,s3⟩
       go_simp
       with_reducible rfl
      rotate_left
      ·exact sa
      refine one_ (i:=5) (N:=some 17) #[true,true,true,true,true,true,false] rfl rfl (by kernel_rfl) (by decide) (fun K hK=>?_)
      refine jqc Try.func52 (by kernel_rfl) rfl #[.agg #[.slice A0_0 l0_0.length c0_0], .agg #[.int .i64 ((jN l1 x5_1).f0), .int .i64 ((jN l1 x5_1).f1), .int .i64 ((jN l1 x5_1).f2)]] (by rfl) rfl rfl (aq) ?_
      with_reducible refine (jIa.calls k1 _ _ l0_0 ((jN l1 x5_1).f0) ((jN l1 x5_1).f1) ((jN l1 x5_1).f2) false _ ?side1 ?side2 A6.out).mono ?_
      (case side1=>exact cq (Kd.jF HR0_0.out HB.out))
      (case side2=>exact HC0_0.out)
      rintro e w11 ⟨rfl,hb⟩
      refine ⟨_,rfl,?_⟩
      replace BK116:=am (je (g:=gb116) (o:=.cells #[.slice A0_0 l0_0.length c0_0] 35 (0,0)) (kq BK116.out) hb)
      replace HB:=am (jc (Y18) hb)
      (try clear hb)
      (try clear hb2)
      (try clear hk)
      (try clear hi)
      refine hK.out _ _ ⟨(jr BK116.out 0).trans rfl,((HB.out.cell (World.block_lt_of_cell? w _ hw118_0)).trans hw118_0),((HB.out.cell (World.block_lt_of_cell? w _ hw118_1)).trans hw118_1),((HB.out.cell (World.block_lt_of_cell? w _ hw118_2)).trans hw118_2)⟩ (fun hHeld=>?_)
      clear hK K
      refine jGb (a':=?_) ?_ ?_
      rotate_left
      ·show Act.put _ (some 17) _=_
       simp only [Act.put,List.setIfInBounds_toArray,List.set_cons_zero,List.set_cons_succ,jcb,jdb]
       rfl
      refine pure_ (i:=6) (N:=some 18) (v:=?_) (a':=?_) #[true,true,true,true,true,true,true] rfl rfl (by kernel_rfl) (fun _ _ _ h=>h) (Or.inl ⟨by rfl,?_⟩) ?_ ?_
      rotate_left
      ·exact sb
      rotate_left
      ·exact sa
      refine done_ (by kernel_rfl) ?_
      try go_wp2
      go_ret
      exact ⟨Y0,Y18⟩
    ·rw [if_neg c5] at H
     exact absurd H (by simp)
   ·rw [if_neg c4] at H
    have c4b0:decide (x5_1<(l1.length:Int))=false:=dzF c4
    clear c4
    replace H:=bzS H
    obtain ⟨t117,A120,H⟩:=H
    replace H:(if t117=true then (some (decide ((l1.length:Int)≤8))) else (some false))=some r:=H
    have A12:=am A120
    clear A120
    by_cases c13:t117=true
    ·subst c13
     have H1:(some (decide ((l1.length:Int)≤8)))=some r:=by rw [if_pos rfl] at H;exact H
     clear H
     have H:=H1
     clear H1
     obtain rfl:=Option.some.inj H
     have hcz14_0:=bc0 BK116.out
     have hfz14_0:=ja BK116.out 0
     go_wp2_with (first |((with_reducible refine jg (f:=53) rfl ?_);refine gL (some 20) Try.func53 #[.agg #[.slice A0_0 l0_0.length c0_0]] ?_;(with_reducible refine (jG.calls k1 _ _ l0_0 true _ ?side1 ?side2 A12.out).mono ?_);(case side1=>exact cq (Kd.jF HR0_0.out HB.out));(case side2=>exact HC0_0.out);rintro e w15 ⟨rfl,hb⟩;refine ⟨_,rfl,?_⟩;replace BK116:=am (je (g:=gb116) (o:=.cells #[.slice A0_0 l0_0.length c0_0] 35 (0,0)) (kq BK116.out) hb);replace HB:=am (jc (Y18) hb);(try clear hb);(try clear hb2);(try clear hk);(try clear hi)))
     go_ret
     exact ⟨Y0,Y18⟩
    ·replace c13:=Bool.eq_false_iff.mpr c13
     subst c13
     have H1:(some false)=some r:=by rw [if_neg (show ¬ (false=true) by decide)] at H;exact H
     clear H
     have H:=H1
     clear H1
     obtain rfl:=Option.some.inj H
     have hcz16_0:=bc0 BK116.out
     have hfz16_0:=ja BK116.out 0
     go_wp2_with (first |((with_reducible refine jg (f:=53) rfl ?_);refine gL (some 20) Try.func53 #[.agg #[.slice A0_0 l0_0.length c0_0]] ?_;(with_reducible refine (jG.calls k1 _ _ l0_0 false _ ?side1 ?side2 A12.out).mono ?_);(case side1=>exact cq (Kd.jF HR0_0.out HB.out));(case side2=>exact HC0_0.out);rintro e w17 ⟨rfl,hb⟩;refine ⟨_,rfl,?_⟩;replace BK116:=am (je (g:=gb116) (o:=.cells #[.slice A0_0 l0_0.length c0_0] 35 (0,0)) (kq BK116.out) hb);replace HB:=am (jc (Y18) hb);(try clear hb);(try clear hb2);(try clear hk);(try clear hi)))
     go_ret
     exact ⟨Y0,Y18⟩
def jab.f (l0_0 : List (S75)) (a1_0 : Bool) (a1_1 : Int) (a1_2 : Int) : Option (Bool) := if a1_0 = true then ((jja.f l0_0 a1_1).bind fun t122 => (if t122 = true then ((jy.f a1_2 0 99).bind fun t123 => (some t123)) else (some false))) else (if a1_1 = 0 then (some (a1_2 == 0)) else (some false))
set_option maxHeartbeats 8000000 in
set_option maxRecDepth 100000 in
theorem jab.calls (A0_0 : Option Addr) (c0_0 : Nat) (l0_0 : List (S75)) (a1_0 : Bool) (a1_1 : Int) (a1_2 : Int) (r : Bool) (w : World) (hr0_0 : Kd.C k75 w A0_0 l0_0.length l0_0) (hc0_0 : l0_0.length ≤ c0_0) (h : jab.f l0_0 a1_0 a1_1 a1_2 = some r) :
  Calls Try.prog 35 #[.agg #[.slice A0_0 l0_0.length c0_0], .agg #[.bool a1_0, .int .i64 a1_1, .int .i64 a1_2]] w fun e w'=>e=.returned (.bool r)∧Below w.heap.size w w':=by
 have hu35:=Try.underlying35
 have hu39:=Try.underlying39
 have HR0_0:=am hr0_0
 have HC0_0:=am hc0_0
 clear hr0_0 hc0_0
 have HB:=am (Below.refl w.heap.size w)
 have H:(if a1_0=true then ((jja.f l0_0 a1_1).bind fun t122=>(if t122=true then ((jy.f a1_2 0 99).bind fun t123=>(some t123)) else (some false))) else (if a1_1=0 then (some (a1_2 == 0)) else (some false)))=some r:=h
 clear h
 by_cases c3:a1_0=true
 ·subst c3
  have H1:((jja.f l0_0 a1_1).bind fun t122=>(if t122=true then ((jy.f a1_2 0 99).bind fun t123=>(some t123)) else (some false)))=some r:=by rw [if_pos rfl] at H;exact H
  clear H
  have H:=H1
  clear H1
  replace H:=bzS H
  obtain ⟨t122,A40,H⟩:=H
  replace H:(if t122=true then ((jy.f a1_2 0 99).bind fun t123=>(some t123)) else (some false))=some r:=H
  have A4:=am A40
  clear A40
  by_cases c5:t122=true
  ·subst c5
   have H1:((jy.f a1_2 0 99).bind fun t123=>(some t123))=some r:=by rw [if_pos rfl] at H;exact H
   clear H
   have H:=H1
   clear H1
   replace H:=bzS H
   obtain ⟨t123,A60,H⟩:=H
   replace H:(some t123)=some r:=H
   have A6:=am A60
   clear A60
   obtain rfl:=Option.some.inj H
   go_enter Try.func35,Try.ntmps35
   go_wp2_with (first |((with_reducible refine jB (N:=2) rfl ?_);refine bE (N:=2) (cs:=#[.slice A0_0 l0_0.length c0_0]) (t:=35) ?_;intro gb120 hg w7 hbox hb;have BK120:=am (hbox);have GW120:=am ((Y1:w.heap.size≤gb120));have GE120:=am ((Y1:w.heap.size≤gb120));replace HB:=am (jc (bq) hb);clear hb hbox hg) |((with_reducible refine jB (N:=3) rfl ?_);refine bE (N:=3) (cs:=#[.bool true, .int .i64 a1_1, .int .i64 a1_2]) (t:=39) ?_;intro gb121 hg w8 hbox hb;have BK121:=am (hbox);have GW121:=am ((Y20:w.heap.size≤gb121));have GE121:=am ((Y20:w.heap.size≤gb121));have NB120_121:=am ((Y38:gb120≠gb121));have NB121_120:=am ((Y39:gb121≠gb120));replace BK120:=am (je (g:=gb120) (o:=.cells #[.slice A0_0 l0_0.length c0_0] 35 (0,0)) (kq BK120.out) hb);replace HB:=am (jc (Y40) hb);clear hb hbox hg;have hnb9:=NB121_120.out;have hnc9:=NB120_121.out;have hcz10_0:=bc0 BK121.out;have hcz10_1:=bc1 BK121.out;have hcz10_2:=bc2 BK121.out;have hfz10_0:=ja BK121.out 0;have hfz10_1:=ja BK121.out 1;have hfz10_2:=ja BK121.out 2;have hcz11_0:=bc0 BK120.out;have hfz11_0:=ja BK120.out 0) |((with_reducible refine jg (f:=54) rfl ?_);refine gL (some 19) Try.func54 #[.agg #[.slice A0_0 l0_0.length c0_0], .int .i64 a1_1] ?_;(with_reducible refine (jja.calls _ _ l0_0 a1_1 true _ ?side1 ?side2 A4.out).mono ?_);(case side1=>exact cq (Kd.jF HR0_0.out HB.out));(case side2=>exact HC0_0.out);rintro e w12 ⟨rfl,hb⟩;refine ⟨_,rfl,?_⟩;replace BK120:=am (je (g:=gb120) (o:=.cells #[.slice A0_0 l0_0.length c0_0] 35 (0,0)) (kq BK120.out) hb);replace BK121:=am (je (g:=gb121) (o:=.cells #[.bool true, .int .i64 a1_1, .int .i64 a1_2] 39 (0,0)) (kq BK121.out) hb);replace HB:=am (jc (Y23) hb);(try clear hb);(try clear hb2);(try clear hk);(try clear hi);have hcz13_0:=bc0 BK121.out;have hcz13_1:=bc1 BK121.out;have hcz13_2:=bc2 BK121.out;have hfz13_0:=ja BK121.out 0;have hfz13_1:=ja BK121.out 1;have hfz13_2:=ja BK121.out 2) |(go_at_call 55;(with_reducible refine (jy.calls a1_2 0 99 t123 _ A6.out).mono ?_);rintro e w' ⟨rfl,⟨nd,rfl⟩⟩))
   go_ret
   exact ⟨Y0,Y23⟩
  ·replace c5:=Bool.eq_false_iff.mpr c5
   subst c5
   have H1:(some false)=some r:=by rw [if_neg (show ¬ (false=true) by decide)] at H;exact H
   clear H
   have H:=H1
   clear H1
   obtain rfl:=Option.some.inj H
   go_enter Try.func35,Try.ntmps35
   go_wp2_with (first |((with_reducible refine jB (N:=2) rfl ?_);refine bE (N:=2) (cs:=#[.slice A0_0 l0_0.length c0_0]) (t:=35) ?_;intro gb120 hg w14 hbox hb;have BK120:=am (hbox);have GW120:=am ((Y1:w.heap.size≤gb120));have GE120:=am ((Y1:w.heap.size≤gb120));replace HB:=am (jc (bq) hb);clear hb hbox hg) |((with_reducible refine jB (N:=3) rfl ?_);refine bE (N:=3) (cs:=#[.bool true, .int .i64 a1_1, .int .i64 a1_2]) (t:=39) ?_;intro gb121 hg w15 hbox hb;have BK121:=am (hbox);have GW121:=am ((Y20:w.heap.size≤gb121));have GE121:=am ((Y20:w.heap.size≤gb121));have NB120_121:=am ((Y38:gb120≠gb121));have NB121_120:=am ((Y39:gb121≠gb120));replace BK120:=am (je (g:=gb120) (o:=.cells #[.slice A0_0 l0_0.length c0_0] 35 (0,0)) (kq BK120.out) hb);replace HB:=am (jc (Y40) hb);clear hb hbox hg;have hnb16:=NB121_120.out;have hnc16:=NB120_121.out;have hcz17_0:=bc0 BK121.out;have hcz17_1:=bc1 BK121.out;have hcz17_2:=bc2 BK121.out;have hfz17_0:=ja BK121.out 0;have hfz17_1:=ja BK121.out 1;have hfz17_2:=ja BK121.out 2;have hcz18_0:=bc0 BK120.out;have hfz18_0:=ja BK120.out 0) |((with_reducible refine jg (f:=54) rfl ?_);refine gL (some 19) Try.func54 #[.agg #[.slice A0_0 l0_0.length c0_0], .int .i64 a1_1] ?_;(with_reducible refine (jja.calls _ _ l0_0 a1_1 false _ ?side1 ?side2 A4.out).mono ?_);(case side1=>exact cq (Kd.jF HR0_0.out HB.out));(case side2=>exact HC0_0.out);rintro e w19 ⟨rfl,hb⟩;refine ⟨_,rfl,?_⟩;replace BK120:=am (je (g:=gb120) (o:=.cells #[.slice A0_0 l0_0.length c0_0] 35 (0,0)) (kq BK120.out) hb);replace BK121:=am (je (g:=gb121) (o:=.cells #[.bool true, .int .i64 a1_1, .int .i64 a1_2] 39 (0,0)) (kq BK121.out) hb);replace HB:=am (jc (Y23) hb);(try clear hb);(try clear hb2);(try clear hk);(try clear hi)))
   go_ret
   exact ⟨Y0,Y23⟩
 ·replace c3:=Bool.eq_false_iff.mpr c3
  subst c3
  have H1:(if a1_1=0 then (some (a1_2 == 0)) else (some false))=some r:=by rw [if_neg (show ¬ (false=true) by decide)] at H;exact H
  clear H
  have H:=H1
  clear H1
  by_cases c20:a1_1=0
  ·rw [if_pos c20] at H
   have c20b0:(a1_1 == 0)=true:=beq_iff_eq.mpr c20
   have c20b1:(a1_1 != 0)=false:=bne_eq_false_iff_eq.mpr c20
   clear c20
   obtain rfl:=Option.some.inj H
   go_enter Try.func35,Try.ntmps35
   go_wp2_with (first |((with_reducible refine jB (N:=2) rfl ?_);refine bE (N:=2) (cs:=#[.slice A0_0 l0_0.length c0_0]) (t:=35) ?_;intro gb120 hg w21 hbox hb;have BK120:=am (hbox);have GW120:=am ((Y1:w.heap.size≤gb120));have GE120:=am ((Y1:w.heap.size≤gb120));replace HB:=am (jc (bq) hb);clear hb hbox hg) |((with_reducible refine jB (N:=3) rfl ?_);refine bE (N:=3) (cs:=#[.bool false, .int .i64 a1_1, .int .i64 a1_2]) (t:=39) ?_;intro gb121 hg w22 hbox hb;have BK121:=am (hbox);have GW121:=am ((Y20:w.heap.size≤gb121));have GE121:=am ((Y20:w.heap.size≤gb121));have NB120_121:=am ((Y38:gb120≠gb121));have NB121_120:=am ((Y39:gb121≠gb120));replace BK120:=am (je (g:=gb120) (o:=.cells #[.slice A0_0 l0_0.length c0_0] 35 (0,0)) (kq BK120.out) hb);replace HB:=am (jc (Y40) hb);clear hb hbox hg;have hnb23:=NB121_120.out;have hnc23:=NB120_121.out;have hcz24_0:=bc0 BK121.out;have hcz24_1:=bc1 BK121.out;have hcz24_2:=bc2 BK121.out;have hfz24_0:=ja BK121.out 0;have hfz24_1:=ja BK121.out 1;have hfz24_2:=ja BK121.out 2))
   go_ret
   exact ⟨Y0,Y23⟩
  ·rw [if_neg c20] at H
   have c20b0:(a1_1 == 0)=false:=beq_eq_false_iff_ne.mpr c20
   have c20b1:(a1_1 != 0)=true:=bne_iff_ne.mpr c20
   obtain rfl:=Option.some.inj H
   go_enter Try.func35,Try.ntmps35
   go_wp2_with (first |((with_reducible refine jB (N:=2) rfl ?_);refine bE (N:=2) (cs:=#[.slice A0_0 l0_0.length c0_0]) (t:=35) ?_;intro gb120 hg w25 hbox hb;have BK120:=am (hbox);have GW120:=am ((Y1:w.heap.size≤gb120));have GE120:=am ((Y1:w.heap.size≤gb120));replace HB:=am (jc (bq) hb);clear hb hbox hg) |((with_reducible refine jB (N:=3) rfl ?_);refine bE (N:=3) (cs:=#[.bool false, .int .i64 a1_1, .int .i64 a1_2]) (t:=39) ?_;intro gb121 hg w26 hbox hb;have BK121:=am (hbox);have GW121:=am ((Y20:w.heap.size≤gb121));have GE121:=am ((Y20:w.heap.size≤gb121));have NB120_121:=am ((Y38:gb120≠gb121));have NB121_120:=am ((Y39:gb121≠gb120));replace BK120:=am (je (g:=gb120) (o:=.cells #[.slice A0_0 l0_0.length c0_0] 35 (0,0)) (kq BK120.out) hb);replace HB:=am (jc (Y40) hb);clear hb hbox hg;have hnb27:=NB121_120.out;have hnc27:=NB120_121.out;have hcz28_0:=bc0 BK121.out;have hcz28_1:=bc1 BK121.out;have hcz28_2:=bc2 BK121.out;have hfz28_0:=ja BK121.out 0;have hfz28_1:=ja BK121.out 1;have hfz28_2:=ja BK121.out 2))
   go_ret
   exact ⟨Y0,Y23⟩
def jtb.f (k : Nat) (l0_0 : List (S75)) (l1 : List (S54)) (a2_0 : Bool) (a2_1 : Int) (a2_2 : Int) : Option (Bool) := (jva.f k l0_0 l1).bind fun t126 => (if t126 = true then ((jab.f l0_0 a2_0 a2_1 a2_2).bind fun t127 => (some t127)) else (some false))
set_option maxHeartbeats 8000000 in
set_option maxRecDepth 100000 in
theorem jtb.calls (k : Nat) (A0_0 : Option Addr) (c0_0 : Nat) (l0_0 : List (S75)) (A1 : Option Addr) (c1 : Nat) (l1 : List (S54)) (a2_0 : Bool) (a2_1 : Int) (a2_2 : Int) (r : Bool) (w : World) (hr0_0 : Kd.C k75 w A0_0 l0_0.length l0_0) (hc0_0 : l0_0.length ≤ c0_0) (hr1 : Kd.C k54 w A1 l1.length l1) (hc1 : l1.length ≤ c1) (h : jtb.f k l0_0 l1 a2_0 a2_1 a2_2 = some r) :
  Calls Try.prog 19 #[.agg #[.slice A0_0 l0_0.length c0_0], .slice A1 l1.length c1, .agg #[.bool a2_0, .int .i64 a2_1, .int .i64 a2_2]] w fun e w'=>e=.returned (.bool r)∧Below w.heap.size w w':=by
 have hu35:=Try.underlying35
 have hu39:=Try.underlying39
 have HR0_0:=am hr0_0
 have HC0_0:=am hc0_0
 clear hr0_0 hc0_0
 have HR1:=am hr1
 have HC1:=am hc1
 clear hr1 hc1
 have HB:=am (Below.refl w.heap.size w)
 have H:((jva.f k l0_0 l1).bind fun t126=>(if t126=true then ((jab.f l0_0 a2_0 a2_1 a2_2).bind fun t127=>(some t127)) else (some false)))=some r:=h
 clear h
 replace H:=bzS H
 obtain ⟨t126,A40,H⟩:=H
 replace H:(if t126=true then ((jab.f l0_0 a2_0 a2_1 a2_2).bind fun t127=>(some t127)) else (some false))=some r:=H
 have A4:=am A40
 clear A40
 by_cases c5:t126=true
 ·subst c5
  have H1:((jab.f l0_0 a2_0 a2_1 a2_2).bind fun t127=>(some t127))=some r:=by rw [if_pos rfl] at H;exact H
  clear H
  have H:=H1
  clear H1
  replace H:=bzS H
  obtain ⟨t127,A60,H⟩:=H
  replace H:(some t127)=some r:=H
  have A6:=am A60
  clear A60
  obtain rfl:=Option.some.inj H
  go_enter Try.func19,Try.ntmps19
  go_wp2_with (first |((with_reducible refine jB (N:=3) rfl ?_);refine bE (N:=3) (cs:=#[.slice A0_0 l0_0.length c0_0]) (t:=35) ?_;intro gb124 hg w7 hbox hb;have BK124:=am (hbox);have GW124:=am ((Y1:w.heap.size≤gb124));have GE124:=am ((Y1:w.heap.size≤gb124));replace HB:=am (jc (bq) hb);clear hb hbox hg) |((with_reducible refine jB (N:=5) rfl ?_);refine bE (N:=5) (cs:=#[.bool a2_0, .int .i64 a2_1, .int .i64 a2_2]) (t:=39) ?_;intro gb125 hg w8 hbox hb;have BK125:=am (hbox);have GW125:=am ((Y41:w.heap.size≤gb125));have GE125:=am ((Y41:w.heap.size≤gb125));have NB124_125:=am ((by rw [hg];exact Nat.ne_of_lt (jza (g:=gb124) (o:=.cells #[.slice A0_0 l0_0.length c0_0] 35 (0,0)) (kq BK124.out)):gb124≠gb125));have NB125_124:=am ((by rw [hg];exact Nat.ne_of_gt (jza (g:=gb124) (o:=.cells #[.slice A0_0 l0_0.length c0_0] 35 (0,0)) (kq BK124.out)):gb125≠gb124));replace BK124:=am (je (g:=gb124) (o:=.cells #[.slice A0_0 l0_0.length c0_0] 35 (0,0)) (kq BK124.out) hb);replace HB:=am (jc (Y70) hb);clear hb hbox hg;have hnb9:=NB124_125.out;have hnc9:=NB125_124.out;have hcz10_0:=bc0 BK124.out;have hfz10_0:=ja BK124.out 0) |((with_reducible refine jg (f:=34) rfl ?_);refine gL (some 9) Try.func34 #[.agg #[.slice A0_0 l0_0.length c0_0], .slice A1 l1.length c1] ?_;(with_reducible refine (jva.calls k _ _ l0_0 _ _ l1 true _ ?side1 ?side2 ?side3 ?side4 A4.out).mono ?_);(case side1=>exact cq (Kd.jF HR0_0.out HB.out));(case side2=>exact HC0_0.out);(case side3=>exact cq (Kd.jF HR1.out HB.out));(case side4=>exact HC1.out);rintro e w11 ⟨rfl,hb⟩;refine ⟨_,rfl,?_⟩;replace BK124:=am (je (g:=gb124) (o:=.cells #[.slice A0_0 l0_0.length c0_0] 35 (0,0)) (kq BK124.out) hb);replace BK125:=am (je (g:=gb125) (o:=.cells #[.bool a2_0, .int .i64 a2_1, .int .i64 a2_2] 39 (0,0)) (kq BK125.out) hb);replace HB:=am (jc (Y30) hb);(try clear hb);(try clear hb2);(try clear hk);(try clear hi);have hcz12_0:=bc0 BK124.out;have hfz12_0:=ja BK124.out 0;have hcz13_0:=bc0 BK125.out;have hcz13_1:=bc1 BK125.out;have hcz13_2:=bc2 BK125.out;have hfz13_0:=ja BK125.out 0;have hfz13_1:=ja BK125.out 1;have hfz13_2:=ja BK125.out 2) |(go_at_call 35;(with_reducible refine (jab.calls _ _ l0_0 a2_0 a2_1 a2_2 t127 _ ?side1 ?side2 A6.out).mono ?_);(case side1=>exact cq (Kd.jF HR0_0.out HB.out));(case side2=>exact HC0_0.out);rintro e w14 ⟨rfl,hb⟩;replace BK124:=am (je (g:=gb124) (o:=.cells #[.slice A0_0 l0_0.length c0_0] 35 (0,0)) (kq BK124.out) hb);replace BK125:=am (je (g:=gb125) (o:=.cells #[.bool a2_0, .int .i64 a2_1, .int .i64 a2_2] 39 (0,0)) (kq BK125.out) hb);replace HB:=am (jc (Y30) hb);(try clear hb);(try clear hb2);(try clear hk);(try clear hi)))
  go_ret
  exact ⟨Y0,Y30⟩
 ·replace c5:=Bool.eq_false_iff.mpr c5
  subst c5
  have H1:(some false)=some r:=by rw [if_neg (show ¬ (false=true) by decide)] at H;exact H
  clear H
  have H:=H1
  clear H1
  obtain rfl:=Option.some.inj H
  go_enter Try.func19,Try.ntmps19
  go_wp2_with (first |((with_reducible refine jB (N:=3) rfl ?_);refine bE (N:=3) (cs:=#[.slice A0_0 l0_0.length c0_0]) (t:=35) ?_;intro gb124 hg w15 hbox hb;have BK124:=am (hbox);have GW124:=am ((Y1:w.heap.size≤gb124));have GE124:=am ((Y1:w.heap.size≤gb124));replace HB:=am (jc (bq) hb);clear hb hbox hg) |((with_reducible refine jB (N:=5) rfl ?_);refine bE (N:=5) (cs:=#[.bool a2_0, .int .i64 a2_1, .int .i64 a2_2]) (t:=39) ?_;intro gb125 hg w16 hbox hb;have BK125:=am (hbox);have GW125:=am ((Y41:w.heap.size≤gb125));have GE125:=am ((Y41:w.heap.size≤gb125));have NB124_125:=am ((by rw [hg];exact Nat.ne_of_lt (jza (g:=gb124) (o:=.cells #[.slice A0_0 l0_0.length c0_0] 35 (0,0)) (kq BK124.out)):gb124≠gb125));have NB125_124:=am ((by rw [hg];exact Nat.ne_of_gt (jza (g:=gb124) (o:=.cells #[.slice A0_0 l0_0.length c0_0] 35 (0,0)) (kq BK124.out)):gb125≠gb124));replace BK124:=am (je (g:=gb124) (o:=.cells #[.slice A0_0 l0_0.length c0_0] 35 (0,0)) (kq BK124.out) hb);replace HB:=am (jc (Y70) hb);clear hb hbox hg;have hnb17:=NB124_125.out;have hnc17:=NB125_124.out;have hcz18_0:=bc0 BK124.out;have hfz18_0:=ja BK124.out 0) |((with_reducible refine jg (f:=34) rfl ?_);refine gL (some 9) Try.func34 #[.agg #[.slice A0_0 l0_0.length c0_0], .slice A1 l1.length c1] ?_;(with_reducible refine (jva.calls k _ _ l0_0 _ _ l1 false _ ?side1 ?side2 ?side3 ?side4 A4.out).mono ?_);(case side1=>exact cq (Kd.jF HR0_0.out HB.out));(case side2=>exact HC0_0.out);(case side3=>exact cq (Kd.jF HR1.out HB.out));(case side4=>exact HC1.out);rintro e w19 ⟨rfl,hb⟩;refine ⟨_,rfl,?_⟩;replace BK124:=am (je (g:=gb124) (o:=.cells #[.slice A0_0 l0_0.length c0_0] 35 (0,0)) (kq BK124.out) hb);replace BK125:=am (je (g:=gb125) (o:=.cells #[.bool a2_0, .int .i64 a2_1, .int .i64 a2_2] 39 (0,0)) (kq BK125.out) hb);replace HB:=am (jc (Y30) hb);(try clear hb);(try clear hb2);(try clear hk);(try clear hi)))
  go_ret
  exact ⟨Y0,Y30⟩
def jwa.l0 : Nat → List (S51) → Int → Option ((List (S51)))
 | 0,_,_=>none
 | k+1,x3,x4=>if x4<(x3.length:Int) then (if 0≤x4 then (jwa.l0 k (x3.set (x4:Int).toNat (⟨wrap64 (((jd x3 x4).f0)+1),(jd x3 x4).f1,(jd x3 x4).f2,(jd x3 x4).f3⟩:S51)) (wrap64 (x4+1))) else (none)) else (some x3)
def jwa.f (k : Nat) (l0 : List (S51)) : Option ((List (S51))) := (some (([] : List (S51)) : List (S51))).bind fun y128 => (if y128.length + l0.length < 4398046511104 then (jwa.l0 k (y128 ++ l0) 0) else (none))
set_option maxHeartbeats 8000000 in
set_option maxRecDepth 100000 in
theorem jwa.calls (k : Nat) (A0 : Option Addr) (c0 : Nat) (l0 : List (S51)) (r : List (S51)) (w : World) (hr0 : Kd.C k51 w A0 l0.length l0) (hc0 : l0.length ≤ c0) (h : jwa.f k l0 = some r) :
  Calls Try.prog 56 #[.slice A0 l0.length c0] w fun e w'=>∃ v0_:Value,e=.returned (v0_)∧Kd.R k51 51 w' w.heap.size (fun _=>True) v0_ r∧Below w.heap.size w w':=by
 have HR0:=am hr0
 have HC0:=am hc0
 clear hr0 hc0
 have HB:=am (Below.refl w.heap.size w)
 have H:((some (([]:List (S51)):List (S51))).bind fun y128=>(if y128.length+l0.length<4398046511104 then (jwa.l0 k (y128 ++ l0) 0) else (none)))=some r:=h
 clear h
 obtain ⟨y128,hy128⟩:∃ y_:List (S51),y_=(([]:List (S51))):=⟨_,rfl⟩
 replace H:(if y128.length+l0.length<4398046511104 then (jwa.l0 k (y128 ++ l0) 0) else (none))=some r:=by first |(rw [hy128];with_reducible exact H) |(have H2_:=(Option.bind_some _ _).symm.trans H;rw [hy128];with_reducible exact H2_) |(have H2_:=(Option.bind_some _ _).symm.trans H;with_reducible exact H2_) | with_reducible exact H |(rw [hy128];exact H) | exact H
 have Ny128:=am hy128
 clear hy128
 by_cases c2:y128.length+l0.length<4398046511104
 ·rw [if_pos c2] at H
  have LMc2:=am c2
  clear c2
  obtain ⟨y131,hy131⟩:∃ y_:List (S51),y_=(y128 ++ l0):=⟨_,rfl⟩
  replace H:(jwa.l0 k y131 0)=some r:=by first |(rw [hy131];with_reducible exact H) |(have H2_:=(Option.bind_some _ _).symm.trans H;rw [hy131];with_reducible exact H2_) |(have H2_:=(Option.bind_some _ _).symm.trans H;with_reducible exact H2_) | with_reducible exact H |(rw [hy131];exact H) | exact H
  have Ny131:=am hy131
  clear hy131
  have H':=am H
  clear H
  go_enter Try.func56,Try.ntmps56
  go_wp2_with (first |((with_reducible refine jB (N:=5) rfl ?_);refine Kd.R_lit k51 _ 51 ?hg (N:=5) ?hd (xs:=([]:List (S51))) (inner:=[]) (ok:=fun _=>True) (okp:=fun _=>True) ?hr ?hp (fun _ hk=>hk) trivial (Below.refl _ _) (Nat.le_refl _) (by simp) ?_;(case hd=>rfl);(case hg=>rfl);(case hr=>exact Y4);(case hp=>exact (Reps.none _ _));intro v129 w3 ho4 hb hg_ hnew_;clear hg_ hnew_;(first | rw [← Ny128.out] at ho4 |(simp only [Int.reduceToNat] at ho4;rw [← Ny128.out] at ho4));have HO130:=am (Kd.jra ho4 (jv (bq)));replace HB:=am (jc (bq) hb);clear hb ho4) |((with_reducible refine jgb (b:=.append) (xs:=#[.tmp 5, .tmp 6]) rfl ?_);at_builtin;refine Kd.jPb k51 (w0:=w) w.heap.size rfl (.tmp 5) (.tmp 6) 30 51 (.agg #[(.int .i64 0),(.int .i64 0),(.int .i64 0),(.int .i64 0)]) 32 rfl Try.underlying30 info51 rfl (by decide) (by omega) v129 y128 l0 _ _ _ (fun _=>True) (fun _=>False) rfl rfl ?aO ?aR (fun _ _ h=>h) (fun _ h=>h.elim) ?aF ?aB ?aS ?aL ?_;(case aR=>repeat (first | exact (Kd.jF HR0.out HB.out) |(with_reducible refine Kd.jMc ?_ _) |(with_reducible refine Kd.jEc ?_ _) |(with_reducible refine Kd.C_drew ?_)));(case aB=>exact (bq));(case aF=>exact (fun _ _=>trivial));(case aO=>exact (rq HO130.out));(case aS=>exact (jv (bq)));(case aL=>have:=LMc2.out;omega);intro v132 w5 ho hb hg hat;rw [← Ny131.out] at ho;have n0_:=am (hb);have n1_:=am (ho);clear HB HO130;have HB:=n0_;have HO133:=n1_;clear n0_ n1_ ho hb hg hat))
  go_loopg [4] k (fun kq v4 w'=>∃ (x3_1:List (S51)) (x4_1:Int),v4=.int .i64 x4_1∧jq (jwa.l0 kq x3_1 x4_1=some r)∧jq (kq≤k)∧jq (Kd.R k51 51 w' w.heap.size (fun _=>True) v132 x3_1)∧jq (Below w.heap.size w w'))
  case atStart=>exact ⟨(y131),(0),(sq),H',⟨Nat.le_refl _⟩,⟨rq HO133.out⟩,⟨bq⟩⟩
  case round =>
   clear H'
   try clear c2
   try clear p2
   try clear c5
   obtain ⟨x3_1,x4_1,rfl,HA,HK1,HO_3,HB⟩:=hrel
   cases gk with
   | zero=>exact absurd HA.out (by simp [jwa.l0])
   | succ k1 =>
    have H:=HA.out
    clear HA
    simp only [jwa.l0] at H
    by_cases c6:x4_1<(x3_1.length:Int)
    ·rw [if_pos c6] at H
     have c6b0:decide (x4_1<(x3_1.length:Int))=true:=dzT c6
     clear c6
     by_cases c7:0≤x4_1
     ·rw [if_pos c7] at H
      have c7b0:decide (0≤x4_1)=true:=dzT c7
      clear c7
      obtain ⟨y135,hy135⟩:∃ y_:List (S51),y_=(x3_1.set (x4_1:Int).toNat (⟨wrap64 (((jd x3_1 x4_1).f0)+1),(jd x3_1 x4_1).f1,(jd x3_1 x4_1).f2,(jd x3_1 x4_1).f3⟩:S51)):=⟨_,rfl⟩
      replace H:(jwa.l0 k1 y135 (wrap64 (x4_1+1)))=some r:=by first |(rw [hy135];with_reducible exact H) |(have H2_:=(Option.bind_some _ _).symm.trans H;rw [hy135];with_reducible exact H2_) |(have H2_:=(Option.bind_some _ _).symm.trans H;with_reducible exact H2_) | with_reducible exact H |(rw [hy135];exact H) | exact H
      have Ny135:=am hy135
      clear hy135
      have H':=am H
      clear H
      obtain ⟨Ao9,co9,eo9⟩:=Kd.jga HO_3.out
      subst eo9
      have p134:0≤(x4_1:Int):=ozD (uq)
      have q134:x4_1<(x3_1.length:Int):=ozD (uq)
      obtain ⟨ad134,e134,hx134_0,hx134_1,hx134_2,hx134_3⟩:=jAa (Kd.jw HO_3.out).2.2 x4_1 p134 q134
      cases e134
      replace p134:=ezT p134
      replace q134:=ezT q134
      have p8:0≤(x4_1:Int):=ozD (uq)
      have q8:(x4_1:Int)<((x3_1.length:Int):Int):=ozD (uq)
      obtain ⟨go8,co8,eo8,gb8,gl8,cl8,HG8⟩:=Kd.R_form HO_3.out (by omega)
      (first | cases eo8 |(injection eo8 with ea_ en_ ec_;(first | subst ea_ |(injection ea_ with ea_;subst ea_));subst ec_;clear en_))
      have GB8:=am gb8
      have GG8:=am HG8
      clear gb8 gl8 HG8
      (first | simp only [add_plain] at hx134_0 | skip)
      (first | simp only [add_plain] at hx134_1 | skip)
      (first | simp only [add_plain] at hx134_2 | skip)
      (first | simp only [add_plain] at hx134_3 | skip)
      obtain ⟨ce8,hcl8,hM8,hcc8,hfr8⟩:=Kd.jFb HO_3.out z51 (x4_1:Int) p8 q8
      obtain rfl:=jTb hM8
      have hx8_0:wr.cell? ⟨go8,(x4_1:Int).toNat * 4,none⟩=some (.int .i64 ((jd x3_1 x4_1).f0)):=hcc8 0 _ rfl
      have hx8_1:wr.cell? ⟨go8,(x4_1:Int).toNat * 4+1,none⟩=some (.int .i64 ((jd x3_1 x4_1).f1)):=hcc8 1 _ rfl
      have hx8_2:wr.cell? ⟨go8,(x4_1:Int).toNat * 4+2,none⟩=some (.int .i64 ((jd x3_1 x4_1).f2)):=hcc8 2 _ rfl
      have hx8_3:wr.cell? ⟨go8,(x4_1:Int).toNat * 4+3,none⟩=some (.int .i64 ((jd x3_1 x4_1).f3)):=hcc8 3 _ rfl
      have hf8_0:wr.frozen? ⟨go8,(x4_1:Int).toNat * 4,none⟩=false:=hfr8 0
      have hf8_1:wr.frozen? ⟨go8,(x4_1:Int).toNat * 4+1,none⟩=false:=hfr8 1
      have hf8_2:wr.frozen? ⟨go8,(x4_1:Int).toNat * 4+2,none⟩=false:=hfr8 2
      have hf8_3:wr.frozen? ⟨go8,(x4_1:Int).toNat * 4+3,none⟩=false:=hfr8 3
      clear hcl8 hcc8 hfr8 hM8
      replace p8:=ezT p8
      replace q8:=ezT q8
      have HX10:=am (show Kd.R k51 51 wr w.heap.size (fun _=>True) (.slice (some ⟨go8,0,none⟩) x3_1.length co9) x3_1 from (rq HO_3.out))
      obtain ⟨ce10,hcl10,hM10,hcc10,hfr10⟩:=Kd.jFb HX10.out z51 (x4_1:Int) (ozD (uq)) (by have h_:(x4_1:Int)<((x3_1.length:Int):Int):=ozD (uq);first | exact h_ |(have e_:=(Kd.jw HO_3.out).1;omega) | simpa using h_)
      obtain rfl:=jTb hM10
      have HP10:=Kd.R_seg HX10.out (x4_1:Int) (ozD (uq)) (by have h_:(x4_1:Int)<((x3_1.length:Int):Int):=ozD (uq);first | exact h_ |(have e_:=(Kd.jw HO_3.out).1;omega) | simpa using h_) (seg:=[.int .i64 (wrap64 (((jd x3_1 x4_1).f0)+1))]) (j:=0) hcl10 hcc10 (show 1≤4 from by decide) (x':=(⟨wrap64 (((jd x3_1 x4_1).f0)+1),(jd x3_1 x4_1).f1,(jd x3_1 x4_1).f2,(jd x3_1 x4_1).f3⟩:S51)) (jfb _ _ _ (⟨wrap64 (((jd x3_1 x4_1).f0)+1),(jd x3_1 x4_1).f1,(jd x3_1 x4_1).f2,(jd x3_1 x4_1).f3⟩:S51) ) (fun _ hk=>hk)
      have hx10_0:=hcc10 0 _ rfl
      (try simp only [show (k51).sz=4 from rfl,Nat.mul_one,Nat.add_zero] at hx10_0)
      have hf10_0:=hfr10 0
      (try simp only [show (k51).sz=4 from rfl,Nat.mul_one,Nat.add_zero] at hf10_0)
      clear hcl10 hcc10 hfr10 hM10
      go_wp2_with (first |((with_reducible refine jpb (t:=3) (p:=23) rfl ?_);refine jhb (t:=3) (p:=23) (v:=?vo_w11) (w1:=(wr.setCell ⟨go8,(x4_1:Int).toNat * 4,none⟩ (.int .i64 (wrap64 (((jd x3_1 x4_1).f0)+1))))) ?hg ?ho ?hn ?hr ?_;(case ho=>rfl);(case hg=>rfl);(case hn=>rfl);(case hr=>exact Y4);intro w11 hw;have hg:wr.grownBy w11 (some go8):=(by rw [hw];exact HP10.2);have hp_:Kd.R k51 51 w11 w.heap.size (fun _=>True) (.slice (some ⟨go8,0,none⟩) x3_1.length co9) y135:=(by rw [hw,Ny135.out];exact HP10.1);clear HP10;replace HO_3:=am (hp_);replace HB:=am ((by rw [hw];exact jl (HB.out) GB8.out:Below w.heap.size w w11));clear hg hw hp_))
      go_roundg k1
      case measure=>have:=HK1.out;omega
      case rel=>exact ⟨(y135),(wrap64 (x4_1+1)),(sq),H',⟨by have:=HK1.out;omega⟩,⟨rq HO_3.out⟩,⟨bq⟩⟩
     ·rw [if_neg c7] at H
      exact absurd H (by simp)
    ·rw [if_neg c6] at H
     have c6b0:decide (x4_1<(x3_1.length:Int))=false:=dzF c6
     clear c6
     obtain rfl:=Option.some.inj H
     obtain ⟨Ao12,co12,eo12⟩:=Kd.jga HO_3.out
     subst eo12
     go_wp2
     go_ret
     exact ⟨_,Y0,rq HO_3.out,bq⟩
 ·rw [if_neg c2] at H
  exact absurd H (by simp)
def jCb.f (k : Nat) (a0_0 : Int) (a0_1 : Int) (a0_2 : Int) (a0_3 : Int) (l1 : List (S51)) : Option ((List (S51))) := if (l1.length : Int) = 0 then ((some (([(⟨a0_0, a0_1, a0_2, a0_3⟩ : S51)] : List (S51)) : List (S51))).bind fun y140 => ((jwa.f k (([(⟨0, 0, 0, 0⟩ : S51)] : List (S51)))).bind fun t143 => (if y140.length + t143.length < 4398046511104 then (some (y140 ++ t143)) else (none)))) else ((some (([(⟨a0_0, a0_1, a0_2, a0_3⟩ : S51)] : List (S51)) : List (S51))).bind fun y149 => ((jwa.f k l1).bind fun t152 => (if y149.length + t152.length < 4398046511104 then (some (y149 ++ t152)) else (none))))
set_option maxHeartbeats 8000000 in
set_option maxRecDepth 100000 in
theorem jCb.calls (k : Nat) (a0_0 : Int) (a0_1 : Int) (a0_2 : Int) (a0_3 : Int) (A1 : Option Addr) (c1 : Nat) (l1 : List (S51)) (r : List (S51)) (w : World) (hr1 : Kd.C k51 w A1 l1.length l1) (hc1 : l1.length ≤ c1) (h : jCb.f k a0_0 a0_1 a0_2 a0_3 l1 = some r) :
  Calls Try.prog 36 #[.agg #[.int .i64 a0_0, .int .i64 a0_1, .int .i64 a0_2, .int .i64 a0_3], .slice A1 l1.length c1] w fun e w'=>∃ v0_:Value,e=.returned (v0_)∧Kd.R k51 51 w' w.heap.size (fun _=>True) v0_ r∧Below w.heap.size w w':=by
 have hu51:=Try.underlying51
 have HR1:=am hr1
 have HC1:=am hc1
 clear hr1 hc1
 have HB:=am (Below.refl w.heap.size w)
 have H:(if (l1.length:Int)=0 then ((some (([(⟨a0_0,a0_1,a0_2,a0_3⟩:S51)]:List (S51)):List (S51))).bind fun y140=>((jwa.f k (([(⟨0,0,0,0⟩:S51)]:List (S51)))).bind fun t143=>(if y140.length+t143.length<4398046511104 then (some (y140 ++ t143)) else (none)))) else ((some (([(⟨a0_0,a0_1,a0_2,a0_3⟩:S51)]:List (S51)):List (S51))).bind fun y149=>((jwa.f k l1).bind fun t152=>(if y149.length+t152.length<4398046511104 then (some (y149 ++ t152)) else (none)))))=some r:=h
 clear h
 by_cases c3:(l1.length:Int)=0
 ·rw [if_pos c3] at H
  have c3b0:((l1.length:Int) == 0)=true:=beq_iff_eq.mpr c3
  have c3b1:((l1.length:Int) != 0)=false:=bne_eq_false_iff_eq.mpr c3
  clear c3
  obtain ⟨y137,hy137⟩:∃ y_:List (S51),y_=(([(⟨0,0,0,0⟩:S51)]:List (S51))):=⟨_,rfl⟩
  replace H:((some (([(⟨a0_0,a0_1,a0_2,a0_3⟩:S51)]:List (S51)):List (S51))).bind fun y140=>((jwa.f k y137).bind fun t143=>(if y140.length+t143.length<4398046511104 then (some (y140 ++ t143)) else (none))))=some r:=by first |(rw [hy137];with_reducible exact H) |(have H2_:=(Option.bind_some _ _).symm.trans H;rw [hy137];with_reducible exact H2_) |(have H2_:=(Option.bind_some _ _).symm.trans H;with_reducible exact H2_) | with_reducible exact H |(rw [hy137];exact H) | exact H
  have Ny137:=am hy137
  clear hy137
  obtain ⟨y140,hy140⟩:∃ y_:List (S51),y_=(([(⟨a0_0,a0_1,a0_2,a0_3⟩:S51)]:List (S51))):=⟨_,rfl⟩
  replace H:((jwa.f k y137).bind fun t143=>(if y140.length+t143.length<4398046511104 then (some (y140 ++ t143)) else (none)))=some r:=by first |(rw [hy140];with_reducible exact H) |(have H2_:=(Option.bind_some _ _).symm.trans H;rw [hy140];with_reducible exact H2_) |(have H2_:=(Option.bind_some _ _).symm.trans H;with_reducible exact H2_) | with_reducible exact H |(rw [hy140];exact H) | exact H
  have Ny140:=am hy140
  clear hy140
  replace H:=bzS H
  obtain ⟨t143,A40,H⟩:=H
  replace H:(if y140.length+t143.length<4398046511104 then (some (y140 ++ t143)) else (none))=some r:=H
  have A4:=am A40
  clear A40
  by_cases c5:y140.length+t143.length<4398046511104
  ·rw [if_pos c5] at H
   have LMc5:=am c5
   clear c5
   obtain ⟨y146,hy146⟩:∃ y_:List (S51),y_=(y140 ++ t143):=⟨_,rfl⟩
   replace H:(some y146)=some r:=by first |(rw [hy146];with_reducible exact H) |(have H2_:=(Option.bind_some _ _).symm.trans H;rw [hy146];with_reducible exact H2_) |(have H2_:=(Option.bind_some _ _).symm.trans H;with_reducible exact H2_) | with_reducible exact H |(rw [hy146];exact H) | exact H
   have Ny146:=am hy146
   clear hy146
   obtain rfl:=Option.some.inj H
   go_enter Try.func36,Try.ntmps36
   try go_wp2_with (first |((with_reducible refine jB (N:=2) rfl ?_);refine bE (N:=2) (cs:=#[.int .i64 a0_0, .int .i64 a0_1, .int .i64 a0_2, .int .i64 a0_3]) (t:=51) ?_;intro gb136 hg w6 hbox hb;have BK136:=am (hbox);have GW136:=am ((Y1:w.heap.size≤gb136));have GE136:=am ((Y1:w.heap.size≤gb136));replace HB:=am (jc (bq) hb);clear hb hbox hg) |((with_reducible refine jB (N:=9) rfl ?_);refine Kd.R_lit k51 _ 51 ?hg (N:=9) ?hd (xs:=([(⟨0,0,0,0⟩:S51)]:List (S51))) (inner:=[.int .i64 0, .int .i64 0, .int .i64 0, .int .i64 0]) (ok:=fun _=>True) (okp:=fun _=>True) ?hr ?hp (fun _ hk=>hk) trivial (Below.refl _ _) (Nat.le_refl _) (by simp) ?_;(case hd=>rfl);(case hg=>rfl);(case hr=>exact Y4);(case hp=>exact (Reps.c4 (show Kd.M k51 _ _ _ (⟨0,0,0,0⟩:S51) [.int .i64 0, .int .i64 0, .int .i64 0, .int .i64 0] from (jfb _ _ _ (⟨0,0,0,0⟩:S51) )) (Reps.none _ _)));intro v138 w7 ho8 hb hg_ hnew_;clear hg_ hnew_;(first | rw [← Ny137.out] at ho8 |(simp only [Int.reduceToNat] at ho8;rw [← Ny137.out] at ho8));have HO139:=am (Kd.jra (Kd.R_newB ho8 (g:=gb136) (o:=.cells #[.int .i64 a0_0, .int .i64 a0_1, .int .i64 a0_2, .int .i64 a0_3] 51 (0,0)) (kq BK136.out)) (jv (Y5)));replace BK136:=am (je (g:=gb136) (o:=.cells #[.int .i64 a0_0, .int .i64 a0_1, .int .i64 a0_2, .int .i64 a0_3] 51 (0,0)) (kq BK136.out) hb);replace HB:=am (jc (Y5) hb);clear hb ho8;obtain ⟨Ao9,co9,eo9⟩:=Kd.jga HO139.out;subst eo9))
   replace HO139:=am (Kd.jLa HO139.out)
   replace BK136:=am (jS BK136.out)
   replace HB:=am (jm HB.out)
   refine jxc (n:=6) (S:=fun w'=>w'.cell? ⟨gb136,0,none⟩=some (.int .i64 a0_0)∧w'.cell? ⟨gb136,1,none⟩=some (.int .i64 a0_1)∧w'.cell? ⟨gb136,2,none⟩=some (.int .i64 a0_2)∧w'.cell? ⟨gb136,3,none⟩=some (.int .i64 a0_3)) (ds:=[]) #[false,false,false,false,false,false] (by kernel_rfl) rfl rfl ⟨(jr BK136.out 0).trans rfl,(jr BK136.out 1).trans rfl,(jr BK136.out 2).trans rfl,(jr BK136.out 3).trans rfl⟩ (fun hHeld=>?_)
   generalize w7.drew=w10 at HO139 BK136 HB hHeld ⊢
   refine pure_ (i:=2) (N:=some 12) (v:=?_) (a':=?_) #[false,false,true,false,false,false] rfl rfl (by kernel_rfl) (fun _ _ _ h=>h) (Or.inl ⟨by rfl,?_⟩) ?_ ?_
   rotate_left
   ·exact sb
   rotate_left
   ·exact sa
   refine jcc (i:=0) (N:=some 10) (v:=?_) (a':=?_) #[true,false,true,false,false,false] rfl rfl (by kernel_rfl) (fun _ _ _ h=>h) (Or.inl ⟨by rfl,?_⟩) hHeld ?_ ?_
   rotate_left
   ·rintro w' ⟨s0,s1,s2,s3⟩
    go_simp
    with_reducible rfl
   rotate_left
   ·exact sa
   refine join_ (σ:=Value × Value) 2 #[true,true,true,true,false,false] (fun s_=>[(11,s_.1),(13,s_.2)]) (fun s_ w'=>(w'.cell? ⟨gb136,0,none⟩=some (.int .i64 a0_0)∧w'.cell? ⟨gb136,1,none⟩=some (.int .i64 a0_1)∧w'.cell? ⟨gb136,2,none⟩=some (.int .i64 a0_2)∧w'.cell? ⟨gb136,3,none⟩=some (.int .i64 a0_3))∧(Kd.R k51 51 w' w.heap.size (fun k_=>some k_≠(s_.1:Value).ownBlock∧some k_≠(s_.2:Value).ownBlock∧k_≠gb136) (.slice Ao9 y137.length co9) y137)∧(Kd.R k51 51 w' w.heap.size (fun k_=>some k_≠(.slice Ao9 y137.length co9:Value).ownBlock∧some k_≠(s_.2:Value).ownBlock∧k_≠gb136) s_.1 y140)∧(Kd.R k51 51 w' w.heap.size (fun k_=>some k_≠(.slice Ao9 y137.length co9:Value).ownBlock∧some k_≠(s_.1:Value).ownBlock∧k_≠gb136) s_.2 t143)∧(w'.heap[gb136]?=some (.cells #[.int .i64 a0_0, .int .i64 a0_1, .int .i64 a0_2, .int .i64 a0_3] 51 (0,0)))∧(Below w.heap.size w w')) ?_ ?_
   rotate_left
   ·intro hCont
    refine two_ (i:=1) (j:=3) (Ni:=some 11) (Nj:=some 13) #[true,true,true,false,false,false] #[true,false,true,true,false,false] rfl rfl rfl rfl (by kernel_rfl) (by decide) (by decide) (fun K hK=>?_) (fun K hK=>?_)
    ·skip
     refine Kd.R_lit_step k51 _ 51 ?hg (N:=11) ?hd (xs:=([(⟨a0_0,a0_1,a0_2,a0_3⟩:S51)]:List (S51))) (inner:=[.int .i64 a0_0, .int .i64 a0_1, .int .i64 a0_2, .int .i64 a0_3]) (ok:=fun _=>True) (okp:=fun _=>True) ?hr ?hp (fun _ hk=>hk) trivial (Below.refl _ _) (Nat.le_refl _) (by simp) ?_;(case hd=>rfl);(case hg=>rfl);(case hr=>exact Y4);(case hp=>exact (Reps.c4 (show Kd.M k51 _ _ _ (⟨a0_0,a0_1,a0_2,a0_3⟩:S51) [.int .i64 a0_0, .int .i64 a0_1, .int .i64 a0_2, .int .i64 a0_3] from (jfb _ _ _ (⟨a0_0,a0_1,a0_2,a0_3⟩:S51) )) (Reps.none _ _)))
     intro v141 w11 ho12 hb hg_ hnew_
     clear hg_ hnew_
     (first | rw [← Ny140.out] at ho12 |(simp only [Int.reduceToNat] at ho12;rw [← Ny140.out] at ho12))
     have HO142:=am (Kd.jra (Kd.R_newB (Kd.jBb ho12 (Kd.R_lt (rq HO139.out))) (g:=gb136) (o:=.cells #[.int .i64 a0_0, .int .i64 a0_1, .int .i64 a0_2, .int .i64 a0_3] 51 (0,0)) (kq BK136.out)) (jv (Y5)))
     replace HO139:=am (Kd.jYa (rq HO139.out) (Kd.jlb ho12) hb)
     replace BK136:=am (je (g:=gb136) (o:=.cells #[.int .i64 a0_0, .int .i64 a0_1, .int .i64 a0_2, .int .i64 a0_3] 51 (0,0)) (kq BK136.out) hb)
     replace HB:=am (jc (Y5) hb)
     clear hb ho12
     refine hK.out _ _ ⟨(jr BK136.out 0).trans rfl,(jr BK136.out 1).trans rfl,(jr BK136.out 2).trans rfl,(jr BK136.out 3).trans rfl⟩ (fun hHeld=>?_)
     clear hK K
     refine jGb (a':=?_) ?_ ?_
     rotate_left
     ·show Act.put _ (some 11) _=_
      simp only [Act.put,List.setIfInBounds_toArray,List.set_cons_zero,List.set_cons_succ,jcb,jdb]
      rfl
     refine one_ (i:=3) (N:=some 13) #[true,true,true,true,false,false] rfl rfl (by kernel_rfl) (by decide) (fun K hK=>?_)
     refine jqc Try.func56 (by kernel_rfl) rfl #[.slice Ao9 y137.length co9] (by rfl) rfl rfl (aq) ?_
     with_reducible refine (jwa.calls k _ _ y137 t143 _ ?side1 ?side2 A4.out).mono ?_
     (case side1=>exact cq (Kd.jw HO139.out).2.2)
     (case side2=>exact (Kd.jw HO139.out).2.1)
     rintro e w13 ⟨v144,rfl,ho0,hb⟩
     refine ⟨_,rfl,?_⟩
     have HO145:=am (Kd.jra (Kd.R_newB (Kd.jBb (Kd.jBb ho0 (Kd.R_lt (rq HO139.out))) (Kd.R_lt (rq HO142.out))) (g:=gb136) (o:=.cells #[.int .i64 a0_0, .int .i64 a0_1, .int .i64 a0_2, .int .i64 a0_3] 51 (0,0)) (kq BK136.out)) (jv (Y5)))
     replace HO139:=am (Kd.jYa (rq HO139.out) (Kd.jlb ho0) hb)
     replace HO142:=am (Kd.jYa (rq HO142.out) (Kd.jlb ho0) hb)
     replace BK136:=am (je (g:=gb136) (o:=.cells #[.int .i64 a0_0, .int .i64 a0_1, .int .i64 a0_2, .int .i64 a0_3] 51 (0,0)) (kq BK136.out) hb)
     replace HB:=am (jc (Y5) hb)
     (try clear hb)
     (try clear hb2)
     (try clear hk)
     (try clear hi)
     (try clear ho0)
     refine hK.out _ _ ⟨(jr BK136.out 0).trans rfl,(jr BK136.out 1).trans rfl,(jr BK136.out 2).trans rfl,(jr BK136.out 3).trans rfl⟩ (fun hHeld=>?_)
     clear hK K
     refine jGb (a':=?_) ?_ ?_
     rotate_left
     ·show Act.put _ (some 13) _=_
      simp only [Act.put,List.setIfInBounds_toArray,List.set_cons_zero,List.set_cons_succ,jcb,jdb]
      rfl
     exact jGb (by simp only [putAll,Act.put,List.setIfInBounds_toArray,List.set_cons_zero,List.set_cons_succ]) (hCont (v141,v144) _ ⟨hHeld,(by (with_reducible repeat (first | apply Kd.jGa | apply Kd.jKa | apply Kd.jLa));exact Kd.jca HO139.out (fun _ hk=>⟨hk.1.2,⟨hk.2,hk.1.1.2⟩⟩)),(by (with_reducible repeat (first | apply Kd.jGa | apply Kd.jKa | apply Kd.jLa));exact Kd.jca HO142.out (fun _ hk=>⟨hk.1.1.2,⟨hk.2,hk.1.2⟩⟩)),(by (with_reducible repeat (first | apply Kd.jGa | apply Kd.jKa | apply Kd.jLa));exact Kd.jca HO145.out (fun _ hk=>⟨hk.1.1.2,⟨hk.1.2,hk.2⟩⟩)),(kq BK136.out),(Y5)⟩)
    ·skip
     refine jqc Try.func56 (by kernel_rfl) rfl #[.slice Ao9 y137.length co9] (by rfl) rfl rfl (aq) ?_
     with_reducible refine (jwa.calls k _ _ y137 t143 _ ?side1 ?side2 A4.out).mono ?_
     (case side1=>exact cq (Kd.jw HO139.out).2.2)
     (case side2=>exact (Kd.jw HO139.out).2.1)
     rintro e w11 ⟨v144,rfl,ho0,hb⟩
     refine ⟨_,rfl,?_⟩
     have HO145:=am (Kd.jra (Kd.R_newB (Kd.jBb ho0 (Kd.R_lt (rq HO139.out))) (g:=gb136) (o:=.cells #[.int .i64 a0_0, .int .i64 a0_1, .int .i64 a0_2, .int .i64 a0_3] 51 (0,0)) (kq BK136.out)) (jv (Y5)))
     replace HO139:=am (Kd.jYa (rq HO139.out) (Kd.jlb ho0) hb)
     replace BK136:=am (je (g:=gb136) (o:=.cells #[.int .i64 a0_0, .int .i64 a0_1, .int .i64 a0_2, .int .i64 a0_3] 51 (0,0)) (kq BK136.out) hb)
     replace HB:=am (jc (Y5) hb)
     (try clear hb)
     (try clear hb2)
     (try clear hk)
     (try clear hi)
     (try clear ho0)
     refine hK.out _ _ ⟨(jr BK136.out 0).trans rfl,(jr BK136.out 1).trans rfl,(jr BK136.out 2).trans rfl,(jr BK136.out 3).trans rfl⟩ (fun hHeld=>?_)
     clear hK K
     refine jGb (a':=?_) ?_ ?_
     rotate_left
     ·show Act.put _ (some 13) _=_
      simp only [Act.put,List.setIfInBounds_toArray,List.set_cons_zero,List.set_cons_succ,jcb,jdb]
      rfl
     refine one_ (i:=1) (N:=some 11) #[true,true,true,true,false,false] rfl rfl (by kernel_rfl) (by decide) (fun K hK=>?_)
     refine Kd.R_lit_step k51 _ 51 ?hg (N:=11) ?hd (xs:=([(⟨a0_0,a0_1,a0_2,a0_3⟩:S51)]:List (S51))) (inner:=[.int .i64 a0_0, .int .i64 a0_1, .int .i64 a0_2, .int .i64 a0_3]) (ok:=fun _=>True) (okp:=fun _=>True) ?hr ?hp (fun _ hk=>hk) trivial (Below.refl _ _) (Nat.le_refl _) (by simp) ?_;(case hd=>rfl);(case hg=>rfl);(case hr=>exact Y4);(case hp=>exact (Reps.c4 (show Kd.M k51 _ _ _ (⟨a0_0,a0_1,a0_2,a0_3⟩:S51) [.int .i64 a0_0, .int .i64 a0_1, .int .i64 a0_2, .int .i64 a0_3] from (jfb _ _ _ (⟨a0_0,a0_1,a0_2,a0_3⟩:S51) )) (Reps.none _ _)))
     intro v141 w12 ho13 hb hg_ hnew_
     clear hg_ hnew_
     (first | rw [← Ny140.out] at ho13 |(simp only [Int.reduceToNat] at ho13;rw [← Ny140.out] at ho13))
     have HO142:=am (Kd.jra (Kd.R_newB (Kd.jBb (Kd.jBb ho13 (Kd.R_lt (rq HO139.out))) (Kd.R_lt (rq HO145.out))) (g:=gb136) (o:=.cells #[.int .i64 a0_0, .int .i64 a0_1, .int .i64 a0_2, .int .i64 a0_3] 51 (0,0)) (kq BK136.out)) (jv (Y5)))
     replace HO139:=am (Kd.jYa (rq HO139.out) (Kd.jlb ho13) hb)
     replace HO145:=am (Kd.jYa (rq HO145.out) (Kd.jlb ho13) hb)
     replace BK136:=am (je (g:=gb136) (o:=.cells #[.int .i64 a0_0, .int .i64 a0_1, .int .i64 a0_2, .int .i64 a0_3] 51 (0,0)) (kq BK136.out) hb)
     replace HB:=am (jc (Y5) hb)
     clear hb ho13
     refine hK.out _ _ ⟨(jr BK136.out 0).trans rfl,(jr BK136.out 1).trans rfl,(jr BK136.out 2).trans rfl,(jr BK136.out 3).trans rfl⟩ (fun hHeld=>?_)
     clear hK K
     refine jGb (a':=?_) ?_ ?_
     rotate_left
     ·show Act.put _ (some 11) _=_
      simp only [Act.put,List.setIfInBounds_toArray,List.set_cons_zero,List.set_cons_succ,jcb,jdb]
      rfl
     exact jGb (by simp only [putAll,Act.put,List.setIfInBounds_toArray,List.set_cons_zero,List.set_cons_succ]) (hCont (v141,v144) _ ⟨hHeld,(by (with_reducible repeat (first | apply Kd.jGa | apply Kd.jKa | apply Kd.jLa));exact Kd.jca HO139.out (fun _ hk=>⟨hk.2,⟨hk.1.2,hk.1.1.2⟩⟩)),(by (with_reducible repeat (first | apply Kd.jGa | apply Kd.jKa | apply Kd.jLa));exact Kd.jca HO142.out (fun _ hk=>⟨hk.1.1.2,⟨hk.1.2,hk.2⟩⟩)),(by (with_reducible repeat (first | apply Kd.jGa | apply Kd.jKa | apply Kd.jLa));exact Kd.jca HO145.out (fun _ hk=>⟨hk.1.1.2,⟨hk.2,hk.1.2⟩⟩)),(kq BK136.out),(Y5)⟩)
   rintro ⟨v141,v144⟩ w14 ⟨hS_,h0_,h1_,h2_,h3_,h4_⟩
   have n0_:jq (Kd.R k51 51 w14 w.heap.size (fun k_=>some k_≠(v141:Value).ownBlock∧some k_≠(v144:Value).ownBlock∧k_≠gb136) (.slice Ao9 y137.length co9) y137):=⟨h0_⟩
   have n1_:jq (Kd.R k51 51 w14 w.heap.size (fun k_=>some k_≠(.slice Ao9 y137.length co9:Value).ownBlock∧some k_≠(v144:Value).ownBlock∧k_≠gb136) v141 y140):=⟨h1_⟩
   have n2_:jq (Kd.R k51 51 w14 w.heap.size (fun k_=>some k_≠(.slice Ao9 y137.length co9:Value).ownBlock∧some k_≠(v141:Value).ownBlock∧k_≠gb136) v144 t143):=⟨h2_⟩
   have n3_:jq (w14.heap[gb136]?=some (.cells #[.int .i64 a0_0, .int .i64 a0_1, .int .i64 a0_2, .int .i64 a0_3] 51 (0,0))):=⟨h3_⟩
   have n4_:jq (Below w.heap.size w w14):=⟨h4_⟩
   clear HO139
   clear BK136
   clear HB
   clear h0_ h1_ h2_ h3_ h4_
   have HO139:=n0_
   have HO142:=n1_
   have HO145:=n2_
   have BK136:=n3_
   have HB:=n4_
   clear n0_ n1_ n2_ n3_ n4_
   have hHeld:w14.cell? ⟨gb136,0,none⟩=some (.int .i64 a0_0)∧w14.cell? ⟨gb136,1,none⟩=some (.int .i64 a0_1)∧w14.cell? ⟨gb136,2,none⟩=some (.int .i64 a0_2)∧w14.cell? ⟨gb136,3,none⟩=some (.int .i64 a0_3):=hS_
   obtain ⟨Ao16,co16,eo16⟩:=Kd.jga HO145.out
   (first | subst eo16 |(injection eo16 with f1_ f2_ f3_;have f4_:=f1_.symm;have f5_:=f3_.symm;clear f1_ f2_ f3_;subst f4_;subst f5_))
   refine jGb (a':=?_) ?_ ?_
   rotate_left
   ·simp only [putAll,Act.put,List.setIfInBounds_toArray,List.set_cons_zero,List.set_cons_succ]
    rfl
   refine one_ (i:=4) (N:=some 14) #[true,true,true,true,true,false] rfl rfl (by kernel_rfl) (by decide) (fun K hK=>?_)
   refine Kd.jCc k51 (w0:=w) w.heap.size (by rfl) (.tmp 11) (.tmp 13) 30 51 (.agg #[(.int .i64 0),(.int .i64 0),(.int .i64 0),(.int .i64 0)]) 32 rfl Try.underlying30 info51 rfl (by decide) (by omega) v141 y140 t143 _ _ _ (fun k_=>some k_≠(.slice Ao9 y137.length co9:Value).ownBlock∧some k_≠(.slice Ao16 t143.length co16:Value).ownBlock∧k_≠gb136) (fun _=>False) rfl rfl ?aO ?aR (fun _ _ h=>h) (fun _ h=>h.elim) ?aF ?aB ?aS ?aL ?_
   (case aR=>repeat (first | exact (Kd.jw HO145.out).2.2 |(with_reducible refine Kd.jMc ?_ _) |(with_reducible refine Kd.jEc ?_ _) |(with_reducible refine Kd.C_drew ?_)))
   (case aB=>exact (Y5))
   (case aF=>exact (fun k_ hk=>⟨Kd.fresh' (Kd.R_lt (rq HO139.out)) k_ hk,Kd.fresh' (Kd.R_lt (rq HO145.out)) k_ hk,Kd.freshB (g:=gb136) (o:=.cells #[.int .i64 a0_0, .int .i64 a0_1, .int .i64 a0_2, .int .i64 a0_3] 51 (0,0)) (kq BK136.out) k_ hk⟩))
   (case aO=>exact (rq HO142.out))
   (case aS=>exact (jv (Y5)))
   (case aL=>have:=LMc5.out;omega)
   intro v147 w15 ho hb hg hat
   rw [← Ny146.out] at ho
   have n0_:=am (jvc (g:=gb136) (o:=.cells #[.int .i64 a0_0, .int .i64 a0_1, .int .i64 a0_2, .int .i64 a0_3] 51 (0,0)) (kq BK136.out) hg (Kd.R_away HO142.out (fun _ hk=>hk.2.2)))
   have n1_:=am (Kd.R_after (ok:=(fun k_=>some k_≠(.slice Ao16 t143.length co16:Value).ownBlock∧k_≠gb136)) (by (with_reducible repeat (first | apply Kd.jGa | apply Kd.jKa | apply Kd.jLa));exact Kd.jca HO139.out (fun _ hk=>⟨⟨hk.2.1,hk.2.2⟩,hk.1⟩)) hg hat)
   have n2_:=am (Kd.R_after (ok:=(fun k_=>some k_≠(.slice Ao9 y137.length co9:Value).ownBlock∧k_≠gb136)) (by (with_reducible repeat (first | apply Kd.jGa | apply Kd.jKa | apply Kd.jLa));exact Kd.jca HO145.out (fun _ hk=>⟨⟨hk.1,hk.2.2⟩,hk.2.1⟩)) hg hat)
   have n3_:=am (hb)
   have n4_:=am (ho)
   clear BK136
   clear HO139
   clear HO145
   clear HB
   clear HO142
   have BK136:=n0_
   have HO139:=n1_
   have HO145:=n2_
   have HB:=n3_
   have HO148:=n4_
   clear n0_ n1_ n2_ n3_ n4_
   clear ho hb hg hat
   refine hK.out _ _ ⟨(jr BK136.out 0).trans rfl,(jr BK136.out 1).trans rfl,(jr BK136.out 2).trans rfl,(jr BK136.out 3).trans rfl⟩ (fun hHeld=>?_)
   clear hK K
   refine jGb (a':=?_) ?_ ?_
   rotate_left
   ·show Act.put _ (some 14) _=_
    simp only [Act.put,List.setIfInBounds_toArray,List.set_cons_zero,List.set_cons_succ,jcb,jdb]
    rfl
   refine pure_ (i:=5) (N:=some 4) (v:=?_) (a':=?_) #[true,true,true,true,true,true] rfl rfl (by kernel_rfl) (fun _ _ _ h=>h) (Or.inl ⟨by rfl,?_⟩) ?_ ?_
   rotate_left
   ·exact sb
   rotate_left
   ·exact sa
   refine done_ (by kernel_rfl) ?_
   try go_wp2
   go_ret
   exact ⟨_,Y0,by (with_reducible repeat (first | apply Kd.jGa | apply Kd.jKa | apply Kd.jLa));exact Kd.jca HO148.out (fun _ hk=>trivial),Y5⟩
  ·rw [if_neg c5] at H
   exact absurd H (by simp)
 ·rw [if_neg c3] at H
  have c3b0:((l1.length:Int) == 0)=false:=beq_eq_false_iff_ne.mpr c3
  have c3b1:((l1.length:Int) != 0)=true:=bne_iff_ne.mpr c3
  have c3b2:¬ (l1=[]):=fun h_=>c3 (by rw [h_];rfl)
  obtain ⟨y149,hy149⟩:∃ y_:List (S51),y_=(([(⟨a0_0,a0_1,a0_2,a0_3⟩:S51)]:List (S51))):=⟨_,rfl⟩
  replace H:((jwa.f k l1).bind fun t152=>(if y149.length+t152.length<4398046511104 then (some (y149 ++ t152)) else (none)))=some r:=by first |(rw [hy149];with_reducible exact H) |(have H2_:=(Option.bind_some _ _).symm.trans H;rw [hy149];with_reducible exact H2_) |(have H2_:=(Option.bind_some _ _).symm.trans H;with_reducible exact H2_) | with_reducible exact H |(rw [hy149];exact H) | exact H
  have Ny149:=am hy149
  clear hy149
  replace H:=bzS H
  obtain ⟨t152,A170,H⟩:=H
  replace H:(if y149.length+t152.length<4398046511104 then (some (y149 ++ t152)) else (none))=some r:=H
  have A17:=am A170
  clear A170
  by_cases c18:y149.length+t152.length<4398046511104
  ·rw [if_pos c18] at H
   have LMc18:=am c18
   clear c18
   obtain ⟨y155,hy155⟩:∃ y_:List (S51),y_=(y149 ++ t152):=⟨_,rfl⟩
   replace H:(some y155)=some r:=by first |(rw [hy155];with_reducible exact H) |(have H2_:=(Option.bind_some _ _).symm.trans H;rw [hy155];with_reducible exact H2_) |(have H2_:=(Option.bind_some _ _).symm.trans H;with_reducible exact H2_) | with_reducible exact H |(rw [hy155];exact H) | exact H
   have Ny155:=am hy155
   clear hy155
   obtain rfl:=Option.some.inj H
   go_enter Try.func36,Try.ntmps36
   try go_wp2_with (first |((with_reducible refine jB (N:=2) rfl ?_);refine bE (N:=2) (cs:=#[.int .i64 a0_0, .int .i64 a0_1, .int .i64 a0_2, .int .i64 a0_3]) (t:=51) ?_;intro gb136 hg w19 hbox hb;have BK136:=am (hbox);have GW136:=am ((Y1:w.heap.size≤gb136));have GE136:=am ((Y1:w.heap.size≤gb136));replace HB:=am (jc (bq) hb);clear hb hbox hg))
   replace BK136:=am (jS BK136.out)
   replace HB:=am (jm HB.out)
   refine jxc (n:=6) (S:=fun w'=>w'.cell? ⟨gb136,0,none⟩=some (.int .i64 a0_0)∧w'.cell? ⟨gb136,1,none⟩=some (.int .i64 a0_1)∧w'.cell? ⟨gb136,2,none⟩=some (.int .i64 a0_2)∧w'.cell? ⟨gb136,3,none⟩=some (.int .i64 a0_3)) (ds:=[]) #[false,false,false,false,false,false] (by kernel_rfl) rfl rfl ⟨(jr BK136.out 0).trans rfl,(jr BK136.out 1).trans rfl,(jr BK136.out 2).trans rfl,(jr BK136.out 3).trans rfl⟩ (fun hHeld=>?_)
   generalize w19.drew=w20 at BK136 HB hHeld ⊢
   refine pure_ (i:=2) (N:=some 12) (v:=?_) (a':=?_) #[false,false,true,false,false,false] rfl rfl (by kernel_rfl) (fun _ _ _ h=>h) (Or.inl ⟨by rfl,?_⟩) ?_ ?_
   rotate_left
   ·exact sb
   rotate_left
   ·exact sa
   refine jcc (i:=0) (N:=some 10) (v:=?_) (a':=?_) #[true,false,true,false,false,false] rfl rfl (by kernel_rfl) (fun _ _ _ h=>h) (Or.inl ⟨by rfl,?_⟩) hHeld ?_ ?_
   rotate_left
   ·rintro w' ⟨s0,s1,s2,s3⟩
    go_simp
    with_reducible rfl
   rotate_left
   ·exact sa
   refine join_ (σ:=Value × Value) 2 #[true,true,true,true,false,false] (fun s_=>[(11,s_.1),(13,s_.2)]) (fun s_ w'=>(w'.cell? ⟨gb136,0,none⟩=some (.int .i64 a0_0)∧w'.cell? ⟨gb136,1,none⟩=some (.int .i64 a0_1)∧w'.cell? ⟨gb136,2,none⟩=some (.int .i64 a0_2)∧w'.cell? ⟨gb136,3,none⟩=some (.int .i64 a0_3))∧(Kd.R k51 51 w' w.heap.size (fun k_=>some k_≠(s_.2:Value).ownBlock∧k_≠gb136) s_.1 y149)∧(Kd.R k51 51 w' w.heap.size (fun k_=>some k_≠(s_.1:Value).ownBlock∧k_≠gb136) s_.2 t152)∧(w'.heap[gb136]?=some (.cells #[.int .i64 a0_0, .int .i64 a0_1, .int .i64 a0_2, .int .i64 a0_3] 51 (0,0)))∧(Below w.heap.size w w')) ?_ ?_
   rotate_left
   ·intro hCont
    refine two_ (i:=1) (j:=3) (Ni:=some 11) (Nj:=some 13) #[true,true,true,false,false,false] #[true,false,true,true,false,false] rfl rfl rfl rfl (by kernel_rfl) (by decide) (by decide) (fun K hK=>?_) (fun K hK=>?_)
    ·skip
     refine Kd.R_lit_step k51 _ 51 ?hg (N:=11) ?hd (xs:=([(⟨a0_0,a0_1,a0_2,a0_3⟩:S51)]:List (S51))) (inner:=[.int .i64 a0_0, .int .i64 a0_1, .int .i64 a0_2, .int .i64 a0_3]) (ok:=fun _=>True) (okp:=fun _=>True) ?hr ?hp (fun _ hk=>hk) trivial (Below.refl _ _) (Nat.le_refl _) (by simp) ?_;(case hd=>rfl);(case hg=>rfl);(case hr=>exact Y4);(case hp=>exact (Reps.c4 (show Kd.M k51 _ _ _ (⟨a0_0,a0_1,a0_2,a0_3⟩:S51) [.int .i64 a0_0, .int .i64 a0_1, .int .i64 a0_2, .int .i64 a0_3] from (jfb _ _ _ (⟨a0_0,a0_1,a0_2,a0_3⟩:S51) )) (Reps.none _ _)))
     intro v150 w21 ho22 hb hg_ hnew_
     clear hg_ hnew_
     (first | rw [← Ny149.out] at ho22 |(simp only [Int.reduceToNat] at ho22;rw [← Ny149.out] at ho22))
     have HO151:=am (Kd.jra (Kd.R_newB ho22 (g:=gb136) (o:=.cells #[.int .i64 a0_0, .int .i64 a0_1, .int .i64 a0_2, .int .i64 a0_3] 51 (0,0)) (kq BK136.out)) (jv (Y5)))
     replace BK136:=am (je (g:=gb136) (o:=.cells #[.int .i64 a0_0, .int .i64 a0_1, .int .i64 a0_2, .int .i64 a0_3] 51 (0,0)) (kq BK136.out) hb)
     replace HB:=am (jc (Y5) hb)
     clear hb ho22
     refine hK.out _ _ ⟨(jr BK136.out 0).trans rfl,(jr BK136.out 1).trans rfl,(jr BK136.out 2).trans rfl,(jr BK136.out 3).trans rfl⟩ (fun hHeld=>?_)
     clear hK K
     refine jGb (a':=?_) ?_ ?_
     rotate_left
     ·show Act.put _ (some 11) _=_
      simp only [Act.put,List.setIfInBounds_toArray,List.set_cons_zero,List.set_cons_succ,jcb,jdb]
      rfl
     refine one_ (i:=3) (N:=some 13) #[true,true,true,true,false,false] rfl rfl (by kernel_rfl) (by decide) (fun K hK=>?_)
     refine jqc Try.func56 (by kernel_rfl) rfl #[.slice A1 l1.length c1] (by rfl) rfl rfl (aq) ?_
     with_reducible refine (jwa.calls k _ _ l1 t152 _ ?side1 ?side2 A17.out).mono ?_
     (case side1=>exact cq (Kd.jF HR1.out HB.out))
     (case side2=>exact HC1.out)
     rintro e w23 ⟨v153,rfl,ho0,hb⟩
     refine ⟨_,rfl,?_⟩
     have HO154:=am (Kd.jra (Kd.R_newB (Kd.jBb ho0 (Kd.R_lt (rq HO151.out))) (g:=gb136) (o:=.cells #[.int .i64 a0_0, .int .i64 a0_1, .int .i64 a0_2, .int .i64 a0_3] 51 (0,0)) (kq BK136.out)) (jv (Y5)))
     replace HO151:=am (Kd.jYa (rq HO151.out) (Kd.jlb ho0) hb)
     replace BK136:=am (je (g:=gb136) (o:=.cells #[.int .i64 a0_0, .int .i64 a0_1, .int .i64 a0_2, .int .i64 a0_3] 51 (0,0)) (kq BK136.out) hb)
     replace HB:=am (jc (Y5) hb)
     (try clear hb)
     (try clear hb2)
     (try clear hk)
     (try clear hi)
     (try clear ho0)
     refine hK.out _ _ ⟨(jr BK136.out 0).trans rfl,(jr BK136.out 1).trans rfl,(jr BK136.out 2).trans rfl,(jr BK136.out 3).trans rfl⟩ (fun hHeld=>?_)
     clear hK K
     refine jGb (a':=?_) ?_ ?_
     rotate_left
     ·show Act.put _ (some 13) _=_
      simp only [Act.put,List.setIfInBounds_toArray,List.set_cons_zero,List.set_cons_succ,jcb,jdb]
      rfl
     exact jGb (by simp only [putAll,Act.put,List.setIfInBounds_toArray,List.set_cons_zero,List.set_cons_succ]) (hCont (v150,v153) _ ⟨hHeld,(by (with_reducible repeat (first | apply Kd.jGa | apply Kd.jKa | apply Kd.jLa));exact Kd.jca HO151.out (fun _ hk=>⟨hk.2,hk.1.2⟩)),(by (with_reducible repeat (first | apply Kd.jGa | apply Kd.jKa | apply Kd.jLa));exact Kd.jca HO154.out (fun _ hk=>⟨hk.1.2,hk.2⟩)),(kq BK136.out),(Y5)⟩)
    ·skip
     refine jqc Try.func56 (by kernel_rfl) rfl #[.slice A1 l1.length c1] (by rfl) rfl rfl (aq) ?_
     with_reducible refine (jwa.calls k _ _ l1 t152 _ ?side1 ?side2 A17.out).mono ?_
     (case side1=>exact cq (Kd.jF HR1.out HB.out))
     (case side2=>exact HC1.out)
     rintro e w21 ⟨v153,rfl,ho0,hb⟩
     refine ⟨_,rfl,?_⟩
     have HO154:=am (Kd.jra (Kd.R_newB ho0 (g:=gb136) (o:=.cells #[.int .i64 a0_0, .int .i64 a0_1, .int .i64 a0_2, .int .i64 a0_3] 51 (0,0)) (kq BK136.out)) (jv (Y5)))
     replace BK136:=am (je (g:=gb136) (o:=.cells #[.int .i64 a0_0, .int .i64 a0_1, .int .i64 a0_2, .int .i64 a0_3] 51 (0,0)) (kq BK136.out) hb)
     replace HB:=am (jc (Y5) hb)
     (try clear hb)
     (try clear hb2)
     (try clear hk)
     (try clear hi)
     (try clear ho0)
     refine hK.out _ _ ⟨(jr BK136.out 0).trans rfl,(jr BK136.out 1).trans rfl,(jr BK136.out 2).trans rfl,(jr BK136.out 3).trans rfl⟩ (fun hHeld=>?_)
     clear hK K
     refine jGb (a':=?_) ?_ ?_
     rotate_left
     ·show Act.put _ (some 13) _=_
      simp only [Act.put,List.setIfInBounds_toArray,List.set_cons_zero,List.set_cons_succ,jcb,jdb]
      rfl
     refine one_ (i:=1) (N:=some 11) #[true,true,true,true,false,false] rfl rfl (by kernel_rfl) (by decide) (fun K hK=>?_)
     refine Kd.R_lit_step k51 _ 51 ?hg (N:=11) ?hd (xs:=([(⟨a0_0,a0_1,a0_2,a0_3⟩:S51)]:List (S51))) (inner:=[.int .i64 a0_0, .int .i64 a0_1, .int .i64 a0_2, .int .i64 a0_3]) (ok:=fun _=>True) (okp:=fun _=>True) ?hr ?hp (fun _ hk=>hk) trivial (Below.refl _ _) (Nat.le_refl _) (by simp) ?_;(case hd=>rfl);(case hg=>rfl);(case hr=>exact Y4);(case hp=>exact (Reps.c4 (show Kd.M k51 _ _ _ (⟨a0_0,a0_1,a0_2,a0_3⟩:S51) [.int .i64 a0_0, .int .i64 a0_1, .int .i64 a0_2, .int .i64 a0_3] from (jfb _ _ _ (⟨a0_0,a0_1,a0_2,a0_3⟩:S51) )) (Reps.none _ _)))
     intro v150 w22 ho23 hb hg_ hnew_
     clear hg_ hnew_
     (first | rw [← Ny149.out] at ho23 |(simp only [Int.reduceToNat] at ho23;rw [← Ny149.out] at ho23))
     have HO151:=am (Kd.jra (Kd.R_newB (Kd.jBb ho23 (Kd.R_lt (rq HO154.out))) (g:=gb136) (o:=.cells #[.int .i64 a0_0, .int .i64 a0_1, .int .i64 a0_2, .int .i64 a0_3] 51 (0,0)) (kq BK136.out)) (jv (Y5)))
     replace HO154:=am (Kd.jYa (rq HO154.out) (Kd.jlb ho23) hb)
     replace BK136:=am (je (g:=gb136) (o:=.cells #[.int .i64 a0_0, .int .i64 a0_1, .int .i64 a0_2, .int .i64 a0_3] 51 (0,0)) (kq BK136.out) hb)
     replace HB:=am (jc (Y5) hb)
     clear hb ho23
     refine hK.out _ _ ⟨(jr BK136.out 0).trans rfl,(jr BK136.out 1).trans rfl,(jr BK136.out 2).trans rfl,(jr BK136.out 3).trans rfl⟩ (fun hHeld=>?_)
     clear hK K
     refine jGb (a':=?_) ?_ ?_
     rotate_left
     ·show Act.put _ (some 11) _=_
      simp only [Act.put,List.setIfInBounds_toArray,List.set_cons_zero,List.set_cons_succ,jcb,jdb]
      rfl
     exact jGb (by simp only [putAll,Act.put,List.setIfInBounds_toArray,List.set_cons_zero,List.set_cons_succ]) (hCont (v150,v153) _ ⟨hHeld,(by (with_reducible repeat (first | apply Kd.jGa | apply Kd.jKa | apply Kd.jLa));exact Kd.jca HO151.out (fun _ hk=>⟨hk.1.2,hk.2⟩)),(by (with_reducible repeat (first | apply Kd.jGa | apply Kd.jKa | apply Kd.jLa));exact Kd.jca HO154.out (fun _ hk=>⟨hk.2,hk.1.2⟩)),(kq BK136.out),(Y5)⟩)
   rintro ⟨v150,v153⟩ w24 ⟨hS_,h0_,h1_,h2_,h3_⟩
   have n0_:jq (Kd.R k51 51 w24 w.heap.size (fun k_=>some k_≠(v153:Value).ownBlock∧k_≠gb136) v150 y149):=⟨h0_⟩
   have n1_:jq (Kd.R k51 51 w24 w.heap.size (fun k_=>some k_≠(v150:Value).ownBlock∧k_≠gb136) v153 t152):=⟨h1_⟩
   have n2_:jq (w24.heap[gb136]?=some (.cells #[.int .i64 a0_0, .int .i64 a0_1, .int .i64 a0_2, .int .i64 a0_3] 51 (0,0))):=⟨h2_⟩
   have n3_:jq (Below w.heap.size w w24):=⟨h3_⟩
   clear BK136
   clear HB
   clear h0_ h1_ h2_ h3_
   have HO151:=n0_
   have HO154:=n1_
   have BK136:=n2_
   have HB:=n3_
   clear n0_ n1_ n2_ n3_
   have hHeld:w24.cell? ⟨gb136,0,none⟩=some (.int .i64 a0_0)∧w24.cell? ⟨gb136,1,none⟩=some (.int .i64 a0_1)∧w24.cell? ⟨gb136,2,none⟩=some (.int .i64 a0_2)∧w24.cell? ⟨gb136,3,none⟩=some (.int .i64 a0_3):=hS_
   obtain ⟨Ao26,co26,eo26⟩:=Kd.jga HO154.out
   (first | subst eo26 |(injection eo26 with f1_ f2_ f3_;have f4_:=f1_.symm;have f5_:=f3_.symm;clear f1_ f2_ f3_;subst f4_;subst f5_))
   refine jGb (a':=?_) ?_ ?_
   rotate_left
   ·simp only [putAll,Act.put,List.setIfInBounds_toArray,List.set_cons_zero,List.set_cons_succ]
    rfl
   refine one_ (i:=4) (N:=some 14) #[true,true,true,true,true,false] rfl rfl (by kernel_rfl) (by decide) (fun K hK=>?_)
   refine Kd.jCc k51 (w0:=w) w.heap.size (by rfl) (.tmp 11) (.tmp 13) 30 51 (.agg #[(.int .i64 0),(.int .i64 0),(.int .i64 0),(.int .i64 0)]) 32 rfl Try.underlying30 info51 rfl (by decide) (by omega) v150 y149 t152 _ _ _ (fun k_=>some k_≠(.slice Ao26 t152.length co26:Value).ownBlock∧k_≠gb136) (fun _=>False) rfl rfl ?aO ?aR (fun _ _ h=>h) (fun _ h=>h.elim) ?aF ?aB ?aS ?aL ?_
   (case aR=>repeat (first | exact (Kd.jw HO154.out).2.2 |(with_reducible refine Kd.jMc ?_ _) |(with_reducible refine Kd.jEc ?_ _) |(with_reducible refine Kd.C_drew ?_)))
   (case aB=>exact (Y5))
   (case aF=>exact (fun k_ hk=>⟨Kd.fresh' (Kd.R_lt (rq HO154.out)) k_ hk,Kd.freshB (g:=gb136) (o:=.cells #[.int .i64 a0_0, .int .i64 a0_1, .int .i64 a0_2, .int .i64 a0_3] 51 (0,0)) (kq BK136.out) k_ hk⟩))
   (case aO=>exact (rq HO151.out))
   (case aS=>exact (jv (Y5)))
   (case aL=>have:=LMc18.out;omega)
   intro v156 w25 ho hb hg hat
   rw [← Ny155.out] at ho
   have n0_:=am (jvc (g:=gb136) (o:=.cells #[.int .i64 a0_0, .int .i64 a0_1, .int .i64 a0_2, .int .i64 a0_3] 51 (0,0)) (kq BK136.out) hg (Kd.R_away HO151.out (fun _ hk=>hk.2)))
   have n1_:=am (Kd.R_after (ok:=(fun k_=>k_≠gb136)) (by (with_reducible repeat (first | apply Kd.jGa | apply Kd.jKa | apply Kd.jLa));exact Kd.jca HO154.out (fun _ hk=>⟨hk.2,hk.1⟩)) hg hat)
   have n2_:=am (hb)
   have n3_:=am (ho)
   clear BK136
   clear HO154
   clear HB
   clear HO151
   have BK136:=n0_
   have HO154:=n1_
   have HB:=n2_
   have HO157:=n3_
   clear n0_ n1_ n2_ n3_
   clear ho hb hg hat
   refine hK.out _ _ ⟨(jr BK136.out 0).trans rfl,(jr BK136.out 1).trans rfl,(jr BK136.out 2).trans rfl,(jr BK136.out 3).trans rfl⟩ (fun hHeld=>?_)
   clear hK K
   refine jGb (a':=?_) ?_ ?_
   rotate_left
   ·show Act.put _ (some 14) _=_
    simp only [Act.put,List.setIfInBounds_toArray,List.set_cons_zero,List.set_cons_succ,jcb,jdb]
    rfl
   refine pure_ (i:=5) (N:=some 4) (v:=?_) (a':=?_) #[true,true,true,true,true,true] rfl rfl (by kernel_rfl) (fun _ _ _ h=>h) (Or.inl ⟨by rfl,?_⟩) ?_ ?_
   rotate_left
   ·exact sb
   rotate_left
   ·exact sa
   refine done_ (by kernel_rfl) ?_
   try go_wp2
   go_ret
   exact ⟨_,Y0,by (with_reducible repeat (first | apply Kd.jGa | apply Kd.jKa | apply Kd.jLa));exact Kd.jca HO157.out (fun _ hk=>trivial),Y5⟩
  ·rw [if_neg c18] at H
   exact absurd H (by simp)
end Go.Proofs.Ytbbmgiloikkpiaa.P
end
