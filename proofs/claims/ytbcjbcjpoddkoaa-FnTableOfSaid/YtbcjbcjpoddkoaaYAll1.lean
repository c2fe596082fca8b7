/- One part of the proofs on this program: functions of the program as plain functions, that the code comes to them, and facts on them. -/
import Derived.ArgAppend
import Derived.Below
import Derived.BigQuiet
import Derived.Deep.AppendLies
import Derived.Deep.CutBlock
import Derived.Deep.DeepCutAuto
import Derived.Deep.Draws
import Derived.Deep.LoopGhost
import Derived.Deep.OwnRows
import Derived.Deep.QuietTactic
import Derived.Deep.RegionHeld3
import Derived.KernelRfl
import Derived.Laws.BitsLemmas
import Derived.Laws.BytesArg
import Derived.Laws.IdiomCopy
import Derived.Laws.MakeOwn
import Derived.Laws.OwnMore
import Derived.Laws.Rows
import Derived.Laws.Slices
import Derived.Lib.AppendStr
import Derived.Lib.ConvBytes
import Derived.LoopTactic
import Derived.Maps.AppendAt
import Derived.OrdersHeld
import Derived.OwnWalk
import Derived.RowKit
import Derived.RowKit3
import Derived.Tactics
import Derived.WalkKit
import Derived.WideLaws
import Derived.Test.YtbcjbcjpoddkoaaProg
import Derived.Test.YtbcjbcjpoddkoaaYWApart
import Derived.Test.YtbcjbcjpoddkoaaYWAuto
import Derived.Test.YtbcjbcjpoddkoaaYWClip
import Derived.Test.YtbcjbcjpoddkoaaYWEqStruct
import Derived.Test.YtbcjbcjpoddkoaaYWFoot
import Derived.Test.YtbcjbcjpoddkoaaYWGuard
import Derived.Test.YtbcjbcjpoddkoaaYWIdx
import Derived.Test.YtbcjbcjpoddkoaaYWKept
import Derived.Test.YtbcjbcjpoddkoaaYWLast
import Derived.Test.YtbcjbcjpoddkoaaYWMkcap
import Derived.Test.YtbcjbcjpoddkoaaYWMore
import Derived.Test.YtbcjbcjpoddkoaaYWN
import Derived.Test.YtbcjbcjpoddkoaaYWRepsOne
import Derived.Test.YtbcjbcjpoddkoaaYWShare
import Derived.Test.YtbcjbcjpoddkoaaYWSome
import Derived.Test.YtbcjbcjpoddkoaaYWTab
import Derived.Test.YtbcjbcjpoddkoaaYWWords
section
namespace Go.Proofs.Ytbcjbcjpoddkoaa.P
open Go.RowKit Go.Proofs.YtbcjbcjpoddkoaaW.PrintWords Go.Proofs.YtbcjbcjpoddkoaaW.PrintLast Go.Proofs.YtbcjbcjpoddkoaaW.PrintMore
attribute [local go_sem] jla jja jya jxa jY jX jka jia jh
set_option linter.unusedVariables false
set_option linter.unusedSimpArgs false
def errW : Option Int → Value
 | none=>.nilIface
 | some c=>.iface 0 (.int .i64 c)
theorem jgc : errW none = .nilIface := rfl
theorem jfc (c : Int) : errW (some c) = .iface 0 (.int .i64 c) := rfl
theorem info3 : (Try.prog.info? 3).map (fun i => (i.zero, i.size, i.bytes)) = some (some (.int .i64 0), 1, 8) := by kernel_rfl
theorem info5 : (Try.prog.info? 5).map (fun i => (i.zero, i.size, i.bytes)) = some (some (.int .u8 0), 1, 1) := by kernel_rfl
theorem info48 : (Try.prog.info? 48).map (fun i => (i.zero, i.size, i.bytes)) = some (some (.agg #[(.int .i64 0), (.int .i64 0), (.int .i64 0), (.int .i64 0)]), 4, 32) := by kernel_rfl
theorem jBc : (Try.prog.info? 59).map (fun i => (i.zero, i.size, i.bytes)) = some (some (.agg #[(.int .i64 0), (.int .i64 0), (.int .i64 0), (.int .i64 0)]), 4, 32) := by kernel_rfl
theorem info98 : (Try.prog.info? 98).map (fun i => (i.zero, i.size, i.bytes)) = some (some (.agg #[(.string ⟨#[]⟩), (.int .i64 0)]), 2, 24) := by kernel_rfl
structure S98 where
 f0:ByteArray
 f1:Int
def z98 : S98 := ⟨(⟨#[]⟩ : ByteArray), (0 : Int)⟩
def k98 : Kd S98 := Kd.iso (Kd.pair Kd.string (Kd.int .i64)) (fun x : S98 => (x.f0, x.f1))
theorem k98_open {w : World} {x : S98} {cs : List Value} (h : k98.K w x cs) : cs = [.string x.f0, .int .i64 x.f1] := by
 obtain ⟨_,_,rfl,rfl,rfl⟩:=h
 exact rfl
theorem k98_openM {w : World} {base : Nat} {ok : Nat → Prop} {x : S98} {cs : List Value} (h : k98.M w base ok x cs) : cs = [.string x.f0, .int .i64 x.f1] := by
 obtain ⟨_,_,rfl,rfl,rfl⟩:=h
 exact rfl
theorem k98_mkM (w : World) (base : Nat) (ok : Nat → Prop) (x : S98)  : k98.M w base ok x [.string x.f0, .int .i64 x.f1] := ⟨[.string x.f0], [.int .i64 x.f1], rfl, rfl, rfl⟩
def jba (xs : List S98) (i : Int) : S98 := xs.getD i.toNat z98
theorem at_T98 {w : World} {A : Option Addr} {n : Nat} {xs : List S98} (h : Kd.C k98 w A n xs) (i : Int) (h0 : 0 ≤ i) (h1 : i < n) : ∃ ad , A = some ad ∧ w.cell? (ad.add (i.toNat * 2)) = some (.string (jba xs i).f0) ∧ w.cell? ⟨(ad.add (i.toNat * 2)).block, (ad.add (i.toNat * 2)).off + 1, none⟩ = some (.int .i64 (jba xs i).f1) := by
 obtain ⟨ad,c,e,_,hK,hc0⟩:=Kd.C_get h z98 i h0 h1
 have hc:∀ j u,c[j]?=some u→w.cell? (ad.add (i.toNat * 2+j))=some u:=hc0
 obtain rfl:=k98_open hK
 exact ⟨ad,e,hc 0 _ rfl,by rw [← jtc _ _ 1 (by omega)];exact hc 1 _ rfl⟩
structure S59 where
 f0:Int
 f1:Int
 f2:Int
 f3:Int
def z59 : S59 := ⟨(0 : Int), (0 : Int), (0 : Int), (0 : Int)⟩
def k59 : Kd S59 := Kd.iso (Kd.pair (Kd.int .i64) (Kd.pair (Kd.int .i64) (Kd.pair (Kd.int .i64) (Kd.int .i64)))) (fun x : S59 => (x.f0, x.f1, x.f2, x.f3))
theorem k59_open {w : World} {x : S59} {cs : List Value} (h : k59.K w x cs) : cs = [.int .i64 x.f0, .int .i64 x.f1, .int .i64 x.f2, .int .i64 x.f3] := by
 obtain ⟨_,_,rfl,rfl,⟨_,_,rfl,rfl,⟨_,_,rfl,rfl,rfl⟩⟩⟩:=h
 exact rfl
theorem jKc {w : World} {base : Nat} {ok : Nat → Prop} {x : S59} {cs : List Value} (h : k59.M w base ok x cs) : cs = [.int .i64 x.f0, .int .i64 x.f1, .int .i64 x.f2, .int .i64 x.f3] := by
 obtain ⟨_,_,rfl,rfl,⟨_,_,rfl,rfl,⟨_,_,rfl,rfl,rfl⟩⟩⟩:=h
 exact rfl
theorem jAb (w : World) (base : Nat) (ok : Nat → Prop) (x : S59)  : k59.M w base ok x [.int .i64 x.f0, .int .i64 x.f1, .int .i64 x.f2, .int .i64 x.f3] := ⟨[.int .i64 x.f0], [.int .i64 x.f1, .int .i64 x.f2, .int .i64 x.f3], rfl, rfl, ⟨[.int .i64 x.f1], [.int .i64 x.f2, .int .i64 x.f3], rfl, rfl, ⟨[.int .i64 x.f2], [.int .i64 x.f3], rfl, rfl, rfl⟩⟩⟩
def jd (xs : List S59) (i : Int) : S59 := xs.getD i.toNat z59
theorem jza {w : World} {A : Option Addr} {n : Nat} {xs : List S59} (h : Kd.C k59 w A n xs) (i : Int) (h0 : 0 ≤ i) (h1 : i < n) : ∃ ad , A = some ad ∧ w.cell? (ad.add (i.toNat * 4)) = some (.int .i64 (jd xs i).f0) ∧ w.cell? ⟨(ad.add (i.toNat * 4)).block, (ad.add (i.toNat * 4)).off + 1, none⟩ = some (.int .i64 (jd xs i).f1) ∧ w.cell? ⟨(ad.add (i.toNat * 4)).block, (ad.add (i.toNat * 4)).off + 2, none⟩ = some (.int .i64 (jd xs i).f2) ∧ w.cell? ⟨(ad.add (i.toNat * 4)).block, (ad.add (i.toNat * 4)).off + 3, none⟩ = some (.int .i64 (jd xs i).f3) := by
 obtain ⟨ad,c,e,_,hK,hc0⟩:=Kd.C_get h z59 i h0 h1
 have hc:∀ j u,c[j]?=some u→w.cell? (ad.add (i.toNat * 4+j))=some u:=hc0
 obtain rfl:=k59_open hK
 exact ⟨ad,e,hc 0 _ rfl,by rw [← jtc _ _ 1 (by omega)];exact hc 1 _ rfl,by rw [← jtc _ _ 2 (by omega)];exact hc 2 _ rfl,by rw [← jtc _ _ 3 (by omega)];exact hc 3 _ rfl⟩
structure S48 where
 f0:Int
 f1:Int
 f2:Int
 f3:Int
def z48 : S48 := ⟨(0 : Int), (0 : Int), (0 : Int), (0 : Int)⟩
def k48 : Kd S48 := Kd.iso (Kd.pair (Kd.int .i64) (Kd.pair (Kd.int .i64) (Kd.pair (Kd.int .i64) (Kd.int .i64)))) (fun x : S48 => (x.f0, x.f1, x.f2, x.f3))
theorem k48_open {w : World} {x : S48} {cs : List Value} (h : k48.K w x cs) : cs = [.int .i64 x.f0, .int .i64 x.f1, .int .i64 x.f2, .int .i64 x.f3] := by
 obtain ⟨_,_,rfl,rfl,⟨_,_,rfl,rfl,⟨_,_,rfl,rfl,rfl⟩⟩⟩:=h
 exact rfl
theorem k48_mkM (w : World) (base : Nat) (ok : Nat → Prop) (x : S48)  : k48.M w base ok x [.int .i64 x.f0, .int .i64 x.f1, .int .i64 x.f2, .int .i64 x.f3] := ⟨[.int .i64 x.f0], [.int .i64 x.f1, .int .i64 x.f2, .int .i64 x.f3], rfl, rfl, ⟨[.int .i64 x.f1], [.int .i64 x.f2, .int .i64 x.f3], rfl, rfl, ⟨[.int .i64 x.f2], [.int .i64 x.f3], rfl, rfl, rfl⟩⟩⟩
def jSa (xs : List S48) (i : Int) : S48 := xs.getD i.toNat z48
theorem at_T48 {w : World} {A : Option Addr} {n : Nat} {xs : List S48} (h : Kd.C k48 w A n xs) (i : Int) (h0 : 0 ≤ i) (h1 : i < n) : ∃ ad , A = some ad ∧ w.cell? (ad.add (i.toNat * 4)) = some (.int .i64 (jSa xs i).f0) ∧ w.cell? ⟨(ad.add (i.toNat * 4)).block, (ad.add (i.toNat * 4)).off + 1, none⟩ = some (.int .i64 (jSa xs i).f1) ∧ w.cell? ⟨(ad.add (i.toNat * 4)).block, (ad.add (i.toNat * 4)).off + 2, none⟩ = some (.int .i64 (jSa xs i).f2) ∧ w.cell? ⟨(ad.add (i.toNat * 4)).block, (ad.add (i.toNat * 4)).off + 3, none⟩ = some (.int .i64 (jSa xs i).f3) := by
 obtain ⟨ad,c,e,_,hK,hc0⟩:=Kd.C_get h z48 i h0 h1
 have hc:∀ j u,c[j]?=some u→w.cell? (ad.add (i.toNat * 4+j))=some u:=hc0
 obtain rfl:=k48_open hK
 exact ⟨ad,e,hc 0 _ rfl,by rw [← jtc _ _ 1 (by omega)];exact hc 1 _ rfl,by rw [← jtc _ _ 2 (by omega)];exact hc 2 _ rfl,by rw [← jtc _ _ 3 (by omega)];exact hc 3 _ rfl⟩
def jM.f (a0 : Int) (a1 : Int) (a2 : Int) : Option (Bool) := if a1 ≤ a0 then (some (decide (a0 ≤ a2))) else (some false)
set_option maxHeartbeats 8000000 in
set_option maxRecDepth 100000 in
theorem jM.calls (a0 : Int) (a1 : Int) (a2 : Int) (r : Bool) (w : World) (h : jM.f a0 a1 a2 = some r) :
  Calls Try.prog 60 #[.int .i64 a0, .int .i64 a1, .int .i64 a2] w fun e w'=>e=.returned (.bool r)∧jfb w w':=by
 have H:(if a1≤a0 then (some (decide (a0≤a2))) else (some false))=some r:=h
 clear h
 by_cases c4:a1≤a0
 ·rw [if_pos c4] at H
  have c4b0:decide (a1≤a0)=true:=dzT c4
  clear c4
  obtain rfl:=Option.some.inj H
  go_enter Try.func60,Try.ntmps60
  go_wp2
  go_ret
  exact ⟨sq,Y5⟩
 ·rw [if_neg c4] at H
  have c4b0:decide (a1≤a0)=false:=dzF c4
  clear c4
  obtain rfl:=Option.some.inj H
  go_enter Try.func60,Try.ntmps60
  go_wp2
  go_ret
  exact ⟨sq,Y5⟩
def jgb.f (l0_0 : List (S98)) (a1 : Int) : Option (Bool) := (jM.f a1 0 (wrap64 ((l0_0.length : Int) - 1))).bind fun t107 => (some t107)
set_option maxHeartbeats 8000000 in
set_option maxRecDepth 100000 in
theorem jgb.calls (A0_0 : Option Addr) (c0_0 : Nat) (l0_0 : List (S98)) (a1 : Int) (r : Bool) (w : World) (hr0_0 : Kd.C k98 w A0_0 l0_0.length l0_0) (hc0_0 : l0_0.length ≤ c0_0) (h : jgb.f l0_0 a1 = some r) :
  Calls Try.prog 59 #[.agg #[.slice A0_0 l0_0.length c0_0], .int .i64 a1] w fun e w'=>e=.returned (.bool r)∧Below w.heap.size w w':=by
 have hu32:=Try.underlying32
 have HR0_0:=am hr0_0
 have HC0_0:=am hc0_0
 clear hr0_0 hc0_0
 have HB:=am (Below.refl w.heap.size w)
 have H:((jM.f a1 0 (wrap64 ((l0_0.length:Int) - 1))).bind fun t107=>(some t107))=some r:=h
 clear h
 replace H:=bzS H
 obtain ⟨t107,A30,H⟩:=H
 replace H:(some t107)=some r:=H
 have A3:=am A30
 clear A30
 obtain rfl:=Option.some.inj H
 go_enter Try.func59,Try.ntmps59
 go_wp2_with (first |((with_reducible refine jS (N:=2) rfl ?_);refine bE (N:=2) (cs:=#[.slice A0_0 l0_0.length c0_0]) (t:=32) ?_;intro gb106 hg w4 hbox hb;have BK106:=am (hbox);have GW106:=am ((Y9:w.heap.size≤gb106));have GE106:=am ((Y9:w.heap.size≤gb106));replace HB:=am (jg (bq) hb);clear hb hbox hg;have hcz5_0:=bc0 BK106.out;have hfz5_0:=ja BK106.out 0) |((with_reducible refine je (f:=60) rfl ?_);refine gL (some 10) Try.func60 #[.int .i64 a1, .int .i64 0, .int .i64 (wrap64 ((l0_0.length:Int) - 1))] ?_;(with_reducible refine (jM.calls a1 0 (wrap64 ((l0_0.length:Int) - 1)) t107 _ A3.out).mono ?_);rintro e w' ⟨rfl,⟨nd,rfl⟩⟩;refine ⟨_,rfl,?_⟩))
 go_ret
 exact ⟨Y0,by repeat (first |(with_reducible first | exact HB.out | apply jU | apply jm | apply jR | refine jT ?_ GE106.out) | exact HB.out)⟩
def jAa.j0 : Nat → Int → Bool → List (S98) → Int → Int → Int → Int → Option (Bool)
 | 0,_,_,_,_,_,_,_=>none
 | k+1,x6,x7,x109000,x110000,x110001,x110002,x110003=>if x7=true then ((jM.f x110002 0 99).bind fun t110=>(if t110=true then (some (x110003 == 0)) else (some false))) else (if x6=2 then ((jgb.f x109000 x110002).bind fun t111=>(if t111=true then ((jM.f x110003 0 99).bind fun t112=>(some t112)) else (some false))) else (if x6=8 then ((jgb.f x109000 x110002).bind fun t113=>(if t113=true then (some (x110003 == 0)) else (some false))) else (if x6=11 then ((jM.f x110002 0 9).bind fun t114=>(if t114=true then ((jM.f x110003 0 1).bind fun t115=>(some t115)) else (some false))) else (if x6=12 then ((jM.f x110002 0 3).bind fun t116=>(if t116=true then (some (x110003 == 0)) else (some false))) else ((jM.f x110001 0 10).bind fun t117=>(if t117=true then (if x110002=0 then (some (x110003 == 0)) else (some false)) else (some false)))))))
def jAa.f (k : Nat) (l0_0 : List (S98)) (a1_0 : Int) (a1_1 : Int) (a1_2 : Int) (a1_3 : Int) : Option (Bool) := if a1_1 = 1 then (jAa.j0 k a1_1 (a1_1 == 1) l0_0 a1_0 a1_1 a1_2 a1_3) else (jAa.j0 k a1_1 (a1_1 == 4) l0_0 a1_0 a1_1 a1_2 a1_3)
set_option maxHeartbeats 8000000 in
set_option maxRecDepth 100000 in
theorem jAa.calls (k : Nat) (A0_0 : Option Addr) (c0_0 : Nat) (l0_0 : List (S98)) (a1_0 : Int) (a1_1 : Int) (a1_2 : Int) (a1_3 : Int) (r : Bool) (w : World) (hr0_0 : Kd.C k98 w A0_0 l0_0.length l0_0) (hc0_0 : l0_0.length ≤ c0_0) (h : jAa.f k l0_0 a1_0 a1_1 a1_2 a1_3 = some r) :
  Calls Try.prog 86 #[.agg #[.slice A0_0 l0_0.length c0_0], .agg #[.int .i64 a1_0, .int .i64 a1_1, .int .i64 a1_2, .int .i64 a1_3]] w fun e w'=>e=.returned (.bool r)∧Below w.heap.size w w':=by
 have hu32:=Try.underlying32
 have hu59:=Try.underlying59
 have HR0_0:=am hr0_0
 have HC0_0:=am hc0_0
 clear hr0_0 hc0_0
 have HB:=am (Below.refl w.heap.size w)
 have H:(if a1_1=1 then (jAa.j0 k a1_1 (a1_1 == 1) l0_0 a1_0 a1_1 a1_2 a1_3) else (jAa.j0 k a1_1 (a1_1 == 4) l0_0 a1_0 a1_1 a1_2 a1_3))=some r:=h
 clear h
 have HC3:=am H
 clear H
 go_enter Try.func86,Try.ntmps86
 go_upto_if 7 with (first |((with_reducible refine jS (N:=2) rfl ?_);refine bE (N:=2) (cs:=#[.slice A0_0 l0_0.length c0_0]) (t:=32) ?_;intro gb108 hg w4 hbox hb;have BK108:=am (hbox);have GW108:=am ((Y9:w.heap.size≤gb108));have GE108:=am ((Y9:w.heap.size≤gb108));replace HB:=am (jg (bq) hb);clear hb hbox hg) |((with_reducible refine jS (N:=3) rfl ?_);refine bE (N:=3) (cs:=#[.int .i64 a1_0, .int .i64 a1_1, .int .i64 a1_2, .int .i64 a1_3]) (t:=59) ?_;intro gb109 hg w5 hbox hb;have BK109:=am (hbox);have GW109:=am ((Y91:w.heap.size≤gb109));have GE109:=am ((Y91:w.heap.size≤gb109));have NB108_109:=am ((by rw [hg];exact Nat.ne_of_lt (jrb (g:=gb108) (o:=.cells #[.slice A0_0 l0_0.length c0_0] 32 (0,0)) (kq BK108.out)):gb108≠gb109));have NB109_108:=am ((by rw [hg];exact Nat.ne_of_gt (jrb (g:=gb108) (o:=.cells #[.slice A0_0 l0_0.length c0_0] 32 (0,0)) (kq BK108.out)):gb109≠gb108));replace BK108:=am (jo (g:=gb108) (o:=.cells #[.slice A0_0 l0_0.length c0_0] 32 (0,0)) (kq BK108.out) hb);replace HB:=am (jg (by repeat (first |(with_reducible first | exact HB.out | apply jU | apply jm | apply jR | refine jT ?_ GE108.out) | exact HB.out)) hb);clear hb hbox hg;have hnb6:=NB109_108.out;have hnc6:=NB108_109.out;have hcz7_0:=bc0 BK109.out;have hcz7_1:=bc1 BK109.out;have hcz7_2:=bc2 BK109.out;have hcz7_3:=bc3 BK109.out;have hfz7_0:=ja BK109.out 0;have hfz7_1:=ja BK109.out 1;have hfz7_2:=ja BK109.out 2;have hfz7_3:=ja BK109.out 3))
 (try simp only [Act.put,List.setIfInBounds_toArray,List.set_cons_zero,List.set_cons_succ])
 go_cut [7] (fun v7 wc=>∃ (kq:Nat) (x7_2:Bool),v7=.bool x7_2∧jl (jAa.j0 kq a1_1 x7_2 l0_0 a1_0 a1_1 a1_2 a1_3=some r)∧jl (kq≤k)∧jl (wc.heap[gb108]?=some (.cells #[(.slice A0_0 l0_0.length c0_0)] 32 (0,0)))∧jl (wc.heap[gb109]?=some (.cells #[.int .i64 a1_0, .int .i64 a1_1, .int .i64 a1_2, .int .i64 a1_3] 59 (0,0)))∧jl (Below w.heap.size w wc))
 case first =>
  have H:=HC3.out
  clear HC3
  by_cases c8:a1_1=1
  ·rw [if_pos c8] at H
   have c8b0:(a1_1 == 1)=true:=beq_iff_eq.mpr c8
   have c8b1:(a1_1 != 1)=false:=bne_eq_false_iff_eq.mpr c8
   clear c8
   (first | rw [c8b0] |(simp only [jlb,jmb];rw [c8b0]) | skip)
   have H':=am H
   clear H
   go_wp2
   go_meet
   case rel=>exact ⟨_,((a1_1 == 1)),(sq),H',⟨Y42⟩,⟨kq BK108.out⟩,⟨kq BK109.out⟩,⟨Y20⟩⟩
  ·rw [if_neg c8] at H
   have c8b0:(a1_1 == 1)=false:=beq_eq_false_iff_ne.mpr c8
   have c8b1:(a1_1 != 1)=true:=bne_iff_ne.mpr c8
   (first | rw [c8b0] |(simp only [jlb,jmb];rw [c8b0]) | skip)
   have H':=am H
   clear H
   go_wp2
   go_meet
   case rel=>exact ⟨_,((a1_1 == 4)),(sq),H',⟨Y42⟩,⟨kq BK108.out⟩,⟨kq BK109.out⟩,⟨Y20⟩⟩
 case rest =>
  clear HC3
  try clear p2
  try clear c6
  try clear c8
  try clear c8b0
  try clear c8b1
  try clear hcz7_0
  try clear hcz7_1
  try clear hcz7_2
  try clear hcz7_3
  try clear hfz7_0
  try clear hfz7_1
  try clear hfz7_2
  try clear hfz7_3
  obtain ⟨kq,x7_2,rfl,HA,HJ2,BK108,BK109,HB⟩:=hcut
  cases kq with
  | zero=>exact absurd HA.out (by simp [jAa.j0])
  | succ kj2 =>
   have H:=HA.out
   clear HA
   simp only [jAa.j0] at H
   by_cases c9:x7_2=true
   ·subst c9
    have H1:((jM.f a1_2 0 99).bind fun t110=>(if t110=true then (some (a1_3 == 0)) else (some false)))=some r:=by rw [if_pos rfl] at H;exact H
    clear H
    have H:=H1
    clear H1
    replace H:=bzS H
    obtain ⟨t110,A100,H⟩:=H
    replace H:(if t110=true then (some (a1_3 == 0)) else (some false))=some r:=H
    have A10:=am A100
    clear A100
    by_cases c11:t110=true
    ·subst c11
     have H1:(some (a1_3 == 0))=some r:=by rw [if_pos rfl] at H;exact H
     clear H
     have H:=H1
     clear H1
     obtain rfl:=Option.some.inj H
     have hnb12:=NB109_108.out
     have hnc12:=NB108_109.out
     have hcz13_0:=bc0 BK109.out
     have hcz13_1:=bc1 BK109.out
     have hcz13_2:=bc2 BK109.out
     have hcz13_3:=bc3 BK109.out
     have hfz13_0:=ja BK109.out 0
     have hfz13_1:=ja BK109.out 1
     have hfz13_2:=ja BK109.out 2
     have hfz13_3:=ja BK109.out 3
     go_wp2_with (first |((with_reducible refine je (f:=60) rfl ?_);refine gL (some 12) Try.func60 #[.int .i64 a1_2, .int .i64 0, .int .i64 99] ?_;(with_reducible refine (jM.calls a1_2 0 99 true _ A10.out).mono ?_);rintro e w' ⟨rfl,⟨nd,rfl⟩⟩;refine ⟨_,rfl,?_⟩))
     go_ret
     exact ⟨Y0,Y20⟩
    ·replace c11:=Bool.eq_false_iff.mpr c11
     subst c11
     have H1:(some false)=some r:=by rw [if_neg (show ¬ (false=true) by decide)] at H;exact H
     clear H
     have H:=H1
     clear H1
     obtain rfl:=Option.some.inj H
     have hnb14:=NB109_108.out
     have hnc14:=NB108_109.out
     have hcz15_0:=bc0 BK109.out
     have hcz15_1:=bc1 BK109.out
     have hcz15_2:=bc2 BK109.out
     have hcz15_3:=bc3 BK109.out
     have hfz15_0:=ja BK109.out 0
     have hfz15_1:=ja BK109.out 1
     have hfz15_2:=ja BK109.out 2
     have hfz15_3:=ja BK109.out 3
     go_wp2_with (first |((with_reducible refine je (f:=60) rfl ?_);refine gL (some 12) Try.func60 #[.int .i64 a1_2, .int .i64 0, .int .i64 99] ?_;(with_reducible refine (jM.calls a1_2 0 99 false _ A10.out).mono ?_);rintro e w' ⟨rfl,⟨nd,rfl⟩⟩;refine ⟨_,rfl,?_⟩))
     go_ret
     exact ⟨Y0,Y20⟩
   ·replace c9:=Bool.eq_false_iff.mpr c9
    subst c9
    have H1:(if a1_1=2 then ((jgb.f l0_0 a1_2).bind fun t111=>(if t111=true then ((jM.f a1_3 0 99).bind fun t112=>(some t112)) else (some false))) else (if a1_1=8 then ((jgb.f l0_0 a1_2).bind fun t113=>(if t113=true then (some (a1_3 == 0)) else (some false))) else (if a1_1=11 then ((jM.f a1_2 0 9).bind fun t114=>(if t114=true then ((jM.f a1_3 0 1).bind fun t115=>(some t115)) else (some false))) else (if a1_1=12 then ((jM.f a1_2 0 3).bind fun t116=>(if t116=true then (some (a1_3 == 0)) else (some false))) else ((jM.f a1_1 0 10).bind fun t117=>(if t117=true then (if a1_2=0 then (some (a1_3 == 0)) else (some false)) else (some false)))))))=some r:=by rw [if_neg (show ¬ (false=true) by decide)] at H;exact H
    clear H
    have H:=H1
    clear H1
    by_cases c16:a1_1=2
    ·rw [if_pos c16] at H
     have c16b0:(a1_1 == 2)=true:=beq_iff_eq.mpr c16
     have c16b1:(a1_1 != 2)=false:=bne_eq_false_iff_eq.mpr c16
     clear c16
     replace H:=bzS H
     obtain ⟨t111,A170,H⟩:=H
     replace H:(if t111=true then ((jM.f a1_3 0 99).bind fun t112=>(some t112)) else (some false))=some r:=H
     have A17:=am A170
     clear A170
     by_cases c18:t111=true
     ·subst c18
      have H1:((jM.f a1_3 0 99).bind fun t112=>(some t112))=some r:=by rw [if_pos rfl] at H;exact H
      clear H
      have H:=H1
      clear H1
      replace H:=bzS H
      obtain ⟨t112,A190,H⟩:=H
      replace H:(some t112)=some r:=H
      have A19:=am A190
      clear A190
      obtain rfl:=Option.some.inj H
      have hnb20:=NB108_109.out
      have hnc20:=NB109_108.out
      have hcz21_0:=bc0 BK108.out
      have hfz21_0:=ja BK108.out 0
      have hcz22_0:=bc0 BK109.out
      have hcz22_1:=bc1 BK109.out
      have hcz22_2:=bc2 BK109.out
      have hcz22_3:=bc3 BK109.out
      have hfz22_0:=ja BK109.out 0
      have hfz22_1:=ja BK109.out 1
      have hfz22_2:=ja BK109.out 2
      have hfz22_3:=ja BK109.out 3
      go_wp2_with (first |((with_reducible refine je (f:=59) rfl ?_);refine gL (some 23) Try.func59 #[.agg #[.slice A0_0 l0_0.length c0_0], .int .i64 a1_2] ?_;(with_reducible refine (jgb.calls _ _ l0_0 a1_2 true _ ?side1 ?side2 A17.out).mono ?_);(case side1=>exact cq (Kd.jV HR0_0.out HB.out));(case side2=>exact HC0_0.out);rintro e w23 ⟨rfl,hb⟩;refine ⟨_,rfl,?_⟩;replace BK108:=am (jo (g:=gb108) (o:=.cells #[.slice A0_0 l0_0.length c0_0] 32 (0,0)) (kq BK108.out) hb);replace BK109:=am (jo (g:=gb109) (o:=.cells #[.int .i64 a1_0, .int .i64 a1_1, .int .i64 a1_2, .int .i64 a1_3] 59 (0,0)) (kq BK109.out) hb);replace HB:=am (jg (Y20) hb);(try clear hb);(try clear hb2);(try clear hk);(try clear hi);have hcz24_0:=bc0 BK109.out;have hcz24_1:=bc1 BK109.out;have hcz24_2:=bc2 BK109.out;have hcz24_3:=bc3 BK109.out;have hfz24_0:=ja BK109.out 0;have hfz24_1:=ja BK109.out 1;have hfz24_2:=ja BK109.out 2;have hfz24_3:=ja BK109.out 3) |(go_at_call 60;(with_reducible refine (jM.calls a1_3 0 99 t112 _ A19.out).mono ?_);rintro e w' ⟨rfl,⟨nd,rfl⟩⟩))
      go_ret
      exact ⟨Y0,Y20⟩
     ·replace c18:=Bool.eq_false_iff.mpr c18
      subst c18
      have H1:(some false)=some r:=by rw [if_neg (show ¬ (false=true) by decide)] at H;exact H
      clear H
      have H:=H1
      clear H1
      obtain rfl:=Option.some.inj H
      have hnb25:=NB108_109.out
      have hnc25:=NB109_108.out
      have hcz26_0:=bc0 BK108.out
      have hfz26_0:=ja BK108.out 0
      have hcz27_0:=bc0 BK109.out
      have hcz27_1:=bc1 BK109.out
      have hcz27_2:=bc2 BK109.out
      have hcz27_3:=bc3 BK109.out
      have hfz27_0:=ja BK109.out 0
      have hfz27_1:=ja BK109.out 1
      have hfz27_2:=ja BK109.out 2
      have hfz27_3:=ja BK109.out 3
      go_wp2_with (first |((with_reducible refine je (f:=59) rfl ?_);refine gL (some 23) Try.func59 #[.agg #[.slice A0_0 l0_0.length c0_0], .int .i64 a1_2] ?_;(with_reducible refine (jgb.calls _ _ l0_0 a1_2 false _ ?side1 ?side2 A17.out).mono ?_);(case side1=>exact cq (Kd.jV HR0_0.out HB.out));(case side2=>exact HC0_0.out);rintro e w28 ⟨rfl,hb⟩;refine ⟨_,rfl,?_⟩;replace BK108:=am (jo (g:=gb108) (o:=.cells #[.slice A0_0 l0_0.length c0_0] 32 (0,0)) (kq BK108.out) hb);replace BK109:=am (jo (g:=gb109) (o:=.cells #[.int .i64 a1_0, .int .i64 a1_1, .int .i64 a1_2, .int .i64 a1_3] 59 (0,0)) (kq BK109.out) hb);replace HB:=am (jg (Y20) hb);(try clear hb);(try clear hb2);(try clear hk);(try clear hi)))
      go_ret
      exact ⟨Y0,Y20⟩
    ·rw [if_neg c16] at H
     have c16b0:(a1_1 == 2)=false:=beq_eq_false_iff_ne.mpr c16
     have c16b1:(a1_1 != 2)=true:=bne_iff_ne.mpr c16
     by_cases c29:a1_1=8
     ·rw [if_pos c29] at H
      have c29b0:(a1_1 == 8)=true:=beq_iff_eq.mpr c29
      have c29b1:(a1_1 != 8)=false:=bne_eq_false_iff_eq.mpr c29
      clear c29
      replace H:=bzS H
      obtain ⟨t113,A300,H⟩:=H
      replace H:(if t113=true then (some (a1_3 == 0)) else (some false))=some r:=H
      have A30:=am A300
      clear A300
      by_cases c31:t113=true
      ·subst c31
       have H1:(some (a1_3 == 0))=some r:=by rw [if_pos rfl] at H;exact H
       clear H
       have H:=H1
       clear H1
       obtain rfl:=Option.some.inj H
       have hnb32:=NB108_109.out
       have hnc32:=NB109_108.out
       have hcz33_0:=bc0 BK108.out
       have hfz33_0:=ja BK108.out 0
       have hcz34_0:=bc0 BK109.out
       have hcz34_1:=bc1 BK109.out
       have hcz34_2:=bc2 BK109.out
       have hcz34_3:=bc3 BK109.out
       have hfz34_0:=ja BK109.out 0
       have hfz34_1:=ja BK109.out 1
       have hfz34_2:=ja BK109.out 2
       have hfz34_3:=ja BK109.out 3
       go_wp2_with (first |((with_reducible refine je (f:=59) rfl ?_);refine gL (some 34) Try.func59 #[.agg #[.slice A0_0 l0_0.length c0_0], .int .i64 a1_2] ?_;(with_reducible refine (jgb.calls _ _ l0_0 a1_2 true _ ?side1 ?side2 A30.out).mono ?_);(case side1=>exact cq (Kd.jV HR0_0.out HB.out));(case side2=>exact HC0_0.out);rintro e w35 ⟨rfl,hb⟩;refine ⟨_,rfl,?_⟩;replace BK108:=am (jo (g:=gb108) (o:=.cells #[.slice A0_0 l0_0.length c0_0] 32 (0,0)) (kq BK108.out) hb);replace BK109:=am (jo (g:=gb109) (o:=.cells #[.int .i64 a1_0, .int .i64 a1_1, .int .i64 a1_2, .int .i64 a1_3] 59 (0,0)) (kq BK109.out) hb);replace HB:=am (jg (Y20) hb);(try clear hb);(try clear hb2);(try clear hk);(try clear hi);have hcz36_0:=bc0 BK109.out;have hcz36_1:=bc1 BK109.out;have hcz36_2:=bc2 BK109.out;have hcz36_3:=bc3 BK109.out;have hfz36_0:=ja BK109.out 0;have hfz36_1:=ja BK109.out 1;have hfz36_2:=ja BK109.out 2;have hfz36_3:=ja BK109.out 3))
       go_ret
       exact ⟨Y0,Y20⟩
      ·replace c31:=Bool.eq_false_iff.mpr c31
       subst c31
       have H1:(some false)=some r:=by rw [if_neg (show ¬ (false=true) by decide)] at H;exact H
       clear H
       have H:=H1
       clear H1
       obtain rfl:=Option.some.inj H
       have hnb37:=NB108_109.out
       have hnc37:=NB109_108.out
       have hcz38_0:=bc0 BK108.out
       have hfz38_0:=ja BK108.out 0
       have hcz39_0:=bc0 BK109.out
       have hcz39_1:=bc1 BK109.out
       have hcz39_2:=bc2 BK109.out
       have hcz39_3:=bc3 BK109.out
       have hfz39_0:=ja BK109.out 0
       have hfz39_1:=ja BK109.out 1
       have hfz39_2:=ja BK109.out 2
       have hfz39_3:=ja BK109.out 3
       go_wp2_with (first |((with_reducible refine je (f:=59) rfl ?_);refine gL (some 34) Try.func59 #[.agg #[.slice A0_0 l0_0.length c0_0], .int .i64 a1_2] ?_;(with_reducible refine (jgb.calls _ _ l0_0 a1_2 false _ ?side1 ?side2 A30.out).mono ?_);(case side1=>exact cq (Kd.jV HR0_0.out HB.out));(case side2=>exact HC0_0.out);rintro e w40 ⟨rfl,hb⟩;refine ⟨_,rfl,?_⟩;replace BK108:=am (jo (g:=gb108) (o:=.cells #[.slice A0_0 l0_0.length c0_0] 32 (0,0)) (kq BK108.out) hb);replace BK109:=am (jo (g:=gb109) (o:=.cells #[.int .i64 a1_0, .int .i64 a1_1, .int .i64 a1_2, .int .i64 a1_3] 59 (0,0)) (kq BK109.out) hb);replace HB:=am (jg (Y20) hb);(try clear hb);(try clear hb2);(try clear hk);(try clear hi)))
       go_ret
       exact ⟨Y0,Y20⟩
     ·rw [if_neg c29] at H
      have c29b0:(a1_1 == 8)=false:=beq_eq_false_iff_ne.mpr c29
      have c29b1:(a1_1 != 8)=true:=bne_iff_ne.mpr c29
      by_cases c41:a1_1=11
      ·rw [if_pos c41] at H
       have c41b0:(a1_1 == 11)=true:=beq_iff_eq.mpr c41
       have c41b1:(a1_1 != 11)=false:=bne_eq_false_iff_eq.mpr c41
       clear c41
       replace H:=bzS H
       obtain ⟨t114,A420,H⟩:=H
       replace H:(if t114=true then ((jM.f a1_3 0 1).bind fun t115=>(some t115)) else (some false))=some r:=H
       have A42:=am A420
       clear A420
       by_cases c43:t114=true
       ·subst c43
        have H1:((jM.f a1_3 0 1).bind fun t115=>(some t115))=some r:=by rw [if_pos rfl] at H;exact H
        clear H
        have H:=H1
        clear H1
        replace H:=bzS H
        obtain ⟨t115,A440,H⟩:=H
        replace H:(some t115)=some r:=H
        have A44:=am A440
        clear A440
        obtain rfl:=Option.some.inj H
        have hnb45:=NB109_108.out
        have hnc45:=NB108_109.out
        have hcz46_0:=bc0 BK109.out
        have hcz46_1:=bc1 BK109.out
        have hcz46_2:=bc2 BK109.out
        have hcz46_3:=bc3 BK109.out
        have hfz46_0:=ja BK109.out 0
        have hfz46_1:=ja BK109.out 1
        have hfz46_2:=ja BK109.out 2
        have hfz46_3:=ja BK109.out 3
        go_wp2_with (first |((with_reducible refine je (f:=60) rfl ?_);refine gL (some 44) Try.func60 #[.int .i64 a1_2, .int .i64 0, .int .i64 9] ?_;(with_reducible refine (jM.calls a1_2 0 9 true _ A42.out).mono ?_);rintro e w' ⟨rfl,⟨nd,rfl⟩⟩;refine ⟨_,rfl,?_⟩) |(go_at_call 60;(with_reducible refine (jM.calls a1_3 0 1 t115 _ A44.out).mono ?_);rintro e w' ⟨rfl,⟨nd,rfl⟩⟩))
        go_ret
        exact ⟨Y0,Y20⟩
       ·replace c43:=Bool.eq_false_iff.mpr c43
        subst c43
        have H1:(some false)=some r:=by rw [if_neg (show ¬ (false=true) by decide)] at H;exact H
        clear H
        have H:=H1
        clear H1
        obtain rfl:=Option.some.inj H
        have hnb47:=NB109_108.out
        have hnc47:=NB108_109.out
        have hcz48_0:=bc0 BK109.out
        have hcz48_1:=bc1 BK109.out
        have hcz48_2:=bc2 BK109.out
        have hcz48_3:=bc3 BK109.out
        have hfz48_0:=ja BK109.out 0
        have hfz48_1:=ja BK109.out 1
        have hfz48_2:=ja BK109.out 2
        have hfz48_3:=ja BK109.out 3
        go_wp2_with (first |((with_reducible refine je (f:=60) rfl ?_);refine gL (some 44) Try.func60 #[.int .i64 a1_2, .int .i64 0, .int .i64 9] ?_;(with_reducible refine (jM.calls a1_2 0 9 false _ A42.out).mono ?_);rintro e w' ⟨rfl,⟨nd,rfl⟩⟩;refine ⟨_,rfl,?_⟩))
        go_ret
        exact ⟨Y0,Y20⟩
      ·rw [if_neg c41] at H
       have c41b0:(a1_1 == 11)=false:=beq_eq_false_iff_ne.mpr c41
       have c41b1:(a1_1 != 11)=true:=bne_iff_ne.mpr c41
       by_cases c49:a1_1=12
       ·rw [if_pos c49] at H
        have c49b0:(a1_1 == 12)=true:=beq_iff_eq.mpr c49
        have c49b1:(a1_1 != 12)=false:=bne_eq_false_iff_eq.mpr c49
        clear c49
        replace H:=bzS H
        obtain ⟨t116,A500,H⟩:=H
        replace H:(if t116=true then (some (a1_3 == 0)) else (some false))=some r:=H
        have A50:=am A500
        clear A500
        by_cases c51:t116=true
        ·subst c51
         have H1:(some (a1_3 == 0))=some r:=by rw [if_pos rfl] at H;exact H
         clear H
         have H:=H1
         clear H1
         obtain rfl:=Option.some.inj H
         have hnb52:=NB109_108.out
         have hnc52:=NB108_109.out
         have hcz53_0:=bc0 BK109.out
         have hcz53_1:=bc1 BK109.out
         have hcz53_2:=bc2 BK109.out
         have hcz53_3:=bc3 BK109.out
         have hfz53_0:=ja BK109.out 0
         have hfz53_1:=ja BK109.out 1
         have hfz53_2:=ja BK109.out 2
         have hfz53_3:=ja BK109.out 3
         go_wp2_with (first |((with_reducible refine je (f:=60) rfl ?_);refine gL (some 54) Try.func60 #[.int .i64 a1_2, .int .i64 0, .int .i64 3] ?_;(with_reducible refine (jM.calls a1_2 0 3 true _ A50.out).mono ?_);rintro e w' ⟨rfl,⟨nd,rfl⟩⟩;refine ⟨_,rfl,?_⟩))
         go_ret
         exact ⟨Y0,Y20⟩
        ·replace c51:=Bool.eq_false_iff.mpr c51
         subst c51
         have H1:(some false)=some r:=by rw [if_neg (show ¬ (false=true) by decide)] at H;exact H
         clear H
         have H:=H1
         clear H1
         obtain rfl:=Option.some.inj H
         have hnb54:=NB109_108.out
         have hnc54:=NB108_109.out
         have hcz55_0:=bc0 BK109.out
         have hcz55_1:=bc1 BK109.out
         have hcz55_2:=bc2 BK109.out
         have hcz55_3:=bc3 BK109.out
         have hfz55_0:=ja BK109.out 0
         have hfz55_1:=ja BK109.out 1
         have hfz55_2:=ja BK109.out 2
         have hfz55_3:=ja BK109.out 3
         go_wp2_with (first |((with_reducible refine je (f:=60) rfl ?_);refine gL (some 54) Try.func60 #[.int .i64 a1_2, .int .i64 0, .int .i64 3] ?_;(with_reducible refine (jM.calls a1_2 0 3 false _ A50.out).mono ?_);rintro e w' ⟨rfl,⟨nd,rfl⟩⟩;refine ⟨_,rfl,?_⟩))
         go_ret
         exact ⟨Y0,Y20⟩
       ·rw [if_neg c49] at H
        have c49b0:(a1_1 == 12)=false:=beq_eq_false_iff_ne.mpr c49
        have c49b1:(a1_1 != 12)=true:=bne_iff_ne.mpr c49
        replace H:=bzS H
        obtain ⟨t117,A560,H⟩:=H
        replace H:(if t117=true then (if a1_2=0 then (some (a1_3 == 0)) else (some false)) else (some false))=some r:=H
        have A56:=am A560
        clear A560
        by_cases c57:t117=true
        ·subst c57
         have H1:(if a1_2=0 then (some (a1_3 == 0)) else (some false))=some r:=by rw [if_pos rfl] at H;exact H
         clear H
         have H:=H1
         clear H1
         by_cases c58:a1_2=0
         ·rw [if_pos c58] at H
          have c58b0:(a1_2 == 0)=true:=beq_iff_eq.mpr c58
          have c58b1:(a1_2 != 0)=false:=bne_eq_false_iff_eq.mpr c58
          clear c58
          obtain rfl:=Option.some.inj H
          have hnb59:=NB109_108.out
          have hnc59:=NB108_109.out
          have hcz60_0:=bc0 BK109.out
          have hcz60_1:=bc1 BK109.out
          have hcz60_2:=bc2 BK109.out
          have hcz60_3:=bc3 BK109.out
          have hfz60_0:=ja BK109.out 0
          have hfz60_1:=ja BK109.out 1
          have hfz60_2:=ja BK109.out 2
          have hfz60_3:=ja BK109.out 3
          go_wp2_with (first |((with_reducible refine je (f:=60) rfl ?_);refine gL (some 62) Try.func60 #[.int .i64 a1_1, .int .i64 0, .int .i64 10] ?_;(with_reducible refine (jM.calls a1_1 0 10 true _ A56.out).mono ?_);rintro e w' ⟨rfl,⟨nd,rfl⟩⟩;refine ⟨_,rfl,?_⟩))
          go_ret
          exact ⟨Y0,Y20⟩
         ·rw [if_neg c58] at H
          have c58b0:(a1_2 == 0)=false:=beq_eq_false_iff_ne.mpr c58
          have c58b1:(a1_2 != 0)=true:=bne_iff_ne.mpr c58
          obtain rfl:=Option.some.inj H
          have hnb61:=NB109_108.out
          have hnc61:=NB108_109.out
          have hcz62_0:=bc0 BK109.out
          have hcz62_1:=bc1 BK109.out
          have hcz62_2:=bc2 BK109.out
          have hcz62_3:=bc3 BK109.out
          have hfz62_0:=ja BK109.out 0
          have hfz62_1:=ja BK109.out 1
          have hfz62_2:=ja BK109.out 2
          have hfz62_3:=ja BK109.out 3
          go_wp2_with (first |((with_reducible refine je (f:=60) rfl ?_);refine gL (some 62) Try.func60 #[.int .i64 a1_1, .int .i64 0, .int .i64 10] ?_;(with_reducible refine (jM.calls a1_1 0 10 true _ A56.out).mono ?_);rintro e w' ⟨rfl,⟨nd,rfl⟩⟩;refine ⟨_,rfl,?_⟩))
          go_ret
          exact ⟨Y0,Y20⟩
        ·replace c57:=Bool.eq_false_iff.mpr c57
         subst c57
         have H1:(some false)=some r:=by rw [if_neg (show ¬ (false=true) by decide)] at H;exact H
         clear H
         have H:=H1
         clear H1
         obtain rfl:=Option.some.inj H
         have hnb63:=NB109_108.out
         have hnc63:=NB108_109.out
         have hcz64_0:=bc0 BK109.out
         have hcz64_1:=bc1 BK109.out
         have hcz64_2:=bc2 BK109.out
         have hcz64_3:=bc3 BK109.out
         have hfz64_0:=ja BK109.out 0
         have hfz64_1:=ja BK109.out 1
         have hfz64_2:=ja BK109.out 2
         have hfz64_3:=ja BK109.out 3
         go_wp2_with (first |((with_reducible refine je (f:=60) rfl ?_);refine gL (some 62) Try.func60 #[.int .i64 a1_1, .int .i64 0, .int .i64 10] ?_;(with_reducible refine (jM.calls a1_1 0 10 false _ A56.out).mono ?_);rintro e w' ⟨rfl,⟨nd,rfl⟩⟩;refine ⟨_,rfl,?_⟩))
         go_ret
         exact ⟨Y0,Y20⟩
def jIc.f (a0 : Int) : Option (Bool) := (jM.f a0 7 12).bind fun t118 => (some t118)
set_option maxHeartbeats 8000000 in
set_option maxRecDepth 100000 in
theorem jIc.calls (a0 : Int) (r : Bool) (w : World) (h : jIc.f a0 = some r) :
  Calls Try.prog 87 #[.int .i64 a0] w fun e w'=>e=.returned (.bool r)∧jfb w w':=by
 have H:((jM.f a0 7 12).bind fun t118=>(some t118))=some r:=h
 clear h
 replace H:=bzS H
 obtain ⟨t118,A20,H⟩:=H
 replace H:(some t118)=some r:=H
 have A2:=am A20
 clear A20
 obtain rfl:=Option.some.inj H
 go_enter Try.func87,Try.ntmps87
 go_wp2_with (first |((with_reducible refine je (f:=60) rfl ?_);refine gL (some 4) Try.func60 #[.int .i64 a0, .int .i64 7, .int .i64 12] ?_;(with_reducible refine (jM.calls a0 7 12 t118 _ A2.out).mono ?_);rintro e w' ⟨rfl,⟨nd,rfl⟩⟩;refine ⟨_,rfl,?_⟩))
 go_ret
 exact ⟨sq,Y5⟩
def jyb.f (a0 : Int) : Option (Bool) := (jM.f a0 8 10).bind fun t119 => (some t119)
set_option maxHeartbeats 8000000 in
set_option maxRecDepth 100000 in
theorem jyb.calls (a0 : Int) (r : Bool) (w : World) (h : jyb.f a0 = some r) :
  Calls Try.prog 90 #[.int .i64 a0] w fun e w'=>e=.returned (.bool r)∧jfb w w':=by
 have H:((jM.f a0 8 10).bind fun t119=>(some t119))=some r:=h
 clear h
 replace H:=bzS H
 obtain ⟨t119,A20,H⟩:=H
 replace H:(some t119)=some r:=H
 have A2:=am A20
 clear A20
 obtain rfl:=Option.some.inj H
 go_enter Try.func90,Try.ntmps90
 go_wp2_with (first |((with_reducible refine je (f:=60) rfl ?_);refine gL (some 4) Try.func60 #[.int .i64 a0, .int .i64 8, .int .i64 10] ?_;(with_reducible refine (jM.calls a0 8 10 t119 _ A2.out).mono ?_);rintro e w' ⟨rfl,⟨nd,rfl⟩⟩;refine ⟨_,rfl,?_⟩))
 go_ret
 exact ⟨sq,Y5⟩
def jqa.l0 : Nat → List (S59) → Int → Int → Option (Int)
 | 0,_,_,_=>none
 | k+1,x0,x1,x5=>if x5<(x0.length:Int) then (if 0≤x5 then (if 0≤x1 then (if x1<(x0.length:Int) then (if ((jd x0 x5).f0) > ((jd x0 x1).f0) then (jqa.l0 k x0 x1 (wrap64 (x5+1))) else (some x5)) else (none)) else (none)) else (none)) else (some x5)
def jqa.f (k : Nat) (l0 : List (S59)) (a1 : Int) : Option (Int) := jqa.l0 k l0 a1 (wrap64 (a1 + 1))
set_option maxHeartbeats 8000000 in
set_option maxRecDepth 100000 in
theorem jqa.calls (k : Nat) (A0 : Option Addr) (c0 : Nat) (l0 : List (S59)) (a1 : Int) (r : Int) (w : World) (hr0 : Kd.C k59 w A0 l0.length l0) (hc0 : l0.length ≤ c0) (h : jqa.f k l0 a1 = some r) :
  Calls Try.prog 65 #[.slice A0 l0.length c0, .int .i64 a1] w fun e w'=>e=.returned (.int .i64 r)∧jfb w w':=by
 have HR0:=am hr0
 have HC0:=am hc0
 clear hr0 hc0
 have H:(jqa.l0 k l0 a1 (wrap64 (a1+1)))=some r:=h
 clear h
 have H':=am H
 clear H
 go_enter Try.func65,Try.ntmps65
 go_wp2
 repeat (go_quiet (fail);try go_wp2)
 go_loopg [5] k (fun kq v5 w'=>∃ (x5_1:Int),v5=.int .i64 x5_1∧jl (jqa.l0 kq l0 a1 x5_1=some r)∧jl (kq≤k)∧jfb w w')
 case atStart=>exact ⟨(wrap64 (a1+1)),(sq),H',⟨Nat.le_refl _⟩,Y5⟩
 case round =>
  clear H'
  try clear p2
  obtain ⟨x5_1,rfl,HA,HK1,⟨m1,rfl⟩⟩:=hrel
  cases gk with
  | zero=>exact absurd HA.out (by simp [jqa.l0])
  | succ k1 =>
   have H:=HA.out
   clear HA
   simp only [jqa.l0] at H
   by_cases c3:x5_1<(l0.length:Int)
   ·rw [if_pos c3] at H
    have c3b0:decide (x5_1<(l0.length:Int))=true:=dzT c3
    clear c3
    by_cases c4:0≤x5_1
    ·rw [if_pos c4] at H
     have c4b0:decide (0≤x5_1)=true:=dzT c4
     clear c4
     by_cases c5:0≤a1
     ·rw [if_pos c5] at H
      have c5b0:decide (0≤a1)=true:=dzT c5
      clear c5
      by_cases c6:a1<(l0.length:Int)
      ·rw [if_pos c6] at H
       have c6b0:decide (a1<(l0.length:Int))=true:=dzT c6
       clear c6
       by_cases c7:((jd l0 x5_1).f0) > ((jd l0 a1).f0)
       ·rw [if_pos c7] at H
        have c7b0:decide (((jd l0 a1).f0)<((jd l0 x5_1).f0))=true:=dzT c7
        clear c7
        have H':=am H
        clear H
        have p120:0≤(x5_1:Int):=ozD (uq)
        have q120:x5_1<(l0.length:Int):=ozD (uq)
        obtain ⟨ad120,e120,hx120_0,hx120_1,hx120_2,hx120_3⟩:=jza HR0.out x5_1 p120 q120
        cases e120
        replace p120:=ezT p120
        replace q120:=ezT q120
        have p121:0≤(a1:Int):=ozD (uq)
        have q121:a1<(l0.length:Int):=ozD (uq)
        obtain ⟨ad121,e121,hx121_0,hx121_1,hx121_2,hx121_3⟩:=jza HR0.out a1 p121 q121
        obtain rfl:ad120=ad121:=(by injection e121)
        replace p121:=ezT p121
        replace q121:=ezT q121
        go_wp2
        repeat (go_quiet (fail);try go_wp2)
        go_roundg k1
        case measure=>have:=HK1.out;omega
        case rel=>exact ⟨(wrap64 (x5_1+1)),(sq),H',⟨by have:=HK1.out;omega⟩,Y5⟩
       ·rw [if_neg c7] at H
        have c7b0:decide (((jd l0 a1).f0)<((jd l0 x5_1).f0))=false:=dzF c7
        clear c7
        obtain rfl:=Option.some.inj H
        have p120:0≤(x5_1:Int):=ozD (uq)
        have q120:x5_1<(l0.length:Int):=ozD (uq)
        obtain ⟨ad120,e120,hx120_0,hx120_1,hx120_2,hx120_3⟩:=jza HR0.out x5_1 p120 q120
        cases e120
        replace p120:=ezT p120
        replace q120:=ezT q120
        have p121:0≤(a1:Int):=ozD (uq)
        have q121:a1<(l0.length:Int):=ozD (uq)
        obtain ⟨ad121,e121,hx121_0,hx121_1,hx121_2,hx121_3⟩:=jza HR0.out a1 p121 q121
        obtain rfl:ad120=ad121:=(by injection e121)
        replace p121:=ezT p121
        replace q121:=ezT q121
        go_wp2
        repeat (go_quiet (fail);try go_wp2)
        go_ret
        exact ⟨sq,Y5⟩
      ·rw [if_neg c6] at H
       exact absurd H (by simp)
     ·rw [if_neg c5] at H
      exact absurd H (by simp)
    ·rw [if_neg c4] at H
     exact absurd H (by simp)
   ·rw [if_neg c3] at H
    have c3b0:decide (x5_1<(l0.length:Int))=false:=dzF c3
    clear c3
    obtain rfl:=Option.some.inj H
    go_wp2
    repeat (go_quiet (fail);try go_wp2)
    go_ret
    exact ⟨sq,Y5⟩
def jZa.f (k : Nat) (l0 : List (S59)) (a1 : Int) : Option (Int) := (jqa.f k l0 a1).bind fun t122 => (if t122 < (l0.length : Int) then (if 0 ≤ t122 then (if 0 ≤ a1 then (if a1 < (l0.length : Int) then (if ((jd l0 t122).f0) = ((jd l0 a1).f0) then (some t122) else (some (l0.length : Int))) else (none)) else (none)) else (none)) else (some (l0.length : Int)))
set_option maxHeartbeats 8000000 in
set_option maxRecDepth 100000 in
theorem jZa.calls (k : Nat) (A0 : Option Addr) (c0 : Nat) (l0 : List (S59)) (a1 : Int) (r : Int) (w : World) (hr0 : Kd.C k59 w A0 l0.length l0) (hc0 : l0.length ≤ c0) (h : jZa.f k l0 a1 = some r) :
  Calls Try.prog 94 #[.slice A0 l0.length c0, .int .i64 a1] w fun e w'=>e=.returned (.int .i64 r)∧jfb w w':=by
 have HR0:=am hr0
 have HC0:=am hc0
 clear hr0 hc0
 have H:((jqa.f k l0 a1).bind fun t122=>(if t122<(l0.length:Int) then (if 0≤t122 then (if 0≤a1 then (if a1<(l0.length:Int) then (if ((jd l0 t122).f0)=((jd l0 a1).f0) then (some t122) else (some (l0.length:Int))) else (none)) else (none)) else (none)) else (some (l0.length:Int))))=some r:=h
 clear h
 replace H:=bzS H
 obtain ⟨t122,A30,H⟩:=H
 replace H:(if t122<(l0.length:Int) then (if 0≤t122 then (if 0≤a1 then (if a1<(l0.length:Int) then (if ((jd l0 t122).f0)=((jd l0 a1).f0) then (some t122) else (some (l0.length:Int))) else (none)) else (none)) else (none)) else (some (l0.length:Int)))=some r:=H
 have A3:=am A30
 clear A30
 by_cases c4:t122<(l0.length:Int)
 ·rw [if_pos c4] at H
  have c4b0:decide (t122<(l0.length:Int))=true:=dzT c4
  clear c4
  by_cases c5:0≤t122
  ·rw [if_pos c5] at H
   have c5b0:decide (0≤t122)=true:=dzT c5
   clear c5
   by_cases c6:0≤a1
   ·rw [if_pos c6] at H
    have c6b0:decide (0≤a1)=true:=dzT c6
    clear c6
    by_cases c7:a1<(l0.length:Int)
    ·rw [if_pos c7] at H
     have c7b0:decide (a1<(l0.length:Int))=true:=dzT c7
     clear c7
     by_cases c8:((jd l0 t122).f0)=((jd l0 a1).f0)
     ·rw [if_pos c8] at H
      have c8b0:(((jd l0 t122).f0) == ((jd l0 a1).f0))=true:=beq_iff_eq.mpr c8
      have c8b1:(((jd l0 t122).f0) != ((jd l0 a1).f0))=false:=bne_eq_false_iff_eq.mpr c8
      clear c8
      obtain rfl:=Option.some.inj H
      go_enter Try.func94,Try.ntmps94
      go_wp2_with (first |(go_at_call 65;(with_reducible refine (jqa.calls k _ _ l0 a1 t122 _ ?side1 ?side2 A3.out).mono ?_);(case side1=>exact Y33);(case side2=>exact HC0.out);rintro e w' ⟨rfl,⟨nd,rfl⟩⟩;(try first | exact ⟨rfl,_,World.drewN_drewN _ _ _⟩ | exact ⟨rfl,_,Eq.trans (World.drewN_drewN _ _ _) (congrArg (World.drewN _) (Nat.add_assoc _ _ _))⟩);have p123:0≤(t122:Int):=ozD (uq);have q123:t122<(l0.length:Int):=ozD (uq);obtain ⟨ad123,e123,hx123_0,hx123_1,hx123_2,hx123_3⟩:=jza HR0.out t122 p123 q123;cases e123;replace p123:=ezT p123;replace q123:=ezT q123;have p124:0≤(a1:Int):=ozD (uq);have q124:a1<(l0.length:Int):=ozD (uq);obtain ⟨ad124,e124,hx124_0,hx124_1,hx124_2,hx124_3⟩:=jza HR0.out a1 p124 q124;obtain rfl:ad123=ad124:=(by injection e124);replace p124:=ezT p124;replace q124:=ezT q124))
      repeat (go_quiet (first |(go_at_call 65;(with_reducible refine (jqa.calls k _ _ l0 a1 t122 _ ?side1 ?side2 A3.out).mono ?_);(case side1=>exact Y33);(case side2=>exact HC0.out);rintro e w' ⟨rfl,⟨nd,rfl⟩⟩;(try first | exact ⟨rfl,_,World.drewN_drewN _ _ _⟩ | exact ⟨rfl,_,Eq.trans (World.drewN_drewN _ _ _) (congrArg (World.drewN _) (Nat.add_assoc _ _ _))⟩);have p123:0≤(t122:Int):=ozD (uq);have q123:t122<(l0.length:Int):=ozD (uq);obtain ⟨ad123,e123,hx123_0,hx123_1,hx123_2,hx123_3⟩:=jza HR0.out t122 p123 q123;cases e123;replace p123:=ezT p123;replace q123:=ezT q123;have p124:0≤(a1:Int):=ozD (uq);have q124:a1<(l0.length:Int):=ozD (uq);obtain ⟨ad124,e124,hx124_0,hx124_1,hx124_2,hx124_3⟩:=jza HR0.out a1 p124 q124;obtain rfl:ad123=ad124:=(by injection e124);replace p124:=ezT p124;replace q124:=ezT q124));try go_wp2_with (first |(go_at_call 65;(with_reducible refine (jqa.calls k _ _ l0 a1 t122 _ ?side1 ?side2 A3.out).mono ?_);(case side1=>exact Y33);(case side2=>exact HC0.out);rintro e w' ⟨rfl,⟨nd,rfl⟩⟩;(try first | exact ⟨rfl,_,World.drewN_drewN _ _ _⟩ | exact ⟨rfl,_,Eq.trans (World.drewN_drewN _ _ _) (congrArg (World.drewN _) (Nat.add_assoc _ _ _))⟩);have p123:0≤(t122:Int):=ozD (uq);have q123:t122<(l0.length:Int):=ozD (uq);obtain ⟨ad123,e123,hx123_0,hx123_1,hx123_2,hx123_3⟩:=jza HR0.out t122 p123 q123;cases e123;replace p123:=ezT p123;replace q123:=ezT q123;have p124:0≤(a1:Int):=ozD (uq);have q124:a1<(l0.length:Int):=ozD (uq);obtain ⟨ad124,e124,hx124_0,hx124_1,hx124_2,hx124_3⟩:=jza HR0.out a1 p124 q124;obtain rfl:ad123=ad124:=(by injection e124);replace p124:=ezT p124;replace q124:=ezT q124)))
      go_ret
      exact ⟨sq,Y5⟩
     ·rw [if_neg c8] at H
      have c8b0:(((jd l0 t122).f0) == ((jd l0 a1).f0))=false:=beq_eq_false_iff_ne.mpr c8
      have c8b1:(((jd l0 t122).f0) != ((jd l0 a1).f0))=true:=bne_iff_ne.mpr c8
      obtain rfl:=Option.some.inj H
      go_enter Try.func94,Try.ntmps94
      go_wp2_with (first |(go_at_call 65;(with_reducible refine (jqa.calls k _ _ l0 a1 t122 _ ?side1 ?side2 A3.out).mono ?_);(case side1=>exact Y33);(case side2=>exact HC0.out);rintro e w' ⟨rfl,⟨nd,rfl⟩⟩;(try first | exact ⟨rfl,_,World.drewN_drewN _ _ _⟩ | exact ⟨rfl,_,Eq.trans (World.drewN_drewN _ _ _) (congrArg (World.drewN _) (Nat.add_assoc _ _ _))⟩);have p123:0≤(t122:Int):=ozD (uq);have q123:t122<(l0.length:Int):=ozD (uq);obtain ⟨ad123,e123,hx123_0,hx123_1,hx123_2,hx123_3⟩:=jza HR0.out t122 p123 q123;cases e123;replace p123:=ezT p123;replace q123:=ezT q123;have p124:0≤(a1:Int):=ozD (uq);have q124:a1<(l0.length:Int):=ozD (uq);obtain ⟨ad124,e124,hx124_0,hx124_1,hx124_2,hx124_3⟩:=jza HR0.out a1 p124 q124;obtain rfl:ad123=ad124:=(by injection e124);replace p124:=ezT p124;replace q124:=ezT q124))
      repeat (go_quiet (first |(go_at_call 65;(with_reducible refine (jqa.calls k _ _ l0 a1 t122 _ ?side1 ?side2 A3.out).mono ?_);(case side1=>exact Y33);(case side2=>exact HC0.out);rintro e w' ⟨rfl,⟨nd,rfl⟩⟩;(try first | exact ⟨rfl,_,World.drewN_drewN _ _ _⟩ | exact ⟨rfl,_,Eq.trans (World.drewN_drewN _ _ _) (congrArg (World.drewN _) (Nat.add_assoc _ _ _))⟩);have p123:0≤(t122:Int):=ozD (uq);have q123:t122<(l0.length:Int):=ozD (uq);obtain ⟨ad123,e123,hx123_0,hx123_1,hx123_2,hx123_3⟩:=jza HR0.out t122 p123 q123;cases e123;replace p123:=ezT p123;replace q123:=ezT q123;have p124:0≤(a1:Int):=ozD (uq);have q124:a1<(l0.length:Int):=ozD (uq);obtain ⟨ad124,e124,hx124_0,hx124_1,hx124_2,hx124_3⟩:=jza HR0.out a1 p124 q124;obtain rfl:ad123=ad124:=(by injection e124);replace p124:=ezT p124;replace q124:=ezT q124));try go_wp2_with (first |(go_at_call 65;(with_reducible refine (jqa.calls k _ _ l0 a1 t122 _ ?side1 ?side2 A3.out).mono ?_);(case side1=>exact Y33);(case side2=>exact HC0.out);rintro e w' ⟨rfl,⟨nd,rfl⟩⟩;(try first | exact ⟨rfl,_,World.drewN_drewN _ _ _⟩ | exact ⟨rfl,_,Eq.trans (World.drewN_drewN _ _ _) (congrArg (World.drewN _) (Nat.add_assoc _ _ _))⟩);have p123:0≤(t122:Int):=ozD (uq);have q123:t122<(l0.length:Int):=ozD (uq);obtain ⟨ad123,e123,hx123_0,hx123_1,hx123_2,hx123_3⟩:=jza HR0.out t122 p123 q123;cases e123;replace p123:=ezT p123;replace q123:=ezT q123;have p124:0≤(a1:Int):=ozD (uq);have q124:a1<(l0.length:Int):=ozD (uq);obtain ⟨ad124,e124,hx124_0,hx124_1,hx124_2,hx124_3⟩:=jza HR0.out a1 p124 q124;obtain rfl:ad123=ad124:=(by injection e124);replace p124:=ezT p124;replace q124:=ezT q124)))
      go_ret
      exact ⟨sq,Y5⟩
    ·rw [if_neg c7] at H
     exact absurd H (by simp)
   ·rw [if_neg c6] at H
    exact absurd H (by simp)
  ·rw [if_neg c5] at H
   exact absurd H (by simp)
 ·rw [if_neg c4] at H
  have c4b0:decide (t122<(l0.length:Int))=false:=dzF c4
  clear c4
  obtain rfl:=Option.some.inj H
  go_enter Try.func94,Try.ntmps94
  go_wp2_with (first |(go_at_call 65;(with_reducible refine (jqa.calls k _ _ l0 a1 t122 _ ?side1 ?side2 A3.out).mono ?_);(case side1=>exact Y33);(case side2=>exact HC0.out);rintro e w' ⟨rfl,⟨nd,rfl⟩⟩;(try first | exact ⟨rfl,_,World.drewN_drewN _ _ _⟩ | exact ⟨rfl,_,Eq.trans (World.drewN_drewN _ _ _) (congrArg (World.drewN _) (Nat.add_assoc _ _ _))⟩)))
  repeat (go_quiet (first |(go_at_call 65;(with_reducible refine (jqa.calls k _ _ l0 a1 t122 _ ?side1 ?side2 A3.out).mono ?_);(case side1=>exact Y33);(case side2=>exact HC0.out);rintro e w' ⟨rfl,⟨nd,rfl⟩⟩;(try first | exact ⟨rfl,_,World.drewN_drewN _ _ _⟩ | exact ⟨rfl,_,Eq.trans (World.drewN_drewN _ _ _) (congrArg (World.drewN _) (Nat.add_assoc _ _ _))⟩)));try go_wp2_with (first |(go_at_call 65;(with_reducible refine (jqa.calls k _ _ l0 a1 t122 _ ?side1 ?side2 A3.out).mono ?_);(case side1=>exact Y33);(case side2=>exact HC0.out);rintro e w' ⟨rfl,⟨nd,rfl⟩⟩;(try first | exact ⟨rfl,_,World.drewN_drewN _ _ _⟩ | exact ⟨rfl,_,Eq.trans (World.drewN_drewN _ _ _) (congrArg (World.drewN _) (Nat.add_assoc _ _ _))⟩))))
  go_ret
  exact ⟨sq,Y5⟩
def jDa.l0 : Nat → List (S59) → List Int → Int → Option (List Int)
 | 0,_,_,_=>none
 | k+1,x0,x5,x6=>if x6<(x0.length:Int) then (if 0≤x6 then ((jyb.f ((jd x0 x6).f1)).bind fun t130=>(if t130=true then (if x5.length<17592186044416 then ((jZa.f k x0 x6).bind fun t134=>(jDa.l0 k x0 (x5 ++ [x6]) t134)) else (none)) else (some x5))) else (none)) else (some x5)
def jDa.f (k : Nat) (l0 : List (S59)) (a1 : Int) : Option (List Int) := (jZa.f k l0 a1).bind fun t128 => (jDa.l0 k l0 (([a1] : List Int)) t128)
set_option maxHeartbeats 8000000 in
set_option maxRecDepth 100000 in
theorem jDa.calls (k : Nat) (A0 : Option Addr) (c0 : Nat) (l0 : List (S59)) (a1 : Int) (r : List Int) (w : World) (hr0 : Kd.C k59 w A0 l0.length l0) (hc0 : l0.length ≤ c0) (h : jDa.f k l0 a1 = some r) :
  Calls Try.prog 66 #[.slice A0 l0.length c0, .int .i64 a1] w fun e w'=>∃ v0_:Value,e=.returned (v0_)∧Kd.R (Kd.int .i64) 3 w' w.heap.size (fun _=>True) v0_ r∧Below w.heap.size w w':=by
 have HR0:=am hr0
 have HC0:=am hc0
 clear hr0 hc0
 have HB:=am (Below.refl w.heap.size w)
 have H:((jZa.f k l0 a1).bind fun t128=>(jDa.l0 k l0 (([a1]:List Int)) t128))=some r:=h
 clear h
 obtain ⟨y125,hy125⟩:∃ y_:List Int,y_=(([a1]:List Int)):=⟨_,rfl⟩
 replace H:((jZa.f k l0 a1).bind fun t128=>(jDa.l0 k l0 y125 t128))=some r:=by first |(rw [hy125];with_reducible exact H) |(have H2_:=(Option.bind_some _ _).symm.trans H;rw [hy125];with_reducible exact H2_) |(have H2_:=(Option.bind_some _ _).symm.trans H;with_reducible exact H2_) | with_reducible exact H |(rw [hy125];exact H) | exact H
 have Ny125:=am hy125
 clear hy125
 replace H:=bzS H
 obtain ⟨t128,A30,H⟩:=H
 replace H:(jDa.l0 k l0 y125 t128)=some r:=H
 have A3:=am A30
 clear A30
 have H':=am H
 clear H
 go_enter Try.func66,Try.ntmps66
 go_wp2_with (first |((with_reducible refine jS (N:=8) rfl ?_);refine Kd.jWb (Kd.int .i64) _ 3 ?hg (N:=8) ?hd (xs:=([a1]:List Int)) (inner:=[.int .i64 a1]) (ok:=fun _=>True) (okp:=fun _=>True) ?hr ?hp (fun _ hk=>hk) trivial (Below.refl _ _) (Nat.le_refl _) (by simp) ?_;(case hd=>rfl);(case hg=>rfl);(case hr=>exact Y8);(case hp=>exact (Reps.one (show Kd.M (Kd.int .i64) _ _ _ a1 [.int .i64 a1] from rfl) (Reps.none _ _)));intro v126 w4 ho5 hb hg_ hnew_;clear hg_ hnew_;(first | rw [← Ny125.out] at ho5 |(simp only [Int.reduceToNat] at ho5;rw [← Ny125.out] at ho5));have HO127:=am (Kd.jea ho5 (jta (bq)));replace HB:=am (jg (bq) hb);clear hb ho5) |((with_reducible refine je (f:=94) rfl ?_);refine gL (some 11) Try.func94 #[.slice A0 l0.length c0, .int .i64 a1] ?_;(with_reducible refine (jZa.calls k _ _ l0 a1 t128 _ ?side1 ?side2 A3.out).mono ?_);(case side1=>exact cq (Kd.jV HR0.out HB.out));(case side2=>exact HC0.out);rintro e w' ⟨rfl,⟨nd,rfl⟩⟩;refine ⟨_,rfl,?_⟩))
 go_loopg [5,6] k (fun kq v5 v6 w'=>∃ (x5_1:List Int) (x6_1:Int),v6=.int .i64 x6_1∧jl (jDa.l0 kq l0 x5_1 x6_1=some r)∧jl (kq≤k)∧jl (Kd.R (Kd.int .i64) 3 w' w.heap.size (fun _=>True) v5 x5_1)∧jl (Below w.heap.size w w'))
 case atStart=>exact ⟨(y125),(t128),(sq),H',⟨Nat.le_refl _⟩,⟨rq HO127.out⟩,⟨bq⟩⟩
 case round =>
  clear H'
  try clear p2
  obtain ⟨x5_1,x6_1,rfl,HA,HK1,HO_5,HB⟩:=hrel
  cases gk with
  | zero=>exact absurd HA.out (by simp [jDa.l0])
  | succ k1 =>
   have H:=HA.out
   clear HA
   simp only [jDa.l0] at H
   by_cases c6:x6_1<(l0.length:Int)
   ·rw [if_pos c6] at H
    have c6b0:decide (x6_1<(l0.length:Int))=true:=dzT c6
    clear c6
    by_cases c7:0≤x6_1
    ·rw [if_pos c7] at H
     have c7b0:decide (0≤x6_1)=true:=dzT c7
     clear c7
     replace H:=bzS H
     obtain ⟨t130,A80,H⟩:=H
     replace H:(if t130=true then (if x5_1.length<17592186044416 then ((jZa.f k1 l0 x6_1).bind fun t134=>(jDa.l0 k1 l0 (x5_1 ++ [x6_1]) t134)) else (none)) else (some x5_1))=some r:=H
     have A8:=am A80
     clear A80
     by_cases c9:t130=true
     ·subst c9
      have H1:(if x5_1.length<17592186044416 then ((jZa.f k1 l0 x6_1).bind fun t134=>(jDa.l0 k1 l0 (x5_1 ++ [x6_1]) t134)) else (none))=some r:=by rw [if_pos rfl] at H;exact H
      clear H
      have H:=H1
      clear H1
      by_cases c10:x5_1.length<17592186044416
      ·rw [if_pos c10] at H
       have LMc10:=am c10
       clear c10
       obtain ⟨y131,hy131⟩:∃ y_:List Int,y_=(x5_1 ++ [x6_1]):=⟨_,rfl⟩
       replace H:((jZa.f k1 l0 x6_1).bind fun t134=>(jDa.l0 k1 l0 y131 t134))=some r:=by first |(rw [hy131];with_reducible exact H) |(have H2_:=(Option.bind_some _ _).symm.trans H;rw [hy131];with_reducible exact H2_) |(have H2_:=(Option.bind_some _ _).symm.trans H;with_reducible exact H2_) | with_reducible exact H |(rw [hy131];exact H) | exact H
       have Ny131:=am hy131
       clear hy131
       replace H:=bzS H
       obtain ⟨t134,A110,H⟩:=H
       replace H:(jDa.l0 k1 l0 y131 t134)=some r:=H
       have A11:=am A110
       clear A110
       have H':=am H
       clear H
       have p129:0≤(x6_1:Int):=ozD (uq)
       have q129:x6_1<(l0.length:Int):=ozD (uq)
       obtain ⟨ad129,e129,hx129_0,hx129_1,hx129_2,hx129_3⟩:=jza HR0.out x6_1 p129 q129
       cases e129
       replace hx129_0:=cb HB.out hx129_0
       replace hx129_1:=cb HB.out hx129_1
       replace hx129_2:=cb HB.out hx129_2
       replace hx129_3:=cb HB.out hx129_3
       replace p129:=ezT p129
       replace q129:=ezT q129
       go_wp2_with (first |(go_at_call 90;(with_reducible refine (jyb.calls ((jd l0 x6_1).f1) true _ A8.out).mono ?_);rintro e w' ⟨rfl,⟨nd,rfl⟩⟩) |((with_reducible refine jLa (b:=.append) (xs:=#[.tmp 27, .tmp 29]) rfl ?_);at_builtin;refine Kd.jVb (Kd.int .i64) (w0:=w) w.heap.size rfl (.tmp 27) (.tmp 29) 65 3 (.int .i64 0) 8 rfl Try.underlying65 info3 rfl (by decide) (by omega) u5 x5_1 x6_1 [.int .i64 x6_1] (fun _=>True) (fun _=>False) rfl rfl ?aP (fun _ hk=>hk.elim) ?aF ?aO ?aB ?aS ?aL ?_;(case aP=>exact rfl);(case aB=>exact (bq));(case aF=>exact (fun _ _=>trivial));(case aO=>exact (rq HO_5.out));(case aS=>exact (jta (bq)));(case aL=>have:=LMc10.out;omega);intro v132 w12 ho hb hg hat;rw [← Ny131.out] at ho;have n0_:=am (hb);have n1_:=am (ho);clear HB HO_5;have HB:=n0_;have HO133:=n1_;clear n0_ n1_ ho hb hg hat) |((with_reducible refine je (f:=94) rfl ?_);refine gL (some 26) Try.func94 #[.slice (some ad129) l0.length c0, .int .i64 x6_1] ?_;(with_reducible refine (jZa.calls k1 _ _ l0 x6_1 t134 _ ?side1 ?side2 A11.out).mono ?_);(case side1=>exact cq (Kd.jV HR0.out HB.out));(case side2=>exact HC0.out);rintro e w' ⟨rfl,⟨nd,rfl⟩⟩;refine ⟨_,rfl,?_⟩))
       go_roundg k1
       case measure=>have:=HK1.out;omega
       case rel=>exact ⟨(y131),(t134),(sq),H',⟨by have:=HK1.out;omega⟩,⟨rq HO133.out⟩,⟨bq⟩⟩
      ·rw [if_neg c10] at H
       exact absurd H (by simp)
     ·replace c9:=Bool.eq_false_iff.mpr c9
      subst c9
      have H1:(some x5_1)=some r:=by rw [if_neg (show ¬ (false=true) by decide)] at H;exact H
      clear H
      have H:=H1
      clear H1
      obtain rfl:=Option.some.inj H
      have p129:0≤(x6_1:Int):=ozD (uq)
      have q129:x6_1<(l0.length:Int):=ozD (uq)
      obtain ⟨ad129,e129,hx129_0,hx129_1,hx129_2,hx129_3⟩:=jza HR0.out x6_1 p129 q129
      cases e129
      replace hx129_0:=cb HB.out hx129_0
      replace hx129_1:=cb HB.out hx129_1
      replace hx129_2:=cb HB.out hx129_2
      replace hx129_3:=cb HB.out hx129_3
      replace p129:=ezT p129
      replace q129:=ezT q129
      go_wp2_with (first |(go_at_call 90;(with_reducible refine (jyb.calls ((jd l0 x6_1).f1) false _ A8.out).mono ?_);rintro e w' ⟨rfl,⟨nd,rfl⟩⟩))
      go_ret
      exact ⟨_,Y0,rq HO_5.out,bq⟩
    ·rw [if_neg c7] at H
     exact absurd H (by simp)
   ·rw [if_neg c6] at H
    have c6b0:decide (x6_1<(l0.length:Int))=false:=dzF c6
    clear c6
    obtain rfl:=Option.some.inj H
    go_wp2
    go_ret
    exact ⟨_,Y0,rq HO_5.out,bq⟩
mutual
def jG.l0 : Nat → List (S59) → List Int → Int → Int → Option (Bool)
 | 0,_,_,_,_=>none
 | k+1,x0,x5,x6,x7=>if x7<(x5.length:Int) then (if 0≤x7 then (if 0≤(rd x5 x7) then (if (rd x5 x7)<(x0.length:Int) then (if ((jd x0 (rd x5 x7)).f1)=8 then (jG.j1 k x0 x5 (wrap64 (x6+1)) x7 ((jd x0 (rd x5 x7)).f1)) else (jG.j1 k x0 x5 x6 x7 ((jd x0 (rd x5 x7)).f1))) else (none)) else (none)) else (none)) else (if (x5.length:Int) > 1 then (some (decide (x6≤6))) else (some false))
def jG.j1 : Nat → List (S59) → List Int → Int → Int → Int → Option (Bool)
 | 0,_,_,_,_,_=>none
 | k+1,x0,x5,x6,x7,x8=>if x7 > 1 then (if 0≤(wrap64 (x7 - 1)) then (if (wrap64 (x7 - 1))<(x5.length:Int) then (if 0≤(rd x5 (wrap64 (x7 - 1))) then (if (rd x5 (wrap64 (x7 - 1)))<(x0.length:Int) then (if x8<((jd x0 (rd x5 (wrap64 (x7 - 1)))).f1) then (jG.j2 k x0 x5 x6 x7 true) else (if x8=((jd x0 (rd x5 (wrap64 (x7 - 1)))).f1) then (if x8=8 then (if x8=9 then (jG.j2 k x0 x5 x6 x7 (x6 == 0)) else (jG.j2 k x0 x5 x6 x7 false)) else (jG.j2 k x0 x5 x6 x7 true)) else (if x8=9 then (jG.j2 k x0 x5 x6 x7 (x6 == 0)) else (jG.j2 k x0 x5 x6 x7 false)))) else (none)) else (none)) else (none)) else (none)) else (if x8=9 then (jG.j2 k x0 x5 x6 x7 (x6 == 0)) else (jG.j2 k x0 x5 x6 x7 false))
def jG.j2 : Nat → List (S59) → List Int → Int → Int → Bool → Option (Bool)
 | 0,_,_,_,_,_=>none
 | k+1,x0,x5,x6,x7,x69=>if x69=true then (some false) else (jG.l0 k x0 x5 x6 (wrap64 (x7+1)))
end
def jG.f (k : Nat) (l0 : List (S59)) (a1 : Int) : Option (Bool) := (jDa.f k l0 a1).bind fun t135 => (jG.l0 k l0 t135 0 1)
set_option maxHeartbeats 8000000 in
set_option maxRecDepth 100000 in
theorem jG.calls (k : Nat) (A0 : Option Addr) (c0 : Nat) (l0 : List (S59)) (a1 : Int) (r : Bool) (w : World) (hr0 : Kd.C k59 w A0 l0.length l0) (hc0 : l0.length ≤ c0) (h : jG.f k l0 a1 = some r) :
  Calls Try.prog 88 #[.slice A0 l0.length c0, .int .i64 a1] w fun e w'=>e=.returned (.bool r)∧Below w.heap.size w w':=by
 have HR0:=am hr0
 have HC0:=am hc0
 clear hr0 hc0
 have HB:=am (Below.refl w.heap.size w)
 have H:((jDa.f k l0 a1).bind fun t135=>(jG.l0 k l0 t135 0 1))=some r:=h
 clear h
 replace H:=bzS H
 obtain ⟨t135,A30,H⟩:=H
 replace H:(jG.l0 k l0 t135 0 1)=some r:=H
 have A3:=am A30
 clear A30
 have H':=am H
 clear H
 go_enter Try.func88,Try.ntmps88
 go_wp2_with (first |((with_reducible refine je (f:=66) rfl ?_);refine gL (some 11) Try.func66 #[.slice A0 l0.length c0, .int .i64 a1] ?_;(with_reducible refine (jDa.calls k _ _ l0 a1 t135 _ ?side1 ?side2 A3.out).mono ?_);(case side1=>exact Y33);(case side2=>exact HC0.out);rintro e w4 ⟨v136,rfl,ho0,hb⟩;refine ⟨_,rfl,?_⟩;have HO137:=am (Kd.jea ho0 (jta (bq)));replace HB:=am (jg (bq) hb);(try clear hb);(try clear hb2);(try clear hk);(try clear hi);(try clear ho0)))
 go_loopg [6,7] k (fun kq v6 v7 w'=>∃ (x6_1:Int) (x7_1:Int),v6=.int .i64 x6_1∧v7=.int .i64 x7_1∧jl (jG.l0 kq l0 t135 x6_1 x7_1=some r)∧jl (kq≤k)∧jl (Kd.R (Kd.int .i64) 3 w' w.heap.size (fun _=>True) v136 t135)∧jl (Below w.heap.size w w'))
 case atStart=>exact ⟨(0),(1),(sq),(sq),H',⟨Nat.le_refl _⟩,⟨rq HO137.out⟩,⟨bq⟩⟩
 case round =>
  clear H'
  try clear p2
  obtain ⟨x6_1,x7_1,rfl,rfl,HA,HK1,HO_5,HB⟩:=hrel
  cases gk with
  | zero=>exact absurd HA.out (by simp [jG.l0])
  | succ k1 =>
   have H:=HA.out
   clear HA
   simp only [jG.l0] at H
   by_cases c5:x7_1<(t135.length:Int)
   ·rw [if_pos c5] at H
    have c5b0:decide (x7_1<(t135.length:Int))=true:=dzT c5
    clear c5
    by_cases c6:0≤x7_1
    ·rw [if_pos c6] at H
     have c6b0:decide (0≤x7_1)=true:=dzT c6
     clear c6
     by_cases c7:0≤(rd t135 x7_1)
     ·rw [if_pos c7] at H
      have c7b0:decide (0≤(rd t135 x7_1))=true:=dzT c7
      clear c7
      by_cases c8:(rd t135 x7_1)<(l0.length:Int)
      ·rw [if_pos c8] at H
       have c8b0:decide ((rd t135 x7_1)<(l0.length:Int))=true:=dzT c8
       clear c8
       have HC9:=am H
       clear H
       obtain ⟨Ao10,co10,eo10⟩:=Kd.jsa HO_5.out
       subst eo10
       have p138:0≤(x7_1:Int):=ozD (uq)
       have q138:x7_1<(t135.length:Int):=ozD (uq)
       obtain ⟨ad138,e138,hx138_0⟩:=Kd.jsb (Kd.jE HO_5.out).2.2 x7_1 p138 q138
       cases e138
       replace p138:=ezT p138
       replace q138:=ezT q138
       have p139:0≤((rd t135 x7_1):Int):=ozD (uq)
       have q139:(rd t135 x7_1)<(l0.length:Int):=ozD (uq)
       obtain ⟨ad139,e139,hx139_0,hx139_1,hx139_2,hx139_3⟩:=jza HR0.out (rd t135 x7_1) p139 q139
       cases e139
       replace hx139_0:=cb HB.out hx139_0
       replace hx139_1:=cb HB.out hx139_1
       replace hx139_2:=cb HB.out hx139_2
       replace hx139_3:=cb HB.out hx139_3
       replace p139:=ezT p139
       replace q139:=ezT q139
       go_upto_if 27 with (fail)
       go_cut [6] (fun v6 wc=>∃ (kq:Nat) (x6_8:Int),v6=.int .i64 x6_8∧jl (jG.j1 kq l0 t135 x6_8 x7_1 ((jd l0 (rd t135 x7_1)).f1)=some r)∧jl (kq≤k1)∧jl (Kd.R (Kd.int .i64) 3 wc w.heap.size (fun _=>True) (.slice (some ad138) t135.length co10) t135)∧jl (Below w.heap.size w wc))
       case first =>
        have H:=HC9.out
        clear HC9
        by_cases c11:((jd l0 (rd t135 x7_1)).f1)=8
        ·rw [if_pos c11] at H
         have c11b0:(((jd l0 (rd t135 x7_1)).f1) == 8)=true:=beq_iff_eq.mpr c11
         have c11b1:(((jd l0 (rd t135 x7_1)).f1) != 8)=false:=bne_eq_false_iff_eq.mpr c11
         clear c11
         (first | rw [c11b0] |(simp only [jlb,jmb];rw [c11b0]) | skip)
         have H':=am H
         clear H
         go_wp2
         go_meet
         case rel=>exact ⟨_,(wrap64 (x6_1+1)),(sq),H',⟨by have:=HK1.out;first | omega | exact Nat.le_refl _⟩,⟨rq HO_5.out⟩,⟨bq⟩⟩
        ·rw [if_neg c11] at H
         have c11b0:(((jd l0 (rd t135 x7_1)).f1) == 8)=false:=beq_eq_false_iff_ne.mpr c11
         have c11b1:(((jd l0 (rd t135 x7_1)).f1) != 8)=true:=bne_iff_ne.mpr c11
         (first | rw [c11b0] |(simp only [jlb,jmb];rw [c11b0]) | skip)
         have H':=am H
         clear H
         go_wp2
         go_meet
         case rel=>exact ⟨_,(x6_1),(sq),H',⟨by have:=HK1.out;first | omega | exact Nat.le_refl _⟩,⟨rq HO_5.out⟩,⟨bq⟩⟩
       case rest =>
        clear HC9
        try clear c1
        try clear p1
        try clear q1
        try clear hx1
        try clear p2
        try clear c5
        try clear c5b0
        try clear c6
        try clear c6b0
        try clear p6
        try clear c7
        try clear c7b0
        try clear c8
        try clear c8b0
        try clear c11
        try clear c11b0
        try clear c11b1
        try clear hx138_0
        try clear hx139_0
        try clear hx139_1
        try clear hx139_2
        try clear hx139_3
        try clear p138
        try clear p139
        try clear p2
        try clear q138
        try clear q139
        obtain ⟨kq,x6_8,rfl,HA,HJ8,HO_5,HB⟩:=hcut
        cases kq with
        | zero=>exact absurd HA.out (by simp [jG.j1])
        | succ kj8 =>
         have H:=HA.out
         clear HA
         simp only [jG.j1] at H
         have HC12:=am H
         clear H
         go_upto_region 9 with (fail)
         go_cut [69] (fun v69 wc=>∃ (kq:Nat) (x69_11:Bool),v69=.bool x69_11∧jl (jG.j2 kq l0 t135 x6_8 x7_1 x69_11=some r)∧jl (kq≤kj8)∧jl (Kd.R (Kd.int .i64) 3 wc w.heap.size (fun _=>True) (.slice (some ad138) t135.length co10) t135)∧jl (Below w.heap.size w wc))
         case first =>
          have H:=HC12.out
          clear HC12
          by_cases c13:x7_1 > 1
          ·rw [if_pos c13] at H
           have c13b0:decide (1<x7_1)=true:=dzT c13
           clear c13
           (first | rw [c13b0] |(simp only [jlb,jmb];rw [c13b0]) | skip)
           obtain ⟨ji14,hji14⟩:∃ j_:Int,(wrap64 (x7_1 - 1))=j_:=⟨_,rfl⟩
           replace H:(if 0≤(ji14) then (if (ji14)<(t135.length:Int) then (if 0≤(rd t135 (ji14)) then (if (rd t135 (ji14))<(l0.length:Int) then (if ((jd l0 (rd t135 x7_1)).f1)<((jd l0 (rd t135 (ji14))).f1) then (jG.j2 kj8 l0 t135 x6_8 x7_1 true) else (if ((jd l0 (rd t135 x7_1)).f1)=((jd l0 (rd t135 (ji14))).f1) then (if ((jd l0 (rd t135 x7_1)).f1)=8 then (if ((jd l0 (rd t135 x7_1)).f1)=9 then (jG.j2 kj8 l0 t135 x6_8 x7_1 (x6_8 == 0)) else (jG.j2 kj8 l0 t135 x6_8 x7_1 false)) else (jG.j2 kj8 l0 t135 x6_8 x7_1 true)) else (if ((jd l0 (rd t135 x7_1)).f1)=9 then (jG.j2 kj8 l0 t135 x6_8 x7_1 (x6_8 == 0)) else (jG.j2 kj8 l0 t135 x6_8 x7_1 false)))) else (none)) else (none)) else (none)) else (none))=some r:=by first |(rw [hji14] at H;exact H) |(simp only [hji14] at H ⊢;exact H)
           have hji14w:(IntKind.i64.wrap (x7_1 - 1))=ji14:=(jlb _).trans hji14
           by_cases c15:0≤(ji14)
           ·rw [if_pos c15] at H
            have c15b0:decide (0≤(ji14))=true:=dzT c15
            clear c15
            by_cases c16:(ji14)<(t135.length:Int)
            ·rw [if_pos c16] at H
             have c16b0:decide ((ji14)<(t135.length:Int))=true:=dzT c16
             clear c16
             by_cases c17:0≤(rd t135 (ji14))
             ·rw [if_pos c17] at H
              have c17b0:decide (0≤(rd t135 (ji14)))=true:=dzT c17
              clear c17
              by_cases c18:(rd t135 (ji14))<(l0.length:Int)
              ·rw [if_pos c18] at H
               have c18b0:decide ((rd t135 (ji14))<(l0.length:Int))=true:=dzT c18
               clear c18
               by_cases c19:((jd l0 (rd t135 x7_1)).f1)<((jd l0 (rd t135 (ji14))).f1)
               ·rw [if_pos c19] at H
                have c19b0:decide (((jd l0 (rd t135 x7_1)).f1)<((jd l0 (rd t135 (ji14))).f1))=true:=dzT c19
                clear c19
                have H':=am H
                clear H
                have p140:0≤((ji14):Int):=ozD (uq)
                have q140:(ji14)<(t135.length:Int):=ozD (uq)
                obtain ⟨ad140,e140,hx140_0⟩:=Kd.jsb (Kd.jE HO_5.out).2.2 (ji14) p140 q140
                obtain rfl:ad138=ad140:=(by injection e140)
                replace p140:=ezT p140
                replace q140:=ezT q140
                have p141:0≤((rd t135 (ji14)):Int):=ozD (uq)
                have q141:(rd t135 (ji14))<(l0.length:Int):=ozD (uq)
                obtain ⟨ad141,e141,hx141_0,hx141_1,hx141_2,hx141_3⟩:=jza HR0.out (rd t135 (ji14)) p141 q141
                obtain rfl:ad139=ad141:=(by injection e141)
                replace hx141_0:=cb HB.out hx141_0
                replace hx141_1:=cb HB.out hx141_1
                replace hx141_2:=cb HB.out hx141_2
                replace hx141_3:=cb HB.out hx141_3
                replace p141:=ezT p141
                replace q141:=ezT q141
                go_wp2
                go_meet
                case rel=>exact ⟨_,(true),(sq),H',⟨by have:=HK1.out;have:=HJ8.out;first | omega | exact Nat.le_refl _⟩,⟨rq HO_5.out⟩,⟨bq⟩⟩
               ·rw [if_neg c19] at H
                have c19b0:decide (((jd l0 (rd t135 x7_1)).f1)<((jd l0 (rd t135 (ji14))).f1))=false:=dzF c19
                clear c19
                by_cases c20:((jd l0 (rd t135 x7_1)).f1)=((jd l0 (rd t135 (ji14))).f1)
                ·rw [if_pos c20] at H
                 have c20b0:(((jd l0 (rd t135 x7_1)).f1) == ((jd l0 (rd t135 (ji14))).f1))=true:=beq_iff_eq.mpr c20
                 have c20b1:(((jd l0 (rd t135 x7_1)).f1) != ((jd l0 (rd t135 (ji14))).f1))=false:=bne_eq_false_iff_eq.mpr c20
                 clear c20
                 by_cases c21:((jd l0 (rd t135 x7_1)).f1)=8
                 ·rw [if_pos c21] at H
                  have c21b0:(((jd l0 (rd t135 x7_1)).f1) == 8)=true:=beq_iff_eq.mpr c21
                  have c21b1:(((jd l0 (rd t135 x7_1)).f1) != 8)=false:=bne_eq_false_iff_eq.mpr c21
                  clear c21
                  by_cases c22:((jd l0 (rd t135 x7_1)).f1)=9
                  ·rw [if_pos c22] at H
                   have c22b0:(((jd l0 (rd t135 x7_1)).f1) == 9)=true:=beq_iff_eq.mpr c22
                   have c22b1:(((jd l0 (rd t135 x7_1)).f1) != 9)=false:=bne_eq_false_iff_eq.mpr c22
                   clear c22
                   have H':=am H
                   clear H
                   have p140:0≤((ji14):Int):=ozD (uq)
                   have q140:(ji14)<(t135.length:Int):=ozD (uq)
                   obtain ⟨ad140,e140,hx140_0⟩:=Kd.jsb (Kd.jE HO_5.out).2.2 (ji14) p140 q140
                   obtain rfl:ad138=ad140:=(by injection e140)
                   replace p140:=ezT p140
                   replace q140:=ezT q140
                   have p141:0≤((rd t135 (ji14)):Int):=ozD (uq)
                   have q141:(rd t135 (ji14))<(l0.length:Int):=ozD (uq)
                   obtain ⟨ad141,e141,hx141_0,hx141_1,hx141_2,hx141_3⟩:=jza HR0.out (rd t135 (ji14)) p141 q141
                   obtain rfl:ad139=ad141:=(by injection e141)
                   replace hx141_0:=cb HB.out hx141_0
                   replace hx141_1:=cb HB.out hx141_1
                   replace hx141_2:=cb HB.out hx141_2
                   replace hx141_3:=cb HB.out hx141_3
                   replace p141:=ezT p141
                   replace q141:=ezT q141
                   have p142:0≤((ji14):Int):=ozD (uq)
                   have q142:(ji14)<(t135.length:Int):=ozD (uq)
                   obtain ⟨ad142,e142,hx142_0⟩:=Kd.jsb (Kd.jE HO_5.out).2.2 (ji14) p142 q142
                   obtain rfl:ad138=ad142:=(by injection e142)
                   replace p142:=ezT p142
                   replace q142:=ezT q142
                   have p143:0≤((rd t135 (ji14)):Int):=ozD (uq)
                   have q143:(rd t135 (ji14))<(l0.length:Int):=ozD (uq)
                   obtain ⟨ad143,e143,hx143_0,hx143_1,hx143_2,hx143_3⟩:=jza HR0.out (rd t135 (ji14)) p143 q143
                   obtain rfl:ad139=ad143:=(by injection e143)
                   replace hx143_0:=cb HB.out hx143_0
                   replace hx143_1:=cb HB.out hx143_1
                   replace hx143_2:=cb HB.out hx143_2
                   replace hx143_3:=cb HB.out hx143_3
                   replace p143:=ezT p143
                   replace q143:=ezT q143
                   go_wp2
                   go_meet
                   case rel=>exact ⟨_,((x6_8 == 0)),(sq),H',⟨by have:=HK1.out;have:=HJ8.out;first | omega | exact Nat.le_refl _⟩,⟨rq HO_5.out⟩,⟨bq⟩⟩
                  ·rw [if_neg c22] at H
                   have c22b0:(((jd l0 (rd t135 x7_1)).f1) == 9)=false:=beq_eq_false_iff_ne.mpr c22
                   have c22b1:(((jd l0 (rd t135 x7_1)).f1) != 9)=true:=bne_iff_ne.mpr c22
                   have H':=am H
                   clear H
                   have p140:0≤((ji14):Int):=ozD (uq)
                   have q140:(ji14)<(t135.length:Int):=ozD (uq)
                   obtain ⟨ad140,e140,hx140_0⟩:=Kd.jsb (Kd.jE HO_5.out).2.2 (ji14) p140 q140
                   obtain rfl:ad138=ad140:=(by injection e140)
                   replace p140:=ezT p140
                   replace q140:=ezT q140
                   have p141:0≤((rd t135 (ji14)):Int):=ozD (uq)
                   have q141:(rd t135 (ji14))<(l0.length:Int):=ozD (uq)
                   obtain ⟨ad141,e141,hx141_0,hx141_1,hx141_2,hx141_3⟩:=jza HR0.out (rd t135 (ji14)) p141 q141
                   obtain rfl:ad139=ad141:=(by injection e141)
                   replace hx141_0:=cb HB.out hx141_0
                   replace hx141_1:=cb HB.out hx141_1
                   replace hx141_2:=cb HB.out hx141_2
                   replace hx141_3:=cb HB.out hx141_3
                   replace p141:=ezT p141
                   replace q141:=ezT q141
                   have p142:0≤((ji14):Int):=ozD (uq)
                   have q142:(ji14)<(t135.length:Int):=ozD (uq)
                   obtain ⟨ad142,e142,hx142_0⟩:=Kd.jsb (Kd.jE HO_5.out).2.2 (ji14) p142 q142
                   obtain rfl:ad138=ad142:=(by injection e142)
                   replace p142:=ezT p142
                   replace q142:=ezT q142
                   have p143:0≤((rd t135 (ji14)):Int):=ozD (uq)
                   have q143:(rd t135 (ji14))<(l0.length:Int):=ozD (uq)
                   obtain ⟨ad143,e143,hx143_0,hx143_1,hx143_2,hx143_3⟩:=jza HR0.out (rd t135 (ji14)) p143 q143
                   obtain rfl:ad139=ad143:=(by injection e143)
                   replace hx143_0:=cb HB.out hx143_0
                   replace hx143_1:=cb HB.out hx143_1
                   replace hx143_2:=cb HB.out hx143_2
                   replace hx143_3:=cb HB.out hx143_3
                   replace p143:=ezT p143
                   replace q143:=ezT q143
                   go_wp2
                   go_meet
                   case rel=>exact ⟨_,(false),(sq),H',⟨by have:=HK1.out;have:=HJ8.out;first | omega | exact Nat.le_refl _⟩,⟨rq HO_5.out⟩,⟨bq⟩⟩
                 ·rw [if_neg c21] at H
                  have c21b0:(((jd l0 (rd t135 x7_1)).f1) == 8)=false:=beq_eq_false_iff_ne.mpr c21
                  have c21b1:(((jd l0 (rd t135 x7_1)).f1) != 8)=true:=bne_iff_ne.mpr c21
                  have H':=am H
                  clear H
                  have p140:0≤((ji14):Int):=ozD (uq)
                  have q140:(ji14)<(t135.length:Int):=ozD (uq)
                  obtain ⟨ad140,e140,hx140_0⟩:=Kd.jsb (Kd.jE HO_5.out).2.2 (ji14) p140 q140
                  obtain rfl:ad138=ad140:=(by injection e140)
                  replace p140:=ezT p140
                  replace q140:=ezT q140
                  have p141:0≤((rd t135 (ji14)):Int):=ozD (uq)
                  have q141:(rd t135 (ji14))<(l0.length:Int):=ozD (uq)
                  obtain ⟨ad141,e141,hx141_0,hx141_1,hx141_2,hx141_3⟩:=jza HR0.out (rd t135 (ji14)) p141 q141
                  obtain rfl:ad139=ad141:=(by injection e141)
                  replace hx141_0:=cb HB.out hx141_0
                  replace hx141_1:=cb HB.out hx141_1
                  replace hx141_2:=cb HB.out hx141_2
                  replace hx141_3:=cb HB.out hx141_3
                  replace p141:=ezT p141
                  replace q141:=ezT q141
                  have p142:0≤((ji14):Int):=ozD (uq)
                  have q142:(ji14)<(t135.length:Int):=ozD (uq)
                  obtain ⟨ad142,e142,hx142_0⟩:=Kd.jsb (Kd.jE HO_5.out).2.2 (ji14) p142 q142
                  obtain rfl:ad138=ad142:=(by injection e142)
                  replace p142:=ezT p142
                  replace q142:=ezT q142
                  have p143:0≤((rd t135 (ji14)):Int):=ozD (uq)
                  have q143:(rd t135 (ji14))<(l0.length:Int):=ozD (uq)
                  obtain ⟨ad143,e143,hx143_0,hx143_1,hx143_2,hx143_3⟩:=jza HR0.out (rd t135 (ji14)) p143 q143
                  obtain rfl:ad139=ad143:=(by injection e143)
                  replace hx143_0:=cb HB.out hx143_0
                  replace hx143_1:=cb HB.out hx143_1
                  replace hx143_2:=cb HB.out hx143_2
                  replace hx143_3:=cb HB.out hx143_3
                  replace p143:=ezT p143
                  replace q143:=ezT q143
                  go_wp2
                  go_meet
                  case rel=>exact ⟨_,(true),(sq),H',⟨by have:=HK1.out;have:=HJ8.out;first | omega | exact Nat.le_refl _⟩,⟨rq HO_5.out⟩,⟨bq⟩⟩
                ·rw [if_neg c20] at H
                 have c20b0:(((jd l0 (rd t135 x7_1)).f1) == ((jd l0 (rd t135 (ji14))).f1))=false:=beq_eq_false_iff_ne.mpr c20
                 have c20b1:(((jd l0 (rd t135 x7_1)).f1) != ((jd l0 (rd t135 (ji14))).f1))=true:=bne_iff_ne.mpr c20
                 by_cases c23:((jd l0 (rd t135 x7_1)).f1)=9
                 ·rw [if_pos c23] at H
                  have c23b0:(((jd l0 (rd t135 x7_1)).f1) == 9)=true:=beq_iff_eq.mpr c23
                  have c23b1:(((jd l0 (rd t135 x7_1)).f1) != 9)=false:=bne_eq_false_iff_eq.mpr c23
                  clear c23
                  have H':=am H
                  clear H
                  have p140:0≤((ji14):Int):=ozD (uq)
                  have q140:(ji14)<(t135.length:Int):=ozD (uq)
                  obtain ⟨ad140,e140,hx140_0⟩:=Kd.jsb (Kd.jE HO_5.out).2.2 (ji14) p140 q140
                  obtain rfl:ad138=ad140:=(by injection e140)
                  replace p140:=ezT p140
                  replace q140:=ezT q140
                  have p141:0≤((rd t135 (ji14)):Int):=ozD (uq)
                  have q141:(rd t135 (ji14))<(l0.length:Int):=ozD (uq)
                  obtain ⟨ad141,e141,hx141_0,hx141_1,hx141_2,hx141_3⟩:=jza HR0.out (rd t135 (ji14)) p141 q141
                  obtain rfl:ad139=ad141:=(by injection e141)
                  replace hx141_0:=cb HB.out hx141_0
                  replace hx141_1:=cb HB.out hx141_1
                  replace hx141_2:=cb HB.out hx141_2
                  replace hx141_3:=cb HB.out hx141_3
                  replace p141:=ezT p141
                  replace q141:=ezT q141
                  have p142:0≤((ji14):Int):=ozD (uq)
                  have q142:(ji14)<(t135.length:Int):=ozD (uq)
                  obtain ⟨ad142,e142,hx142_0⟩:=Kd.jsb (Kd.jE HO_5.out).2.2 (ji14) p142 q142
                  obtain rfl:ad138=ad142:=(by injection e142)
                  replace p142:=ezT p142
                  replace q142:=ezT q142
                  have p143:0≤((rd t135 (ji14)):Int):=ozD (uq)
                  have q143:(rd t135 (ji14))<(l0.length:Int):=ozD (uq)
                  obtain ⟨ad143,e143,hx143_0,hx143_1,hx143_2,hx143_3⟩:=jza HR0.out (rd t135 (ji14)) p143 q143
                  obtain rfl:ad139=ad143:=(by injection e143)
                  replace hx143_0:=cb HB.out hx143_0
                  replace hx143_1:=cb HB.out hx143_1
                  replace hx143_2:=cb HB.out hx143_2
                  replace hx143_3:=cb HB.out hx143_3
                  replace p143:=ezT p143
                  replace q143:=ezT q143
                  go_wp2
                  go_meet
                  case rel=>exact ⟨_,((x6_8 == 0)),(sq),H',⟨by have:=HK1.out;have:=HJ8.out;first | omega | exact Nat.le_refl _⟩,⟨rq HO_5.out⟩,⟨bq⟩⟩
                 ·rw [if_neg c23] at H
                  have c23b0:(((jd l0 (rd t135 x7_1)).f1) == 9)=false:=beq_eq_false_iff_ne.mpr c23
                  have c23b1:(((jd l0 (rd t135 x7_1)).f1) != 9)=true:=bne_iff_ne.mpr c23
                  have H':=am H
                  clear H
                  have p140:0≤((ji14):Int):=ozD (uq)
                  have q140:(ji14)<(t135.length:Int):=ozD (uq)
                  obtain ⟨ad140,e140,hx140_0⟩:=Kd.jsb (Kd.jE HO_5.out).2.2 (ji14) p140 q140
                  obtain rfl:ad138=ad140:=(by injection e140)
                  replace p140:=ezT p140
                  replace q140:=ezT q140
                  have p141:0≤((rd t135 (ji14)):Int):=ozD (uq)
                  have q141:(rd t135 (ji14))<(l0.length:Int):=ozD (uq)
                  obtain ⟨ad141,e141,hx141_0,hx141_1,hx141_2,hx141_3⟩:=jza HR0.out (rd t135 (ji14)) p141 q141
                  obtain rfl:ad139=ad141:=(by injection e141)
                  replace hx141_0:=cb HB.out hx141_0
                  replace hx141_1:=cb HB.out hx141_1
                  replace hx141_2:=cb HB.out hx141_2
                  replace hx141_3:=cb HB.out hx141_3
                  replace p141:=ezT p141
                  replace q141:=ezT q141
                  have p142:0≤((ji14):Int):=ozD (uq)
                  have q142:(ji14)<(t135.length:Int):=ozD (uq)
                  obtain ⟨ad142,e142,hx142_0⟩:=Kd.jsb (Kd.jE HO_5.out).2.2 (ji14) p142 q142
                  obtain rfl:ad138=ad142:=(by injection e142)
                  replace p142:=ezT p142
                  replace q142:=ezT q142
                  have p143:0≤((rd t135 (ji14)):Int):=ozD (uq)
                  have q143:(rd t135 (ji14))<(l0.length:Int):=ozD (uq)
                  obtain ⟨ad143,e143,hx143_0,hx143_1,hx143_2,hx143_3⟩:=jza HR0.out (rd t135 (ji14)) p143 q143
                  obtain rfl:ad139=ad143:=(by injection e143)
                  replace hx143_0:=cb HB.out hx143_0
                  replace hx143_1:=cb HB.out hx143_1
                  replace hx143_2:=cb HB.out hx143_2
                  replace hx143_3:=cb HB.out hx143_3
                  replace p143:=ezT p143
                  replace q143:=ezT q143
                  go_wp2
                  go_meet
                  case rel=>exact ⟨_,(false),(sq),H',⟨by have:=HK1.out;have:=HJ8.out;first | omega | exact Nat.le_refl _⟩,⟨rq HO_5.out⟩,⟨bq⟩⟩
              ·rw [if_neg c18] at H
               exact absurd H (by simp)
             ·rw [if_neg c17] at H
              exact absurd H (by simp)
            ·rw [if_neg c16] at H
             exact absurd H (by simp)
           ·rw [if_neg c15] at H
            exact absurd H (by simp)
          ·rw [if_neg c13] at H
           have c13b0:decide (1<x7_1)=false:=dzF c13
           clear c13
           (first | rw [c13b0] |(simp only [jlb,jmb];rw [c13b0]) | skip)
           by_cases c24:((jd l0 (rd t135 x7_1)).f1)=9
           ·rw [if_pos c24] at H
            have c24b0:(((jd l0 (rd t135 x7_1)).f1) == 9)=true:=beq_iff_eq.mpr c24
            have c24b1:(((jd l0 (rd t135 x7_1)).f1) != 9)=false:=bne_eq_false_iff_eq.mpr c24
            clear c24
            have H':=am H
            clear H
            go_wp2
            go_meet
            case rel=>exact ⟨_,((x6_8 == 0)),(sq),H',⟨by have:=HK1.out;have:=HJ8.out;first | omega | exact Nat.le_refl _⟩,⟨rq HO_5.out⟩,⟨bq⟩⟩
           ·rw [if_neg c24] at H
            have c24b0:(((jd l0 (rd t135 x7_1)).f1) == 9)=false:=beq_eq_false_iff_ne.mpr c24
            have c24b1:(((jd l0 (rd t135 x7_1)).f1) != 9)=true:=bne_iff_ne.mpr c24
            have H':=am H
            clear H
            go_wp2
            go_meet
            case rel=>exact ⟨_,(false),(sq),H',⟨by have:=HK1.out;have:=HJ8.out;first | omega | exact Nat.le_refl _⟩,⟨rq HO_5.out⟩,⟨bq⟩⟩
         case rest =>
          clear HC12
          try clear c1
          try clear p1
          try clear q1
          try clear hx1
          try clear c2
          try clear p2
          try clear c5
          try clear c5b0
          try clear c6
          try clear c6b0
          try clear p6
          try clear c7
          try clear c7b0
          try clear c8
          try clear c8b0
          try clear c11
          try clear c11b0
          try clear c11b1
          try clear c13
          try clear c13b0
          try clear p13
          try clear q13
          try clear hx13
          try clear p14
          try clear q14
          try clear hx14
          try clear c15
          try clear c15b0
          try clear c16
          try clear c16b0
          try clear c17
          try clear c17b0
          try clear c18
          try clear c18b0
          try clear c19
          try clear c19b0
          try clear c20
          try clear c20b0
          try clear c20b1
          try clear c21
          try clear c21b0
          try clear c21b1
          try clear c22
          try clear c22b0
          try clear c22b1
          try clear c23
          try clear c23b0
          try clear c23b1
          try clear c24
          try clear c24b0
          try clear c24b1
          try clear hx138_0
          try clear hx139_0
          try clear hx139_1
          try clear hx139_2
          try clear hx139_3
          try clear hx140_0
          try clear hx141_0
          try clear hx141_1
          try clear hx141_2
          try clear hx141_3
          try clear hx142_0
          try clear hx143_0
          try clear hx143_1
          try clear hx143_2
          try clear hx143_3
          try clear p1
          try clear p138
          try clear p139
          try clear p140
          try clear p141
          try clear p142
          try clear p143
          try clear p2
          try clear p6
          try clear q1
          try clear q138
          try clear q139
          try clear q140
          try clear q141
          try clear q142
          try clear q143
          obtain ⟨kq,x69_11,rfl,HA,HJ11,HO_5,HB⟩:=hcut
          cases kq with
          | zero=>exact absurd HA.out (by simp [jG.j2])
          | succ kj11 =>
           have H:=HA.out
           clear HA
           simp only [jG.j2] at H
           by_cases c25:x69_11=true
           ·subst c25
            have H1:(some false)=some r:=by rw [if_pos rfl] at H;exact H
            clear H
            have H:=H1
            clear H1
            obtain rfl:=Option.some.inj H
            go_wp2
            go_ret
            exact ⟨Y0,bq⟩
           ·replace c25:=Bool.eq_false_iff.mpr c25
            subst c25
            have H1:(jG.l0 kj11 l0 t135 x6_8 (wrap64 (x7_1+1)))=some r:=by rw [if_neg (show ¬ (false=true) by decide)] at H;exact H
            clear H
            have H:=H1
            clear H1
            have H':=am H
            clear H
            go_wp2
            go_roundg kj11
            case measure=>have:=HK1.out;have:=HJ8.out;have:=HJ11.out;omega
            case rel=>exact ⟨(x6_8),(wrap64 (x7_1+1)),(sq),(sq),H',⟨by have:=HK1.out;have:=HJ8.out;have:=HJ11.out;omega⟩,⟨rq HO_5.out⟩,⟨bq⟩⟩
      ·rw [if_neg c8] at H
       exact absurd H (by simp)
     ·rw [if_neg c7] at H
      exact absurd H (by simp)
    ·rw [if_neg c6] at H
     exact absurd H (by simp)
   ·rw [if_neg c5] at H
    have c5b0:decide (x7_1<(t135.length:Int))=false:=dzF c5
    clear c5
    by_cases c26:(t135.length:Int) > 1
    ·rw [if_pos c26] at H
     have c26b0:decide (1<(t135.length:Int))=true:=dzT c26
     have c26b1:decide (1<t135.length)=true:=dzT (by omega)
     clear c26
     obtain rfl:=Option.some.inj H
     obtain ⟨Ao27,co27,eo27⟩:=Kd.jsa HO_5.out
     subst eo27
     go_wp2
     go_ret
     exact ⟨Y0,bq⟩
    ·rw [if_neg c26] at H
     have c26b0:decide (1<(t135.length:Int))=false:=dzF c26
     have c26b1:decide (1<t135.length)=false:=dzF (by omega)
     clear c26
     obtain rfl:=Option.some.inj H
     obtain ⟨Ao28,co28,eo28⟩:=Kd.jsa HO_5.out
     subst eo28
     go_wp2
     go_ret
     exact ⟨Y0,bq⟩
def jQa.l0 : Nat → List (S59) → Int → Int → Option (Bool)
 | 0,_,_,_=>none
 | k+1,x0,x5,x6=>if x6≥0 then (if 0≤x6 then (if x6<(x0.length:Int) then (if ((jd x0 x6).f0)<x5 then (if ((jd x0 x6).f1)=12 then (some true) else (jQa.l0 k x0 ((jd x0 x6).f0) (wrap64 (x6 - 1)))) else (jQa.l0 k x0 x5 (wrap64 (x6 - 1)))) else (none)) else (none)) else (some false)
def jQa.f (k : Nat) (l0 : List (S59)) (a1 : Int) : Option (Bool) := if 0 ≤ a1 then (if a1 < (l0.length : Int) then (jQa.l0 k l0 ((jd l0 a1).f0) (wrap64 (a1 - 1))) else (none)) else (none)
set_option maxHeartbeats 8000000 in
set_option maxRecDepth 100000 in
theorem jQa.calls (k : Nat) (A0 : Option Addr) (c0 : Nat) (l0 : List (S59)) (a1 : Int) (r : Bool) (w : World) (hr0 : Kd.C k59 w A0 l0.length l0) (hc0 : l0.length ≤ c0) (h : jQa.f k l0 a1 = some r) :
  Calls Try.prog 89 #[.slice A0 l0.length c0, .int .i64 a1] w fun e w'=>e=.returned (.bool r)∧jfb w w':=by
 have HR0:=am hr0
 have HC0:=am hc0
 clear hr0 hc0
 have H:(if 0≤a1 then (if a1<(l0.length:Int) then (jQa.l0 k l0 ((jd l0 a1).f0) (wrap64 (a1 - 1))) else (none)) else (none))=some r:=h
 clear h
 by_cases c3:0≤a1
 ·rw [if_pos c3] at H
  have c3b0:decide (0≤a1)=true:=dzT c3
  clear c3
  by_cases c4:a1<(l0.length:Int)
  ·rw [if_pos c4] at H
   have c4b0:decide (a1<(l0.length:Int))=true:=dzT c4
   clear c4
   have H':=am H
   clear H
   have p144:0≤(a1:Int):=ozD (uq)
   have q144:a1<(l0.length:Int):=ozD (uq)
   obtain ⟨ad144,e144,hx144_0,hx144_1,hx144_2,hx144_3⟩:=jza HR0.out a1 p144 q144
   cases e144
   replace p144:=ezT p144
   replace q144:=ezT q144
   go_enter Try.func89,Try.ntmps89
   go_wp2
   go_loopg [5,6] k (fun kq v5 v6 w'=>∃ (x5_1:Int) (x6_1:Int),v5=.int .i64 x5_1∧v6=.int .i64 x6_1∧jl (jQa.l0 kq l0 x5_1 x6_1=some r)∧jl (kq≤k)∧jfb w w')
   case atStart=>exact ⟨((jd l0 a1).f0),(wrap64 (a1 - 1)),(sq),(sq),H',⟨Nat.le_refl _⟩,Y5⟩
   case round =>
    clear H'
    try clear p1
    try clear q1
    try clear hx1
    try clear p2
    try clear c3
    try clear c3b0
    try clear c4
    try clear c4b0
    try clear hx144_0
    try clear hx144_1
    try clear hx144_2
    try clear hx144_3
    try clear p144
    try clear q144
    obtain ⟨x5_1,x6_1,rfl,rfl,HA,HK1,⟨m1,rfl⟩⟩:=hrel
    cases gk with
    | zero=>exact absurd HA.out (by simp [jQa.l0])
    | succ k1 =>
     have H:=HA.out
     clear HA
     simp only [jQa.l0] at H
     by_cases c5:x6_1≥0
     ·rw [if_pos c5] at H
      have c5b0:decide (0≤x6_1)=true:=dzT c5
      clear c5
      by_cases c6:0≤x6_1
      ·rw [if_pos c6] at H
       have c6b0:decide (0≤x6_1)=true:=dzT c6
       clear c6
       by_cases c7:x6_1<(l0.length:Int)
       ·rw [if_pos c7] at H
        have c7b0:decide (x6_1<(l0.length:Int))=true:=dzT c7
        clear c7
        by_cases c8:((jd l0 x6_1).f0)<x5_1
        ·rw [if_pos c8] at H
         have c8b0:decide (((jd l0 x6_1).f0)<x5_1)=true:=dzT c8
         clear c8
         by_cases c9:((jd l0 x6_1).f1)=12
         ·rw [if_pos c9] at H
          have c9b0:(((jd l0 x6_1).f1) == 12)=true:=beq_iff_eq.mpr c9
          have c9b1:(((jd l0 x6_1).f1) != 12)=false:=bne_eq_false_iff_eq.mpr c9
          clear c9
          obtain rfl:=Option.some.inj H
          have p145:0≤(x6_1:Int):=ozD (uq)
          have q145:x6_1<(l0.length:Int):=ozD (uq)
          obtain ⟨ad145,e145,hx145_0,hx145_1,hx145_2,hx145_3⟩:=jza HR0.out x6_1 p145 q145
          obtain rfl:ad144=ad145:=(by injection e145)
          replace p145:=ezT p145
          replace q145:=ezT q145
          have p146:0≤(x6_1:Int):=ozD (uq)
          have q146:x6_1<(l0.length:Int):=ozD (uq)
          obtain ⟨ad146,e146,hx146_0,hx146_1,hx146_2,hx146_3⟩:=jza HR0.out x6_1 p146 q146
          obtain rfl:ad144=ad146:=(by injection e146)
          replace p146:=ezT p146
          replace q146:=ezT q146
          have p147:0≤(x6_1:Int):=ozD (uq)
          have q147:x6_1<(l0.length:Int):=ozD (uq)
          obtain ⟨ad147,e147,hx147_0,hx147_1,hx147_2,hx147_3⟩:=jza HR0.out x6_1 p147 q147
          obtain rfl:ad144=ad147:=(by injection e147)
          replace p147:=ezT p147
          replace q147:=ezT q147
          go_wp2
          go_ret
          exact ⟨sq,Y5⟩
         ·rw [if_neg c9] at H
          have c9b0:(((jd l0 x6_1).f1) == 12)=false:=beq_eq_false_iff_ne.mpr c9
          have c9b1:(((jd l0 x6_1).f1) != 12)=true:=bne_iff_ne.mpr c9
          have H':=am H
          clear H
          have p145:0≤(x6_1:Int):=ozD (uq)
          have q145:x6_1<(l0.length:Int):=ozD (uq)
          obtain ⟨ad145,e145,hx145_0,hx145_1,hx145_2,hx145_3⟩:=jza HR0.out x6_1 p145 q145
          obtain rfl:ad144=ad145:=(by injection e145)
          replace p145:=ezT p145
          replace q145:=ezT q145
          have p146:0≤(x6_1:Int):=ozD (uq)
          have q146:x6_1<(l0.length:Int):=ozD (uq)
          obtain ⟨ad146,e146,hx146_0,hx146_1,hx146_2,hx146_3⟩:=jza HR0.out x6_1 p146 q146
          obtain rfl:ad144=ad146:=(by injection e146)
          replace p146:=ezT p146
          replace q146:=ezT q146
          have p147:0≤(x6_1:Int):=ozD (uq)
          have q147:x6_1<(l0.length:Int):=ozD (uq)
          obtain ⟨ad147,e147,hx147_0,hx147_1,hx147_2,hx147_3⟩:=jza HR0.out x6_1 p147 q147
          obtain rfl:ad144=ad147:=(by injection e147)
          replace p147:=ezT p147
          replace q147:=ezT q147
          go_wp2
          go_roundg k1
          case measure=>have:=HK1.out;omega
          case rel=>exact ⟨((jd l0 x6_1).f0),(wrap64 (x6_1 - 1)),(sq),(sq),H',⟨by have:=HK1.out;omega⟩,Y5⟩
        ·rw [if_neg c8] at H
         have c8b0:decide (((jd l0 x6_1).f0)<x5_1)=false:=dzF c8
         clear c8
         have H':=am H
         clear H
         have p145:0≤(x6_1:Int):=ozD (uq)
         have q145:x6_1<(l0.length:Int):=ozD (uq)
         obtain ⟨ad145,e145,hx145_0,hx145_1,hx145_2,hx145_3⟩:=jza HR0.out x6_1 p145 q145
         obtain rfl:ad144=ad145:=(by injection e145)
         replace p145:=ezT p145
         replace q145:=ezT q145
         go_wp2
         go_roundg k1
         case measure=>have:=HK1.out;omega
         case rel=>exact ⟨(x5_1),(wrap64 (x6_1 - 1)),(sq),(sq),H',⟨by have:=HK1.out;omega⟩,Y5⟩
       ·rw [if_neg c7] at H
        exact absurd H (by simp)
      ·rw [if_neg c6] at H
       exact absurd H (by simp)
     ·rw [if_neg c5] at H
      have c5b0:decide (0≤x6_1)=false:=dzF c5
      clear c5
      obtain rfl:=Option.some.inj H
      go_wp2
      go_ret
      exact ⟨sq,Y5⟩
  ·rw [if_neg c4] at H
   exact absurd H (by simp)
 ·rw [if_neg c3] at H
  exact absurd H (by simp)
def jYa.l0 : Nat → List (S59) → Int → Int → Option (Int)
 | 0,_,_,_=>none
 | k+1,x0,x1,x5=>if x5≥0 then (if 0≤x5 then (if x5<(x0.length:Int) then (if 0≤x1 then (if x1<(x0.length:Int) then (if ((jd x0 x5).f0)<((jd x0 x1).f0) then (some (-1)) else (if ((jd x0 x5).f0)=((jd x0 x1).f0) then (some x5) else (jYa.l0 k x0 x1 (wrap64 (x5 - 1))))) else (none)) else (none)) else (none)) else (none)) else (some (-1))
def jYa.f (k : Nat) (l0 : List (S59)) (a1 : Int) : Option (Int) := jYa.l0 k l0 a1 (wrap64 (a1 - 1))
set_option maxHeartbeats 8000000 in
set_option maxRecDepth 100000 in
theorem jYa.calls (k : Nat) (A0 : Option Addr) (c0 : Nat) (l0 : List (S59)) (a1 : Int) (r : Int) (w : World) (hr0 : Kd.C k59 w A0 l0.length l0) (hc0 : l0.length ≤ c0) (h : jYa.f k l0 a1 = some r) :
  Calls Try.prog 91 #[.slice A0 l0.length c0, .int .i64 a1] w fun e w'=>e=.returned (.int .i64 r)∧jfb w w':=by
 have HR0:=am hr0
 have HC0:=am hc0
 clear hr0 hc0
 have H:(jYa.l0 k l0 a1 (wrap64 (a1 - 1)))=some r:=h
 clear h
 have H':=am H
 clear H
 go_enter Try.func91,Try.ntmps91
 go_wp2
 repeat (go_quiet (fail);try go_wp2)
 go_loopg [5] k (fun kq v5 w'=>∃ (x5_1:Int),v5=.int .i64 x5_1∧jl (jYa.l0 kq l0 a1 x5_1=some r)∧jl (kq≤k)∧jfb w w')
 case atStart=>exact ⟨(wrap64 (a1 - 1)),(sq),H',⟨Nat.le_refl _⟩,Y5⟩
 case round =>
  clear H'
  try clear p2
  obtain ⟨x5_1,rfl,HA,HK1,⟨m1,rfl⟩⟩:=hrel
  cases gk with
  | zero=>exact absurd HA.out (by simp [jYa.l0])
  | succ k1 =>
   have H:=HA.out
   clear HA
   simp only [jYa.l0] at H
   by_cases c3:x5_1≥0
   ·rw [if_pos c3] at H
    have c3b0:decide (0≤x5_1)=true:=dzT c3
    clear c3
    by_cases c4:0≤x5_1
    ·rw [if_pos c4] at H
     have c4b0:decide (0≤x5_1)=true:=dzT c4
     clear c4
     by_cases c5:x5_1<(l0.length:Int)
     ·rw [if_pos c5] at H
      have c5b0:decide (x5_1<(l0.length:Int))=true:=dzT c5
      clear c5
      by_cases c6:0≤a1
      ·rw [if_pos c6] at H
       have c6b0:decide (0≤a1)=true:=dzT c6
       clear c6
       by_cases c7:a1<(l0.length:Int)
       ·rw [if_pos c7] at H
        have c7b0:decide (a1<(l0.length:Int))=true:=dzT c7
        clear c7
        by_cases c8:((jd l0 x5_1).f0)<((jd l0 a1).f0)
        ·rw [if_pos c8] at H
         have c8b0:decide (((jd l0 x5_1).f0)<((jd l0 a1).f0))=true:=dzT c8
         clear c8
         obtain rfl:=Option.some.inj H
         have p148:0≤(x5_1:Int):=ozD (uq)
         have q148:x5_1<(l0.length:Int):=ozD (uq)
         obtain ⟨ad148,e148,hx148_0,hx148_1,hx148_2,hx148_3⟩:=jza HR0.out x5_1 p148 q148
         cases e148
         replace p148:=ezT p148
         replace q148:=ezT q148
         have p149:0≤(a1:Int):=ozD (uq)
         have q149:a1<(l0.length:Int):=ozD (uq)
         obtain ⟨ad149,e149,hx149_0,hx149_1,hx149_2,hx149_3⟩:=jza HR0.out a1 p149 q149
         obtain rfl:ad148=ad149:=(by injection e149)
         replace p149:=ezT p149
         replace q149:=ezT q149
         go_wp2
         repeat (go_quiet (fail);try go_wp2)
         go_ret
         exact ⟨sq,Y5⟩
        ·rw [if_neg c8] at H
         have c8b0:decide (((jd l0 x5_1).f0)<((jd l0 a1).f0))=false:=dzF c8
         clear c8
         by_cases c9:((jd l0 x5_1).f0)=((jd l0 a1).f0)
         ·rw [if_pos c9] at H
          have c9b0:(((jd l0 x5_1).f0) == ((jd l0 a1).f0))=true:=beq_iff_eq.mpr c9
          have c9b1:(((jd l0 x5_1).f0) != ((jd l0 a1).f0))=false:=bne_eq_false_iff_eq.mpr c9
          clear c9
          obtain rfl:=Option.some.inj H
          have p148:0≤(x5_1:Int):=ozD (uq)
          have q148:x5_1<(l0.length:Int):=ozD (uq)
          obtain ⟨ad148,e148,hx148_0,hx148_1,hx148_2,hx148_3⟩:=jza HR0.out x5_1 p148 q148
          cases e148
          replace p148:=ezT p148
          replace q148:=ezT q148
          have p149:0≤(a1:Int):=ozD (uq)
          have q149:a1<(l0.length:Int):=ozD (uq)
          obtain ⟨ad149,e149,hx149_0,hx149_1,hx149_2,hx149_3⟩:=jza HR0.out a1 p149 q149
          obtain rfl:ad148=ad149:=(by injection e149)
          replace p149:=ezT p149
          replace q149:=ezT q149
          have p150:0≤(x5_1:Int):=ozD (uq)
          have q150:x5_1<(l0.length:Int):=ozD (uq)
          obtain ⟨ad150,e150,hx150_0,hx150_1,hx150_2,hx150_3⟩:=jza HR0.out x5_1 p150 q150
          obtain rfl:ad148=ad150:=(by injection e150)
          replace p150:=ezT p150
          replace q150:=ezT q150
          have p151:0≤(a1:Int):=ozD (uq)
          have q151:a1<(l0.length:Int):=ozD (uq)
          obtain ⟨ad151,e151,hx151_0,hx151_1,hx151_2,hx151_3⟩:=jza HR0.out a1 p151 q151
          obtain rfl:ad148=ad151:=(by injection e151)
          replace p151:=ezT p151
          replace q151:=ezT q151
          go_wp2
          repeat (go_quiet (fail);try go_wp2)
          go_ret
          exact ⟨sq,Y5⟩
         ·rw [if_neg c9] at H
          have c9b0:(((jd l0 x5_1).f0) == ((jd l0 a1).f0))=false:=beq_eq_false_iff_ne.mpr c9
          have c9b1:(((jd l0 x5_1).f0) != ((jd l0 a1).f0))=true:=bne_iff_ne.mpr c9
          have H':=am H
          clear H
          have p148:0≤(x5_1:Int):=ozD (uq)
          have q148:x5_1<(l0.length:Int):=ozD (uq)
          obtain ⟨ad148,e148,hx148_0,hx148_1,hx148_2,hx148_3⟩:=jza HR0.out x5_1 p148 q148
          cases e148
          replace p148:=ezT p148
          replace q148:=ezT q148
          have p149:0≤(a1:Int):=ozD (uq)
          have q149:a1<(l0.length:Int):=ozD (uq)
          obtain ⟨ad149,e149,hx149_0,hx149_1,hx149_2,hx149_3⟩:=jza HR0.out a1 p149 q149
          obtain rfl:ad148=ad149:=(by injection e149)
          replace p149:=ezT p149
          replace q149:=ezT q149
          have p150:0≤(x5_1:Int):=ozD (uq)
          have q150:x5_1<(l0.length:Int):=ozD (uq)
          obtain ⟨ad150,e150,hx150_0,hx150_1,hx150_2,hx150_3⟩:=jza HR0.out x5_1 p150 q150
          obtain rfl:ad148=ad150:=(by injection e150)
          replace p150:=ezT p150
          replace q150:=ezT q150
          have p151:0≤(a1:Int):=ozD (uq)
          have q151:a1<(l0.length:Int):=ozD (uq)
          obtain ⟨ad151,e151,hx151_0,hx151_1,hx151_2,hx151_3⟩:=jza HR0.out a1 p151 q151
          obtain rfl:ad148=ad151:=(by injection e151)
          replace p151:=ezT p151
          replace q151:=ezT q151
          go_wp2
          repeat (go_quiet (fail);try go_wp2)
          go_roundg k1
          case measure=>have:=HK1.out;omega
          case rel=>exact ⟨(wrap64 (x5_1 - 1)),(sq),H',⟨by have:=HK1.out;omega⟩,Y5⟩
       ·rw [if_neg c7] at H
        exact absurd H (by simp)
      ·rw [if_neg c6] at H
       exact absurd H (by simp)
     ·rw [if_neg c5] at H
      exact absurd H (by simp)
    ·rw [if_neg c4] at H
     exact absurd H (by simp)
   ·rw [if_neg c3] at H
    have c3b0:decide (0≤x5_1)=false:=dzF c3
    clear c3
    obtain rfl:=Option.some.inj H
    go_wp2
    repeat (go_quiet (fail);try go_wp2)
    go_ret
    exact ⟨sq,Y5⟩
def jq.inB (a lo hi : Int) : Bool := decide (lo ≤ a) && decide (a ≤ hi)
theorem jXb (a lo hi : Int) : jM.f a lo hi = some (jq.inB a lo hi) := by
 unfold jM.f jq.inB
 by_cases h:lo≤a
 ·rw [if_pos h];simp [h]
 ·rw [if_neg h];simp [h]
theorem spec_opens_eq (a : Int) : jIc.f a = some (jq.inB a 7 12) := by
 unfold jIc.f
 rw [jXb];rfl
theorem spec_follows_eq (a : Int) : jyb.f a = some (jq.inB a 8 10) := by
 unfold jyb.f
 rw [jXb];rfl
def jq.off (p : List S59) (i : Int) (x : S59) : Bool :=
 if (if i=0 then decide (x.f0≠0) else if (wrap64 ((jd p (i - 1)).f0+1))<x.f0 then true else (jq.inB (jd p (i - 1)).f1 7 12 != (x.f0 == wrap64 ((jd p (i - 1)).f0+1)))) then true
 else decide (i+1=(p.length:Int)) && jq.inB x.f1 7 12
def jq.f (k : Nat) (l0_0 : List S98) (l1 : List S59) (a2 : Int) : Option Bool :=
 if 0≤a2 then if a2<(l1.length:Int) then
  (jAa.f k l0_0 (jd l1 a2).f0 (jd l1 a2).f1 (jd l1 a2).f2 (jd l1 a2).f3).bind fun v =>
  if v=false then some false else if jq.inB (jd l1 a2).f0 0 5=false then some false else
  if jq.off l1 a2 (jd l1 a2) then some false else
  (if (jd l1 a2).f1=7 then jG.f k l1 a2 else some true).bind fun c1=>if c1=false then some false else
  (if (jd l1 a2).f1=5∨(jd l1 a2).f1=6 then jQa.f k l1 a2 else some true).bind fun c2=>if c2=false then some false else
  if jq.inB (jd l1 a2).f1 8 10=false then some true else
  (jYa.f k l1 a2).bind fun h=>if 0≤h then if h<(l1.length:Int) then some ((jd l1 h).f1 == 7 || jq.inB (jd l1 h).f1 8 10) else none else some false
 else none else none
def VX (W : World) (BX : Nat) (x : S59) : Prop := W.heap[BX]? = some (.cells #[.int .i64 x.f0, .int .i64 x.f1, .int .i64 x.f2, .int .i64 x.f3] 59 (0, 0))
theorem VX.below {W W' : World} {BX : Nat} {x : S59} (h : VX W BX x) (hb : Below W.heap.size W W') : VX W' BX x := (hb.block _ (jrb h)).trans h
theorem VX.cells {W : World} {BX : Nat} {x : S59} (h : VX W BX x) : W.cell? ⟨BX, 0, none⟩ = some (.int .i64 x.f0) ∧ W.cell? ⟨BX, 1, none⟩ = some (.int .i64 x.f1) ∧ W.cell? ⟨BX, 2, none⟩ = some (.int .i64 x.f2) ∧ W.cell? ⟨BX, 3, none⟩ = some (.int .i64 x.f3) :=
 ⟨(jA h 0).trans rfl,(jA h 1).trans rfl,(jA h 2).trans rfl,(jA h 3).trans rfl⟩
set_option maxHeartbeats 8000000 in
set_option maxRecDepth 100000 in
theorem jq.calls (k : Nat) (A0_0 : Option Addr) (c0_0 : Nat) (l0_0 : List S98) (A1 : Option Addr) (c1 : Nat) (l1 : List S59) (a2 : Int) (r : Bool) (w : World) (hr0_0 : Kd.C k98 w A0_0 l0_0.length l0_0) (hc0_0 : l0_0.length ≤ c0_0) (hr1 : Kd.C k59 w A1 l1.length l1) (hc1 : l1.length ≤ c1) (h : jq.f k l0_0 l1 a2 = some r) :
  Calls Try.prog 63 #[.agg #[.slice A0_0 l0_0.length c0_0], .slice A1 l1.length c1, .int .i64 a2] w fun e w'=>e=.returned (.bool r)∧Below w.heap.size w w':=by
 have hu32:=Try.underlying32
 have hu59:=Try.underlying59
 have hm:l1.length≤9223372036854775807:=Kd.C_max hr1
 unfold jq.f at h
 by_cases h0:0≤a2
 ·rw [if_pos h0] at h
  by_cases h1:a2<(l1.length:Int)
  ·rw [if_pos h1] at h
   obtain ⟨v,hv,h⟩:=bzS h
   have HN:=am (fun W (hb:Below w.heap.size w W)=>jAa.calls k A0_0 c0_0 l0_0 _ _ _ _ v W (Kd.jV hr0_0 hb) hc0_0 hv)
   clear hv
   obtain ⟨ad,rfl,hx0,hx1,hx2,hx3⟩:=jza hr1 a2 h0 h1
   have HR1:=am hr1
   clear hr0_0 hr1
   generalize hgx:jd l1 a2=x at h HN hx0 hx1 hx2 hx3
   clear hgx
   have X1:=am (show VX ((w.alloc (.cells #[.slice A0_0 l0_0.length c0_0] 32)).alloc (.cells #[.int .i64 x.f0, .int .i64 x.f1, .int .i64 x.f2, .int .i64 x.f3] 59)) (w.heap.size+1) x by have:=heap_alloc_new (w.alloc (.cells #[.slice A0_0 l0_0.length c0_0] 32)) (.cells #[.int .i64 x.f0, .int .i64 x.f1, .int .i64 x.f2, .int .i64 x.f3] 59);simpa [VX] using this)
   have HB1:=am (((Below.refl w.heap.size w).alloc (Nat.le_refl _) (.cells #[.slice A0_0 l0_0.length c0_0] 32)).alloc (by simp) (.cells #[.int .i64 x.f0, .int .i64 x.f1, .int .i64 x.f2, .int .i64 x.f3] 59))
   have hbt:=(Below.refl w.heap.size w).alloc (Nat.le_refl _) (.cells #[.slice A0_0 l0_0.length c0_0] 32)
   replace hx0:=jua hbt hx0
   replace hx1:=jua hbt hx1
   replace hx2:=jua hbt hx2
   replace hx3:=jua hbt hx3
   clear hbt
   have p0:=ezT h0
   have p1:=ezT h1
   cases v with
   | false =>
    obtain rfl:false=r:=by simpa using h
    clear h
    go_enter Try.func63,Try.ntmps63
    go_wp2_with (first |(go_at_call 86;refine (HN.out _ HB1.out).mono ?_;rintro e w2 ⟨rfl,hb2⟩;have X2:=am (VX.below X1.out hb2);have HB2:=am (jda HB1.out HB1.out.size hb2);clear hb2;obtain ⟨e0,e1,e2,e3⟩:=VX.cells X2.out))
    go_ret
    exact ⟨rfl,HB2.out⟩
   | true =>
    simp only [Bool.true_eq_false,if_false] at h
    cases h5:jq.inB x.f0 0 5 with
    | false =>
     have H5:=am h5
     rw [h5,if_pos rfl] at h
     obtain rfl:false=r:=by simpa using h
     clear h h5
     go_enter Try.func63,Try.ntmps63
     go_wp2_with (first |(go_at_call 86;refine (HN.out _ HB1.out).mono ?_;rintro e w2 ⟨rfl,hb2⟩;have X2:=am (VX.below X1.out hb2);have HB2:=am (jda HB1.out HB1.out.size hb2);clear hb2;obtain ⟨e0,e1,e2,e3⟩:=VX.cells X2.out) |(go_at_call 60;refine (jM.calls _ _ _ _ _ (jXb _ _ _)).mono ?_;rintro e w3 ⟨rfl,hd3⟩;have hb3:=hd3.below;clear hd3;have X3:=am (VX.below X2.out hb3);have HB3:=am (jda HB2.out HB2.out.size hb3);clear hb3 e0 e1 e2 e3;obtain ⟨e0,e1,e2,e3⟩:=VX.cells X3.out;rw [H5.out]))
     go_ret
     exact ⟨rfl,HB3.out⟩
    | true =>
     have H5:=am h5
     rw [h5] at h
     simp only [Bool.true_eq_false,if_false] at h
     clear h5
     have HH:=am h
     clear h
     go_enter Try.func63,Try.ntmps63
     go_upto_region 4 with (first |(go_at_call 86;refine (HN.out _ HB1.out).mono ?_;rintro e w2 ⟨rfl,hb2⟩;have X2:=am (VX.below X1.out hb2);have HB2:=am (jda HB1.out HB1.out.size hb2);clear hb2;obtain ⟨e0,e1,e2,e3⟩:=VX.cells X2.out) |(go_at_call 60;refine (jM.calls _ _ _ _ _ (jXb _ _ _)).mono ?_;rintro e w3 ⟨rfl,hd3⟩;have hb3:=hd3.below;clear hd3;have X3:=am (VX.below X2.out hb3);have HB3:=am (jda HB2.out HB2.out.size hb3);clear hb3 e0 e1 e2 e3;obtain ⟨e0,e1,e2,e3⟩:=VX.cells X3.out;rw [H5.out]))
     go_cut [77] (fun v77 wc=>v77=.bool (jq.off l1 a2 x)∧jl (VX wc (w.heap.size+1) x)∧jl (Below w.heap.size w wc))
     case first =>
      clear HH
      have HO:=am (fun (a:Int) (b:Bool) (hb:jq.inB a 7 12=b) W=>(jIc.calls a b W (by rw [spec_opens_eq,hb])).mono fun e w' h=>(⟨h.1,h.2.out⟩:e=.returned (.bool b)∧∃ m,w'=W.drewN m))
      have hw2:IntKind.i64.wrap (a2+1)=a2+1:=IntWalk.i64_in _ (by omega)
      by_cases z0:a2=0
      ·have b0:(a2 == 0)=true:=beq_iff_eq.2 z0
       have b0':decide (0<a2)=false:=dzF (by omega)
       by_cases zx:x.f0=0
       ·have b1:(x.f0 != 0)=false:=by simpa using zx
        have HE:=am (by unfold jq.off;rw [if_pos z0];simp [zx]:jq.off l1 a2 x=(decide (a2+1=(l1.length:Int)) && jq.inB x.f1 7 12))
        clear z0
        clear zx
        by_cases zl:a2+1=(l1.length:Int)
        ·have b3:(a2+1 == (l1.length:Int))=true:=by rw [beq_iff_eq];omega
         cases hx:jq.inB x.f1 7 12 with
         | true =>
          have HX:=am hx
          have HF:=am (by rw [HE.out,hx,dzT zl];rfl:jq.off l1 a2 x=true)
          clear zl hx HE
          go_big_quiet ((go_at_call 87;exact Calls.quiet_of (HO.out x.f1 _ HX.out _)))
          go_wp2
          go_meet
          case rel=>exact ⟨by rw [HF.out],X3,⟨jm HB3.out _⟩⟩
         | false =>
          have HX:=am hx
          have HF:=am (by rw [HE.out,hx];simp:jq.off l1 a2 x=false)
          clear zl hx HE
          go_big_quiet ((go_at_call 87;exact Calls.quiet_of (HO.out x.f1 _ HX.out _)))
          go_wp2
          go_meet
          case rel=>exact ⟨by rw [HF.out],X3,⟨jm HB3.out _⟩⟩
        ·have b3:(a2+1 == (l1.length:Int))=false:=by rw [beq_eq_false_iff_ne];omega
         have HF:=am (by rw [HE.out,dzF zl];rfl:jq.off l1 a2 x=false)
         clear zl HE
         go_big_quiet (fail)
         go_wp2
         go_meet
         case rel=>exact ⟨by rw [HF.out],X3,⟨jm HB3.out _⟩⟩
       ·have b1:(x.f0 != 0)=true:=by simpa using zx
        have HF:=am (by unfold jq.off;rw [if_pos z0];simp [zx]:jq.off l1 a2 x=true)
        clear zx z0
        go_big_quiet (fail)
        go_wp2
        go_meet
        case rel=>exact ⟨by rw [HF.out],X3,⟨jm HB3.out _⟩⟩
      ·have b0:(a2 == 0)=false:=beq_eq_false_iff_ne.2 z0
       have b0':decide (0<a2)=true:=dzT (by omega)
       have q0:0≤a2 - 1:=by omega
       have q1:a2 - 1<(l1.length:Int):=by omega
       obtain ⟨j,hj⟩:∃ j,a2 - 1=j:=⟨_,rfl⟩
       rw [hj] at q0 q1
       obtain ⟨ad',he,y0,y1,y2,y3⟩:=jza HR1.out j q0 q1
       cases he
       replace y0:=jua HB3.out y0
       replace y1:=jua HB3.out y1
       clear y2 y3
       replace q0:=ezT q0
       replace q1:=ezT q1
       have HD:=am (by unfold jq.off;rw [if_neg z0]:jq.off l1 a2 x=if (if (wrap64 ((jd l1 (a2 - 1)).f0+1))<x.f0 then true else (jq.inB (jd l1 (a2 - 1)).f1 7 12 != (x.f0 == wrap64 ((jd l1 (a2 - 1)).f0+1)))) then true else decide (a2+1=(l1.length:Int)) && jq.inB x.f1 7 12)
       clear z0
       rw [hj] at HD
       generalize jd l1 j=y at HD y0 y1
       generalize hz:wrap64 (y.f0+1)=z at HD
       have HZ:=am hz
       by_cases zt:z<x.f0
       ·have b4:decide (z<x.f0)=true:=dzT zt
        have HF:=am (by rw [HD.out];simp [zt]:jq.off l1 a2 x=true)
        clear zt HD
        go_big_quiet (fail)
        go_wp2
        go_meet
        case rel=>exact ⟨by rw [HF.out],X3,⟨jm HB3.out _⟩⟩
       ·have b4:decide (z<x.f0)=false:=dzF zt
        cases hy:jq.inB y.f1 7 12 with
        | true =>
         have HY:=am hy
         by_cases ze:x.f0=z
         ·have b5:(x.f0 == z)=true:=beq_iff_eq.2 ze
          have HE:=am (by rw [HD.out,hy,b5];simp [zt]:jq.off l1 a2 x=(decide (a2+1=(l1.length:Int)) && jq.inB x.f1 7 12))
          clear zt HD hy ze
          by_cases zl:a2+1=(l1.length:Int)
          ·have b3:(a2+1 == (l1.length:Int))=true:=by rw [beq_iff_eq];omega
           cases hx:jq.inB x.f1 7 12 with
           | true =>
            have HX:=am hx
            have HF:=am (by rw [HE.out,hx,dzT zl];rfl:jq.off l1 a2 x=true)
            clear zl hx HE
            go_big_quiet (first |(go_at_call 87;exact Calls.quiet_of (HO.out y.f1 _ HY.out _)) |(go_at_call 87;exact Calls.quiet_of (HO.out x.f1 _ HX.out _)))
            go_wp2
            go_meet
            case rel=>exact ⟨by rw [HF.out],X3,⟨jm HB3.out _⟩⟩
           | false =>
            have HX:=am hx
            have HF:=am (by rw [HE.out,hx];simp:jq.off l1 a2 x=false)
            clear zl hx HE
            go_big_quiet (first |(go_at_call 87;exact Calls.quiet_of (HO.out y.f1 _ HY.out _)) |(go_at_call 87;exact Calls.quiet_of (HO.out x.f1 _ HX.out _)))
            go_wp2
            go_meet
            case rel=>exact ⟨by rw [HF.out],X3,⟨jm HB3.out _⟩⟩
          ·have b3:(a2+1 == (l1.length:Int))=false:=by rw [beq_eq_false_iff_ne];omega
           have HF:=am (by rw [HE.out,dzF zl];rfl:jq.off l1 a2 x=false)
           clear zl HE
           go_big_quiet ((go_at_call 87;exact Calls.quiet_of (HO.out y.f1 _ HY.out _)))
           go_wp2
           go_meet
           case rel=>exact ⟨by rw [HF.out],X3,⟨jm HB3.out _⟩⟩
         ·have b5:(x.f0 == z)=false:=beq_eq_false_iff_ne.2 ze
          have HF:=am (by rw [HD.out,hy,b5];simp:jq.off l1 a2 x=true)
          clear zt HD hy ze
          go_big_quiet ((go_at_call 87;exact Calls.quiet_of (HO.out y.f1 _ HY.out _)))
          go_wp2
          go_meet
          case rel=>exact ⟨by rw [HF.out],X3,⟨jm HB3.out _⟩⟩
        | false =>
         have HY:=am hy
         by_cases ze:x.f0=z
         ·have b5:(x.f0 == z)=true:=beq_iff_eq.2 ze
          have HF:=am (by rw [HD.out,hy,b5];simp:jq.off l1 a2 x=true)
          clear zt HD hy ze
          go_big_quiet ((go_at_call 87;exact Calls.quiet_of (HO.out y.f1 _ HY.out _)))
          go_wp2
          go_meet
          case rel=>exact ⟨by rw [HF.out],X3,⟨jm HB3.out _⟩⟩
         ·have b5:(x.f0 == z)=false:=beq_eq_false_iff_ne.2 ze
          have HE:=am (by rw [HD.out,hy,b5];simp [zt]:jq.off l1 a2 x=(decide (a2+1=(l1.length:Int)) && jq.inB x.f1 7 12))
          clear zt HD hy ze
          by_cases zl:a2+1=(l1.length:Int)
          ·have b3:(a2+1 == (l1.length:Int))=true:=by rw [beq_iff_eq];omega
           cases hx:jq.inB x.f1 7 12 with
           | true =>
            have HX:=am hx
            have HF:=am (by rw [HE.out,hx,dzT zl];rfl:jq.off l1 a2 x=true)
            clear zl hx HE
            go_big_quiet (first |(go_at_call 87;exact Calls.quiet_of (HO.out y.f1 _ HY.out _)) |(go_at_call 87;exact Calls.quiet_of (HO.out x.f1 _ HX.out _)))
            go_wp2
            go_meet
            case rel=>exact ⟨by rw [HF.out],X3,⟨jm HB3.out _⟩⟩
           | false =>
            have HX:=am hx
            have HF:=am (by rw [HE.out,hx];simp:jq.off l1 a2 x=false)
            clear zl hx HE
            go_big_quiet (first |(go_at_call 87;exact Calls.quiet_of (HO.out y.f1 _ HY.out _)) |(go_at_call 87;exact Calls.quiet_of (HO.out x.f1 _ HX.out _)))
            go_wp2
            go_meet
            case rel=>exact ⟨by rw [HF.out],X3,⟨jm HB3.out _⟩⟩
          ·have b3:(a2+1 == (l1.length:Int))=false:=by rw [beq_eq_false_iff_ne];omega
           have HF:=am (by rw [HE.out,dzF zl];rfl:jq.off l1 a2 x=false)
           clear zl HE
           go_big_quiet ((go_at_call 87;exact Calls.quiet_of (HO.out y.f1 _ HY.out _)))
           go_wp2
           go_meet
           case rel=>exact ⟨by rw [HF.out],X3,⟨jm HB3.out _⟩⟩
     case rest =>
      obtain ⟨rfl,X4,HB4⟩:=hcut
      clear X1 HB1
      have h:=HH.out
      clear HH
      obtain ⟨e0,e1,e2,e3⟩:=VX.cells X4.out
      have tok:True:=trivial
      have HO:=am (fun (a:Int) (b:Bool) (hb:jq.inB a 8 10=b) W=>jyb.calls a b W (by rw [spec_follows_eq,hb]))
      cases ho:jq.off l1 a2 x with
      | true =>
       rw [ho,if_pos rfl] at h
       obtain rfl:false=r:=by simpa using h
       clear h ho
       go_wp2
       go_ret
       exact ⟨rfl,HB4.out⟩
      | false =>
       rw [ho] at h
       simp only [Bool.false_eq_true,if_false] at h
       clear ho
       obtain ⟨c,hc,h⟩:=bzS h
       by_cases z7:x.f1=7
       ·rw [if_pos z7] at hc
        have HC:=am (fun W (hb:Below w.heap.size w W)=>jG.calls k _ c1 l1 a2 c W (Kd.jV HR1.out hb) hc1 hc)
        have b7:(x.f1 == 7)=true:=beq_iff_eq.2 z7
        have b5:(x.f1 == 5)=false:=beq_eq_false_iff_ne.2 (by omega)
        have b6:(x.f1 == 6)=false:=beq_eq_false_iff_ne.2 (by omega)
        cases c with
        | false =>
         obtain rfl:false=r:=by simpa using h
         clear h hc z7
         go_wp2_with (first |(go_at_call 88;refine (HC.out _ HB4.out).mono ?_;rintro e w5 ⟨rfl,hb5⟩;have X5:=am (VX.below X4.out hb5);have HB5:=am (jda HB4.out HB4.out.size hb5);clear hb5 e0 e1 e2 e3;obtain ⟨e0,e1,e2,e3⟩:=VX.cells X5.out))
         go_ret
         exact ⟨rfl,HB5.out⟩
        | true =>
         have hx:jq.inB x.f1 8 10=false:=by unfold jq.inB;rw [z7];rfl
         have HX:=am hx
         obtain rfl:true=r:=by simpa [z7,show jq.inB 7 8 10=false from rfl] using h
         clear h hc z7 hx
         go_wp2_with (first |(go_at_call 88;refine (HC.out _ HB4.out).mono ?_;rintro e w5 ⟨rfl,hb5⟩;have X5:=am (VX.below X4.out hb5);have HB5:=am (jda HB4.out HB4.out.size hb5);clear hb5 e0 e1 e2 e3;obtain ⟨e0,e1,e2,e3⟩:=VX.cells X5.out) |(go_at_call 90;have tk:=tok;clear tok;refine (HO.out x.f1 _ HX.out _).mono ?_;rintro e w6 ⟨rfl,hd6⟩;have hb6:=hd6.below;clear hd6;have X6:=am (VX.below X5.out hb6);have HB6:=am (jda HB5.out HB5.out.size hb6);clear hb6 e0 e1 e2 e3;obtain ⟨e0,e1,e2,e3⟩:=VX.cells X6.out))
         go_ret
         exact ⟨rfl,HB6.out⟩
       ·rw [if_neg z7] at hc
        obtain rfl:true=c:=by simpa using hc
        clear hc
        have b7:(x.f1 == 7)=false:=beq_eq_false_iff_ne.2 z7
        simp only [Bool.true_eq_false,if_false] at h
        obtain ⟨c,hc,h⟩:=bzS h
        by_cases z56:x.f1=5∨x.f1=6
        ·rw [if_pos z56] at hc
         have HC:=am (fun W (hb:Below w.heap.size w W)=>jQa.calls k _ c1 l1 a2 c W (Kd.jV HR1.out hb) hc1 hc)
         have hx:jq.inB x.f1 8 10=false:=by rcases z56 with z | z <;> (unfold jq.inB;rw [z];rfl)
         have HX:=am hx
         cases c with
         | false =>
          obtain rfl:false=r:=by simpa using h
          clear h hc hx
          rcases z56 with z | z
          ·have b5:(x.f1 == 5)=true:=beq_iff_eq.2 z
           clear z z7
           go_wp2_with (first |(go_at_call 89;refine (HC.out _ HB4.out).mono ?_;rintro e w5 ⟨rfl,hd5⟩;have hb5:=hd5.below;clear hd5;have X5:=am (VX.below X4.out hb5);have HB5:=am (jda HB4.out HB4.out.size hb5);clear hb5 e0 e1 e2 e3;obtain ⟨e0,e1,e2,e3⟩:=VX.cells X5.out))
           go_ret
           exact ⟨rfl,HB5.out⟩
          ·have b5:(x.f1 == 5)=false:=beq_eq_false_iff_ne.2 (by omega)
           have b6:(x.f1 == 6)=true:=beq_iff_eq.2 z
           clear z z7
           go_wp2_with (first |(go_at_call 89;refine (HC.out _ HB4.out).mono ?_;rintro e w5 ⟨rfl,hd5⟩;have hb5:=hd5.below;clear hd5;have X5:=am (VX.below X4.out hb5);have HB5:=am (jda HB4.out HB4.out.size hb5);clear hb5 e0 e1 e2 e3;obtain ⟨e0,e1,e2,e3⟩:=VX.cells X5.out))
           go_ret
           exact ⟨rfl,HB5.out⟩
         | true =>
          obtain rfl:true=r:=by simpa [hx] using h
          clear h hc hx
          rcases z56 with z | z
          ·have b5:(x.f1 == 5)=true:=beq_iff_eq.2 z
           clear z z7
           go_wp2_with (first |(go_at_call 89;refine (HC.out _ HB4.out).mono ?_;rintro e w5 ⟨rfl,hd5⟩;have hb5:=hd5.below;clear hd5;have X5:=am (VX.below X4.out hb5);have HB5:=am (jda HB4.out HB4.out.size hb5);clear hb5 e0 e1 e2 e3;obtain ⟨e0,e1,e2,e3⟩:=VX.cells X5.out) |(go_at_call 90;have tk:=tok;clear tok;refine (HO.out x.f1 _ HX.out _).mono ?_;rintro e w6 ⟨rfl,hd6⟩;have hb6:=hd6.below;clear hd6;have X6:=am (VX.below X5.out hb6);have HB6:=am (jda HB5.out HB5.out.size hb6);clear hb6 e0 e1 e2 e3;obtain ⟨e0,e1,e2,e3⟩:=VX.cells X6.out))
           go_ret
           exact ⟨rfl,HB6.out⟩
          ·have b5:(x.f1 == 5)=false:=beq_eq_false_iff_ne.2 (by omega)
           have b6:(x.f1 == 6)=true:=beq_iff_eq.2 z
           clear z z7
           go_wp2_with (first |(go_at_call 89;refine (HC.out _ HB4.out).mono ?_;rintro e w5 ⟨rfl,hd5⟩;have hb5:=hd5.below;clear hd5;have X5:=am (VX.below X4.out hb5);have HB5:=am (jda HB4.out HB4.out.size hb5);clear hb5 e0 e1 e2 e3;obtain ⟨e0,e1,e2,e3⟩:=VX.cells X5.out) |(go_at_call 90;have tk:=tok;clear tok;refine (HO.out x.f1 _ HX.out _).mono ?_;rintro e w6 ⟨rfl,hd6⟩;have hb6:=hd6.below;clear hd6;have X6:=am (VX.below X5.out hb6);have HB6:=am (jda HB5.out HB5.out.size hb6);clear hb6 e0 e1 e2 e3;obtain ⟨e0,e1,e2,e3⟩:=VX.cells X6.out))
           go_ret
           exact ⟨rfl,HB6.out⟩
        ·rw [if_neg z56] at hc
         obtain rfl:true=c:=by simpa using hc
         clear hc
         have b5:(x.f1 == 5)=false:=beq_eq_false_iff_ne.2 (fun z=>z56 (.inl z))
         have b6:(x.f1 == 6)=false:=beq_eq_false_iff_ne.2 (fun z=>z56 (.inr z))
         simp only [Bool.true_eq_false,if_false] at h
         clear z7 z56
         cases hx:jq.inB x.f1 8 10 with
         | false =>
          have HX:=am hx
          rw [hx,if_pos rfl] at h
          obtain rfl:true=r:=by simpa using h
          clear h hx
          go_wp2_with (first |(go_at_call 90;have tk:=tok;clear tok;refine (HO.out x.f1 _ HX.out _).mono ?_;rintro e w6 ⟨rfl,hd6⟩;have hb6:=hd6.below;clear hd6;have X6:=am (VX.below X4.out hb6);have HB6:=am (jda HB4.out HB4.out.size hb6);clear hb6 e0 e1 e2 e3;obtain ⟨e0,e1,e2,e3⟩:=VX.cells X6.out))
          go_ret
          exact ⟨rfl,HB6.out⟩
         | true =>
          have HX:=am hx
          rw [hx] at h
          simp only [Bool.true_eq_false,if_false] at h
          clear hx
          obtain ⟨q,hq,h⟩:=bzS h
          have HQ:=am (fun W (hb:Below w.heap.size w W)=>jYa.calls k _ c1 l1 a2 q W (Kd.jV HR1.out hb) hc1 hq)
          clear hq
          by_cases q0:0≤q
          ·rw [if_pos q0] at h
           have q0b:=dzT q0
           by_cases q1:q<(l1.length:Int)
           ·rw [if_pos q1] at h
            obtain ⟨ad',he,y0,y1,y2,y3⟩:=jza HR1.out q q0 q1
            cases he
            generalize jd l1 q=y at h y0 y1
            have HK:=am y1
            clear y0 y1 y2 y3
            have q0:=ezT q0
            have q1:=ezT q1
            by_cases zy:y.f1=7
            ·have by7:(y.f1 == 7)=true:=beq_iff_eq.2 zy
             obtain rfl:true=r:=by simpa [zy] using h
             clear h zy
             go_wp2_with (first |(go_at_call 90;have tk:=tok;clear tok;refine (HO.out x.f1 _ HX.out _).mono ?_;rintro e w6 ⟨rfl,hd6⟩;have hb6:=hd6.below;clear hd6;have X6:=am (VX.below X4.out hb6);have HB6:=am (jda HB4.out HB4.out.size hb6);clear hb6 e0 e1 e2 e3;obtain ⟨e0,e1,e2,e3⟩:=VX.cells X6.out) |(go_at_call 91;refine (HQ.out _ HB6.out).mono ?_;rintro e w7 ⟨rfl,hd7⟩;have hb7:=hd7.below;clear hd7;have X7:=am (VX.below X6.out hb7);have HB7:=am (jda HB6.out HB6.out.size hb7);clear hb7 e0 e1 e2 e3;obtain ⟨e0,e1,e2,e3⟩:=VX.cells X7.out;have y1:=jua HB7.out HK.out))
             go_ret
             exact ⟨rfl,HB7.out⟩
            ·have by7:(y.f1 == 7)=false:=beq_eq_false_iff_ne.2 zy
             cases hy:jq.inB y.f1 8 10 with
             | true =>
              have HY:=am hy
              obtain rfl:true=r:=by rw [hy,by7] at h;simpa using h
              clear h hy zy
              go_wp2_with (first |(go_at_call 90;have tk:=tok;clear tok;refine (HO.out x.f1 _ HX.out _).mono ?_;rintro e w6 ⟨rfl,hd6⟩;have hb6:=hd6.below;clear hd6;have X6:=am (VX.below X4.out hb6);have HB6:=am (jda HB4.out HB4.out.size hb6);clear hb6 e0 e1 e2 e3;obtain ⟨e0,e1,e2,e3⟩:=VX.cells X6.out) |(go_at_call 91;refine (HQ.out _ HB6.out).mono ?_;rintro e w7 ⟨rfl,hd7⟩;have hb7:=hd7.below;clear hd7;have X7:=am (VX.below X6.out hb7);have HB7:=am (jda HB6.out HB6.out.size hb7);clear hb7 e0 e1 e2 e3;obtain ⟨e0,e1,e2,e3⟩:=VX.cells X7.out;have y1:=jua HB7.out HK.out) |(go_at_call 90;refine (HO.out y.f1 _ HY.out _).mono ?_;rintro e w8 ⟨rfl,hd8⟩;have hb8:=hd8.below;clear hd8;have X8:=am (VX.below X7.out hb8);have HB8:=am (jda HB7.out HB7.out.size hb8);clear hb8 e0 e1 e2 e3;obtain ⟨e0,e1,e2,e3⟩:=VX.cells X8.out))
              go_ret
              exact ⟨rfl,HB8.out⟩
             | false =>
              have HY:=am hy
              obtain rfl:false=r:=by rw [hy,by7] at h;simpa using h
              clear h hy zy
              go_wp2_with (first |(go_at_call 90;have tk:=tok;clear tok;refine (HO.out x.f1 _ HX.out _).mono ?_;rintro e w6 ⟨rfl,hd6⟩;have hb6:=hd6.below;clear hd6;have X6:=am (VX.below X4.out hb6);have HB6:=am (jda HB4.out HB4.out.size hb6);clear hb6 e0 e1 e2 e3;obtain ⟨e0,e1,e2,e3⟩:=VX.cells X6.out) |(go_at_call 91;refine (HQ.out _ HB6.out).mono ?_;rintro e w7 ⟨rfl,hd7⟩;have hb7:=hd7.below;clear hd7;have X7:=am (VX.below X6.out hb7);have HB7:=am (jda HB6.out HB6.out.size hb7);clear hb7 e0 e1 e2 e3;obtain ⟨e0,e1,e2,e3⟩:=VX.cells X7.out;have y1:=jua HB7.out HK.out) |(go_at_call 90;refine (HO.out y.f1 _ HY.out _).mono ?_;rintro e w8 ⟨rfl,hd8⟩;have hb8:=hd8.below;clear hd8;have X8:=am (VX.below X7.out hb8);have HB8:=am (jda HB7.out HB7.out.size hb8);clear hb8 e0 e1 e2 e3;obtain ⟨e0,e1,e2,e3⟩:=VX.cells X8.out))
              go_ret
              exact ⟨rfl,HB8.out⟩
           ·rw [if_neg q1] at h
            cases h
          ·rw [if_neg q0] at h
           have q0b:=dzF q0
           obtain rfl:false=r:=by simpa using h
           clear h q0
           go_wp2_with (first |(go_at_call 90;have tk:=tok;clear tok;refine (HO.out x.f1 _ HX.out _).mono ?_;rintro e w6 ⟨rfl,hd6⟩;have hb6:=hd6.below;clear hd6;have X6:=am (VX.below X4.out hb6);have HB6:=am (jda HB4.out HB4.out.size hb6);clear hb6 e0 e1 e2 e3;obtain ⟨e0,e1,e2,e3⟩:=VX.cells X6.out) |(go_at_call 91;refine (HQ.out _ HB6.out).mono ?_;rintro e w7 ⟨rfl,hd7⟩;have hb7:=hd7.below;clear hd7;have X7:=am (VX.below X6.out hb7);have HB7:=am (jda HB6.out HB6.out.size hb7);clear hb7 e0 e1 e2 e3;obtain ⟨e0,e1,e2,e3⟩:=VX.cells X7.out))
           go_ret
           exact ⟨rfl,HB7.out⟩
  ·rw [if_neg h1] at h
   cases h
 ·rw [if_neg h0] at h
  cases h
def jMa.l0 : Nat → ByteArray → Int → Option (Bool)
 | 0,_,_=>none
 | k+1,x0,x3=>if x3<(x0.size:Int) then (if 0≤x3 then (if (bt x0 x3)<97 then (some false) else (if (bt x0 x3) > 122 then (some false) else (jMa.l0 k x0 (wrap64 (x3+1))))) else (none)) else ((jM.f (x0.size:Int) 1 6).bind fun t152=>(some t152))
def jMa.f (k : Nat) (a0 : ByteArray) : Option (Bool) := jMa.l0 k a0 0
set_option maxHeartbeats 8000000 in
set_option maxRecDepth 100000 in
theorem jMa.calls (k : Nat) (a0 : ByteArray) (r : Bool) (w : World) (h : jMa.f k a0 = some r) :
  Calls Try.prog 92 #[.string a0] w fun e w'=>e=.returned (.bool r)∧jfb w w':=by
 have H:(jMa.l0 k a0 0)=some r:=h
 clear h
 have H':=am H
 clear H
 go_enter Try.func92,Try.ntmps92
 go_wp2
 go_loopg [3] k (fun kq v3 w'=>∃ (x3_1:Int),v3=.int .i64 x3_1∧jl (jMa.l0 kq a0 x3_1=some r)∧jl (kq≤k)∧jfb w w')
 case atStart=>exact ⟨(0),(sq),H',⟨Nat.le_refl _⟩,Y5⟩
 case round =>
  clear H'
  obtain ⟨x3_1,rfl,HA,HK1,⟨m1,rfl⟩⟩:=hrel
  cases gk with
  | zero=>exact absurd HA.out (by simp [jMa.l0])
  | succ k1 =>
   have H:=HA.out
   clear HA
   simp only [jMa.l0] at H
   by_cases c2:x3_1<(a0.size:Int)
   ·rw [if_pos c2] at H
    have c2b0:decide (x3_1<(a0.size:Int))=true:=dzT c2
    clear c2
    by_cases c3:0≤x3_1
    ·rw [if_pos c3] at H
     have c3b0:decide (0≤x3_1)=true:=dzT c3
     clear c3
     by_cases c5:(bt a0 x3_1)<97
     ·rw [if_pos c5] at H
      have c5b0:decide ((bt a0 x3_1)<97)=true:=dzT c5
      clear c5
      obtain rfl:=Option.some.inj H
      have p4:0≤(x3_1:Int):=ozD (uq)
      have q4:x3_1<(a0.size:Int):=ozD (uq)
      have hx4:=bt_at a0 x3_1
      replace p4:=ezT p4
      replace q4:=ezT q4
      go_wp2
      go_ret
      exact ⟨sq,Y5⟩
     ·rw [if_neg c5] at H
      have c5b0:decide ((bt a0 x3_1)<97)=false:=dzF c5
      clear c5
      by_cases c7:(bt a0 x3_1) > 122
      ·rw [if_pos c7] at H
       have c7b0:decide (122<(bt a0 x3_1))=true:=dzT c7
       clear c7
       obtain rfl:=Option.some.inj H
       have p4:0≤(x3_1:Int):=ozD (uq)
       have q4:x3_1<(a0.size:Int):=ozD (uq)
       have hx4:=bt_at a0 x3_1
       replace p4:=ezT p4
       replace q4:=ezT q4
       have p6:0≤(x3_1:Int):=ozD (uq)
       have q6:x3_1<(a0.size:Int):=ozD (uq)
       have hx6:=bt_at a0 x3_1
       replace p6:=ezT p6
       replace q6:=ezT q6
       go_wp2
       go_ret
       exact ⟨sq,Y5⟩
      ·rw [if_neg c7] at H
       have c7b0:decide (122<(bt a0 x3_1))=false:=dzF c7
       clear c7
       have H':=am H
       clear H
       have p4:0≤(x3_1:Int):=ozD (uq)
       have q4:x3_1<(a0.size:Int):=ozD (uq)
       have hx4:=bt_at a0 x3_1
       replace p4:=ezT p4
       replace q4:=ezT q4
       have p6:0≤(x3_1:Int):=ozD (uq)
       have q6:x3_1<(a0.size:Int):=ozD (uq)
       have hx6:=bt_at a0 x3_1
       replace p6:=ezT p6
       replace q6:=ezT q6
       go_wp2
       go_roundg k1
       case measure=>have:=HK1.out;omega
       case rel=>exact ⟨(wrap64 (x3_1+1)),(sq),H',⟨by have:=HK1.out;omega⟩,Y5⟩
    ·rw [if_neg c3] at H
     exact absurd H (by simp)
   ·rw [if_neg c2] at H
    have c2b0:decide (x3_1<(a0.size:Int))=false:=dzF c2
    clear c2
    replace H:=bzS H
    obtain ⟨t152,A80,H⟩:=H
    replace H:(some t152)=some r:=H
    have A8:=am A80
    clear A80
    obtain rfl:=Option.some.inj H
    go_wp2_with (first |((with_reducible refine je (f:=60) rfl ?_);refine gL (some 22) Try.func60 #[.int .i64 (a0.size:Int), .int .i64 1, .int .i64 6] ?_;(with_reducible refine (jM.calls (a0.size:Int) 1 6 t152 _ A8.out).mono ?_);rintro e w' ⟨rfl,⟨nd,rfl⟩⟩;refine ⟨_,rfl,?_⟩))
    go_ret
    exact ⟨sq,Y5⟩
def jIa.l0 : Nat → List (S98) → ByteArray → Int → Option (Int)
 | 0,_,_,_=>none
 | k+1,x0,x1,x5=>if x5<(x0.length:Int) then (if 0≤x5 then (if ((jba x0 x5).f0).toList=x1.toList then (some x5) else (jIa.l0 k x0 x1 (wrap64 (x5+1)))) else (none)) else (some (-1))
def jIa.f (k : Nat) (l0 : List (S98)) (a1 : ByteArray) : Option (Int) := jIa.l0 k l0 a1 0
set_option maxHeartbeats 8000000 in
set_option maxRecDepth 100000 in
theorem jIa.calls (k : Nat) (A0 : Option Addr) (c0 : Nat) (l0 : List (S98)) (a1 : ByteArray) (r : Int) (w : World) (hr0 : Kd.C k98 w A0 l0.length l0) (hc0 : l0.length ≤ c0) (h : jIa.f k l0 a1 = some r) :
  Calls Try.prog 93 #[.slice A0 l0.length c0, .string a1] w fun e w'=>e=.returned (.int .i64 r)∧jfb w w':=by
 have HR0:=am hr0
 have HC0:=am hc0
 clear hr0 hc0
 have H:(jIa.l0 k l0 a1 0)=some r:=h
 clear h
 have H':=am H
 clear H
 go_enter Try.func93,Try.ntmps93
 go_wp2
 go_loopg [5] k (fun kq v5 w'=>∃ (x5_1:Int),v5=.int .i64 x5_1∧jl (jIa.l0 kq l0 a1 x5_1=some r)∧jl (kq≤k)∧jfb w w')
 case atStart=>exact ⟨(0),(sq),H',⟨Nat.le_refl _⟩,Y5⟩
 case round =>
  clear H'
  try clear p2
  obtain ⟨x5_1,rfl,HA,HK1,⟨m1,rfl⟩⟩:=hrel
  cases gk with
  | zero=>exact absurd HA.out (by simp [jIa.l0])
  | succ k1 =>
   have H:=HA.out
   clear HA
   simp only [jIa.l0] at H
   by_cases c3:x5_1<(l0.length:Int)
   ·rw [if_pos c3] at H
    have c3b0:decide (x5_1<(l0.length:Int))=true:=dzT c3
    clear c3
    by_cases c4:0≤x5_1
    ·rw [if_pos c4] at H
     have c4b0:decide (0≤x5_1)=true:=dzT c4
     clear c4
     by_cases c5:((jba l0 x5_1).f0).toList=a1.toList
     ·rw [if_pos c5] at H
      have c5b0:(((jba l0 x5_1).f0).toList == a1.toList)=true:=beq_iff_eq.mpr c5
      have c5b1:(((jba l0 x5_1).f0).toList != a1.toList)=false:=bne_eq_false_iff_eq.mpr c5
      clear c5
      obtain rfl:=Option.some.inj H
      have p153:0≤(x5_1:Int):=ozD (uq)
      have q153:x5_1<(l0.length:Int):=ozD (uq)
      obtain ⟨ad153,e153,hx153_0,hx153_1⟩:=at_T98 HR0.out x5_1 p153 q153
      cases e153
      replace p153:=ezT p153
      replace q153:=ezT q153
      go_wp2
      go_ret
      exact ⟨sq,Y5⟩
     ·rw [if_neg c5] at H
      have c5b0:(((jba l0 x5_1).f0).toList == a1.toList)=false:=beq_eq_false_iff_ne.mpr c5
      have c5b1:(((jba l0 x5_1).f0).toList != a1.toList)=true:=bne_iff_ne.mpr c5
      have H':=am H
      clear H
      have p153:0≤(x5_1:Int):=ozD (uq)
      have q153:x5_1<(l0.length:Int):=ozD (uq)
      obtain ⟨ad153,e153,hx153_0,hx153_1⟩:=at_T98 HR0.out x5_1 p153 q153
      cases e153
      replace p153:=ezT p153
      replace q153:=ezT q153
      go_wp2
      go_roundg k1
      case measure=>have:=HK1.out;omega
      case rel=>exact ⟨(wrap64 (x5_1+1)),(sq),H',⟨by have:=HK1.out;omega⟩,Y5⟩
    ·rw [if_neg c4] at H
     exact absurd H (by simp)
   ·rw [if_neg c3] at H
    have c3b0:decide (x5_1<(l0.length:Int))=false:=dzF c3
    clear c3
    obtain rfl:=Option.some.inj H
    go_wp2
    go_ret
    exact ⟨sq,Y5⟩
mutual
def jQ.l0 : Nat → Int → List (S98) → Option (Bool)
 | 0,_,_=>none
 | k+1,x3,x155000=>if x3<(x155000.length:Int) then (if 0≤x3 then ((jMa.f k ((jba x155000 x3).f0)).bind fun t158=>(if t158=true then (if x3≤(x155000.length:Int) then ((jIa.f k (x155000.take (x3:Int).toNat) ((jba x155000 x3).f0)).bind fun t163=>(if t163≥0 then (jQ.j1 k x3 true x155000) else (if x3=0 then (if ((jba x155000 x3).f1)=(-1) then (if x3 > 0 then ((jM.f ((jba x155000 x3).f1) 0 (wrap64 (x3 - 1))).bind fun t164=>(jQ.j1 k x3 (!t164) x155000)) else (jQ.j1 k x3 false x155000)) else (jQ.j1 k x3 true x155000)) else (if x3 > 0 then ((jM.f ((jba x155000 x3).f1) 0 (wrap64 (x3 - 1))).bind fun t165=>(jQ.j1 k x3 (!t165) x155000)) else (jQ.j1 k x3 false x155000))))) else (none)) else (jQ.j1 k x3 true x155000))) else (none)) else ((jM.f (x155000.length:Int) 1 8).bind fun t155=>(some t155))
def jQ.j1 : Nat → Int → Bool → List (S98) → Option (Bool)
 | 0,_,_,_=>none
 | k+1,x3,x51,x155000=>if x51=true then (some false) else (jQ.l0 k (wrap64 (x3+1)) x155000)
end
def jQ.f (k : Nat) (l0_0 : List (S98)) : Option (Bool) := jQ.l0 k 0 l0_0
set_option maxHeartbeats 8000000 in
set_option maxRecDepth 100000 in
theorem jQ.calls (k : Nat) (A0_0 : Option Addr) (c0_0 : Nat) (l0_0 : List (S98)) (r : Bool) (w : World) (hr0_0 : Kd.C k98 w A0_0 l0_0.length l0_0) (hc0_0 : l0_0.length ≤ c0_0) (h : jQ.f k l0_0 = some r) :
  Calls Try.prog 64 #[.agg #[.slice A0_0 l0_0.length c0_0]] w fun e w'=>e=.returned (.bool r)∧Below w.heap.size w w':=by
 have hu32:=Try.underlying32
 have hu98:=Try.underlying98
 have HR0_0:=am hr0_0
 have HC0_0:=am hc0_0
 clear hr0_0 hc0_0
 have HB:=am (Below.refl w.heap.size w)
 have H:(jQ.l0 k 0 l0_0)=some r:=h
 clear h
 have H':=am H
 clear H
 go_enter Try.func64,Try.ntmps64
 go_wp2_with (first |((with_reducible refine jS (N:=1) rfl ?_);refine bE (N:=1) (cs:=#[.slice A0_0 l0_0.length c0_0]) (t:=32) ?_;intro gb154 hg w2 hbox hb;have BK154:=am (hbox);have GW154:=am ((Y9:w.heap.size≤gb154));have GE154:=am ((Y9:w.heap.size≤gb154));replace HB:=am (jg (bq) hb);clear hb hbox hg))
 go_loopg [3] k (fun kq v3 w'=>∃ (x3_1:Int),v3=.int .i64 x3_1∧jl (jQ.l0 kq x3_1 l0_0=some r)∧jl (kq≤k)∧jl (w'.heap[gb154]?=some (.cells #[(.slice A0_0 l0_0.length c0_0)] 32 (0,0)))∧jl (Below w.heap.size w w'))
 case atStart=>exact ⟨(0),(sq),H',⟨Nat.le_refl _⟩,⟨kq BK154.out⟩,⟨Y35⟩⟩
 case round =>
  clear H'
  try clear c1
  try clear p2
  obtain ⟨x3_1,rfl,HA,HK1,BK154,HB⟩:=hrel
  cases gk with
  | zero=>exact absurd HA.out (by simp [jQ.l0])
  | succ k1 =>
   have H:=HA.out
   clear HA
   simp only [jQ.l0] at H
   by_cases c3:x3_1<(l0_0.length:Int)
   ·rw [if_pos c3] at H
    have c3b0:decide (x3_1<(l0_0.length:Int))=true:=dzT c3
    clear c3
    by_cases c4:0≤x3_1
    ·rw [if_pos c4] at H
     have c4b0:decide (0≤x3_1)=true:=dzT c4
     clear c4
     have HC5:=am H
     clear H
     have hcz6_0:=bc0 BK154.out
     have hfz6_0:=ja BK154.out 0
     have p156:0≤(x3_1:Int):=ozD (uq)
     have q156:x3_1<(l0_0.length:Int):=ozD (uq)
     obtain ⟨ad156,e156,hx156_0,hx156_1⟩:=at_T98 HR0_0.out x3_1 p156 q156
     cases e156
     replace hx156_0:=cb HB.out hx156_0
     replace hx156_1:=cb HB.out hx156_1
     replace p156:=ezT p156
     replace q156:=ezT q156
     go_upto_region 5 with (first |((with_reducible refine jS (N:=4) rfl ?_);refine bE (N:=4) (cs:=#[.string (⟨#[]⟩:ByteArray), .int .i64 0]) (t:=98) ?_;intro gb157 hg w7 hbox hb;have BK157:=am (hbox);have GW157:=am ((Y92:w.heap.size≤gb157));have GE157:=am ((Y92:w.heap.size≤gb157));have NB154_157:=am ((by rw [hg];exact Nat.ne_of_lt (jrb (g:=gb154) (o:=.cells #[.slice (some ad156) l0_0.length c0_0] 32 (0,0)) (kq BK154.out)):gb154≠gb157));have NB157_154:=am ((by rw [hg];exact Nat.ne_of_gt (jrb (g:=gb154) (o:=.cells #[.slice (some ad156) l0_0.length c0_0] 32 (0,0)) (kq BK154.out)):gb157≠gb154));replace BK154:=am (jo (g:=gb154) (o:=.cells #[.slice (some ad156) l0_0.length c0_0] 32 (0,0)) (kq BK154.out) hb);replace HB:=am (jg (Y35) hb);clear hb hbox hg;have hnb8:=NB157_154.out;have hnc8:=NB154_157.out;have hcz9_0:=bc0 BK157.out;have hcz9_1:=bc1 BK157.out;have hfz9_0:=ja BK157.out 0;have hfz9_1:=ja BK157.out 1))
     (try simp only [Act.put,List.setIfInBounds_toArray,List.set_cons_zero,List.set_cons_succ])
     go_cut [51] (fun v51 wc=>∃ (kq:Nat) (x51_4:Bool),v51=.bool x51_4∧jl (jQ.j1 kq x3_1 x51_4 l0_0=some r)∧jl (kq≤k1)∧jl (wc.heap[gb154]?=some (.cells #[(.slice (some ad156) l0_0.length c0_0)] 32 (0,0)))∧jl (wc.heap[gb157]?=some (.cells #[.string ((jba l0_0 x3_1).f0), .int .i64 ((jba l0_0 x3_1).f1)] 98 (0,0)))∧jl (Below w.heap.size w wc))
     case first =>
      have n0_:jl (((w7.setCell ⟨gb157,0,none⟩ (.string ((jba l0_0 x3_1).f0))).setCell ⟨gb157,1,none⟩ (.int .i64 ((jba l0_0 x3_1).f1))).heap[gb154]?=some (.cells #[.slice (some ad156) l0_0.length c0_0] 32 (0,0))):=⟨by (with_reducible repeat (first | refine jr ?_ _ | refine jF ?_ | refine jB ?_ _));refine jjb ?_ NB154_157.out _;(with_reducible repeat (first | refine jr ?_ _ | refine jF ?_ | refine jB ?_ _));refine jjb ?_ NB154_157.out _;(with_reducible repeat (first | refine jr ?_ _ | refine jF ?_ | refine jB ?_ _));exact BK154.out⟩
      have n1_:jl (((w7.setCell ⟨gb157,0,none⟩ (.string ((jba l0_0 x3_1).f0))).setCell ⟨gb157,1,none⟩ (.int .i64 ((jba l0_0 x3_1).f1))).heap[gb157]?=some (.cells #[.string ((jba l0_0 x3_1).f0), .int .i64 ((jba l0_0 x3_1).f1)] 98 (0,0))):=⟨by (with_reducible repeat (first | refine jr ?_ _ | refine jF ?_ | refine jB ?_ _));refine jXa (cs:=#[.string ((jba l0_0 x3_1).f0), .int .i64 0]) ?_ 1 _ rfl;(with_reducible repeat (first | refine jr ?_ _ | refine jF ?_ | refine jB ?_ _));refine jXa (cs:=#[.string (⟨#[]⟩:ByteArray), .int .i64 0]) ?_ 0 _ rfl;(with_reducible repeat (first | refine jr ?_ _ | refine jF ?_ | refine jB ?_ _));exact BK157.out⟩
      have n2_:jl (Below w.heap.size w ((w7.setCell ⟨gb157,0,none⟩ (.string ((jba l0_0 x3_1).f0))).setCell ⟨gb157,1,none⟩ (.int .i64 ((jba l0_0 x3_1).f1)))):=⟨Y84⟩
      clear BK154 BK157 HB hcz9_0 hcz9_1 hfz9_0 hfz9_1
      generalize ((w7.setCell ⟨gb157,0,none⟩ (.string ((jba l0_0 x3_1).f0))).setCell ⟨gb157,1,none⟩ (.int .i64 ((jba l0_0 x3_1).f1)))=w16 at n0_ n1_ n2_ ⊢
      have BK154:=n0_
      have BK157:=n1_
      have HB:=n2_
      clear n0_ n1_ n2_
      have HRW:=am (Kd.jV HR0_0.out HB.out)
      have e0:w16.cell? ⟨gb157,0,none⟩=some (.string ((jba l0_0 x3_1).f0)):=(jA BK157.out 0).trans rfl
      have e1:w16.cell? ⟨gb157,1,none⟩=some (.int .i64 ((jba l0_0 x3_1).f1)):=(jA BK157.out 1).trans rfl
      have e2:w16.cell? ⟨gb154,0,none⟩=some (.slice (some ad156) l0_0.length c0_0):=(jA BK154.out 0).trans rfl
      have H:=HC5.out
      clear HC5
      obtain ⟨v,hv,H⟩:=bzS H
      have HN:=am (fun W=>(jMa.calls k1 _ v W hv).mono fun e w' h=>(⟨h.1,h.2.out⟩:e=.returned (.bool v)∧∃ m,w'=W.drewN m))
      clear hv hx156_0 hx156_1
      generalize hgx:jba l0_0 x3_1=x at H e0 e1 HN BK157
      have HGX:=am hgx
      clear hgx
      cases v with
      | false =>
       have H':=am (show jQ.j1 k1 x3_1 true l0_0=some r from H)
       clear H
       go_big_quiet ((go_at_call 92;exact Calls.quiet_of (HN.out _)))
       go_wp2
       go_meet
       case rel=>exact ⟨_,_,rfl,H',⟨by have:=HK1.out;omega⟩,⟨jr BK154.out _⟩,⟨by rw [HGX.out];exact jr BK157.out _⟩,⟨jm HB.out _⟩⟩
      | true =>
       replace H:(if x3_1≤(l0_0.length:Int) then ((jIa.f k1 (l0_0.take (x3_1:Int).toNat) x.f0).bind fun t163=>(if t163≥0 then (jQ.j1 k1 x3_1 true l0_0) else (if x3_1=0 then (if x.f1=(-1) then (if x3_1 > 0 then ((jM.f x.f1 0 (wrap64 (x3_1 - 1))).bind fun t164=>(jQ.j1 k1 x3_1 (!t164) l0_0)) else (jQ.j1 k1 x3_1 false l0_0)) else (jQ.j1 k1 x3_1 true l0_0)) else (if x3_1 > 0 then ((jM.f x.f1 0 (wrap64 (x3_1 - 1))).bind fun t165=>(jQ.j1 k1 x3_1 (!t165) l0_0)) else (jQ.j1 k1 x3_1 false l0_0))))) else (none))=some r:=H
       have hle:x3_1≤(l0_0.length:Int):=by have:=ozD c3b0;omega
       have h0:0≤x3_1:=ozD c4b0
       rw [if_pos hle] at H
       obtain ⟨c,hc,H⟩:=bzS H
       obtain ⟨i0,hi0,_,_,_⟩:=info_parts info98
       have hcut:=cut_to (P:=Try.prog) 30 98 .i64 Try.underlying30 hi0 (some ad156) l0_0.length c0_0 x3_1 h0 hle HC0_0.out
       have hr18:=Kd.C_take (m:=(x3_1:Int).toNat) HRW.out (by omega)
       obtain ⟨y,hy⟩:∃ y:List S98,y=l0_0.take (x3_1:Int).toNat:=⟨_,rfl⟩
       have hyl:y.length=(x3_1:Int).toNat:=by rw [hy,List.length_take];omega
       have hyc:y.length≤c0_0:=by have:=HC0_0.out;omega
       rw [← hy] at hr18
       rw [← hyl] at hcut
       rw [← hy] at hc
       have HCN:=am (fun m=>(jIa.calls k1 _ _ y x.f0 c (w16.drewN m) (Kd.jmc hr18 m) hyc hc).mono fun e w' h=>(⟨h.1,h.2.out⟩:e=.returned (.int .i64 c)∧∃ m',w'=(w16.drewN m).drewN m'))
       clear hr18 hc hy hyl hyc
       have b0:=ezT h0
       have b1:=ezT hle
       by_cases hc0:c≥0
       ·rw [if_pos hc0] at H
        have b2:decide (0≤c)=true:=dzT hc0
        have H':=am H
        clear H hc0 h0 hle
        go_big_quiet (first |(go_at_call 92;exact Calls.quiet_of (HN.out _)) |(go_at_call 93;exact Calls.quiet_of (HCN.out _)))
        go_wp2
        go_meet
        case rel=>exact ⟨_,_,rfl,H',⟨by have:=HK1.out;omega⟩,⟨jr BK154.out _⟩,⟨by rw [HGX.out];exact jr BK157.out _⟩,⟨jm HB.out _⟩⟩
       ·rw [if_neg hc0] at H
        have b2:decide (0≤c)=false:=dzF hc0
        clear hc0
        by_cases hz:x3_1=0
        ·rw [if_pos hz] at H
         have b3:(x3_1 == 0)=true:=beq_iff_eq.2 hz
         have b4:decide (0<x3_1)=false:=dzF (by omega)
         by_cases hf:x.f1 = -1
         ·rw [if_pos hf,if_neg (by omega)] at H
          have b5:(x.f1 != -1)=false:=by simpa using hf
          have H':=am H
          clear H hf h0 hle hz
          go_big_quiet (first |(go_at_call 92;exact Calls.quiet_of (HN.out _)) |(go_at_call 93;exact Calls.quiet_of (HCN.out _)))
          go_wp2
          go_meet
          case rel=>exact ⟨_,_,rfl,H',⟨by have:=HK1.out;omega⟩,⟨jr BK154.out _⟩,⟨by rw [HGX.out];exact jr BK157.out _⟩,⟨jm HB.out _⟩⟩
         ·rw [if_neg hf] at H
          have b5:(x.f1 != -1)=true:=by simpa using hf
          have H':=am H
          clear H hf h0 hle hz
          go_big_quiet (first |(go_at_call 92;exact Calls.quiet_of (HN.out _)) |(go_at_call 93;exact Calls.quiet_of (HCN.out _)))
          go_wp2
          go_meet
          case rel=>exact ⟨_,_,rfl,H',⟨by have:=HK1.out;omega⟩,⟨jr BK154.out _⟩,⟨by rw [HGX.out];exact jr BK157.out _⟩,⟨jm HB.out _⟩⟩
        ·rw [if_neg hz,if_pos (by omega)] at H
         have b3:(x3_1 == 0)=false:=beq_eq_false_iff_ne.2 hz
         have b4:decide (0<x3_1)=true:=dzT (by omega)
         obtain ⟨t,ht,H⟩:=bzS H
         have H':=am H
         have HI:=am (fun W=>(jM.calls _ _ _ t W ht).mono fun e w' h=>(⟨h.1,h.2.out⟩:e=.returned (.bool t)∧∃ m,w'=W.drewN m))
         clear H ht h0 hle hz
         go_big_quiet (first |(go_at_call 92;exact Calls.quiet_of (HN.out _)) |(go_at_call 93;exact Calls.quiet_of (HCN.out _)) |(go_at_call 60;exact Calls.quiet_of (HI.out _)))
         go_wp2
         go_meet
         case rel=>exact ⟨_,_,rfl,H',⟨by have:=HK1.out;omega⟩,⟨jr BK154.out _⟩,⟨by rw [HGX.out];exact jr BK157.out _⟩,⟨jm HB.out _⟩⟩
     case rest =>
      clear HC5
      try clear c1
      try clear c2
      try clear p2
      try clear c3
      try clear q3
      try clear p6
      try clear c11
      try clear c12
      try clear c13
      try clear c21
      try clear c32
      try clear c32b0
      try clear q39
      try clear q39
      obtain ⟨kq,x51_4,rfl,HA,HJ4,BK154,BK157,HB⟩:=hcut
      cases kq with
      | zero=>exact absurd HA.out (by simp [jQ.j1])
      | succ kj4 =>
       have H:=HA.out
       clear HA
       simp only [jQ.j1] at H
       by_cases c42:x51_4=true
       ·subst c42
        have H1:(some false)=some r:=by rw [if_pos rfl] at H;exact H
        clear H
        have H:=H1
        clear H1
        obtain rfl:=Option.some.inj H
        go_wp2
        go_ret
        exact ⟨Y0,Y84⟩
       ·replace c42:=Bool.eq_false_iff.mpr c42
        subst c42
        have H1:(jQ.l0 kj4 (wrap64 (x3_1+1)) l0_0)=some r:=by rw [if_neg (show ¬ (false=true) by decide)] at H;exact H
        clear H
        have H:=H1
        clear H1
        have H':=am H
        clear H
        go_wp2
        go_roundg kj4
        case measure=>have:=HK1.out;have:=HJ4.out;omega
        case rel=>exact ⟨(wrap64 (x3_1+1)),(sq),H',⟨by have:=HK1.out;have:=HJ4.out;omega⟩,⟨kq BK154.out⟩,⟨Y84⟩⟩
    ·rw [if_neg c4] at H
     exact absurd H (by simp)
   ·rw [if_neg c3] at H
    have c3b0:decide (x3_1<(l0_0.length:Int))=false:=dzF c3
    clear c3
    replace H:=bzS H
    obtain ⟨t155,A430,H⟩:=H
    replace H:(some t155)=some r:=H
    have A43:=am A430
    clear A430
    obtain rfl:=Option.some.inj H
    have hcz44_0:=bc0 BK154.out
    have hfz44_0:=ja BK154.out 0
    go_wp2_with (first |((with_reducible refine je (f:=60) rfl ?_);refine gL (some 55) Try.func60 #[.int .i64 (l0_0.length:Int), .int .i64 1, .int .i64 8] ?_;(with_reducible refine (jM.calls (l0_0.length:Int) 1 8 t155 _ A43.out).mono ?_);rintro e w' ⟨rfl,⟨nd,rfl⟩⟩;refine ⟨_,rfl,?_⟩))
    go_ret
    exact ⟨Y0,Y35⟩
def jaa.l0 : Nat → List (S59) → Int → List (S98) → Option (Bool)
 | 0,_,_,_=>none
 | k+1,x1,x5,x155000=>if x5<(x1.length:Int) then ((jq.f k x155000 x1 x5).bind fun t156=>(if t156=true then (jaa.l0 k x1 (wrap64 (x5+1)) x155000) else (some false))) else ((jQ.f k x155000).bind fun t155=>(if t155=true then (some (decide ((x1.length:Int)≤24))) else (some false)))
def jaa.f (k : Nat) (l0_0 : List (S98)) (l1 : List (S59)) : Option (Bool) := jaa.l0 k l1 0 l0_0
set_option maxHeartbeats 8000000 in
set_option maxRecDepth 100000 in
theorem jaa.calls (k : Nat) (A0_0 : Option Addr) (c0_0 : Nat) (l0_0 : List (S98)) (A1 : Option Addr) (c1 : Nat) (l1 : List (S59)) (r : Bool) (w : World) (hr0_0 : Kd.C k98 w A0_0 l0_0.length l0_0) (hc0_0 : l0_0.length ≤ c0_0) (hr1 : Kd.C k59 w A1 l1.length l1) (hc1 : l1.length ≤ c1) (h : jaa.f k l0_0 l1 = some r) :
  Calls Try.prog 29 #[.agg #[.slice A0_0 l0_0.length c0_0], .slice A1 l1.length c1] w fun e w'=>e=.returned (.bool r)∧Below w.heap.size w w':=by
 have hu32:=Try.underlying32
 have HR0_0:=am hr0_0
 have HC0_0:=am hc0_0
 clear hr0_0 hc0_0
 have HR1:=am hr1
 have HC1:=am hc1
 clear hr1 hc1
 have HB:=am (Below.refl w.heap.size w)
 have H:(jaa.l0 k l1 0 l0_0)=some r:=h
 clear h
 have H':=am H
 clear H
 go_enter Try.func29,Try.ntmps29
 go_wp2_with (first |((with_reducible refine jS (N:=2) rfl ?_);(try (refine gate_guard (by rfl) ?_;dsimp only));refine box_event ?hg (N:=2) ?hd (cs:=#[.slice A0_0 l0_0.length c0_0]) (t:=32) ?hr ?_;(case hd=>rfl);(case hg=>rfl);(case hr=>exact Y8);intro gb154 hg w3 hbox hb;have BK154:=am (hbox);have GW154:=am ((Y9:w.heap.size≤gb154));have GE154:=am ((Y9:w.heap.size≤gb154));replace HB:=am (jg (bq) hb);clear hb hbox hg))
 go_loopg [5] k (fun kq v5 w'=>∃ (x5_1:Int),v5=.int .i64 x5_1∧jl (jaa.l0 kq l1 x5_1 l0_0=some r)∧jl (kq≤k)∧jl (w'.heap[gb154]?=some (.cells #[(.slice A0_0 l0_0.length c0_0)] 32 (0,0)))∧jl (Below w.heap.size w w'))
 case atStart=>exact ⟨(0),(sq),H',⟨Nat.le_refl _⟩,⟨kq BK154.out⟩,⟨Y35⟩⟩
 case round =>
  clear H'
  try clear c1
  try clear c2
  try clear p2
  obtain ⟨x5_1,rfl,HA,HK1,BK154,HB⟩:=hrel
  cases gk with
  | zero=>exact absurd HA.out (by simp [jaa.l0])
  | succ k1 =>
   have H:=HA.out
   clear HA
   simp only [jaa.l0] at H
   by_cases c4:x5_1<(l1.length:Int)
   ·rw [if_pos c4] at H
    have c4b0:decide (x5_1<(l1.length:Int))=true:=dzT c4
    clear c4
    replace H:=bzS H
    obtain ⟨t156,A50,H⟩:=H
    replace H:(if t156=true then (jaa.l0 k1 l1 (wrap64 (x5_1+1)) l0_0) else (some false))=some r:=H
    have A5:=am A50
    clear A50
    by_cases c6:t156=true
    ·subst c6
     have H1:(jaa.l0 k1 l1 (wrap64 (x5_1+1)) l0_0)=some r:=by rw [if_pos rfl] at H;exact H
     clear H
     have H:=H1
     clear H1
     have H':=am H
     clear H
     have hcz7_0:=bc0 BK154.out
     have hfz7_0:=ja BK154.out 0
     go_wp2_with (first |((with_reducible refine je (f:=63) rfl ?_);refine gL (some 15) Try.func63 #[.agg #[.slice A0_0 l0_0.length c0_0], .slice A1 l1.length c1, .int .i64 x5_1] ?_;(with_reducible refine (jq.calls k1 _ _ l0_0 _ _ l1 x5_1 true _ ?side1 ?side2 ?side3 ?side4 A5.out).mono ?_);(case side1=>exact cq (Kd.jV HR0_0.out HB.out));(case side2=>exact HC0_0.out);(case side3=>exact cq (Kd.jV HR1.out HB.out));(case side4=>exact HC1.out);rintro e w8 ⟨rfl,hb⟩;refine ⟨_,rfl,?_⟩;replace BK154:=am (jo (g:=gb154) (o:=.cells #[.slice A0_0 l0_0.length c0_0] 32 (0,0)) (kq BK154.out) hb);replace HB:=am (jg (Y35) hb);(try clear hb);(try clear hb2);(try clear hk);(try clear hi)))
     go_roundg k1
     case measure=>have:=HK1.out;omega
     case rel=>exact ⟨(wrap64 (x5_1+1)),(sq),H',⟨by have:=HK1.out;omega⟩,⟨kq BK154.out⟩,⟨Y35⟩⟩
    ·replace c6:=Bool.eq_false_iff.mpr c6
     subst c6
     have H1:(some false)=some r:=by rw [if_neg (show ¬ (false=true) by decide)] at H;exact H
     clear H
     have H:=H1
     clear H1
     obtain rfl:=Option.some.inj H
     have hcz9_0:=bc0 BK154.out
     have hfz9_0:=ja BK154.out 0
     go_wp2_with (first |((with_reducible refine je (f:=63) rfl ?_);refine gL (some 15) Try.func63 #[.agg #[.slice A0_0 l0_0.length c0_0], .slice A1 l1.length c1, .int .i64 x5_1] ?_;(with_reducible refine (jq.calls k1 _ _ l0_0 _ _ l1 x5_1 false _ ?side1 ?side2 ?side3 ?side4 A5.out).mono ?_);(case side1=>exact cq (Kd.jV HR0_0.out HB.out));(case side2=>exact HC0_0.out);(case side3=>exact cq (Kd.jV HR1.out HB.out));(case side4=>exact HC1.out);rintro e w10 ⟨rfl,hb⟩;refine ⟨_,rfl,?_⟩;replace BK154:=am (jo (g:=gb154) (o:=.cells #[.slice A0_0 l0_0.length c0_0] 32 (0,0)) (kq BK154.out) hb);replace HB:=am (jg (Y35) hb);(try clear hb);(try clear hb2);(try clear hk);(try clear hi)))
     go_ret
     exact ⟨Y0,Y35⟩
   ·rw [if_neg c4] at H
    have c4b0:decide (x5_1<(l1.length:Int))=false:=dzF c4
    clear c4
    replace H:=bzS H
    obtain ⟨t155,A110,H⟩:=H
    replace H:(if t155=true then (some (decide ((l1.length:Int)≤24))) else (some false))=some r:=H
    have A11:=am A110
    clear A110
    by_cases c12:t155=true
    ·subst c12
     have H1:(some (decide ((l1.length:Int)≤24)))=some r:=by rw [if_pos rfl] at H;exact H
     clear H
     have H:=H1
     clear H1
     obtain rfl:=Option.some.inj H
     have hcz13_0:=bc0 BK154.out
     have hfz13_0:=ja BK154.out 0
     go_wp2_with (first |((with_reducible refine je (f:=64) rfl ?_);refine gL (some 18) Try.func64 #[.agg #[.slice A0_0 l0_0.length c0_0]] ?_;(with_reducible refine (jQ.calls k1 _ _ l0_0 true _ ?side1 ?side2 A11.out).mono ?_);(case side1=>exact cq (Kd.jV HR0_0.out HB.out));(case side2=>exact HC0_0.out);rintro e w14 ⟨rfl,hb⟩;refine ⟨_,rfl,?_⟩;replace BK154:=am (jo (g:=gb154) (o:=.cells #[.slice A0_0 l0_0.length c0_0] 32 (0,0)) (kq BK154.out) hb);replace HB:=am (jg (Y35) hb);(try clear hb);(try clear hb2);(try clear hk);(try clear hi)))
     go_ret
     exact ⟨Y0,Y35⟩
    ·replace c12:=Bool.eq_false_iff.mpr c12
     subst c12
     have H1:(some false)=some r:=by rw [if_neg (show ¬ (false=true) by decide)] at H;exact H
     clear H
     have H:=H1
     clear H1
     obtain rfl:=Option.some.inj H
     have hcz15_0:=bc0 BK154.out
     have hfz15_0:=ja BK154.out 0
     go_wp2_with (first |((with_reducible refine je (f:=64) rfl ?_);refine gL (some 18) Try.func64 #[.agg #[.slice A0_0 l0_0.length c0_0]] ?_;(with_reducible refine (jQ.calls k1 _ _ l0_0 false _ ?side1 ?side2 A11.out).mono ?_);(case side1=>exact cq (Kd.jV HR0_0.out HB.out));(case side2=>exact HC0_0.out);rintro e w16 ⟨rfl,hb⟩;refine ⟨_,rfl,?_⟩;replace BK154:=am (jo (g:=gb154) (o:=.cells #[.slice A0_0 l0_0.length c0_0] 32 (0,0)) (kq BK154.out) hb);replace HB:=am (jg (Y35) hb);(try clear hb);(try clear hb2);(try clear hk);(try clear hi)))
     go_ret
     exact ⟨Y0,Y35⟩
mutual
def jH.l0 : Nat → List (S59) → List (S48) → Int → Option ((List (S48)))
 | 0,_,_,_=>none
 | k+1,x0,x3,x4=>if x4≥0 then (if 0≤x4 then (if x4<(x0.length:Int) then (if ((jd x0 x4).f1)=11 then (jH.j1 k x0 x3 x4 (((jd x0 x4).f3) == 1)) else (jH.j1 k x0 x3 x4 false)) else (none)) else (none)) else (some x3)
def jH.j1 : Nat → List (S59) → List (S48) → Int → Bool → Option ((List (S48)))
 | 0,_,_,_,_=>none
 | k+1,x0,x3,x4,x28=>if x28=true then ((jqa.f k x0 x4).bind fun t162=>(if x3.length<4398046511104 then (jH.j2 k x0 (x3 ++ [(⟨wrap64 (x4+1),t162,x4,0⟩:S48)]) x4) else (none))) else (jH.j2 k x0 x3 x4)
def jH.j2 : Nat → List (S59) → List (S48) → Int → Option ((List (S48)))
 | 0,_,_,_=>none
 | k+1,x0,x3,x4=>if 0≤x4 then (if x4<(x0.length:Int) then (if ((jd x0 x4).f1)=7 then ((jDa.f k x0 x4).bind fun t167=>(jH.l1 k x0 x3 x4 t167 1)) else (jH.l0 k x0 x3 (wrap64 (x4 - 1)))) else (none)) else (none)
def jH.l1 : Nat → List (S59) → List (S48) → Int → List Int → Int → Option ((List (S48)))
 | 0,_,_,_,_,_=>none
 | k+1,x0,x3,x4,x5,x6=>if x6<(x5.length:Int) then (if 0≤x6 then (if 0≤(rd x5 x6) then (if (rd x5 x6)<(x0.length:Int) then (if ((jd x0 (rd x5 x6)).f1)=8 then ((jqa.f k x0 x4).bind fun t172=>(if x3.length<4398046511104 then (jH.l1 k x0 (x3 ++ [(⟨wrap64 (x4+1),t172,rd x5 x6,(jd x0 (rd x5 x6)).f2⟩:S48)]) x4 x5 (wrap64 (x6+1))) else (none))) else (jH.l1 k x0 x3 x4 x5 (wrap64 (x6+1)))) else (none)) else (none)) else (none)) else (jH.l0 k x0 x3 (wrap64 (x4 - 1)))
end
def jH.f (k : Nat) (l0 : List (S59)) : Option ((List (S48))) := jH.l0 k l0 (([] : List (S48))) (wrap64 ((l0.length : Int) - 1))
def jH.T13 : Bool × List (List Nat × List Nat) := (true, [([], []), ([], []), ([1], [1]), ([], []), ([], []), ([3, 4], [3, 4]), ([], []), ([], []), ([6, 7], [6, 7]), ([8], [8]), ([], []), ([], []), ([], []), ([11, 12], [11, 12]), ([13], [13]), ([10, 14], [10, 14]), ([15], [15]), ([16], [16]), ([2, 5, 9, 17], [2, 5, 9, 17]), ([18], [18]), ([0, 19, 5], [0, 19]), ([20, 20, 0, 1, 2, 3, 4, 5, 6, 7, 8, 9, 10, 11, 12, 13, 14, 15, 16, 17, 18, 19, 20], [0, 20])])
def jH.B13 : List Nat := [0, 0, 2, 0, 0, 24, 0, 0, 192, 448, 0, 0, 0, 6144, 14336, 31744, 64512, 130048, 262142, 524286, 1048575, 2097151]
theorem jH.tab13 : rtab .any (opsOf Try.f30 13) = jH.T13 := by kernel_rfl
theorem jH.bits13 : jic jH.T13.2 jH.B13 = true := by kernel_rfl
set_option maxHeartbeats 8000000 in
set_option maxRecDepth 100000 in
theorem jH.calls (k : Nat) (A0 : Option Addr) (c0 : Nat) (l0 : List (S59)) (r : List (S48)) (w : World) (hr0 : Kd.C k59 w A0 l0.length l0) (hc0 : l0.length ≤ c0) (h : jH.f k l0 = some r) :
  Calls Try.prog 30 #[.slice A0 l0.length c0] w fun e w'=>∃ v0_:Value,e=.returned (v0_)∧Kd.R k48 48 w' w.heap.size (fun _=>True) v0_ r∧Below w.heap.size w w':=by
 have hu48:=Try.underlying48
 have HR0:=am hr0
 have HC0:=am hc0
 clear hr0 hc0
 have HB:=am (Below.refl w.heap.size w)
 have H:(jH.l0 k l0 (([]:List (S48))) (wrap64 ((l0.length:Int) - 1)))=some r:=h
 clear h
 obtain ⟨y157,hy157⟩:∃ y_:List (S48),y_=(([]:List (S48))):=⟨_,rfl⟩
 replace H:(jH.l0 k l0 y157 (wrap64 ((l0.length:Int) - 1)))=some r:=by first |(rw [hy157];with_reducible exact H) |(have H2_:=(Option.bind_some _ _).symm.trans H;rw [hy157];with_reducible exact H2_) |(have H2_:=(Option.bind_some _ _).symm.trans H;with_reducible exact H2_) | with_reducible exact H |(rw [hy157];exact H) | exact H
 have Ny157:=am hy157
 clear hy157
 have H':=am H
 clear H
 go_enter Try.func30,Try.ntmps30
 go_wp2_with (first |((with_reducible refine jS (N:=7) rfl ?_);refine Kd.jWb k48 _ 48 ?hg (N:=7) ?hd (xs:=([]:List (S48))) (inner:=[]) (ok:=fun _=>True) (okp:=fun _=>True) ?hr ?hp (fun _ hk=>hk) trivial (Below.refl _ _) (Nat.le_refl _) (by simp) ?_;(case hd=>rfl);(case hg=>rfl);(case hr=>exact Y8);(case hp=>exact (Reps.none _ _));intro v158 w2 ho3 hb hg_ hnew_;clear hg_ hnew_;(first | rw [← Ny157.out] at ho3 |(simp only [Int.reduceToNat] at ho3;rw [← Ny157.out] at ho3));have HO159:=am (Kd.jea ho3 (jta (bq)));replace HB:=am (jg (bq) hb);clear hb ho3))
 go_loopg [3,4] k (fun kq v3 v4 w'=>∃ (x3_1:List (S48)) (x4_1:Int),v4=.int .i64 x4_1∧jl (jH.l0 kq l0 x3_1 x4_1=some r)∧jl (kq≤k)∧jl (Kd.R k48 48 w' w.heap.size (fun _=>True) v3 x3_1)∧jl (Below w.heap.size w w'))
 case atStart=>exact ⟨(y157),(wrap64 ((l0.length:Int) - 1)),(sq),H',⟨Nat.le_refl _⟩,⟨rq HO159.out⟩,⟨bq⟩⟩
 case round =>
  clear H'
  try clear p2
  try clear c3
  obtain ⟨x3_1,x4_1,rfl,HA,HK1,HO_3,HB⟩:=hrel
  cases gk with
  | zero=>exact absurd HA.out (by simp [jH.l0])
  | succ k1 =>
   have H:=HA.out
   clear HA
   simp only [jH.l0] at H
   by_cases c4:x4_1≥0
   ·rw [if_pos c4] at H
    have c4b0:decide (0≤x4_1)=true:=dzT c4
    clear c4
    have HC5:=am H
    clear H
    go_upto_region 5 with (fail)
    go_cut [28] (fun v28 wc=>∃ (kq:Nat) (x28_4:Bool),v28=.bool x28_4∧jl (jH.j1 kq l0 x3_1 x4_1 x28_4=some r)∧jl (kq≤k1)∧jl (Kd.R k48 48 wc w.heap.size (fun _=>True) u3 x3_1)∧jl (Below w.heap.size w wc))
    case first =>
     have H:=HC5.out
     clear HC5
     by_cases c6:0≤x4_1
     ·rw [if_pos c6] at H
      have c6b0:decide (0≤x4_1)=true:=dzT c6
      clear c6
      (first | rw [c6b0] |(simp only [jlb,jmb];rw [c6b0]) | skip)
      by_cases c7:x4_1<(l0.length:Int)
      ·rw [if_pos c7] at H
       have c7b0:decide (x4_1<(l0.length:Int))=true:=dzT c7
       clear c7
       by_cases c8:((jd l0 x4_1).f1)=11
       ·rw [if_pos c8] at H
        have c8b0:(((jd l0 x4_1).f1) == 11)=true:=beq_iff_eq.mpr c8
        have c8b1:(((jd l0 x4_1).f1) != 11)=false:=bne_eq_false_iff_eq.mpr c8
        clear c8
        have H':=am H
        clear H
        have p160:0≤(x4_1:Int):=ozD (uq)
        have q160:x4_1<(l0.length:Int):=ozD (uq)
        obtain ⟨ad160,e160,hx160_0,hx160_1,hx160_2,hx160_3⟩:=jza HR0.out x4_1 p160 q160
        cases e160
        replace hx160_0:=cb HB.out hx160_0
        replace hx160_1:=cb HB.out hx160_1
        replace hx160_2:=cb HB.out hx160_2
        replace hx160_3:=cb HB.out hx160_3
        replace p160:=ezT p160
        replace q160:=ezT q160
        have p161:0≤(x4_1:Int):=ozD (uq)
        have q161:x4_1<(l0.length:Int):=ozD (uq)
        obtain ⟨ad161,e161,hx161_0,hx161_1,hx161_2,hx161_3⟩:=jza HR0.out x4_1 p161 q161
        obtain rfl:ad160=ad161:=(by injection e161)
        replace hx161_0:=cb HB.out hx161_0
        replace hx161_1:=cb HB.out hx161_1
        replace hx161_2:=cb HB.out hx161_2
        replace hx161_3:=cb HB.out hx161_3
        replace p161:=ezT p161
        replace q161:=ezT q161
        go_wp2
        go_meet
        case rel=>exact ⟨_,((((jd l0 x4_1).f3) == 1)),(sq),H',⟨by have:=HK1.out;first | omega | exact Nat.le_refl _⟩,⟨rq HO_3.out⟩,⟨bq⟩⟩
       ·rw [if_neg c8] at H
        have c8b0:(((jd l0 x4_1).f1) == 11)=false:=beq_eq_false_iff_ne.mpr c8
        have c8b1:(((jd l0 x4_1).f1) != 11)=true:=bne_iff_ne.mpr c8
        have H':=am H
        clear H
        have p160:0≤(x4_1:Int):=ozD (uq)
        have q160:x4_1<(l0.length:Int):=ozD (uq)
        obtain ⟨ad160,e160,hx160_0,hx160_1,hx160_2,hx160_3⟩:=jza HR0.out x4_1 p160 q160
        cases e160
        replace hx160_0:=cb HB.out hx160_0
        replace hx160_1:=cb HB.out hx160_1
        replace hx160_2:=cb HB.out hx160_2
        replace hx160_3:=cb HB.out hx160_3
        replace p160:=ezT p160
        replace q160:=ezT q160
        go_wp2
        go_meet
        case rel=>exact ⟨_,(false),(sq),H',⟨by have:=HK1.out;first | omega | exact Nat.le_refl _⟩,⟨rq HO_3.out⟩,⟨bq⟩⟩
      ·rw [if_neg c7] at H
       exact absurd H (by simp)
     ·rw [if_neg c6] at H
      exact absurd H (by simp)
    case rest =>
     clear HC5
     try clear p1
     try clear q1
     try clear hx1
     try clear p2
     try clear c3
     try clear c4
     try clear c4b0
     try clear c6
     try clear c6b0
     try clear p6
     try clear c7
     try clear c7b0
     try clear c8
     try clear c8b0
     try clear c8b1
     try clear hx160_0
     try clear hx160_1
     try clear hx160_2
     try clear hx160_3
     try clear hx161_0
     try clear hx161_1
     try clear hx161_2
     try clear hx161_3
     try clear p160
     try clear p161
     try clear p2
     try clear q160
     try clear q161
     obtain ⟨kq,x28_4,rfl,HA,HJ4,HO_3,HB⟩:=hcut
     cases kq with
     | zero=>exact absurd HA.out (by simp [jH.j1])
     | succ kj4 =>
      have H:=HA.out
      clear HA
      simp only [jH.j1] at H
      have HC9:=am H
      clear H
      go_upto_if 28 with (fail)
      go_cut [3] (fun v3 wc=>∃ (kq:Nat) (x3_8:List (S48)),jl (jH.j2 kq l0 x3_8 x4_1=some r)∧jl (kq≤kj4)∧jl (Kd.R k48 48 wc w.heap.size (fun _=>True) v3 x3_8)∧jl (Below w.heap.size w wc))
      case first =>
       have H:=HC9.out
       clear HC9
       by_cases c10:x28_4=true
       ·subst c10
        have H1:((jqa.f kj4 l0 x4_1).bind fun t162=>(if x3_1.length<4398046511104 then (jH.j2 kj4 l0 (x3_1 ++ [(⟨wrap64 (x4_1+1),t162,x4_1,0⟩:S48)]) x4_1) else (none)))=some r:=by rw [if_pos rfl] at H;exact H
        clear H
        have H:=H1
        clear H1
        replace H:=bzS H
        obtain ⟨t162,A110,H⟩:=H
        replace H:(if x3_1.length<4398046511104 then (jH.j2 kj4 l0 (x3_1 ++ [(⟨wrap64 (x4_1+1),t162,x4_1,0⟩:S48)]) x4_1) else (none))=some r:=H
        have A11:=am A110
        clear A110
        by_cases c12:x3_1.length<4398046511104
        ·rw [if_pos c12] at H
         have LMc12:=am c12
         clear c12
         obtain ⟨y163,hy163⟩:∃ y_:List (S48),y_=(x3_1 ++ [(⟨wrap64 (x4_1+1),t162,x4_1,0⟩:S48)]):=⟨_,rfl⟩
         replace H:(jH.j2 kj4 l0 y163 x4_1)=some r:=by first |(rw [hy163];with_reducible exact H) |(have H2_:=(Option.bind_some _ _).symm.trans H;rw [hy163];with_reducible exact H2_) |(have H2_:=(Option.bind_some _ _).symm.trans H;with_reducible exact H2_) | with_reducible exact H |(rw [hy163];exact H) | exact H
         have Ny163:=am hy163
         clear hy163
         have H':=am H
         clear H
         go_wp2_with (first |((with_reducible refine je (f:=65) rfl ?_);refine gL (some 34) Try.func65 #[.slice A0 l0.length c0, .int .i64 x4_1] ?_;(with_reducible refine (jqa.calls kj4 _ _ l0 x4_1 t162 _ ?side1 ?side2 A11.out).mono ?_);(case side1=>exact cq (Kd.jV HR0.out HB.out));(case side2=>exact HC0.out);rintro e w' ⟨rfl,⟨nd,rfl⟩⟩;refine ⟨_,rfl,?_⟩) |((with_reducible refine jLa (b:=.append) (xs:=#[.tmp 29, .tmp 37]) rfl ?_);at_builtin;refine Kd.jVb k48 (w0:=w) w.heap.size rfl (.tmp 29) (.tmp 37) 28 48 (.agg #[(.int .i64 0),(.int .i64 0),(.int .i64 0),(.int .i64 0)]) 32 rfl Try.underlying28 info48 rfl (by decide) (by omega) u3 x3_1 (⟨wrap64 (x4_1+1),t162,x4_1,0⟩:S48) [.int .i64 (wrap64 (x4_1+1)), .int .i64 t162, .int .i64 x4_1, .int .i64 0] (fun _=>True) (fun _=>False) rfl rfl ?aP (fun _ hk=>hk.elim) ?aF ?aO ?aB ?aS ?aL ?_;(case aP=>exact k48_mkM _ _ _ (⟨wrap64 (x4_1+1),t162,x4_1,0⟩:S48));(case aB=>exact (bq));(case aF=>exact (fun _ _=>trivial));(case aO=>exact (rq HO_3.out));(case aS=>exact (jta (bq)));(case aL=>have:=LMc12.out;omega);intro v164 w13 ho hb hg hat;rw [← Ny163.out] at ho;have n0_:=am (hb);have n1_:=am (ho);clear HB HO_3;have HB:=n0_;have HO165:=n1_;clear n0_ n1_ ho hb hg hat))
         go_meet
         case rel=>exact ⟨_,(y163),H',⟨by have:=HK1.out;have:=HJ4.out;first | omega | exact Nat.le_refl _⟩,⟨rq HO165.out⟩,⟨bq⟩⟩
        ·rw [if_neg c12] at H
         exact absurd H (by simp)
       ·replace c10:=Bool.eq_false_iff.mpr c10
        subst c10
        have H1:(jH.j2 kj4 l0 x3_1 x4_1)=some r:=by rw [if_neg (show ¬ (false=true) by decide)] at H;exact H
        clear H
        have H:=H1
        clear H1
        have H':=am H
        clear H
        go_wp2
        go_meet
        case rel=>exact ⟨_,(x3_1),H',⟨by have:=HK1.out;have:=HJ4.out;first | omega | exact Nat.le_refl _⟩,⟨rq HO_3.out⟩,⟨bq⟩⟩
      case rest =>
       clear HC9
       try clear c1
       try clear p1
       try clear q1
       try clear hx1
       try clear p2
       try clear c3
       try clear c4
       try clear c4b0
       try clear c6
       try clear c6b0
       try clear p6
       try clear c7
       try clear c7b0
       try clear c8
       try clear c8b0
       try clear c8b1
       try clear c10
       try clear c12
       try clear hx160_0
       try clear hx160_1
       try clear hx160_2
       try clear hx160_3
       try clear hx161_0
       try clear hx161_1
       try clear hx161_2
       try clear hx161_3
       try clear p1
       try clear p160
       try clear p161
       try clear p2
       try clear p6
       try clear q1
       try clear q160
       try clear q161
       obtain ⟨kq,x3_8,HA,HJ8,HO_3,HB⟩:=hcut
       cases kq with
       | zero=>exact absurd HA.out (by simp [jH.j2])
       | succ kj8 =>
        have H:=HA.out
        clear HA
        simp only [jH.j2] at H
        by_cases c14:0≤x4_1
        ·rw [if_pos c14] at H
         have c14b0:decide (0≤x4_1)=true:=dzT c14
         clear c14
         by_cases c15:x4_1<(l0.length:Int)
         ·rw [if_pos c15] at H
          have c15b0:decide (x4_1<(l0.length:Int))=true:=dzT c15
          clear c15
          by_cases c16:((jd l0 x4_1).f1)=7
          ·rw [if_pos c16] at H
           have c16b0:(((jd l0 x4_1).f1) == 7)=true:=beq_iff_eq.mpr c16
           have c16b1:(((jd l0 x4_1).f1) != 7)=false:=bne_eq_false_iff_eq.mpr c16
           clear c16
           replace H:=bzS H
           obtain ⟨t167,A170,H⟩:=H
           replace H:(jH.l1 kj8 l0 x3_8 x4_1 t167 1)=some r:=H
           have A17:=am A170
           clear A170
           have H':=am H
           clear H
           have p166:0≤(x4_1:Int):=ozD (uq)
           have q166:x4_1<(l0.length:Int):=ozD (uq)
           obtain ⟨ad166,e166,hx166_0,hx166_1,hx166_2,hx166_3⟩:=jza HR0.out x4_1 p166 q166
           cases e166
           replace hx166_0:=cb HB.out hx166_0
           replace hx166_1:=cb HB.out hx166_1
           replace hx166_2:=cb HB.out hx166_2
           replace hx166_3:=cb HB.out hx166_3
           replace p166:=ezT p166
           replace q166:=ezT q166
           go_wp2_with (first |((with_reducible refine je (f:=66) rfl ?_);refine gL (some 47) Try.func66 #[.slice (some ad166) l0.length c0, .int .i64 x4_1] ?_;(with_reducible refine (jDa.calls kj8 _ _ l0 x4_1 t167 _ ?side1 ?side2 A17.out).mono ?_);(case side1=>exact cq (Kd.jV HR0.out HB.out));(case side2=>exact HC0.out);rintro e w18 ⟨v168,rfl,ho0,hb⟩;refine ⟨_,rfl,?_⟩;have HO169:=am (Kd.jea ho0 (jta (bq)));replace HO_3:=am (Kd.jva (rq HO_3.out) hb);replace HB:=am (jg (bq) hb);(try clear hb);(try clear hb2);(try clear hk);(try clear hi);(try clear ho0)))
           go_loopg [3,6] kj8 (fun kq v3 v6 w'=>∃ (x3_4:List (S48)) (x6_4:Int),v6=.int .i64 x6_4∧jl (jH.l1 kq l0 x3_4 x4_1 t167 x6_4=some r)∧jl (kq≤kj8)∧jl (Kd.R k48 48 w' w.heap.size (fun _=>True) v3 x3_4)∧jl (Kd.R (Kd.int .i64) 3 w' w.heap.size (fun _=>True) v168 t167)∧jl (Below w.heap.size w w'))
           case atStart=>exact ⟨(x3_8),(1),(sq),H',⟨Nat.le_refl _⟩,⟨rq HO_3.out⟩,⟨rq HO169.out⟩,⟨bq⟩⟩
           case round =>
            clear H'
            try clear c1
            try clear p1
            try clear q1
            try clear hx1
            try clear p2
            try clear c3
            try clear c4
            try clear c4b0
            try clear c6
            try clear c6b0
            try clear p6
            try clear c7
            try clear c7b0
            try clear c8
            try clear c8b0
            try clear c8b1
            try clear c10
            try clear c12
            try clear c14
            try clear c14b0
            try clear c15
            try clear c15b0
            try clear c16
            try clear c16b0
            try clear c16b1
            try clear p16
            try clear q16
            try clear hx16
            try clear hx160_0
            try clear hx160_1
            try clear hx160_2
            try clear hx160_3
            try clear hx161_0
            try clear hx161_1
            try clear hx161_2
            try clear hx161_3
            try clear hx166_0
            try clear hx166_1
            try clear hx166_2
            try clear hx166_3
            try clear p1
            try clear p160
            try clear p161
            try clear p166
            try clear p2
            try clear p6
            try clear q1
            try clear q160
            try clear q161
            try clear q166
            obtain ⟨x3_4,x6_4,rfl,HA,HK4,HO_3,HO_5,HB⟩:=hrel
            cases gk with
            | zero=>exact absurd HA.out (by simp [jH.l1])
            | succ k4 =>
             have H:=HA.out
             clear HA
             simp only [jH.l1] at H
             by_cases c19:x6_4<(t167.length:Int)
             ·rw [if_pos c19] at H
              have c19b0:decide (x6_4<(t167.length:Int))=true:=dzT c19
              clear c19
              by_cases c20:0≤x6_4
              ·rw [if_pos c20] at H
               have c20b0:decide (0≤x6_4)=true:=dzT c20
               clear c20
               by_cases c21:0≤(rd t167 x6_4)
               ·rw [if_pos c21] at H
                have c21b0:decide (0≤(rd t167 x6_4))=true:=dzT c21
                clear c21
                by_cases c22:(rd t167 x6_4)<(l0.length:Int)
                ·rw [if_pos c22] at H
                 have c22b0:decide ((rd t167 x6_4)<(l0.length:Int))=true:=dzT c22
                 clear c22
                 by_cases c23:((jd l0 (rd t167 x6_4)).f1)=8
                 ·rw [if_pos c23] at H
                  have c23b0:(((jd l0 (rd t167 x6_4)).f1) == 8)=true:=beq_iff_eq.mpr c23
                  have c23b1:(((jd l0 (rd t167 x6_4)).f1) != 8)=false:=bne_eq_false_iff_eq.mpr c23
                  clear c23
                  replace H:=bzS H
                  obtain ⟨t172,A240,H⟩:=H
                  replace H:(if x3_4.length<4398046511104 then (jH.l1 k4 l0 (x3_4 ++ [(⟨wrap64 (x4_1+1),t172,rd t167 x6_4,(jd l0 (rd t167 x6_4)).f2⟩:S48)]) x4_1 t167 (wrap64 (x6_4+1))) else (none))=some r:=H
                  have A24:=am A240
                  clear A240
                  by_cases c25:x3_4.length<4398046511104
                  ·rw [if_pos c25] at H
                   have LMc25:=am c25
                   clear c25
                   obtain ⟨y176,hy176⟩:∃ y_:List (S48),y_=(x3_4 ++ [(⟨wrap64 (x4_1+1),t172,rd t167 x6_4,(jd l0 (rd t167 x6_4)).f2⟩:S48)]):=⟨_,rfl⟩
                   replace H:(jH.l1 k4 l0 y176 x4_1 t167 (wrap64 (x6_4+1)))=some r:=by first |(rw [hy176];with_reducible exact H) |(have H2_:=(Option.bind_some _ _).symm.trans H;rw [hy176];with_reducible exact H2_) |(have H2_:=(Option.bind_some _ _).symm.trans H;with_reducible exact H2_) | with_reducible exact H |(rw [hy176];exact H) | exact H
                   have Ny176:=am hy176
                   clear hy176
                   have H':=am H
                   clear H
                   obtain ⟨Ao26,co26,eo26⟩:=Kd.jsa HO_5.out
                   subst eo26
                   have p170:0≤(x6_4:Int):=ozD (uq)
                   have q170:x6_4<(t167.length:Int):=ozD (uq)
                   obtain ⟨ad170,e170,hx170_0⟩:=Kd.jsb (Kd.jE HO_5.out).2.2 x6_4 p170 q170
                   cases e170
                   replace p170:=ezT p170
                   replace q170:=ezT q170
                   have p171:0≤((rd t167 x6_4):Int):=ozD (uq)
                   have q171:(rd t167 x6_4)<(l0.length:Int):=ozD (uq)
                   obtain ⟨ad171,e171,hx171_0,hx171_1,hx171_2,hx171_3⟩:=jza HR0.out (rd t167 x6_4) p171 q171
                   obtain rfl:ad166=ad171:=(by injection e171)
                   replace hx171_0:=cb HB.out hx171_0
                   replace hx171_1:=cb HB.out hx171_1
                   replace hx171_2:=cb HB.out hx171_2
                   replace hx171_3:=cb HB.out hx171_3
                   replace p171:=ezT p171
                   replace q171:=ezT q171
                   try go_wp2
                   replace HO_3:=am (Kd.jra HO_3.out)
                   replace HO_5:=am (Kd.jra HO_5.out)
                   replace HB:=am (jR HB.out)
                   have p173:0≤(x6_4:Int):=ozD (uq)
                   have q173:x6_4<(t167.length:Int):=ozD (uq)
                   obtain ⟨ad173,e173,hx173_0⟩:=Kd.jsb (Kd.jE HO_5.out).2.2 x6_4 p173 q173
                   obtain rfl:ad170=ad173:=(by injection e173)
                   replace p173:=ezT p173
                   replace q173:=ezT q173
                   have p174:0≤(x6_4:Int):=ozD (uq)
                   have q174:x6_4<(t167.length:Int):=ozD (uq)
                   obtain ⟨ad174,e174,hx174_0⟩:=Kd.jsb (Kd.jE HO_5.out).2.2 x6_4 p174 q174
                   obtain rfl:ad170=ad174:=(by injection e174)
                   replace p174:=ezT p174
                   replace q174:=ezT q174
                   have p175:0≤((rd t167 x6_4):Int):=ozD (uq)
                   have q175:(rd t167 x6_4)<(l0.length:Int):=ozD (uq)
                   obtain ⟨ad175,e175,hx175_0,hx175_1,hx175_2,hx175_3⟩:=jza HR0.out (rd t167 x6_4) p175 q175
                   have hw175_3:=hx175_3
                   have hw175_2:=hx175_2
                   have hw175_1:=hx175_1
                   have hw175_0:=hx175_0
                   obtain rfl:ad166=ad175:=(by injection e175)
                   replace hx175_0:=cb HB.out hx175_0
                   replace hx175_1:=cb HB.out hx175_1
                   replace hx175_2:=cb HB.out hx175_2
                   replace hx175_3:=cb HB.out hx175_3
                   replace p175:=ezT p175
                   replace q175:=ezT q175
                   refine start_ (n:=22) (S:=fun w'=>w'.cell? (ad170.add (x6_4).toNat)=some (.int .i64 (rd t167 x6_4))∧w'.cell? (ad170.add (x6_4).toNat)=some (.int .i64 (rd t167 x6_4))∧w'.cell? (ad166.add (((rd t167 x6_4)).toNat * 4))=some (.int .i64 ((jd l0 (rd t167 x6_4)).f0))∧w'.cell? ⟨(ad166.add (((rd t167 x6_4)).toNat * 4)).block,(ad166.add (((rd t167 x6_4)).toNat * 4)).off+1,none⟩=some (.int .i64 ((jd l0 (rd t167 x6_4)).f1))∧w'.cell? ⟨(ad166.add (((rd t167 x6_4)).toNat * 4)).block,(ad166.add (((rd t167 x6_4)).toNat * 4)).off+2,none⟩=some (.int .i64 ((jd l0 (rd t167 x6_4)).f2))∧w'.cell? ⟨(ad166.add (((rd t167 x6_4)).toNat * 4)).block,(ad166.add (((rd t167 x6_4)).toNat * 4)).off+3,none⟩=some (.int .i64 ((jd l0 (rd t167 x6_4)).f3))) (ds:=[19,20]) #[false,false,false,false,false,false,false,false,false,false,false,false,false,false,false,false,false,false,false,false,false,false] (by kernel_rfl) rfl rfl ⟨hx173_0,hx174_0,((HB.out.cell (World.block_lt_of_cell? w _ hw175_0)).trans hw175_0),((HB.out.cell (World.block_lt_of_cell? w _ hw175_1)).trans hw175_1),((HB.out.cell (World.block_lt_of_cell? w _ hw175_2)).trans hw175_2),((HB.out.cell (World.block_lt_of_cell? w _ hw175_3)).trans hw175_3)⟩ (fun hHeld=>?_);refine jTb jH.tab13 jH.bits13 (fun HT_ HW_=>?_)
                   generalize wr.drew=w27 at HO_3 HO_5 HB hx173_0 hx174_0 hx175_0 hx175_1 hx175_2 hx175_3 hHeld ⊢
                   refine pq (i:=0) (N:=some 63) #[true,false,false,false,false,false,false,false,false,false,false,false,false,false,false,false,false,false,false,false,false,false] ?_
                   refine pq (i:=1) (N:=some 64) #[true,true,false,false,false,false,false,false,false,false,false,false,false,false,false,false,false,false,false,false,false,false] ?_
                   refine pq (i:=2) (N:=some 65) #[true,true,true,false,false,false,false,false,false,false,false,false,false,false,false,false,false,false,false,false,false,false] ?_
                   refine pq (i:=3) (N:=some 66) #[true,true,true,true,false,false,false,false,false,false,false,false,false,false,false,false,false,false,false,false,false,false] ?_
                   refine pq (i:=4) (N:=some 67) #[true,true,true,true,true,false,false,false,false,false,false,false,false,false,false,false,false,false,false,false,false,false] ?_
                   refine pq (i:=6) (N:=some 69) #[true,true,true,true,true,false,true,false,false,false,false,false,false,false,false,false,false,false,false,false,false,false] ?_
                   refine pq (i:=7) (N:=some 70) #[true,true,true,true,true,false,true,true,false,false,false,false,false,false,false,false,false,false,false,false,false,false] ?_
                   refine pq (i:=8) (N:=some 71) #[true,true,true,true,true,false,true,true,true,false,false,false,false,false,false,false,false,false,false,false,false,false] ?_
                   refine pq (i:=10) (N:=some 73) #[true,true,true,true,true,false,true,true,true,false,true,false,false,false,false,false,false,false,false,false,false,false] ?_
                   refine pq (i:=11) (N:=some 74) #[true,true,true,true,true,false,true,true,true,false,true,true,false,false,false,false,false,false,false,false,false,false] ?_
                   refine pq (i:=12) (N:=some 75) #[true,true,true,true,true,false,true,true,true,false,true,true,true,false,false,false,false,false,false,false,false,false] ?_
                   refine pq (i:=13) (N:=some 76) #[true,true,true,true,true,false,true,true,true,false,true,true,true,true,false,false,false,false,false,false,false,false] ?_
                   refine jrc (i:=9) (N:=some 72) (v:=?_) (a':=?_) #[true,true,true,true,true,false,true,true,true,true,true,true,true,true,false,false,false,false,false,false,false,false] rfl rfl (jub HT_.out HW_.out (by kernel_rfl)) (fun _ _ _ h=>h) (Or.inl ⟨by rfl,?_⟩) hHeld ?_ ?_
                   rotate_left
                   ·rintro w' ⟨s0,s1,s2,s3,s4,s5⟩
                    go_simp
                    with_reducible rfl
                   rotate_left
                   ·exact sa
                   refine jrc (i:=14) (N:=some 77) (v:=?_) (a':=?_) #[true,true,true,true,true,false,true,true,true,true,true,true,true,true,true,false,false,false,false,false,false,false] rfl rfl (jub HT_.out HW_.out (by kernel_rfl)) (fun _ _ _ h=>h) (Or.inl ⟨by rfl,?_⟩) hHeld ?_ ?_
                   rotate_left
                   ·rintro w' ⟨s0,s1,s2,s3,s4,s5⟩
                    go_simp
                    with_reducible rfl
                   rotate_left
                   ·exact sa
                   refine pq (i:=15) (N:=some 78) #[true,true,true,true,true,false,true,true,true,true,true,true,true,true,true,true,false,false,false,false,false,false] ?_
                   refine pq (i:=16) (N:=some 79) #[true,true,true,true,true,false,true,true,true,true,true,true,true,true,true,true,true,false,false,false,false,false] ?_
                   refine jrc (i:=17) (N:=some 80) (v:=?_) (a':=?_) #[true,true,true,true,true,false,true,true,true,true,true,true,true,true,true,true,true,true,false,false,false,false] rfl rfl (jub HT_.out HW_.out (by kernel_rfl)) (fun _ _ _ h=>h) (Or.inl ⟨by rfl,?_⟩) hHeld ?_ ?_
                   rotate_left
                   ·rintro w' ⟨s0,s1,s2,s3,s4,s5⟩
                    go_simp
                    with_reducible rfl
                   rotate_left
                   ·exact sa
                   refine one_ (i:=5) (N:=some 68) #[true,true,true,true,true,true,true,true,true,true,true,true,true,true,true,true,true,true,false,false,false,false] rfl rfl (jJb HT_.out (by kernel_rfl)) (by decide) (fun K hK=>?_)
                   refine goes_ Try.func65 (by kernel_rfl) rfl #[.slice (some ad166) l0.length c0, .int .i64 x4_1] (by rfl) rfl rfl (aq) ?_
                   with_reducible refine (jqa.calls k4 _ _ l0 x4_1 t172 _ ?side1 ?side2 A24.out).mono ?_
                   (case side1=>exact cq (Kd.jV HR0.out HB.out))
                   (case side2=>exact HC0.out)
                   rintro e w' ⟨rfl,⟨nd,rfl⟩⟩
                   refine ⟨_,rfl,?_⟩
                   refine hK.out _ _ ⟨hHeld.1,hHeld.2.1,((HB.out.cell (World.block_lt_of_cell? w _ hw175_0)).trans hw175_0),((HB.out.cell (World.block_lt_of_cell? w _ hw175_1)).trans hw175_1),((HB.out.cell (World.block_lt_of_cell? w _ hw175_2)).trans hw175_2),((HB.out.cell (World.block_lt_of_cell? w _ hw175_3)).trans hw175_3)⟩ (fun hHeld=>?_)
                   clear hK K
                   refine jUb (a':=?_) ?_ ?_
                   rotate_left
                   ·show Act.put _ (some 68) _=_
                    simp only [Act.put,List.setIfInBounds_toArray,List.set_cons_zero,List.set_cons_succ,jlb,jmb]
                    rfl
                   refine pq (i:=18) (N:=some 81) #[true,true,true,true,true,true,true,true,true,true,true,true,true,true,true,true,true,true,true,false,false,false] ?_
                   refine last_ (i:=19) (N:=some 82) #[true,true,true,true,true,true,true,true,true,true,true,true,true,true,true,true,true,true,true,true,false,false] rfl rfl (jJb HT_.out (by kernel_rfl)) (by decide) (fun K hK=>?_)
                   refine value_ (w1:=?_) (v:=?_) (by rfl) rfl ?_ ?_
                   rotate_left 2
                   ·go_simp
                    constructor
                    ·rfl
                    ·rfl
                   refine hK.out _ _ ?_
                   clear hK K
                   refine jUb (a':=?_) ?_ ?_
                   rotate_left
                   ·show Act.put _ (some 82) _=_
                    simp only [Act.put,List.setIfInBounds_toArray,List.set_cons_zero,List.set_cons_succ,jlb,jmb]
                    rfl
                   refine last_ (i:=20) (N:=some 83) #[true,true,true,true,true,true,true,true,true,true,true,true,true,true,true,true,true,true,true,true,true,false] rfl rfl (jJb HT_.out (by kernel_rfl)) (by decide) (fun K hK=>?_)
                   refine Kd.R_append_step k48 (w0:=w) w.heap.size (by rfl) (.tmp 63) (.tmp 82) 28 48 (.agg #[(.int .i64 0),(.int .i64 0),(.int .i64 0),(.int .i64 0)]) 32 rfl Try.underlying28 info48 rfl (by decide) (by omega) u3 x3_4 (⟨wrap64 (x4_1+1),t172,rd t167 x6_4,(jd l0 (rd t167 x6_4)).f2⟩:S48) [.int .i64 (wrap64 (x4_1+1)), .int .i64 t172, .int .i64 (rd t167 x6_4), .int .i64 ((jd l0 (rd t167 x6_4)).f2)] (fun _=>True) (fun _=>False) rfl rfl ?aP (fun _ hk=>hk.elim) ?aF ?aO ?aB ?aS ?aL ?_
                   (case aP=>exact k48_mkM _ _ _ (⟨wrap64 (x4_1+1),t172,rd t167 x6_4,(jd l0 (rd t167 x6_4)).f2⟩:S48))
                   (case aB=>exact (bq))
                   (case aF=>exact (fun _ _=>trivial))
                   (case aO=>exact (rq HO_3.out))
                   (case aS=>exact (jta (bq)))
                   (case aL=>have:=LMc25.out;omega)
                   intro v177 w28 ho hb hg hat
                   rw [← Ny176.out] at ho
                   have n0_:=am (Kd.jlc (rq HO_5.out) (Kd.jkc (rq HO_3.out)) (by decide) hg)
                   have n1_:=am (hb)
                   have n2_:=am (ho)
                   clear HO_5
                   clear HB
                   clear HO_3
                   have HO_5:=n0_
                   have HB:=n1_
                   have HO178:=n2_
                   clear n0_ n1_ n2_
                   clear ho hb hg hat
                   refine hK.out _ _ ?_
                   clear hK K
                   refine jUb (a':=?_) ?_ ?_
                   rotate_left
                   ·show Act.put _ (some 83) _=_
                    simp only [Act.put,List.setIfInBounds_toArray,List.set_cons_zero,List.set_cons_succ,jlb,jmb]
                    rfl
                   refine pq (i:=21) (N:=some 3) #[true,true,true,true,true,true,true,true,true,true,true,true,true,true,true,true,true,true,true,true,true,true] ?_
                   refine done_ (jGc HT_.out (by kernel_rfl)) ?_
                   try go_wp2
                   go_roundg k4
                   case measure=>have:=HK1.out;have:=HJ4.out;have:=HJ8.out;have:=HK4.out;omega
                   case rel=>exact ⟨(y176),(wrap64 (x6_4+1)),(sq),H',⟨by have:=HK1.out;have:=HJ4.out;have:=HJ8.out;have:=HK4.out;omega⟩,⟨rq HO178.out⟩,⟨rq HO_5.out⟩,⟨bq⟩⟩
                  ·rw [if_neg c25] at H
                   exact absurd H (by simp)
                 ·rw [if_neg c23] at H
                  have c23b0:(((jd l0 (rd t167 x6_4)).f1) == 8)=false:=beq_eq_false_iff_ne.mpr c23
                  have c23b1:(((jd l0 (rd t167 x6_4)).f1) != 8)=true:=bne_iff_ne.mpr c23
                  have H':=am H
                  clear H
                  obtain ⟨Ao29,co29,eo29⟩:=Kd.jsa HO_5.out
                  subst eo29
                  have p170:0≤(x6_4:Int):=ozD (uq)
                  have q170:x6_4<(t167.length:Int):=ozD (uq)
                  obtain ⟨ad170,e170,hx170_0⟩:=Kd.jsb (Kd.jE HO_5.out).2.2 x6_4 p170 q170
                  cases e170
                  replace p170:=ezT p170
                  replace q170:=ezT q170
                  have p171:0≤((rd t167 x6_4):Int):=ozD (uq)
                  have q171:(rd t167 x6_4)<(l0.length:Int):=ozD (uq)
                  obtain ⟨ad171,e171,hx171_0,hx171_1,hx171_2,hx171_3⟩:=jza HR0.out (rd t167 x6_4) p171 q171
                  obtain rfl:ad166=ad171:=(by injection e171)
                  replace hx171_0:=cb HB.out hx171_0
                  replace hx171_1:=cb HB.out hx171_1
                  replace hx171_2:=cb HB.out hx171_2
                  replace hx171_3:=cb HB.out hx171_3
                  replace p171:=ezT p171
                  replace q171:=ezT q171
                  go_wp2
                  go_roundg k4
                  case measure=>have:=HK1.out;have:=HJ4.out;have:=HJ8.out;have:=HK4.out;omega
                  case rel=>exact ⟨(x3_4),(wrap64 (x6_4+1)),(sq),H',⟨by have:=HK1.out;have:=HJ4.out;have:=HJ8.out;have:=HK4.out;omega⟩,⟨rq HO_3.out⟩,⟨rq HO_5.out⟩,⟨bq⟩⟩
                ·rw [if_neg c22] at H
                 exact absurd H (by simp)
               ·rw [if_neg c21] at H
                exact absurd H (by simp)
              ·rw [if_neg c20] at H
               exact absurd H (by simp)
             ·rw [if_neg c19] at H
              have c19b0:decide (x6_4<(t167.length:Int))=false:=dzF c19
              clear c19
              have H':=am H
              clear H
              obtain ⟨Ao30,co30,eo30⟩:=Kd.jsa HO_5.out
              subst eo30
              go_wp2
              go_roundg k4
              case measure=>have:=HK1.out;have:=HJ4.out;have:=HJ8.out;have:=HK4.out;omega
              case rel=>exact ⟨(x3_4),(wrap64 (x4_1 - 1)),(sq),H',⟨by have:=HK1.out;have:=HJ4.out;have:=HJ8.out;have:=HK4.out;omega⟩,⟨rq HO_3.out⟩,⟨bq⟩⟩
          ·rw [if_neg c16] at H
           have c16b0:(((jd l0 x4_1).f1) == 7)=false:=beq_eq_false_iff_ne.mpr c16
           have c16b1:(((jd l0 x4_1).f1) != 7)=true:=bne_iff_ne.mpr c16
           have H':=am H
           clear H
           have p166:0≤(x4_1:Int):=ozD (uq)
           have q166:x4_1<(l0.length:Int):=ozD (uq)
           obtain ⟨ad166,e166,hx166_0,hx166_1,hx166_2,hx166_3⟩:=jza HR0.out x4_1 p166 q166
           cases e166
           replace hx166_0:=cb HB.out hx166_0
           replace hx166_1:=cb HB.out hx166_1
           replace hx166_2:=cb HB.out hx166_2
           replace hx166_3:=cb HB.out hx166_3
           replace p166:=ezT p166
           replace q166:=ezT q166
           go_wp2
           go_roundg kj8
           case measure=>have:=HK1.out;have:=HJ4.out;have:=HJ8.out;omega
           case rel=>exact ⟨(x3_8),(wrap64 (x4_1 - 1)),(sq),H',⟨by have:=HK1.out;have:=HJ4.out;have:=HJ8.out;omega⟩,⟨rq HO_3.out⟩,⟨bq⟩⟩
         ·rw [if_neg c15] at H
          exact absurd H (by simp)
        ·rw [if_neg c14] at H
         exact absurd H (by simp)
   ·rw [if_neg c4] at H
    have c4b0:decide (0≤x4_1)=false:=dzF c4
    clear c4
    obtain rfl:=Option.some.inj H
    go_wp2
    go_ret
    exact ⟨_,Y0,rq HO_3.out,bq⟩
def jkb.f (k : Nat) (l0_0 : List (S98)) (l1 : List (S59)) : Option ((List (S48))) := (jaa.f k l0_0 l1).bind fun t180 => (if t180 = true then ((jH.f k l1).bind fun t181 => (some t181)) else (some ([] : List (S48))))
set_option maxHeartbeats 8000000 in
set_option maxRecDepth 100000 in
theorem jkb.calls (k : Nat) (A0_0 : Option Addr) (c0_0 : Nat) (l0_0 : List (S98)) (A1 : Option Addr) (c1 : Nat) (l1 : List (S59)) (r : List (S48)) (w : World) (hr0_0 : Kd.C k98 w A0_0 l0_0.length l0_0) (hc0_0 : l0_0.length ≤ c0_0) (hr1 : Kd.C k59 w A1 l1.length l1) (hc1 : l1.length ≤ c1) (h : jkb.f k l0_0 l1 = some r) :
  Calls Try.prog 9 #[.agg #[.slice A0_0 l0_0.length c0_0], .slice A1 l1.length c1] w fun e w'=>∃ v0_:Value,e=.returned (v0_)∧Kd.R k48 48 w' w.heap.size (fun _=>True) v0_ r∧Below w.heap.size w w':=by
 have hu32:=Try.underlying32
 have HR0_0:=am hr0_0
 have HC0_0:=am hc0_0
 clear hr0_0 hc0_0
 have HR1:=am hr1
 have HC1:=am hc1
 clear hr1 hc1
 have HB:=am (Below.refl w.heap.size w)
 have H:((jaa.f k l0_0 l1).bind fun t180=>(if t180=true then ((jH.f k l1).bind fun t181=>(some t181)) else (some ([]:List (S48)))))=some r:=h
 clear h
 replace H:=bzS H
 obtain ⟨t180,A30,H⟩:=H
 replace H:(if t180=true then ((jH.f k l1).bind fun t181=>(some t181)) else (some ([]:List (S48))))=some r:=H
 have A3:=am A30
 clear A30
 by_cases c4:t180=true
 ·subst c4
  have H1:((jH.f k l1).bind fun t181=>(some t181))=some r:=by rw [if_pos rfl] at H;exact H
  clear H
  have H:=H1
  clear H1
  replace H:=bzS H
  obtain ⟨t181,A50,H⟩:=H
  replace H:(some t181)=some r:=H
  have A5:=am A50
  clear A50
  obtain rfl:=Option.some.inj H
  go_enter Try.func9,Try.ntmps9
  go_wp2_with (first |((with_reducible refine jS (N:=2) rfl ?_);refine bE (N:=2) (cs:=#[.slice A0_0 l0_0.length c0_0]) (t:=32) ?_;intro gb179 hg w6 hbox hb;have BK179:=am (hbox);have GW179:=am ((Y9:w.heap.size≤gb179));have GE179:=am ((Y9:w.heap.size≤gb179));replace HB:=am (jg (bq) hb);clear hb hbox hg;have hcz7_0:=bc0 BK179.out;have hfz7_0:=ja BK179.out 0) |((with_reducible refine je (f:=29) rfl ?_);refine gL (some 7) Try.func29 #[.agg #[.slice A0_0 l0_0.length c0_0], .slice A1 l1.length c1] ?_;(with_reducible refine (jaa.calls k _ _ l0_0 _ _ l1 true _ ?side1 ?side2 ?side3 ?side4 A3.out).mono ?_);(case side1=>exact cq (Kd.jV HR0_0.out HB.out));(case side2=>exact HC0_0.out);(case side3=>exact cq (Kd.jV HR1.out HB.out));(case side4=>exact HC1.out);rintro e w8 ⟨rfl,hb⟩;refine ⟨_,rfl,?_⟩;replace BK179:=am (jo (g:=gb179) (o:=.cells #[.slice A0_0 l0_0.length c0_0] 32 (0,0)) (kq BK179.out) hb);replace HB:=am (jg (Y56) hb);(try clear hb);(try clear hb2);(try clear hk);(try clear hi)) |((with_reducible refine je (f:=30) rfl ?_);refine gL (some 10) Try.func30 #[.slice A1 l1.length c1] ?_;(with_reducible refine (jH.calls k _ _ l1 t181 _ ?side1 ?side2 A5.out).mono ?_);(case side1=>exact cq (Kd.jV HR1.out HB.out));(case side2=>exact HC1.out);rintro e w9 ⟨v182,rfl,ho0,hb⟩;refine ⟨_,rfl,?_⟩;have HO183:=am (Kd.jea ho0 (jta (Y56)));replace BK179:=am (jo (g:=gb179) (o:=.cells #[.slice A0_0 l0_0.length c0_0] 32 (0,0)) (kq BK179.out) hb);replace HB:=am (jg (Y56) hb);(try clear hb);(try clear hb2);(try clear hk);(try clear hi);(try clear ho0)))
  go_ret
  exact ⟨_,Y0,rq HO183.out,Y56⟩
 ·replace c4:=Bool.eq_false_iff.mpr c4
  subst c4
  have H1:(some ([]:List (S48)))=some r:=by rw [if_neg (show ¬ (false=true) by decide)] at H;exact H
  clear H
  have H:=H1
  clear H1
  obtain rfl:=Option.some.inj H
  go_enter Try.func9,Try.ntmps9
  go_wp2_with (first |((with_reducible refine jS (N:=2) rfl ?_);refine bE (N:=2) (cs:=#[.slice A0_0 l0_0.length c0_0]) (t:=32) ?_;intro gb179 hg w10 hbox hb;have BK179:=am (hbox);have GW179:=am ((Y9:w.heap.size≤gb179));have GE179:=am ((Y9:w.heap.size≤gb179));replace HB:=am (jg (bq) hb);clear hb hbox hg;have hcz11_0:=bc0 BK179.out;have hfz11_0:=ja BK179.out 0) |((with_reducible refine je (f:=29) rfl ?_);refine gL (some 7) Try.func29 #[.agg #[.slice A0_0 l0_0.length c0_0], .slice A1 l1.length c1] ?_;(with_reducible refine (jaa.calls k _ _ l0_0 _ _ l1 false _ ?side1 ?side2 ?side3 ?side4 A3.out).mono ?_);(case side1=>exact cq (Kd.jV HR0_0.out HB.out));(case side2=>exact HC0_0.out);(case side3=>exact cq (Kd.jV HR1.out HB.out));(case side4=>exact HC1.out);rintro e w12 ⟨rfl,hb⟩;refine ⟨_,rfl,?_⟩;replace BK179:=am (jo (g:=gb179) (o:=.cells #[.slice A0_0 l0_0.length c0_0] 32 (0,0)) (kq BK179.out) hb);replace HB:=am (jg (Y56) hb);(try clear hb);(try clear hb2);(try clear hk);(try clear hi)))
  go_ret
  exact ⟨_,Y0,Y93,Y56⟩
def jI.f (a0 : Int) (a1 : Int) (a2 : Int) : Option (Bool) := if a0 ≥ a1 then (some (decide (a0 ≤ a2))) else (some false)
set_option maxHeartbeats 8000000 in
set_option maxRecDepth 100000 in
theorem jI.calls (a0 : Int) (a1 : Int) (a2 : Int) (r : Bool) (w : World) (h : jI.f a0 a1 a2 = some r) :
  Calls Try.prog 45 #[.int .i64 a0, .int .i64 a1, .int .i64 a2] w fun e w'=>e=.returned (.bool r)∧jfb w w':=by
 have H:(if a0≥a1 then (some (decide (a0≤a2))) else (some false))=some r:=h
 clear h
 by_cases c4:a0≥a1
 ·rw [if_pos c4] at H
  have c4b0:decide (a1≤a0)=true:=dzT c4
  clear c4
  obtain rfl:=Option.some.inj H
  go_enter Try.func45,Try.ntmps45
  go_wp2
  go_ret
  exact ⟨sq,Y5⟩
 ·rw [if_neg c4] at H
  have c4b0:decide (a1≤a0)=false:=dzF c4
  clear c4
  obtain rfl:=Option.some.inj H
  go_enter Try.func45,Try.ntmps45
  go_wp2
  go_ret
  exact ⟨sq,Y5⟩
def jNa.l0 : Nat → ByteArray → Int → Int → Option (Bool)
 | 0,_,_,_=>none
 | k+1,x0,x5,x6=>if x6<x5 then (if 0≤x6 then (if x6<(x0.size:Int) then (if (bt x0 x6)<97 then (some false) else (if (bt x0 x6) > 122 then (some false) else (jNa.l0 k x0 x5 (wrap64 (x6+1))))) else (none)) else (none)) else ((jI.f (x0.size:Int) 1 6).bind fun t212=>(some t212))
def jNa.f (k : Nat) (a0 : ByteArray) : Option (Bool) := jNa.l0 k a0 (a0.size : Int) 0
set_option maxHeartbeats 8000000 in
set_option maxRecDepth 100000 in
theorem jNa.calls (k : Nat) (a0 : ByteArray) (r : Bool) (w : World) (h : jNa.f k a0 = some r) :
  Calls Try.prog 73 #[.string a0] w fun e w'=>e=.returned (.bool r)∧jfb w w':=by
 have H:(jNa.l0 k a0 (a0.size:Int) 0)=some r:=h
 clear h
 have H':=am H
 clear H
 go_enter Try.func73,Try.ntmps73
 go_wp2
 go_loopg [6] k (fun kq v6 w'=>∃ (x6_1:Int),v6=.int .i64 x6_1∧jl (jNa.l0 kq a0 (a0.size:Int) x6_1=some r)∧jl (kq≤k)∧jfb w w')
 case atStart=>exact ⟨(0),(sq),H',⟨Nat.le_refl _⟩,Y5⟩
 case round =>
  clear H'
  obtain ⟨x6_1,rfl,HA,HK1,⟨m1,rfl⟩⟩:=hrel
  cases gk with
  | zero=>exact absurd HA.out (by simp [jNa.l0])
  | succ k1 =>
   have H:=HA.out
   clear HA
   simp only [jNa.l0] at H
   by_cases c2:x6_1<(a0.size:Int)
   ·rw [if_pos c2] at H
    have c2b0:decide (x6_1<(a0.size:Int))=true:=dzT c2
    clear c2
    by_cases c3:0≤x6_1
    ·rw [if_pos c3] at H
     have c3b0:decide (0≤x6_1)=true:=dzT c3
     clear c3
     by_cases c4:x6_1<(a0.size:Int)
     ·rw [if_pos c4] at H
      have c4b0:decide (x6_1<(a0.size:Int))=true:=dzT c4
      clear c4
      by_cases c6:(bt a0 x6_1)<97
      ·rw [if_pos c6] at H
       have c6b0:decide ((bt a0 x6_1)<97)=true:=dzT c6
       clear c6
       obtain rfl:=Option.some.inj H
       have p5:0≤(x6_1:Int):=ozD (uq)
       have q5:x6_1<(a0.size:Int):=ozD (uq)
       have hx5:=bt_at a0 x6_1
       replace p5:=ezT p5
       replace q5:=ezT q5
       go_wp2
       go_ret
       exact ⟨sq,Y5⟩
      ·rw [if_neg c6] at H
       have c6b0:decide ((bt a0 x6_1)<97)=false:=dzF c6
       clear c6
       by_cases c8:(bt a0 x6_1) > 122
       ·rw [if_pos c8] at H
        have c8b0:decide (122<(bt a0 x6_1))=true:=dzT c8
        clear c8
        obtain rfl:=Option.some.inj H
        have p5:0≤(x6_1:Int):=ozD (uq)
        have q5:x6_1<(a0.size:Int):=ozD (uq)
        have hx5:=bt_at a0 x6_1
        replace p5:=ezT p5
        replace q5:=ezT q5
        have p7:0≤(x6_1:Int):=ozD (uq)
        have q7:x6_1<(a0.size:Int):=ozD (uq)
        have hx7:=bt_at a0 x6_1
        replace p7:=ezT p7
        replace q7:=ezT q7
        go_wp2
        go_ret
        exact ⟨sq,Y5⟩
       ·rw [if_neg c8] at H
        have c8b0:decide (122<(bt a0 x6_1))=false:=dzF c8
        clear c8
        have H':=am H
        clear H
        have p5:0≤(x6_1:Int):=ozD (uq)
        have q5:x6_1<(a0.size:Int):=ozD (uq)
        have hx5:=bt_at a0 x6_1
        replace p5:=ezT p5
        replace q5:=ezT q5
        have p7:0≤(x6_1:Int):=ozD (uq)
        have q7:x6_1<(a0.size:Int):=ozD (uq)
        have hx7:=bt_at a0 x6_1
        replace p7:=ezT p7
        replace q7:=ezT q7
        go_wp2
        go_roundg k1
        case measure=>have:=HK1.out;omega
        case rel=>exact ⟨(wrap64 (x6_1+1)),(sq),H',⟨by have:=HK1.out;omega⟩,Y5⟩
     ·rw [if_neg c4] at H
      exact absurd H (by simp)
    ·rw [if_neg c3] at H
     exact absurd H (by simp)
   ·rw [if_neg c2] at H
    have c2b0:decide (x6_1<(a0.size:Int))=false:=dzF c2
    clear c2
    replace H:=bzS H
    obtain ⟨t212,A90,H⟩:=H
    replace H:(some t212)=some r:=H
    have A9:=am A90
    clear A90
    obtain rfl:=Option.some.inj H
    go_wp2_with (first |((with_reducible refine je (f:=45) rfl ?_);refine gL (some 22) Try.func45 #[.int .i64 (a0.size:Int), .int .i64 1, .int .i64 6] ?_;(with_reducible refine (jI.calls (a0.size:Int) 1 6 t212 _ A9.out).mono ?_);rintro e w' ⟨rfl,⟨nd,rfl⟩⟩;refine ⟨_,rfl,?_⟩))
    go_ret
    exact ⟨sq,Y5⟩

theorem impl_named1_calls (a b : ByteArray) (p : Int) (B : Nat) (w : World) (hB : B < w.heap.size) (hc : w.cell? ⟨B, 0, none⟩ = some (.string b)) :
  Calls Try.prog 100 #[.agg #[.string a, .int .i64 p], .pointer (some ⟨B,0,none⟩)] w fun e w'=>e=.returned (.bool (a.toList == b.toList))∧Below w.heap.size w w':=by
 have hne:B≠w.heap.size:=by omega
 go_enter Try.func100,Try.ntmps100
 go_wp2
 go_ret
 exact ⟨rfl,(Below.refl _ _).alloc (Nat.le_refl _) _⟩
set_option maxHeartbeats 8000000 in
set_option maxRecDepth 100000 in
theorem impl_named_idx (A_ : Option Addr) (c_ : Nat) (l : List (S98)) (B0_ : Nat) (p : S98 → Option Bool) (r : Int) (w : World) (hr : Kd.C k98 w A_ l.length l) (h : idxFrom p l 0 = some r)
  (hp:∀ W,Below w.heap.size w W→∀ (x:S98) (b:Bool),p x=some b→Calls Try.prog 100 #[.agg #[.string x.f0, .int .i64 x.f1], .pointer (some ⟨B0_,0,none⟩)] W fun e w'=>e=.returned (.bool b)∧Below W.heap.size W w') :
  Calls Try.prog 99 #[.slice A_ l.length c_, .func (.func 100) #[] #[.pointer (some ⟨B0_,0,none⟩)]] w fun e w'=>e=.returned (.int .i64 r)∧Below w.heap.size w w':=by
 have hm:l.length≤9223372036854775807:=Kd.C_max hr
 have HR:=am hr
 have HP:=am hp
 have H0:=am h
 clear hr hp h
 go_enter Try.func99,Try.ntmps99
 go_wp2
 go_loopw [5,8] (fun i5 i8 wr=>∃ k:Nat,k≤l.length∧i8=.int .i64 k∧jl (idxFrom p (l.drop k) k=some r)∧Below w.heap.size w wr) (fun _ i8 _=>l.length - (intOf i8).toNat)
 case atStart=>exact ⟨0,Nat.zero_le _,rfl,H0,Below.refl _ _⟩
 case round =>
  clear H0
  obtain ⟨k,hk,rfl,HA,hb⟩:=hrel
  by_cases hlt:k<l.length
  ·have HB:=am (idxFrom_step hlt HA.out)
   clear HA
   obtain ⟨ad,rfl,hx0,hx1⟩:=at_T98 HR.out (k:Int) (by omega) (by omega)
   have hrd:jba l (k:Int)=l[k]:=by simp [jba,List.getD_eq_getElem?_getD,hlt]
   replace hx0:=jua hb hx0
   replace hx1:=jua hb hx1
   rw [hrd] at hx0 hx1
   simp only [Int.toNat_natCast] at hx0 hx1
   clear hrd
   obtain ⟨b,hb1,hb0⟩:=HB.out
   have HQ:=am hb1
   clear hb1 HB
   cases b with
   | true =>
    have HZ:=am (by simpa using hb0:(k:Int)=r)
    clear hb0
    go_wp2_with (go_at_call 100;refine (HP.out _ hb _ _ HQ.out).mono ?_;rintro e w' ⟨rfl,hb2⟩)
    go_ret
    exact ⟨by rw [← HZ.out];rfl,jda hb hb.size hb2⟩
   | false =>
    have HZ:=am (by simpa using hb0:idxFrom p (l.drop (k+1)) (k+1)=some r)
    clear hb0
    go_wp2_with (go_at_call 100;refine (HP.out _ hb _ _ HQ.out).mono ?_;rintro e w' ⟨rfl,hb2⟩)
    go_roundw
    case rel=>exact ⟨k+1,hlt,by go_num,HZ,jda hb hb.size hb2⟩
    case measure=>simp [intOf];omega
  ·have HZ:=am (idxFrom_end (by omega) HA.out)
   clear HA
   go_wp2
   go_ret
   exact ⟨by rw [HZ.out];rfl,hb⟩
def jTa.f (l0_0 : List S98) (a1 : ByteArray) : Option Int := idxFrom (fun x : S98 => some (x.f0.toList == a1.toList)) l0_0 0
set_option maxHeartbeats 8000000 in
set_option maxRecDepth 100000 in
theorem jTa.calls (A0_0 : Option Addr) (c0_0 : Nat) (l0_0 : List (S98)) (a1 : ByteArray) (r : Int) (w : World) (hr0_0 : Kd.C k98 w A0_0 l0_0.length l0_0) (hc0_0 : l0_0.length ≤ c0_0) (h : jTa.f l0_0 a1 = some r) :
  Calls Try.prog 74 #[.agg #[.slice A0_0 l0_0.length c0_0], .string a1] w fun e w'=>e=.returned (.int .i64 r)∧Below w.heap.size w w':=by
 have hu32:=Try.underlying32
 have HF:=am (fun W (hb:Below w.heap.size w W) (B:Nat) (hB:B<W.heap.size) (hc:W.cell? ⟨B,0,none⟩=some (.string a1))=>impl_named_idx A0_0 c0_0 l0_0 B (fun x:S98=>some (x.f0.toList == a1.toList)) r W (Kd.jV hr0_0 hb) h (fun W' hb' x b hx=>by
  obtain rfl:=Option.some.inj hx
  exact impl_named1_calls x.f0 a1 x.f1 B W' (Nat.lt_of_lt_of_le hB hb'.size) (jua hb' hc)))
 clear h hr0_0
 go_enter Try.func74,Try.ntmps74
 go_wp2_with (go_at_call 99;refine (HF.out _ (((Below.refl _ _).alloc (Nat.le_refl _) _).alloc (by simp) _) _ (by simp) (by simp)).mono ?_;rintro e w' ⟨rfl,hb2⟩)
 go_ret
 exact ⟨rfl,(((Below.refl _ _).alloc (Nat.le_refl _) _).alloc (by simp) _).trans (hb2.mono (by simp;omega))⟩
end Go.Proofs.Ytbcjbcjpoddkoaa.P
end
