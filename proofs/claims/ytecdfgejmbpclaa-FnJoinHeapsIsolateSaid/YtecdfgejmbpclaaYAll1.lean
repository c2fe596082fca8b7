/- One part of the proofs on this program: functions of the program as plain functions, that the code comes to them, and facts on them. -/
import Derived.ArgAppend
import Derived.Below
import Derived.BigQuiet
import Derived.Deep.AppendLies
import Derived.Deep.CutBlock
import Derived.Deep.DeepCutAuto
import Derived.Deep.Draws
import Derived.Deep.LoopGhost
import Derived.Deep.OwnRows
import Derived.Deep.QuietTactic
import Derived.Deep.RegionHeld3
import Derived.KernelRfl
import Derived.Laws.BitsLemmas
import Derived.Laws.BytesArg
import Derived.Laws.IdiomCopy
import Derived.Laws.MakeOwn
import Derived.Laws.OwnMore
import Derived.Laws.Rows
import Derived.Laws.Slices
import Derived.Lib.AppendStr
import Derived.Lib.ConvBytes
import Derived.LoopTactic
import Derived.Maps.AppendAt
import Derived.OrdersHeld
import Derived.OwnWalk
import Derived.RowKit
import Derived.RowKit3
import Derived.Tactics
import Derived.WalkKit
import Derived.WideLaws
import Derived.Test.YtecdfgejmbpclaaProg
import Derived.Test.YtecdfgejmbpclaaYWApart
import Derived.Test.YtecdfgejmbpclaaYWAuto
import Derived.Test.YtecdfgejmbpclaaYWClip
import Derived.Test.YtecdfgejmbpclaaYWEqStruct
import Derived.Test.YtecdfgejmbpclaaYWFoot
import Derived.Test.YtecdfgejmbpclaaYWGuard
import Derived.Test.YtecdfgejmbpclaaYWIdx
import Derived.Test.YtecdfgejmbpclaaYWKept
import Derived.Test.YtecdfgejmbpclaaYWLast
import Derived.Test.YtecdfgejmbpclaaYWMkcap
import Derived.Test.YtecdfgejmbpclaaYWMore
import Derived.Test.YtecdfgejmbpclaaYWN
import Derived.Test.YtecdfgejmbpclaaYWRepsOne
import Derived.Test.YtecdfgejmbpclaaYWShare
import Derived.Test.YtecdfgejmbpclaaYWSome
import Derived.Test.YtecdfgejmbpclaaYWTab
import Derived.Test.YtecdfgejmbpclaaYWWords
section
namespace Go.Proofs.Ytecdfgejmbpclaa.P
open Go.RowKit Go.Proofs.YtecdfgejmbpclaaW.PrintWords Go.Proofs.YtecdfgejmbpclaaW.PrintLast Go.Proofs.YtecdfgejmbpclaaW.PrintMore
attribute [local go_sem] jva jta jFa jEa jha jga jua jsa jF
set_option linter.unusedVariables false
set_option linter.unusedSimpArgs false
def errW : Option Int → Value
 | none=>.nilIface
 | some c=>.iface 0 (.int .i64 c)
theorem jzb : errW none = .nilIface := rfl
theorem jyb (c : Int) : errW (some c) = .iface 0 (.int .i64 c) := rfl
theorem info3 : (Try.prog.info? 3).map (fun i => (i.zero, i.size, i.bytes)) = some (some (.int .i64 0), 1, 8) := by kernel_rfl
theorem info5 : (Try.prog.info? 5).map (fun i => (i.zero, i.size, i.bytes)) = some (some (.int .u8 0), 1, 1) := by kernel_rfl
theorem info54 : (Try.prog.info? 54).map (fun i => (i.zero, i.size, i.bytes)) = some (some (.agg #[(.int .i64 0), (.int .i64 0), (.int .i64 0), (.int .i64 0), (.bool false)]), 5, 40) := by kernel_rfl
theorem info94 : (Try.prog.info? 94).map (fun i => (i.zero, i.size, i.bytes)) = some (some (.agg #[(.string ⟨#[]⟩), (.int .i64 0)]), 2, 24) := by kernel_rfl
structure S54 where
 f0:Int
 f1:Int
 f2:Int
 f3:Int
 f4:Bool
def z54 : S54 := ⟨(0 : Int), (0 : Int), (0 : Int), (0 : Int), false⟩
def k54 : Kd S54 := Kd.iso (Kd.pair (Kd.int .i64) (Kd.pair (Kd.int .i64) (Kd.pair (Kd.int .i64) (Kd.pair (Kd.int .i64) Kd.bool)))) (fun x : S54 => (x.f0, x.f1, x.f2, x.f3, x.f4))
theorem k54_open {w : World} {x : S54} {cs : List Value} (h : k54.K w x cs) : cs = [.int .i64 x.f0, .int .i64 x.f1, .int .i64 x.f2, .int .i64 x.f3, .bool x.f4] := by
 obtain ⟨_,_,rfl,rfl,⟨_,_,rfl,rfl,⟨_,_,rfl,rfl,⟨_,_,rfl,rfl,rfl⟩⟩⟩⟩:=h
 exact rfl
theorem jQa {w : World} {base : Nat} {ok : Nat → Prop} {x : S54} {cs : List Value} (h : k54.M w base ok x cs) : cs = [.int .i64 x.f0, .int .i64 x.f1, .int .i64 x.f2, .int .i64 x.f3, .bool x.f4] := by
 obtain ⟨_,_,rfl,rfl,⟨_,_,rfl,rfl,⟨_,_,rfl,rfl,⟨_,_,rfl,rfl,rfl⟩⟩⟩⟩:=h
 exact rfl
theorem jGb (w : World) (base : Nat) (ok : Nat → Prop) (x : S54)  : k54.M w base ok x [.int .i64 x.f0, .int .i64 x.f1, .int .i64 x.f2, .int .i64 x.f3, .bool x.f4] := ⟨[.int .i64 x.f0], [.int .i64 x.f1, .int .i64 x.f2, .int .i64 x.f3, .bool x.f4], rfl, rfl, ⟨[.int .i64 x.f1], [.int .i64 x.f2, .int .i64 x.f3, .bool x.f4], rfl, rfl, ⟨[.int .i64 x.f2], [.int .i64 x.f3, .bool x.f4], rfl, rfl, ⟨[.int .i64 x.f3], [.bool x.f4], rfl, rfl, rfl⟩⟩⟩⟩
def ja (xs : List S54) (i : Int) : S54 := xs.getD i.toNat z54
theorem jfb {w : World} {A : Option Addr} {n : Nat} {xs : List S54} (h : Kd.C k54 w A n xs) (i : Int) (h0 : 0 ≤ i) (h1 : i < n) : ∃ ad , A = some ad ∧ w.cell? (ad.add (i.toNat * 5)) = some (.int .i64 (ja xs i).f0) ∧ w.cell? ⟨(ad.add (i.toNat * 5)).block, (ad.add (i.toNat * 5)).off + 1, none⟩ = some (.int .i64 (ja xs i).f1) ∧ w.cell? ⟨(ad.add (i.toNat * 5)).block, (ad.add (i.toNat * 5)).off + 2, none⟩ = some (.int .i64 (ja xs i).f2) ∧ w.cell? ⟨(ad.add (i.toNat * 5)).block, (ad.add (i.toNat * 5)).off + 3, none⟩ = some (.int .i64 (ja xs i).f3) ∧ w.cell? ⟨(ad.add (i.toNat * 5)).block, (ad.add (i.toNat * 5)).off + 4, none⟩ = some (.bool (ja xs i).f4) := by
 obtain ⟨ad,c,e,_,hK,hc0⟩:=Kd.C_get h z54 i h0 h1
 have hc:∀ j u,c[j]?=some u→w.cell? (ad.add (i.toNat * 5+j))=some u:=hc0
 obtain rfl:=k54_open hK
 exact ⟨ad,e,hc 0 _ rfl,by rw [← add_field _ _ 1 (by omega)];exact hc 1 _ rfl,by rw [← add_field _ _ 2 (by omega)];exact hc 2 _ rfl,by rw [← add_field _ _ 3 (by omega)];exact hc 3 _ rfl,by rw [← add_field _ _ 4 (by omega)];exact hc 4 _ rfl⟩
structure S94 where
 f0:ByteArray
 f1:Int
def z94 : S94 := ⟨(⟨#[]⟩ : ByteArray), (0 : Int)⟩
def k94 : Kd S94 := Kd.iso (Kd.pair Kd.string (Kd.int .i64)) (fun x : S94 => (x.f0, x.f1))
theorem k94_open {w : World} {x : S94} {cs : List Value} (h : k94.K w x cs) : cs = [.string x.f0, .int .i64 x.f1] := by
 obtain ⟨_,_,rfl,rfl,rfl⟩:=h
 exact rfl
theorem k94_openM {w : World} {base : Nat} {ok : Nat → Prop} {x : S94} {cs : List Value} (h : k94.M w base ok x cs) : cs = [.string x.f0, .int .i64 x.f1] := by
 obtain ⟨_,_,rfl,rfl,rfl⟩:=h
 exact rfl
theorem k94_mkM (w : World) (base : Nat) (ok : Nat → Prop) (x : S94)  : k94.M w base ok x [.string x.f0, .int .i64 x.f1] := ⟨[.string x.f0], [.int .i64 x.f1], rfl, rfl, rfl⟩
def jZ (xs : List S94) (i : Int) : S94 := xs.getD i.toNat z94
theorem at_T94 {w : World} {A : Option Addr} {n : Nat} {xs : List S94} (h : Kd.C k94 w A n xs) (i : Int) (h0 : 0 ≤ i) (h1 : i < n) : ∃ ad , A = some ad ∧ w.cell? (ad.add (i.toNat * 2)) = some (.string (jZ xs i).f0) ∧ w.cell? ⟨(ad.add (i.toNat * 2)).block, (ad.add (i.toNat * 2)).off + 1, none⟩ = some (.int .i64 (jZ xs i).f1) := by
 obtain ⟨ad,c,e,_,hK,hc0⟩:=Kd.C_get h z94 i h0 h1
 have hc:∀ j u,c[j]?=some u→w.cell? (ad.add (i.toNat * 2+j))=some u:=hc0
 obtain rfl:=k94_open hK
 exact ⟨ad,e,hc 0 _ rfl,by rw [← add_field _ _ 1 (by omega)];exact hc 1 _ rfl⟩
def jY.f (a0 : Int) (a1 : Int) (a2 : Int) : Option (Bool) := if a1 ≤ a0 then (some (decide (a0 ≤ a2))) else (some false)
set_option maxHeartbeats 8000000 in
set_option maxRecDepth 100000 in
theorem jY.calls (a0 : Int) (a1 : Int) (a2 : Int) (r : Bool) (w : World) (h : jY.f a0 a1 a2 = some r) :
  Calls Try.prog 98 #[.int .i64 a0, .int .i64 a1, .int .i64 a2] w fun e w'=>e=.returned (.bool r)∧jqb w w':=by
 have H:(if a1≤a0 then (some (decide (a0≤a2))) else (some false))=some r:=h
 clear h
 by_cases c4:a1≤a0
 ·rw [if_pos c4] at H
  have c4b0:decide (a1≤a0)=true:=dzT c4
  clear c4
  obtain rfl:=Option.some.inj H
  go_enter Try.func98,Try.ntmps98
  go_wp2
  go_ret
  exact ⟨sq,Y6⟩
 ·rw [if_neg c4] at H
  have c4b0:decide (a1≤a0)=false:=dzF c4
  clear c4
  obtain rfl:=Option.some.inj H
  go_enter Try.func98,Try.ntmps98
  go_wp2
  go_ret
  exact ⟨sq,Y6⟩
def jLa.f (l0_0 : List (S94)) (a1 : Int) : Option (Bool) := (jY.f a1 0 (wrap64 ((l0_0.length : Int) - 1))).bind fun t119 => (some t119)
set_option maxHeartbeats 8000000 in
set_option maxRecDepth 100000 in
theorem jLa.calls (A0_0 : Option Addr) (c0_0 : Nat) (l0_0 : List (S94)) (a1 : Int) (r : Bool) (w : World) (hr0_0 : Kd.C k94 w A0_0 l0_0.length l0_0) (hc0_0 : l0_0.length ≤ c0_0) (h : jLa.f l0_0 a1 = some r) :
  Calls Try.prog 97 #[.agg #[.slice A0_0 l0_0.length c0_0], .int .i64 a1] w fun e w'=>e=.returned (.bool r)∧Below w.heap.size w w':=by
 have hu37:=Try.underlying37
 have HR0_0:=am hr0_0
 have HC0_0:=am hc0_0
 clear hr0_0 hc0_0
 have HB:=am (Below.refl w.heap.size w)
 have H:((jY.f a1 0 (wrap64 ((l0_0.length:Int) - 1))).bind fun t119=>(some t119))=some r:=h
 clear h
 replace H:=bzS H
 obtain ⟨t119,A30,H⟩:=H
 replace H:(some t119)=some r:=H
 have A3:=am A30
 clear A30
 obtain rfl:=Option.some.inj H
 go_enter Try.func97,Try.ntmps97
 go_wp2_with (first |((with_reducible refine jI (N:=2) rfl ?_);refine bE (N:=2) (cs:=#[.slice A0_0 l0_0.length c0_0]) (t:=37) ?_;intro gb118 hg w4 hbox hb;have BK118:=am (hbox);have GW118:=am ((Y1:w.heap.size≤gb118));have GE118:=am ((Y1:w.heap.size≤gb118));replace HB:=am (jl (bq) hb);clear hb hbox hg;have hcz5_0:=bc0 BK118.out;have hfz5_0:=jf BK118.out 0) |((with_reducible refine jC (f:=98) rfl ?_);refine gL (some 10) Try.func98 #[.int .i64 a1, .int .i64 0, .int .i64 (wrap64 ((l0_0.length:Int) - 1))] ?_;(with_reducible refine (jY.calls a1 0 (wrap64 ((l0_0.length:Int) - 1)) t119 _ A3.out).mono ?_);rintro e w' ⟨rfl,⟨nd,rfl⟩⟩;refine ⟨_,rfl,?_⟩))
 go_ret
 exact ⟨Y2,by repeat (first |(with_reducible first | exact HB.out | apply jy | apply jo | apply jr | refine jk ?_ GE118.out) | exact HB.out)⟩
def jJa.f (l0_0 : List (S54)) (a1 : Int) : Option (Bool) := if 0 ≤ a1 then (if a1 < (l0_0.length : Int) then ((jY.f ((ja l0_0 a1).f2) (-1) (wrap64 ((l0_0.length : Int) - 1))).bind fun t123 => (if t123 = true then ((jY.f ((ja l0_0 a1).f3) (-1) (wrap64 ((l0_0.length : Int) - 1))).bind fun t124 => (if t124 = true then (if ((ja l0_0 a1).f2) = a1 then (some false) else (some (((ja l0_0 a1).f3) != a1))) else (some false))) else (some false))) else (none)) else (none)
set_option maxHeartbeats 8000000 in
set_option maxRecDepth 100000 in
theorem jJa.calls (A0_0 : Option Addr) (c0_0 : Nat) (l0_0 : List (S54)) (a1 : Int) (r : Bool) (w : World) (hr0_0 : Kd.C k54 w A0_0 l0_0.length l0_0) (hc0_0 : l0_0.length ≤ c0_0) (h : jJa.f l0_0 a1 = some r) :
  Calls Try.prog 99 #[.agg #[.slice A0_0 l0_0.length c0_0], .int .i64 a1] w fun e w'=>e=.returned (.bool r)∧Below w.heap.size w w':=by
 have hu32:=Try.underlying32
 have hu54:=Try.underlying54
 have HR0_0:=am hr0_0
 have HC0_0:=am hc0_0
 clear hr0_0 hc0_0
 have HB:=am (Below.refl w.heap.size w)
 have H:(if 0≤a1 then (if a1<(l0_0.length:Int) then ((jY.f ((ja l0_0 a1).f2) (-1) (wrap64 ((l0_0.length:Int) - 1))).bind fun t123=>(if t123=true then ((jY.f ((ja l0_0 a1).f3) (-1) (wrap64 ((l0_0.length:Int) - 1))).bind fun t124=>(if t124=true then (if ((ja l0_0 a1).f2)=a1 then (some false) else (some (((ja l0_0 a1).f3) != a1))) else (some false))) else (some false))) else (none)) else (none))=some r:=h
 clear h
 by_cases c3:0≤a1
 ·rw [if_pos c3] at H
  have c3b0:decide (0≤a1)=true:=dzT c3
  clear c3
  by_cases c4:a1<(l0_0.length:Int)
  ·rw [if_pos c4] at H
   have c4b0:decide (a1<(l0_0.length:Int))=true:=dzT c4
   clear c4
   replace H:=bzS H
   obtain ⟨t123,A50,H⟩:=H
   replace H:(if t123=true then ((jY.f ((ja l0_0 a1).f3) (-1) (wrap64 ((l0_0.length:Int) - 1))).bind fun t124=>(if t124=true then (if ((ja l0_0 a1).f2)=a1 then (some false) else (some (((ja l0_0 a1).f3) != a1))) else (some false))) else (some false))=some r:=H
   have A5:=am A50
   clear A50
   by_cases c6:t123=true
   ·subst c6
    have H1:((jY.f ((ja l0_0 a1).f3) (-1) (wrap64 ((l0_0.length:Int) - 1))).bind fun t124=>(if t124=true then (if ((ja l0_0 a1).f2)=a1 then (some false) else (some (((ja l0_0 a1).f3) != a1))) else (some false)))=some r:=by rw [if_pos rfl] at H;exact H
    clear H
    have H:=H1
    clear H1
    replace H:=bzS H
    obtain ⟨t124,A70,H⟩:=H
    replace H:(if t124=true then (if ((ja l0_0 a1).f2)=a1 then (some false) else (some (((ja l0_0 a1).f3) != a1))) else (some false))=some r:=H
    have A7:=am A70
    clear A70
    by_cases c8:t124=true
    ·subst c8
     have H1:(if ((ja l0_0 a1).f2)=a1 then (some false) else (some (((ja l0_0 a1).f3) != a1)))=some r:=by rw [if_pos rfl] at H;exact H
     clear H
     have H:=H1
     clear H1
     by_cases c9:((ja l0_0 a1).f2)=a1
     ·rw [if_pos c9] at H
      have c9b0:(((ja l0_0 a1).f2) == a1)=true:=beq_iff_eq.mpr c9
      have c9b1:(((ja l0_0 a1).f2) != a1)=false:=bne_eq_false_iff_eq.mpr c9
      clear c9
      obtain rfl:=Option.some.inj H
      go_enter Try.func99,Try.ntmps99
      go_wp2_with (first |((with_reducible refine jI (N:=2) rfl ?_);refine bE (N:=2) (cs:=#[.slice A0_0 l0_0.length c0_0]) (t:=32) ?_;intro gb120 hg w10 hbox hb;have BK120:=am (hbox);have GW120:=am ((Y1:w.heap.size≤gb120));have GE120:=am ((Y1:w.heap.size≤gb120));replace HB:=am (jl (bq) hb);clear hb hbox hg;have hcz11_0:=bc0 BK120.out;have hfz11_0:=jf BK120.out 0;have p121:0≤(a1:Int):=ozD (uq);have q121:a1<(l0_0.length:Int):=ozD (uq);obtain ⟨ad121,e121,hx121_0,hx121_1,hx121_2,hx121_3,hx121_4⟩:=jfb HR0_0.out a1 p121 q121;cases e121;replace hx121_0:=cb HB.out hx121_0;replace hx121_1:=cb HB.out hx121_1;replace hx121_2:=cb HB.out hx121_2;replace hx121_3:=cb HB.out hx121_3;replace hx121_4:=cb HB.out hx121_4;replace p121:=ezT p121;replace q121:=ezT q121) |((with_reducible refine jI (N:=6) rfl ?_);refine bE (N:=6) (cs:=#[.int .i64 0, .int .i64 0, .int .i64 0, .int .i64 0, .bool false]) (t:=54) ?_;intro gb122 hg w12 hbox hb;have BK122:=am (hbox);have GW122:=am ((Y48:w.heap.size≤gb122));have GE122:=am ((Y48:w.heap.size≤gb122));have NB120_122:=am ((Y101:gb120≠gb122));have NB122_120:=am ((Y102:gb122≠gb120));replace BK120:=am (je (g:=gb120) (o:=.cells #[.slice (some ad121) l0_0.length c0_0] 32 (0,0)) (kq BK120.out) hb);replace HB:=am (jl (Y103) hb);clear hb hbox hg;have hnb13:=NB122_120.out;have hnc13:=NB120_122.out;have hcz14_0:=bc0 BK122.out;have hcz14_1:=bc1 BK122.out;have hcz14_2:=bc2 BK122.out;have hcz14_3:=bc3 BK122.out;have hcz14_4:w12.cell? ⟨gb122,4,none⟩=some (.bool false):=(jH BK122.out 4).trans rfl;have hfz14_0:=jf BK122.out 0;have hfz14_1:=jf BK122.out 1;have hfz14_2:=jf BK122.out 2;have hfz14_3:=jf BK122.out 3;have hfz14_4:=jf BK122.out 4) |((with_reducible refine jC (f:=98) rfl ?_);refine gL (some 19) Try.func98 #[.int .i64 ((ja l0_0 a1).f2), .int .i64 (-1), .int .i64 (wrap64 ((l0_0.length:Int) - 1))] ?_;(with_reducible refine (jY.calls ((ja l0_0 a1).f2) (-1) (wrap64 ((l0_0.length:Int) - 1)) true _ A5.out).mono ?_);rintro e w' ⟨rfl,⟨nd,rfl⟩⟩;refine ⟨_,rfl,?_⟩) |(go_at_call 98;(with_reducible refine (jY.calls ((ja l0_0 a1).f3) (-1) (wrap64 ((l0_0.length:Int) - 1)) true _ A7.out).mono ?_);rintro e w' ⟨rfl,⟨nd,rfl⟩⟩))
      go_ret
      exact ⟨Y2,Y104⟩
     ·rw [if_neg c9] at H
      have c9b0:(((ja l0_0 a1).f2) == a1)=false:=beq_eq_false_iff_ne.mpr c9
      have c9b1:(((ja l0_0 a1).f2) != a1)=true:=bne_iff_ne.mpr c9
      obtain rfl:=Option.some.inj H
      go_enter Try.func99,Try.ntmps99
      go_wp2_with (first |((with_reducible refine jI (N:=2) rfl ?_);refine bE (N:=2) (cs:=#[.slice A0_0 l0_0.length c0_0]) (t:=32) ?_;intro gb120 hg w15 hbox hb;have BK120:=am (hbox);have GW120:=am ((Y1:w.heap.size≤gb120));have GE120:=am ((Y1:w.heap.size≤gb120));replace HB:=am (jl (bq) hb);clear hb hbox hg;have hcz16_0:=bc0 BK120.out;have hfz16_0:=jf BK120.out 0;have p121:0≤(a1:Int):=ozD (uq);have q121:a1<(l0_0.length:Int):=ozD (uq);obtain ⟨ad121,e121,hx121_0,hx121_1,hx121_2,hx121_3,hx121_4⟩:=jfb HR0_0.out a1 p121 q121;cases e121;replace hx121_0:=cb HB.out hx121_0;replace hx121_1:=cb HB.out hx121_1;replace hx121_2:=cb HB.out hx121_2;replace hx121_3:=cb HB.out hx121_3;replace hx121_4:=cb HB.out hx121_4;replace p121:=ezT p121;replace q121:=ezT q121) |((with_reducible refine jI (N:=6) rfl ?_);refine bE (N:=6) (cs:=#[.int .i64 0, .int .i64 0, .int .i64 0, .int .i64 0, .bool false]) (t:=54) ?_;intro gb122 hg w17 hbox hb;have BK122:=am (hbox);have GW122:=am ((Y48:w.heap.size≤gb122));have GE122:=am ((Y48:w.heap.size≤gb122));have NB120_122:=am ((Y101:gb120≠gb122));have NB122_120:=am ((Y102:gb122≠gb120));replace BK120:=am (je (g:=gb120) (o:=.cells #[.slice (some ad121) l0_0.length c0_0] 32 (0,0)) (kq BK120.out) hb);replace HB:=am (jl (Y103) hb);clear hb hbox hg;have hnb18:=NB122_120.out;have hnc18:=NB120_122.out;have hcz19_0:=bc0 BK122.out;have hcz19_1:=bc1 BK122.out;have hcz19_2:=bc2 BK122.out;have hcz19_3:=bc3 BK122.out;have hcz19_4:w17.cell? ⟨gb122,4,none⟩=some (.bool false):=(jH BK122.out 4).trans rfl;have hfz19_0:=jf BK122.out 0;have hfz19_1:=jf BK122.out 1;have hfz19_2:=jf BK122.out 2;have hfz19_3:=jf BK122.out 3;have hfz19_4:=jf BK122.out 4) |((with_reducible refine jC (f:=98) rfl ?_);refine gL (some 19) Try.func98 #[.int .i64 ((ja l0_0 a1).f2), .int .i64 (-1), .int .i64 (wrap64 ((l0_0.length:Int) - 1))] ?_;(with_reducible refine (jY.calls ((ja l0_0 a1).f2) (-1) (wrap64 ((l0_0.length:Int) - 1)) true _ A5.out).mono ?_);rintro e w' ⟨rfl,⟨nd,rfl⟩⟩;refine ⟨_,rfl,?_⟩) |(go_at_call 98;(with_reducible refine (jY.calls ((ja l0_0 a1).f3) (-1) (wrap64 ((l0_0.length:Int) - 1)) true _ A7.out).mono ?_);rintro e w' ⟨rfl,⟨nd,rfl⟩⟩))
      go_ret
      exact ⟨Y2,Y104⟩
    ·replace c8:=Bool.eq_false_iff.mpr c8
     subst c8
     have H1:(some false)=some r:=by rw [if_neg (show ¬ (false=true) by decide)] at H;exact H
     clear H
     have H:=H1
     clear H1
     obtain rfl:=Option.some.inj H
     go_enter Try.func99,Try.ntmps99
     go_wp2_with (first |((with_reducible refine jI (N:=2) rfl ?_);refine bE (N:=2) (cs:=#[.slice A0_0 l0_0.length c0_0]) (t:=32) ?_;intro gb120 hg w20 hbox hb;have BK120:=am (hbox);have GW120:=am ((Y1:w.heap.size≤gb120));have GE120:=am ((Y1:w.heap.size≤gb120));replace HB:=am (jl (bq) hb);clear hb hbox hg;have hcz21_0:=bc0 BK120.out;have hfz21_0:=jf BK120.out 0;have p121:0≤(a1:Int):=ozD (uq);have q121:a1<(l0_0.length:Int):=ozD (uq);obtain ⟨ad121,e121,hx121_0,hx121_1,hx121_2,hx121_3,hx121_4⟩:=jfb HR0_0.out a1 p121 q121;cases e121;replace hx121_0:=cb HB.out hx121_0;replace hx121_1:=cb HB.out hx121_1;replace hx121_2:=cb HB.out hx121_2;replace hx121_3:=cb HB.out hx121_3;replace hx121_4:=cb HB.out hx121_4;replace p121:=ezT p121;replace q121:=ezT q121) |((with_reducible refine jI (N:=6) rfl ?_);refine bE (N:=6) (cs:=#[.int .i64 0, .int .i64 0, .int .i64 0, .int .i64 0, .bool false]) (t:=54) ?_;intro gb122 hg w22 hbox hb;have BK122:=am (hbox);have GW122:=am ((Y48:w.heap.size≤gb122));have GE122:=am ((Y48:w.heap.size≤gb122));have NB120_122:=am ((Y101:gb120≠gb122));have NB122_120:=am ((Y102:gb122≠gb120));replace BK120:=am (je (g:=gb120) (o:=.cells #[.slice (some ad121) l0_0.length c0_0] 32 (0,0)) (kq BK120.out) hb);replace HB:=am (jl (Y103) hb);clear hb hbox hg;have hnb23:=NB122_120.out;have hnc23:=NB120_122.out;have hcz24_0:=bc0 BK122.out;have hcz24_1:=bc1 BK122.out;have hcz24_2:=bc2 BK122.out;have hcz24_3:=bc3 BK122.out;have hcz24_4:w22.cell? ⟨gb122,4,none⟩=some (.bool false):=(jH BK122.out 4).trans rfl;have hfz24_0:=jf BK122.out 0;have hfz24_1:=jf BK122.out 1;have hfz24_2:=jf BK122.out 2;have hfz24_3:=jf BK122.out 3;have hfz24_4:=jf BK122.out 4) |((with_reducible refine jC (f:=98) rfl ?_);refine gL (some 19) Try.func98 #[.int .i64 ((ja l0_0 a1).f2), .int .i64 (-1), .int .i64 (wrap64 ((l0_0.length:Int) - 1))] ?_;(with_reducible refine (jY.calls ((ja l0_0 a1).f2) (-1) (wrap64 ((l0_0.length:Int) - 1)) true _ A5.out).mono ?_);rintro e w' ⟨rfl,⟨nd,rfl⟩⟩;refine ⟨_,rfl,?_⟩) |(go_at_call 98;(with_reducible refine (jY.calls ((ja l0_0 a1).f3) (-1) (wrap64 ((l0_0.length:Int) - 1)) false _ A7.out).mono ?_);rintro e w' ⟨rfl,⟨nd,rfl⟩⟩))
     go_ret
     exact ⟨Y2,Y104⟩
   ·replace c6:=Bool.eq_false_iff.mpr c6
    subst c6
    have H1:(some false)=some r:=by rw [if_neg (show ¬ (false=true) by decide)] at H;exact H
    clear H
    have H:=H1
    clear H1
    obtain rfl:=Option.some.inj H
    go_enter Try.func99,Try.ntmps99
    go_wp2_with (first |((with_reducible refine jI (N:=2) rfl ?_);refine bE (N:=2) (cs:=#[.slice A0_0 l0_0.length c0_0]) (t:=32) ?_;intro gb120 hg w25 hbox hb;have BK120:=am (hbox);have GW120:=am ((Y1:w.heap.size≤gb120));have GE120:=am ((Y1:w.heap.size≤gb120));replace HB:=am (jl (bq) hb);clear hb hbox hg;have hcz26_0:=bc0 BK120.out;have hfz26_0:=jf BK120.out 0;have p121:0≤(a1:Int):=ozD (uq);have q121:a1<(l0_0.length:Int):=ozD (uq);obtain ⟨ad121,e121,hx121_0,hx121_1,hx121_2,hx121_3,hx121_4⟩:=jfb HR0_0.out a1 p121 q121;cases e121;replace hx121_0:=cb HB.out hx121_0;replace hx121_1:=cb HB.out hx121_1;replace hx121_2:=cb HB.out hx121_2;replace hx121_3:=cb HB.out hx121_3;replace hx121_4:=cb HB.out hx121_4;replace p121:=ezT p121;replace q121:=ezT q121) |((with_reducible refine jI (N:=6) rfl ?_);refine bE (N:=6) (cs:=#[.int .i64 0, .int .i64 0, .int .i64 0, .int .i64 0, .bool false]) (t:=54) ?_;intro gb122 hg w27 hbox hb;have BK122:=am (hbox);have GW122:=am ((Y48:w.heap.size≤gb122));have GE122:=am ((Y48:w.heap.size≤gb122));have NB120_122:=am ((Y101:gb120≠gb122));have NB122_120:=am ((Y102:gb122≠gb120));replace BK120:=am (je (g:=gb120) (o:=.cells #[.slice (some ad121) l0_0.length c0_0] 32 (0,0)) (kq BK120.out) hb);replace HB:=am (jl (Y103) hb);clear hb hbox hg;have hnb28:=NB122_120.out;have hnc28:=NB120_122.out;have hcz29_0:=bc0 BK122.out;have hcz29_1:=bc1 BK122.out;have hcz29_2:=bc2 BK122.out;have hcz29_3:=bc3 BK122.out;have hcz29_4:w27.cell? ⟨gb122,4,none⟩=some (.bool false):=(jH BK122.out 4).trans rfl;have hfz29_0:=jf BK122.out 0;have hfz29_1:=jf BK122.out 1;have hfz29_2:=jf BK122.out 2;have hfz29_3:=jf BK122.out 3;have hfz29_4:=jf BK122.out 4) |((with_reducible refine jC (f:=98) rfl ?_);refine gL (some 19) Try.func98 #[.int .i64 ((ja l0_0 a1).f2), .int .i64 (-1), .int .i64 (wrap64 ((l0_0.length:Int) - 1))] ?_;(with_reducible refine (jY.calls ((ja l0_0 a1).f2) (-1) (wrap64 ((l0_0.length:Int) - 1)) false _ A5.out).mono ?_);rintro e w' ⟨rfl,⟨nd,rfl⟩⟩;refine ⟨_,rfl,?_⟩))
    go_ret
    exact ⟨Y2,Y104⟩
  ·rw [if_neg c4] at H
   exact absurd H (by simp)
 ·rw [if_neg c3] at H
  exact absurd H (by simp)
def jNa.l0 : Nat → List Int → Int → Int → Option (Bool)
 | 0,_,_,_=>none
 | k+1,x0,x1,x5=>if x5<(x0.length:Int) then (if 0≤x5 then (if (rd x0 x5)=x1 then (some true) else (jNa.l0 k x0 x1 (wrap64 (x5+1)))) else (none)) else (some false)
def jNa.f (k : Nat) (l0 : List Int) (a1 : Int) : Option (Bool) := jNa.l0 k l0 a1 0
set_option maxHeartbeats 8000000 in
set_option maxRecDepth 100000 in
theorem jNa.calls (k : Nat) (A0 : Option Addr) (c0 : Nat) (l0 : List Int) (a1 : Int) (r : Bool) (w : World) (hr0 : Kd.C (Kd.int .i64) w A0 l0.length l0) (hc0 : l0.length ≤ c0) (h : jNa.f k l0 a1 = some r) :
  Calls Try.prog 80 #[.slice A0 l0.length c0, .int .i64 a1] w fun e w'=>e=.returned (.bool r)∧jqb w w':=by
 have HR0:=am hr0
 have HC0:=am hc0
 clear hr0 hc0
 have H:(jNa.l0 k l0 a1 0)=some r:=h
 clear h
 have H':=am H
 clear H
 go_enter Try.func80,Try.ntmps80
 go_wp2
 go_loopg [5] k (fun kq v5 w'=>∃ (x5_1:Int),v5=.int .i64 x5_1∧jw (jNa.l0 kq l0 a1 x5_1=some r)∧jw (kq≤k)∧jqb w w')
 case atStart=>exact ⟨(0),(sq),H',⟨Nat.le_refl _⟩,Y6⟩
 case round =>
  clear H'
  try clear p2
  obtain ⟨x5_1,rfl,HA,HK1,⟨m1,rfl⟩⟩:=hrel
  cases gk with
  | zero=>exact absurd HA.out (by simp [jNa.l0])
  | succ k1 =>
   have H:=HA.out
   clear HA
   simp only [jNa.l0] at H
   by_cases c3:x5_1<(l0.length:Int)
   ·rw [if_pos c3] at H
    have c3b0:decide (x5_1<(l0.length:Int))=true:=dzT c3
    clear c3
    by_cases c4:0≤x5_1
    ·rw [if_pos c4] at H
     have c4b0:decide (0≤x5_1)=true:=dzT c4
     clear c4
     by_cases c5:(rd l0 x5_1)=a1
     ·rw [if_pos c5] at H
      have c5b0:((rd l0 x5_1) == a1)=true:=beq_iff_eq.mpr c5
      have c5b1:((rd l0 x5_1) != a1)=false:=bne_eq_false_iff_eq.mpr c5
      clear c5
      obtain rfl:=Option.some.inj H
      have p108:0≤(x5_1:Int):=ozD (uq)
      have q108:x5_1<(l0.length:Int):=ozD (uq)
      obtain ⟨ad108,e108,hx108_0⟩:=Kd.jOb HR0.out x5_1 p108 q108
      cases e108
      replace p108:=ezT p108
      replace q108:=ezT q108
      go_wp2
      go_ret
      exact ⟨sq,Y6⟩
     ·rw [if_neg c5] at H
      have c5b0:((rd l0 x5_1) == a1)=false:=beq_eq_false_iff_ne.mpr c5
      have c5b1:((rd l0 x5_1) != a1)=true:=bne_iff_ne.mpr c5
      have H':=am H
      clear H
      have p108:0≤(x5_1:Int):=ozD (uq)
      have q108:x5_1<(l0.length:Int):=ozD (uq)
      obtain ⟨ad108,e108,hx108_0⟩:=Kd.jOb HR0.out x5_1 p108 q108
      cases e108
      replace p108:=ezT p108
      replace q108:=ezT q108
      go_wp2
      go_roundg k1
      case measure=>have:=HK1.out;omega
      case rel=>exact ⟨(wrap64 (x5_1+1)),(sq),H',⟨by have:=HK1.out;omega⟩,Y6⟩
    ·rw [if_neg c4] at H
     exact absurd H (by simp)
   ·rw [if_neg c3] at H
    have c3b0:decide (x5_1<(l0.length:Int))=false:=dzF c3
    clear c3
    obtain rfl:=Option.some.inj H
    go_wp2
    go_ret
    exact ⟨sq,Y6⟩
def jpa.l0 : Nat → Int → List Int → List (S54) → Option (List Int)
 | 0,_,_,_=>none
 | k+1,x1,x5,x110000=>if x1≥0 then ((jNa.f k x5 x1).bind fun t113=>(if t113=true then (some x5) else (if x5.length<17592186044416 then (if 0≤x1 then (if x1<(x110000.length:Int) then (jpa.l0 k ((ja x110000 x1).f3) (x5 ++ [x1]) x110000) else (none)) else (none)) else (none)))) else (some x5)
def jpa.f (k : Nat) (l0_0 : List (S54)) (a1 : Int) : Option (List Int) := jpa.l0 k a1 (([] : List Int)) l0_0
set_option maxHeartbeats 8000000 in
set_option maxRecDepth 100000 in
theorem jpa.calls (k : Nat) (A0_0 : Option Addr) (c0_0 : Nat) (l0_0 : List (S54)) (a1 : Int) (r : List Int) (w : World) (hr0_0 : Kd.C k54 w A0_0 l0_0.length l0_0) (hc0_0 : l0_0.length ≤ c0_0) (h : jpa.f k l0_0 a1 = some r) :
  Calls Try.prog 58 #[.agg #[.slice A0_0 l0_0.length c0_0], .int .i64 a1] w fun e w'=>∃ v0_:Value,e=.returned (v0_)∧Kd.R (Kd.int .i64) 3 w' w.heap.size (fun _=>True) v0_ r∧Below w.heap.size w w':=by
 have hu32:=Try.underlying32
 have HR0_0:=am hr0_0
 have HC0_0:=am hc0_0
 clear hr0_0 hc0_0
 have HB:=am (Below.refl w.heap.size w)
 have H:(jpa.l0 k a1 (([]:List Int)) l0_0)=some r:=h
 clear h
 obtain ⟨y110,hy110⟩:∃ y_:List Int,y_=(([]:List Int)):=⟨_,rfl⟩
 replace H:(jpa.l0 k a1 y110 l0_0)=some r:=by first |(rw [hy110];with_reducible exact H) |(have H2_:=(Option.bind_some _ _).symm.trans H;rw [hy110];with_reducible exact H2_) |(have H2_:=(Option.bind_some _ _).symm.trans H;with_reducible exact H2_) | with_reducible exact H |(rw [hy110];exact H) | exact H
 have Ny110:=am hy110
 clear hy110
 have H':=am H
 clear H
 go_enter Try.func58,Try.ntmps58
 go_wp2_with (first |((with_reducible refine jI (N:=2) rfl ?_);refine bE (N:=2) (cs:=#[.slice A0_0 l0_0.length c0_0]) (t:=32) ?_;intro gb109 hg w3 hbox hb;have BK109:=am (hbox);have GW109:=am ((Y1:w.heap.size≤gb109));have GE109:=am ((Y1:w.heap.size≤gb109));replace HB:=am (jl (bq) hb);clear hb hbox hg) |((with_reducible refine jI (N:=6) rfl ?_);refine Kd.R_lit (Kd.int .i64) _ 3 ?hg (N:=6) ?hd (xs:=([]:List Int)) (inner:=[]) (ok:=fun _=>True) (okp:=fun _=>True) ?hr ?hp (fun _ hk=>hk) trivial (Below.refl _ _) (Nat.le_refl _) (by simp) ?_;(case hd=>rfl);(case hg=>rfl);(case hr=>exact Y4);(case hp=>exact (Reps.none _ _));intro v111 w4 ho5 hb hg_ hnew_;clear hg_ hnew_;(first | rw [← Ny110.out] at ho5 |(simp only [Int.reduceToNat] at ho5;rw [← Ny110.out] at ho5));have HO112:=am (Kd.jla ho5 (jQ (Y49)));replace BK109:=am (je (g:=gb109) (o:=.cells #[.slice A0_0 l0_0.length c0_0] 32 (0,0)) (kq BK109.out) hb);replace HB:=am (jl (Y49) hb);clear hb ho5))
 go_loopg [1,5] k (fun kq v1 v5 w'=>∃ (x1_1:Int) (x5_1:List Int),v1=.int .i64 x1_1∧jw (jpa.l0 kq x1_1 x5_1 l0_0=some r)∧jw (kq≤k)∧jw (Kd.R (Kd.int .i64) 3 w' w.heap.size (fun _=>True) v5 x5_1)∧jw (w'.heap[gb109]?=some (.cells #[(.slice A0_0 l0_0.length c0_0)] 32 (0,0)))∧jw (Below w.heap.size w w'))
 case atStart=>exact ⟨(a1),(y110),(sq),H',⟨Nat.le_refl _⟩,⟨rq HO112.out⟩,⟨kq BK109.out⟩,⟨Y49⟩⟩
 case round =>
  clear H'
  try clear p2
  try clear c5
  obtain ⟨x1_1,x5_1,rfl,HA,HK1,HO_5,BK109,HB⟩:=hrel
  cases gk with
  | zero=>exact absurd HA.out (by simp [jpa.l0])
  | succ k1 =>
   have H:=HA.out
   clear HA
   simp only [jpa.l0] at H
   by_cases c6:x1_1≥0
   ·rw [if_pos c6] at H
    have c6b0:decide (0≤x1_1)=true:=dzT c6
    clear c6
    replace H:=bzS H
    obtain ⟨t113,A70,H⟩:=H
    replace H:(if t113=true then (some x5_1) else (if x5_1.length<17592186044416 then (if 0≤x1_1 then (if x1_1<(l0_0.length:Int) then (jpa.l0 k1 ((ja l0_0 x1_1).f3) (x5_1 ++ [x1_1]) l0_0) else (none)) else (none)) else (none)))=some r:=H
    have A7:=am A70
    clear A70
    by_cases c8:t113=true
    ·subst c8
     have H1:(some x5_1)=some r:=by rw [if_pos rfl] at H;exact H
     clear H
     have H:=H1
     clear H1
     obtain rfl:=Option.some.inj H
     obtain ⟨Ao9,co9,eo9⟩:=Kd.jaa HO_5.out
     subst eo9
     go_wp2_with (first |(go_at_call 80;(with_reducible refine (jNa.calls k1 _ _ x5_1 x1_1 true _ ?side1 ?side2 A7.out).mono ?_);(case side1=>exact cq (Kd.jB HO_5.out).2.2);(case side2=>exact (Kd.jB HO_5.out).2.1);rintro e w' ⟨rfl,⟨nd,rfl⟩⟩))
     go_ret
     exact ⟨_,Y2,rq HO_5.out,Y49⟩
    ·replace c8:=Bool.eq_false_iff.mpr c8
     subst c8
     have H1:(if x5_1.length<17592186044416 then (if 0≤x1_1 then (if x1_1<(l0_0.length:Int) then (jpa.l0 k1 ((ja l0_0 x1_1).f3) (x5_1 ++ [x1_1]) l0_0) else (none)) else (none)) else (none))=some r:=by rw [if_neg (show ¬ (false=true) by decide)] at H;exact H
     clear H
     have H:=H1
     clear H1
     by_cases c10:x5_1.length<17592186044416
     ·rw [if_pos c10] at H
      have LMc10:=am c10
      clear c10
      obtain ⟨y114,hy114⟩:∃ y_:List Int,y_=(x5_1 ++ [x1_1]):=⟨_,rfl⟩
      replace H:(if 0≤x1_1 then (if x1_1<(l0_0.length:Int) then (jpa.l0 k1 ((ja l0_0 x1_1).f3) y114 l0_0) else (none)) else (none))=some r:=by first |(rw [hy114];with_reducible exact H) |(have H2_:=(Option.bind_some _ _).symm.trans H;rw [hy114];with_reducible exact H2_) |(have H2_:=(Option.bind_some _ _).symm.trans H;with_reducible exact H2_) | with_reducible exact H |(rw [hy114];exact H) | exact H
      have Ny114:=am hy114
      clear hy114
      by_cases c11:0≤x1_1
      ·rw [if_pos c11] at H
       have c11b0:decide (0≤x1_1)=true:=dzT c11
       clear c11
       by_cases c12:x1_1<(l0_0.length:Int)
       ·rw [if_pos c12] at H
        have c12b0:decide (x1_1<(l0_0.length:Int))=true:=dzT c12
        clear c12
        have H':=am H
        clear H
        obtain ⟨Ao13,co13,eo13⟩:=Kd.jaa HO_5.out
        subst eo13
        go_wp2_with (first |(go_at_call 80;(with_reducible refine (jNa.calls k1 _ _ x5_1 x1_1 false _ ?side1 ?side2 A7.out).mono ?_);(case side1=>exact cq (Kd.jB HO_5.out).2.2);(case side2=>exact (Kd.jB HO_5.out).2.1);rintro e w' ⟨rfl,⟨nd,rfl⟩⟩) |((with_reducible refine jkb (b:=.append) (xs:=#[.tmp 15, .tmp 17]) rfl ?_);at_builtin;refine Kd.jbc (Kd.int .i64) (w0:=w) w.heap.size rfl (.tmp 15) (.tmp 17) 45 3 (.int .i64 0) 8 rfl Try.underlying45 info3 rfl (by decide) (by omega) (.slice Ao13 x5_1.length co13) x5_1 x1_1 [.int .i64 x1_1] (fun _=>True) (fun _=>False) rfl rfl ?aP (fun _ hk=>hk.elim) ?aF ?aO ?aB ?aS ?aL ?_;(case aP=>exact rfl);(case aB=>exact (Y49));(case aF=>exact (fun _ _=>trivial));(case aO=>exact (rq HO_5.out));(case aS=>exact (jQ (Y49)));(case aL=>have:=LMc10.out;omega);intro v115 w14 ho hb hg hat;rw [← Ny114.out] at ho;have n0_:=am (jia (g:=gb109) (o:=.cells #[.slice A0_0 l0_0.length c0_0] 32 (0,0)) (kq BK109.out) hg (Kd.R_ne HO_5.out BK109.out (by decide)));have n1_:=am (hb);have n2_:=am (ho);clear BK109 HB HO_5;have BK109:=n0_;have HB:=n1_;have HO116:=n2_;clear n0_ n1_ n2_ ho hb hg hat;have hcz15_0:=bc0 BK109.out;have hfz15_0:=jf BK109.out 0;have p117:0≤(x1_1:Int):=ozD (uq);have q117:x1_1<(l0_0.length:Int):=ozD (uq);obtain ⟨ad117,e117,hx117_0,hx117_1,hx117_2,hx117_3,hx117_4⟩:=jfb HR0_0.out x1_1 p117 q117;cases e117;replace hx117_0:=cb HB.out hx117_0;replace hx117_1:=cb HB.out hx117_1;replace hx117_2:=cb HB.out hx117_2;replace hx117_3:=cb HB.out hx117_3;replace hx117_4:=cb HB.out hx117_4;replace p117:=ezT p117;replace q117:=ezT q117))
        go_roundg k1
        case measure=>have:=HK1.out;omega
        case rel=>exact ⟨((ja l0_0 x1_1).f3),(y114),(sq),H',⟨by have:=HK1.out;omega⟩,⟨rq HO116.out⟩,⟨kq BK109.out⟩,⟨Y49⟩⟩
       ·rw [if_neg c12] at H
        exact absurd H (by simp)
      ·rw [if_neg c11] at H
       exact absurd H (by simp)
     ·rw [if_neg c10] at H
      exact absurd H (by simp)
   ·rw [if_neg c6] at H
    have c6b0:decide (0≤x1_1)=false:=dzF c6
    clear c6
    obtain rfl:=Option.some.inj H
    go_wp2
    go_ret
    exact ⟨_,Y2,rq HO_5.out,Y49⟩
def jGa.l0 : Nat → ByteArray → Int → Option (Bool)
 | 0,_,_=>none
 | k+1,x0,x3=>if x3<(x0.size:Int) then (if 0≤x3 then (if (bt x0 x3)<97 then (some false) else (if (bt x0 x3) > 122 then (some false) else (jGa.l0 k x0 (wrap64 (x3+1))))) else (none)) else ((jY.f (x0.size:Int) 1 6).bind fun t125=>(some t125))
def jGa.f (k : Nat) (a0 : ByteArray) : Option (Bool) := jGa.l0 k a0 0
set_option maxHeartbeats 8000000 in
set_option maxRecDepth 100000 in
theorem jGa.calls (k : Nat) (a0 : ByteArray) (r : Bool) (w : World) (h : jGa.f k a0 = some r) :
  Calls Try.prog 109 #[.string a0] w fun e w'=>e=.returned (.bool r)∧jqb w w':=by
 have H:(jGa.l0 k a0 0)=some r:=h
 clear h
 have H':=am H
 clear H
 go_enter Try.func109,Try.ntmps109
 go_wp2
 go_loopg [3] k (fun kq v3 w'=>∃ (x3_1:Int),v3=.int .i64 x3_1∧jw (jGa.l0 kq a0 x3_1=some r)∧jw (kq≤k)∧jqb w w')
 case atStart=>exact ⟨(0),(sq),H',⟨Nat.le_refl _⟩,Y6⟩
 case round =>
  clear H'
  try clear c1
  obtain ⟨x3_1,rfl,HA,HK1,⟨m1,rfl⟩⟩:=hrel
  cases gk with
  | zero=>exact absurd HA.out (by simp [jGa.l0])
  | succ k1 =>
   have H:=HA.out
   clear HA
   simp only [jGa.l0] at H
   by_cases c2:x3_1<(a0.size:Int)
   ·rw [if_pos c2] at H
    have c2b0:decide (x3_1<(a0.size:Int))=true:=dzT c2
    clear c2
    by_cases c3:0≤x3_1
    ·rw [if_pos c3] at H
     have c3b0:decide (0≤x3_1)=true:=dzT c3
     clear c3
     by_cases c5:(bt a0 x3_1)<97
     ·rw [if_pos c5] at H
      have c5b0:decide ((bt a0 x3_1)<97)=true:=dzT c5
      clear c5
      obtain rfl:=Option.some.inj H
      have p4:0≤(x3_1:Int):=ozD (uq)
      have q4:x3_1<(a0.size:Int):=ozD (uq)
      have hx4:=bt_at a0 x3_1
      replace p4:=ezT p4
      replace q4:=ezT q4
      go_wp2
      go_ret
      exact ⟨sq,Y6⟩
     ·rw [if_neg c5] at H
      have c5b0:decide ((bt a0 x3_1)<97)=false:=dzF c5
      clear c5
      by_cases c7:(bt a0 x3_1) > 122
      ·rw [if_pos c7] at H
       have c7b0:decide (122<(bt a0 x3_1))=true:=dzT c7
       clear c7
       obtain rfl:=Option.some.inj H
       have p4:0≤(x3_1:Int):=ozD (uq)
       have q4:x3_1<(a0.size:Int):=ozD (uq)
       have hx4:=bt_at a0 x3_1
       replace p4:=ezT p4
       replace q4:=ezT q4
       have p6:0≤(x3_1:Int):=ozD (uq)
       have q6:x3_1<(a0.size:Int):=ozD (uq)
       have hx6:=bt_at a0 x3_1
       replace p6:=ezT p6
       replace q6:=ezT q6
       go_wp2
       go_ret
       exact ⟨sq,Y6⟩
      ·rw [if_neg c7] at H
       have c7b0:decide (122<(bt a0 x3_1))=false:=dzF c7
       clear c7
       have H':=am H
       clear H
       have p4:0≤(x3_1:Int):=ozD (uq)
       have q4:x3_1<(a0.size:Int):=ozD (uq)
       have hx4:=bt_at a0 x3_1
       replace p4:=ezT p4
       replace q4:=ezT q4
       have p6:0≤(x3_1:Int):=ozD (uq)
       have q6:x3_1<(a0.size:Int):=ozD (uq)
       have hx6:=bt_at a0 x3_1
       replace p6:=ezT p6
       replace q6:=ezT q6
       go_wp2
       go_roundg k1
       case measure=>have:=HK1.out;omega
       case rel=>exact ⟨(wrap64 (x3_1+1)),(sq),H',⟨by have:=HK1.out;omega⟩,Y6⟩
    ·rw [if_neg c3] at H
     exact absurd H (by simp)
   ·rw [if_neg c2] at H
    have c2b0:decide (x3_1<(a0.size:Int))=false:=dzF c2
    clear c2
    replace H:=bzS H
    obtain ⟨t125,A80,H⟩:=H
    replace H:(some t125)=some r:=H
    have A8:=am A80
    clear A80
    obtain rfl:=Option.some.inj H
    go_wp2_with (first |((with_reducible refine jC (f:=98) rfl ?_);refine gL (some 22) Try.func98 #[.int .i64 (a0.size:Int), .int .i64 1, .int .i64 6] ?_;(with_reducible refine (jY.calls (a0.size:Int) 1 6 t125 _ A8.out).mono ?_);rintro e w' ⟨rfl,⟨nd,rfl⟩⟩;refine ⟨_,rfl,?_⟩))
    go_ret
    exact ⟨sq,Y6⟩
def jza.l0 : Nat → List (S94) → ByteArray → Int → Option (Int)
 | 0,_,_,_=>none
 | k+1,x0,x1,x5=>if x5<(x0.length:Int) then (if 0≤x5 then (if ((jZ x0 x5).f0).toList=x1.toList then (some x5) else (jza.l0 k x0 x1 (wrap64 (x5+1)))) else (none)) else (some (-1))
def jza.f (k : Nat) (l0 : List (S94)) (a1 : ByteArray) : Option (Int) := jza.l0 k l0 a1 0
set_option maxHeartbeats 8000000 in
set_option maxRecDepth 100000 in
theorem jza.calls (k : Nat) (A0 : Option Addr) (c0 : Nat) (l0 : List (S94)) (a1 : ByteArray) (r : Int) (w : World) (hr0 : Kd.C k94 w A0 l0.length l0) (hc0 : l0.length ≤ c0) (h : jza.f k l0 a1 = some r) :
  Calls Try.prog 110 #[.slice A0 l0.length c0, .string a1] w fun e w'=>e=.returned (.int .i64 r)∧jqb w w':=by
 have HR0:=am hr0
 have HC0:=am hc0
 clear hr0 hc0
 have H:(jza.l0 k l0 a1 0)=some r:=h
 clear h
 have H':=am H
 clear H
 go_enter Try.func110,Try.ntmps110
 go_wp2
 go_loopg [5] k (fun kq v5 w'=>∃ (x5_1:Int),v5=.int .i64 x5_1∧jw (jza.l0 kq l0 a1 x5_1=some r)∧jw (kq≤k)∧jqb w w')
 case atStart=>exact ⟨(0),(sq),H',⟨Nat.le_refl _⟩,Y6⟩
 case round =>
  clear H'
  try clear c1
  try clear p2
  obtain ⟨x5_1,rfl,HA,HK1,⟨m1,rfl⟩⟩:=hrel
  cases gk with
  | zero=>exact absurd HA.out (by simp [jza.l0])
  | succ k1 =>
   have H:=HA.out
   clear HA
   simp only [jza.l0] at H
   by_cases c3:x5_1<(l0.length:Int)
   ·rw [if_pos c3] at H
    have c3b0:decide (x5_1<(l0.length:Int))=true:=dzT c3
    clear c3
    by_cases c4:0≤x5_1
    ·rw [if_pos c4] at H
     have c4b0:decide (0≤x5_1)=true:=dzT c4
     clear c4
     by_cases c5:((jZ l0 x5_1).f0).toList=a1.toList
     ·rw [if_pos c5] at H
      have c5b0:(((jZ l0 x5_1).f0).toList == a1.toList)=true:=beq_iff_eq.mpr c5
      have c5b1:(((jZ l0 x5_1).f0).toList != a1.toList)=false:=bne_eq_false_iff_eq.mpr c5
      clear c5
      obtain rfl:=Option.some.inj H
      have p126:0≤(x5_1:Int):=ozD (uq)
      have q126:x5_1<(l0.length:Int):=ozD (uq)
      obtain ⟨ad126,e126,hx126_0,hx126_1⟩:=at_T94 HR0.out x5_1 p126 q126
      cases e126
      replace p126:=ezT p126
      replace q126:=ezT q126
      go_wp2
      go_ret
      exact ⟨sq,Y6⟩
     ·rw [if_neg c5] at H
      have c5b0:(((jZ l0 x5_1).f0).toList == a1.toList)=false:=beq_eq_false_iff_ne.mpr c5
      have c5b1:(((jZ l0 x5_1).f0).toList != a1.toList)=true:=bne_iff_ne.mpr c5
      have H':=am H
      clear H
      have p126:0≤(x5_1:Int):=ozD (uq)
      have q126:x5_1<(l0.length:Int):=ozD (uq)
      obtain ⟨ad126,e126,hx126_0,hx126_1⟩:=at_T94 HR0.out x5_1 p126 q126
      cases e126
      replace p126:=ezT p126
      replace q126:=ezT q126
      go_wp2
      go_roundg k1
      case measure=>have:=HK1.out;omega
      case rel=>exact ⟨(wrap64 (x5_1+1)),(sq),H',⟨by have:=HK1.out;omega⟩,Y6⟩
    ·rw [if_neg c4] at H
     exact absurd H (by simp)
   ·rw [if_neg c3] at H
    have c3b0:decide (x5_1<(l0.length:Int))=false:=dzF c3
    clear c3
    obtain rfl:=Option.some.inj H
    go_wp2
    go_ret
    exact ⟨sq,Y6⟩
mutual
def jT.l0 : Nat → Int → List (S94) → Option (Bool)
 | 0,_,_=>none
 | k+1,x3,x155000=>if x3<(x155000.length:Int) then (if 0≤x3 then ((jGa.f k ((jZ x155000 x3).f0)).bind fun t158=>(if t158=true then (if x3≤(x155000.length:Int) then ((jza.f k (x155000.take (x3:Int).toNat) ((jZ x155000 x3).f0)).bind fun t163=>(if t163≥0 then (jT.j1 k x3 true x155000) else (if x3=0 then (if ((jZ x155000 x3).f1)=(-1) then (if x3 > 0 then ((jY.f ((jZ x155000 x3).f1) 0 (wrap64 (x3 - 1))).bind fun t164=>(jT.j1 k x3 (!t164) x155000)) else (jT.j1 k x3 false x155000)) else (jT.j1 k x3 true x155000)) else (if x3 > 0 then ((jY.f ((jZ x155000 x3).f1) 0 (wrap64 (x3 - 1))).bind fun t165=>(jT.j1 k x3 (!t165) x155000)) else (jT.j1 k x3 false x155000))))) else (none)) else (jT.j1 k x3 true x155000))) else (none)) else ((jY.f (x155000.length:Int) 1 8).bind fun t155=>(some t155))
def jT.j1 : Nat → Int → Bool → List (S94) → Option (Bool)
 | 0,_,_,_=>none
 | k+1,x3,x51,x155000=>if x51=true then (some false) else (jT.l0 k (wrap64 (x3+1)) x155000)
end
def jT.f (k : Nat) (l0_0 : List (S94)) : Option (Bool) := jT.l0 k 0 l0_0
set_option maxHeartbeats 8000000 in
set_option maxRecDepth 100000 in
theorem jT.calls (k : Nat) (A0_0 : Option Addr) (c0_0 : Nat) (l0_0 : List (S94)) (r : Bool) (w : World) (hr0_0 : Kd.C k94 w A0_0 l0_0.length l0_0) (hc0_0 : l0_0.length ≤ c0_0) (h : jT.f k l0_0 = some r) :
  Calls Try.prog 100 #[.agg #[.slice A0_0 l0_0.length c0_0]] w fun e w'=>e=.returned (.bool r)∧Below w.heap.size w w':=by
 have hu37:=Try.underlying37
 have hu94:=Try.underlying94
 have HR0_0:=am hr0_0
 have HC0_0:=am hc0_0
 clear hr0_0 hc0_0
 have HB:=am (Below.refl w.heap.size w)
 have H:(jT.l0 k 0 l0_0)=some r:=h
 clear h
 have H':=am H
 clear H
 go_enter Try.func100,Try.ntmps100
 go_wp2_with (first |((with_reducible refine jI (N:=1) rfl ?_);refine bE (N:=1) (cs:=#[.slice A0_0 l0_0.length c0_0]) (t:=37) ?_;intro gb154 hg w2 hbox hb;have BK154:=am (hbox);have GW154:=am ((Y1:w.heap.size≤gb154));have GE154:=am ((Y1:w.heap.size≤gb154));replace HB:=am (jl (bq) hb);clear hb hbox hg))
 go_loopg [3] k (fun kq v3 w'=>∃ (x3_1:Int),v3=.int .i64 x3_1∧jw (jT.l0 kq x3_1 l0_0=some r)∧jw (kq≤k)∧jw (w'.heap[gb154]?=some (.cells #[(.slice A0_0 l0_0.length c0_0)] 37 (0,0)))∧jw (Below w.heap.size w w'))
 case atStart=>exact ⟨(0),(sq),H',⟨Nat.le_refl _⟩,⟨kq BK154.out⟩,⟨Y133⟩⟩
 case round =>
  clear H'
  try clear c1
  try clear p2
  obtain ⟨x3_1,rfl,HA,HK1,BK154,HB⟩:=hrel
  cases gk with
  | zero=>exact absurd HA.out (by simp [jT.l0])
  | succ k1 =>
   have H:=HA.out
   clear HA
   simp only [jT.l0] at H
   by_cases c3:x3_1<(l0_0.length:Int)
   ·rw [if_pos c3] at H
    have c3b0:decide (x3_1<(l0_0.length:Int))=true:=dzT c3
    clear c3
    by_cases c4:0≤x3_1
    ·rw [if_pos c4] at H
     have c4b0:decide (0≤x3_1)=true:=dzT c4
     clear c4
     have HC5:=am H
     clear H
     have hcz6_0:=bc0 BK154.out
     have hfz6_0:=jf BK154.out 0
     have p156:0≤(x3_1:Int):=ozD (uq)
     have q156:x3_1<(l0_0.length:Int):=ozD (uq)
     obtain ⟨ad156,e156,hx156_0,hx156_1⟩:=at_T94 HR0_0.out x3_1 p156 q156
     cases e156
     replace hx156_0:=cb HB.out hx156_0
     replace hx156_1:=cb HB.out hx156_1
     replace p156:=ezT p156
     replace q156:=ezT q156
     go_upto_region 5 with (first |((with_reducible refine jI (N:=4) rfl ?_);refine bE (N:=4) (cs:=#[.string (⟨#[]⟩:ByteArray), .int .i64 0]) (t:=94) ?_;intro gb157 hg w7 hbox hb;have BK157:=am (hbox);have GW157:=am ((Y170:w.heap.size≤gb157));have GE157:=am ((Y170:w.heap.size≤gb157));have NB154_157:=am ((by rw [hg];exact Nat.ne_of_lt (jV (g:=gb154) (o:=.cells #[.slice (some ad156) l0_0.length c0_0] 37 (0,0)) (kq BK154.out)):gb154≠gb157));have NB157_154:=am ((by rw [hg];exact Nat.ne_of_gt (jV (g:=gb154) (o:=.cells #[.slice (some ad156) l0_0.length c0_0] 37 (0,0)) (kq BK154.out)):gb157≠gb154));replace BK154:=am (je (g:=gb154) (o:=.cells #[.slice (some ad156) l0_0.length c0_0] 37 (0,0)) (kq BK154.out) hb);replace HB:=am (jl (Y133) hb);clear hb hbox hg;have hnb8:=NB157_154.out;have hnc8:=NB154_157.out;have hcz9_0:=bc0 BK157.out;have hcz9_1:=bc1 BK157.out;have hfz9_0:=jf BK157.out 0;have hfz9_1:=jf BK157.out 1))
     (try simp only [Act.put,List.setIfInBounds_toArray,List.set_cons_zero,List.set_cons_succ])
     go_cut [51] (fun v51 wc=>∃ (kq:Nat) (x51_4:Bool),v51=.bool x51_4∧jw (jT.j1 kq x3_1 x51_4 l0_0=some r)∧jw (kq≤k1)∧jw (wc.heap[gb154]?=some (.cells #[(.slice (some ad156) l0_0.length c0_0)] 37 (0,0)))∧jw (wc.heap[gb157]?=some (.cells #[.string ((jZ l0_0 x3_1).f0), .int .i64 ((jZ l0_0 x3_1).f1)] 94 (0,0)))∧jw (Below w.heap.size w wc))
     case first =>
      have n0_:jw (((w7.setCell ⟨gb157,0,none⟩ (.string ((jZ l0_0 x3_1).f0))).setCell ⟨gb157,1,none⟩ (.int .i64 ((jZ l0_0 x3_1).f1))).heap[gb154]?=some (.cells #[.slice (some ad156) l0_0.length c0_0] 37 (0,0))):=⟨by (with_reducible repeat (first | refine jb ?_ _ | refine jd ?_ | refine jc ?_ _));refine jA ?_ NB154_157.out _;(with_reducible repeat (first | refine jb ?_ _ | refine jd ?_ | refine jc ?_ _));refine jA ?_ NB154_157.out _;(with_reducible repeat (first | refine jb ?_ _ | refine jd ?_ | refine jc ?_ _));exact BK154.out⟩
      have n1_:jw (((w7.setCell ⟨gb157,0,none⟩ (.string ((jZ l0_0 x3_1).f0))).setCell ⟨gb157,1,none⟩ (.int .i64 ((jZ l0_0 x3_1).f1))).heap[gb157]?=some (.cells #[.string ((jZ l0_0 x3_1).f0), .int .i64 ((jZ l0_0 x3_1).f1)] 94 (0,0))):=⟨by (with_reducible repeat (first | refine jb ?_ _ | refine jd ?_ | refine jc ?_ _));refine jfa (cs:=#[.string ((jZ l0_0 x3_1).f0), .int .i64 0]) ?_ 1 _ rfl;(with_reducible repeat (first | refine jb ?_ _ | refine jd ?_ | refine jc ?_ _));refine jfa (cs:=#[.string (⟨#[]⟩:ByteArray), .int .i64 0]) ?_ 0 _ rfl;(with_reducible repeat (first | refine jb ?_ _ | refine jd ?_ | refine jc ?_ _));exact BK157.out⟩
      have n2_:jw (Below w.heap.size w ((w7.setCell ⟨gb157,0,none⟩ (.string ((jZ l0_0 x3_1).f0))).setCell ⟨gb157,1,none⟩ (.int .i64 ((jZ l0_0 x3_1).f1)))):=⟨Y134⟩
      clear BK154 BK157 HB hcz9_0 hcz9_1 hfz9_0 hfz9_1
      generalize ((w7.setCell ⟨gb157,0,none⟩ (.string ((jZ l0_0 x3_1).f0))).setCell ⟨gb157,1,none⟩ (.int .i64 ((jZ l0_0 x3_1).f1)))=w16 at n0_ n1_ n2_ ⊢
      have BK154:=n0_
      have BK157:=n1_
      have HB:=n2_
      clear n0_ n1_ n2_
      have HRW:=am (Kd.jea HR0_0.out HB.out)
      have e0:w16.cell? ⟨gb157,0,none⟩=some (.string ((jZ l0_0 x3_1).f0)):=(jH BK157.out 0).trans rfl
      have e1:w16.cell? ⟨gb157,1,none⟩=some (.int .i64 ((jZ l0_0 x3_1).f1)):=(jH BK157.out 1).trans rfl
      have e2:w16.cell? ⟨gb154,0,none⟩=some (.slice (some ad156) l0_0.length c0_0):=(jH BK154.out 0).trans rfl
      have H:=HC5.out
      clear HC5
      obtain ⟨v,hv,H⟩:=bzS H
      have HN:=am (fun W=>(jGa.calls k1 _ v W hv).mono fun e w' h=>(⟨h.1,h.2.out⟩:e=.returned (.bool v)∧∃ m,w'=W.drewN m))
      clear hv hx156_0 hx156_1
      generalize hgx:jZ l0_0 x3_1=x at H e0 e1 HN BK157
      have HGX:=am hgx
      clear hgx
      cases v with
      | false =>
       have H':=am (show jT.j1 k1 x3_1 true l0_0=some r from H)
       clear H
       go_big_quiet ((go_at_call 109;exact Calls.quiet_of (HN.out _)))
       go_wp2
       go_meet
       case rel=>exact ⟨_,_,rfl,H',⟨by have:=HK1.out;omega⟩,⟨jb BK154.out _⟩,⟨by rw [HGX.out];exact jb BK157.out _⟩,⟨jo HB.out _⟩⟩
      | true =>
       replace H:(if x3_1≤(l0_0.length:Int) then ((jza.f k1 (l0_0.take (x3_1:Int).toNat) x.f0).bind fun t163=>(if t163≥0 then (jT.j1 k1 x3_1 true l0_0) else (if x3_1=0 then (if x.f1=(-1) then (if x3_1 > 0 then ((jY.f x.f1 0 (wrap64 (x3_1 - 1))).bind fun t164=>(jT.j1 k1 x3_1 (!t164) l0_0)) else (jT.j1 k1 x3_1 false l0_0)) else (jT.j1 k1 x3_1 true l0_0)) else (if x3_1 > 0 then ((jY.f x.f1 0 (wrap64 (x3_1 - 1))).bind fun t165=>(jT.j1 k1 x3_1 (!t165) l0_0)) else (jT.j1 k1 x3_1 false l0_0))))) else (none))=some r:=H
       have hle:x3_1≤(l0_0.length:Int):=by have:=ozD c3b0;omega
       have h0:0≤x3_1:=ozD c4b0
       rw [if_pos hle] at H
       obtain ⟨c,hc,H⟩:=bzS H
       obtain ⟨i0,hi0,_,_,_⟩:=info_parts info94
       have hcut:=cut_to (P:=Try.prog) 35 94 .i64 Try.underlying35 hi0 (some ad156) l0_0.length c0_0 x3_1 h0 hle HC0_0.out
       have hr18:=Kd.C_take (m:=(x3_1:Int).toNat) HRW.out (by omega)
       obtain ⟨y,hy⟩:∃ y:List S94,y=l0_0.take (x3_1:Int).toNat:=⟨_,rfl⟩
       have hyl:y.length=(x3_1:Int).toNat:=by rw [hy,List.length_take];omega
       have hyc:y.length≤c0_0:=by have:=HC0_0.out;omega
       rw [← hy] at hr18
       rw [← hyl] at hcut
       rw [← hy] at hc
       have HCN:=am (fun m=>(jza.calls k1 _ _ y x.f0 c (w16.drewN m) (Kd.C_drewN hr18 m) hyc hc).mono fun e w' h=>(⟨h.1,h.2.out⟩:e=.returned (.int .i64 c)∧∃ m',w'=(w16.drewN m).drewN m'))
       clear hr18 hc hy hyl hyc
       have b0:=ezT h0
       have b1:=ezT hle
       by_cases hc0:c≥0
       ·rw [if_pos hc0] at H
        have b2:decide (0≤c)=true:=dzT hc0
        have H':=am H
        clear H hc0 h0 hle
        go_big_quiet (first |(go_at_call 109;exact Calls.quiet_of (HN.out _)) |(go_at_call 110;exact Calls.quiet_of (HCN.out _)))
        go_wp2
        go_meet
        case rel=>exact ⟨_,_,rfl,H',⟨by have:=HK1.out;omega⟩,⟨jb BK154.out _⟩,⟨by rw [HGX.out];exact jb BK157.out _⟩,⟨jo HB.out _⟩⟩
       ·rw [if_neg hc0] at H
        have b2:decide (0≤c)=false:=dzF hc0
        clear hc0
        by_cases hz:x3_1=0
        ·rw [if_pos hz] at H
         have b3:(x3_1 == 0)=true:=beq_iff_eq.2 hz
         have b4:decide (0<x3_1)=false:=dzF (by omega)
         by_cases hf:x.f1 = -1
         ·rw [if_pos hf,if_neg (by omega)] at H
          have b5:(x.f1 != -1)=false:=by simpa using hf
          have H':=am H
          clear H hf h0 hle hz
          go_big_quiet (first |(go_at_call 109;exact Calls.quiet_of (HN.out _)) |(go_at_call 110;exact Calls.quiet_of (HCN.out _)))
          go_wp2
          go_meet
          case rel=>exact ⟨_,_,rfl,H',⟨by have:=HK1.out;omega⟩,⟨jb BK154.out _⟩,⟨by rw [HGX.out];exact jb BK157.out _⟩,⟨jo HB.out _⟩⟩
         ·rw [if_neg hf] at H
          have b5:(x.f1 != -1)=true:=by simpa using hf
          have H':=am H
          clear H hf h0 hle hz
          go_big_quiet (first |(go_at_call 109;exact Calls.quiet_of (HN.out _)) |(go_at_call 110;exact Calls.quiet_of (HCN.out _)))
          go_wp2
          go_meet
          case rel=>exact ⟨_,_,rfl,H',⟨by have:=HK1.out;omega⟩,⟨jb BK154.out _⟩,⟨by rw [HGX.out];exact jb BK157.out _⟩,⟨jo HB.out _⟩⟩
        ·rw [if_neg hz,if_pos (by omega)] at H
         have b3:(x3_1 == 0)=false:=beq_eq_false_iff_ne.2 hz
         have b4:decide (0<x3_1)=true:=dzT (by omega)
         obtain ⟨t,ht,H⟩:=bzS H
         have H':=am H
         have HI:=am (fun W=>(jY.calls _ _ _ t W ht).mono fun e w' h=>(⟨h.1,h.2.out⟩:e=.returned (.bool t)∧∃ m,w'=W.drewN m))
         clear H ht h0 hle hz
         go_big_quiet (first |(go_at_call 109;exact Calls.quiet_of (HN.out _)) |(go_at_call 110;exact Calls.quiet_of (HCN.out _)) |(go_at_call 98;exact Calls.quiet_of (HI.out _)))
         go_wp2
         go_meet
         case rel=>exact ⟨_,_,rfl,H',⟨by have:=HK1.out;omega⟩,⟨jb BK154.out _⟩,⟨by rw [HGX.out];exact jb BK157.out _⟩,⟨jo HB.out _⟩⟩
     case rest =>
      clear HC5
      try clear c1
      try clear c2
      try clear p2
      try clear c3
      try clear q3
      try clear p6
      try clear c11
      try clear c12
      try clear c13
      try clear c21
      try clear c32
      try clear c32b0
      try clear q39
      try clear q39
      obtain ⟨kq,x51_4,rfl,HA,HJ4,BK154,BK157,HB⟩:=hcut
      cases kq with
      | zero=>exact absurd HA.out (by simp [jT.j1])
      | succ kj4 =>
       have H:=HA.out
       clear HA
       simp only [jT.j1] at H
       by_cases c42:x51_4=true
       ·subst c42
        have H1:(some false)=some r:=by rw [if_pos rfl] at H;exact H
        clear H
        have H:=H1
        clear H1
        obtain rfl:=Option.some.inj H
        go_wp2
        go_ret
        exact ⟨Y2,Y134⟩
       ·replace c42:=Bool.eq_false_iff.mpr c42
        subst c42
        have H1:(jT.l0 kj4 (wrap64 (x3_1+1)) l0_0)=some r:=by rw [if_neg (show ¬ (false=true) by decide)] at H;exact H
        clear H
        have H:=H1
        clear H1
        have H':=am H
        clear H
        go_wp2
        go_roundg kj4
        case measure=>have:=HK1.out;have:=HJ4.out;omega
        case rel=>exact ⟨(wrap64 (x3_1+1)),(sq),H',⟨by have:=HK1.out;have:=HJ4.out;omega⟩,⟨kq BK154.out⟩,⟨Y134⟩⟩
    ·rw [if_neg c4] at H
     exact absurd H (by simp)
   ·rw [if_neg c3] at H
    have c3b0:decide (x3_1<(l0_0.length:Int))=false:=dzF c3
    clear c3
    replace H:=bzS H
    obtain ⟨t155,A430,H⟩:=H
    replace H:(some t155)=some r:=H
    have A43:=am A430
    clear A430
    obtain rfl:=Option.some.inj H
    have hcz44_0:=bc0 BK154.out
    have hfz44_0:=jf BK154.out 0
    go_wp2_with (first |((with_reducible refine jC (f:=98) rfl ?_);refine gL (some 55) Try.func98 #[.int .i64 (l0_0.length:Int), .int .i64 1, .int .i64 8] ?_;(with_reducible refine (jY.calls (l0_0.length:Int) 1 8 t155 _ A43.out).mono ?_);rintro e w' ⟨rfl,⟨nd,rfl⟩⟩;refine ⟨_,rfl,?_⟩))
    go_ret
    exact ⟨Y2,Y133⟩
mutual
def jG.l0 : Nat → Int → List (S94) → List (S54) → Option (Bool)
 | 0,_,_,_=>none
 | k+1,x5,x128000,x129000=>if x5<(x129000.length:Int) then (if 0≤x5 then ((jLa.f x128000 ((ja x129000 x5).f0)).bind fun t131=>(if t131=true then ((jY.f ((ja x129000 x5).f1) 0 99).bind fun t132=>(if t132=true then ((jJa.f x129000 x5).bind fun t133=>(jG.j1 k x5 (!t133) x128000 x129000)) else (jG.j1 k x5 true x128000 x129000))) else (jG.j1 k x5 true x128000 x129000))) else (none)) else (jG.l1 k 0 x128000 x129000)
def jG.j1 : Nat → Int → Bool → List (S94) → List (S54) → Option (Bool)
 | 0,_,_,_,_=>none
 | k+1,x5,x37,x128000,x129000=>if x37=true then (some false) else (jG.l0 k (wrap64 (x5+1)) x128000 x129000)
def jG.l1 : Nat → Int → List (S94) → List (S54) → Option (Bool)
 | 0,_,_,_=>none
 | k+1,x7,x128000,x129000=>if x7<(x129000.length:Int) then ((jpa.f k x129000 x7).bind fun t135=>(if 0≤(wrap64 ((t135.length:Int) - 1)) then (if (wrap64 ((t135.length:Int) - 1))<(t135.length:Int) then (if 0≤(rd t135 (wrap64 ((t135.length:Int) - 1))) then (if (rd t135 (wrap64 ((t135.length:Int) - 1)))<(x129000.length:Int) then (if ((ja x129000 (rd t135 (wrap64 ((t135.length:Int) - 1)))).f3)≥0 then (some false) else (jG.l1 k (wrap64 (x7+1)) x128000 x129000)) else (none)) else (none)) else (none)) else (none))) else ((jT.f k x128000).bind fun t134=>(if t134=true then (some (decide ((x129000.length:Int)≤24))) else (some false)))
end
def jG.f (k : Nat) (l0_0 : List (S94)) (l1_0 : List (S54)) : Option (Bool) := jG.l0 k 0 l0_0 l1_0
set_option maxHeartbeats 8000000 in
set_option maxRecDepth 100000 in
theorem jG.calls (k : Nat) (A0_0 : Option Addr) (c0_0 : Nat) (l0_0 : List (S94)) (A1_0 : Option Addr) (c1_0 : Nat) (l1_0 : List (S54)) (r : Bool) (w : World) (hr0_0 : Kd.C k94 w A0_0 l0_0.length l0_0) (hc0_0 : l0_0.length ≤ c0_0) (hr1_0 : Kd.C k54 w A1_0 l1_0.length l1_0) (hc1_0 : l1_0.length ≤ c1_0) (h : jG.f k l0_0 l1_0 = some r) :
  Calls Try.prog 66 #[.agg #[.slice A0_0 l0_0.length c0_0], .agg #[.slice A1_0 l1_0.length c1_0]] w fun e w'=>e=.returned (.bool r)∧Below w.heap.size w w':=by
 have hu37:=Try.underlying37
 have hu32:=Try.underlying32
 have hu54:=Try.underlying54
 have HR0_0:=am hr0_0
 have HC0_0:=am hc0_0
 clear hr0_0 hc0_0
 have HR1_0:=am hr1_0
 have HC1_0:=am hc1_0
 clear hr1_0 hc1_0
 have HB:=am (Below.refl w.heap.size w)
 have H:(jG.l0 k 0 l0_0 l1_0)=some r:=h
 clear h
 have H':=am H
 clear H
 go_enter Try.func66,Try.ntmps66
 go_wp2_with (first |((with_reducible refine jI (N:=2) rfl ?_);(try (refine jWa (by rfl) ?_;dsimp only));refine jpb ?hg (N:=2) ?hd (cs:=#[.slice A0_0 l0_0.length c0_0]) (t:=37) ?hr ?_;(case hd=>rfl);(case hg=>rfl);(case hr=>exact Y4);intro gb127 hg w3 hbox hb;have BK127:=am (hbox);have GW127:=am ((Y1:w.heap.size≤gb127));have GE127:=am ((Y1:w.heap.size≤gb127));replace HB:=am (jl (bq) hb);clear hb hbox hg) |((with_reducible refine jI (N:=3) rfl ?_);(try (refine jWa (by rfl) ?_;dsimp only));refine jpb ?hg (N:=3) ?hd (cs:=#[.slice A1_0 l1_0.length c1_0]) (t:=32) ?hr ?_;(case hd=>rfl);(case hg=>rfl);(case hr=>exact Y4);intro gb128 hg w4 hbox hb;have BK128:=am (hbox);have GW128:=am ((Y59:w.heap.size≤gb128));have GE128:=am ((Y59:w.heap.size≤gb128));have NB127_128:=am ((Y60:gb127≠gb128));have NB128_127:=am ((Y61:gb128≠gb127));replace BK127:=am (je (g:=gb127) (o:=.cells #[.slice A0_0 l0_0.length c0_0] 37 (0,0)) (kq BK127.out) hb);replace HB:=am (jl (Y135) hb);clear hb hbox hg))
 repeat (go_quiet (first |((with_reducible refine jI (N:=2) rfl ?_);(try (refine jWa (by rfl) ?_;dsimp only));refine jpb ?hg (N:=2) ?hd (cs:=#[.slice A0_0 l0_0.length c0_0]) (t:=37) ?hr ?_;(case hd=>rfl);(case hg=>rfl);(case hr=>exact Y4);intro gb127 hg w3 hbox hb;have BK127:=am (hbox);have GW127:=am ((Y1:w.heap.size≤gb127));have GE127:=am ((Y1:w.heap.size≤gb127));replace HB:=am (jl (bq) hb);clear hb hbox hg) |((with_reducible refine jI (N:=3) rfl ?_);(try (refine jWa (by rfl) ?_;dsimp only));refine jpb ?hg (N:=3) ?hd (cs:=#[.slice A1_0 l1_0.length c1_0]) (t:=32) ?hr ?_;(case hd=>rfl);(case hg=>rfl);(case hr=>exact Y4);intro gb128 hg w4 hbox hb;have BK128:=am (hbox);have GW128:=am ((Y59:w.heap.size≤gb128));have GE128:=am ((Y59:w.heap.size≤gb128));have NB127_128:=am ((Y60:gb127≠gb128));have NB128_127:=am ((Y61:gb128≠gb127));replace BK127:=am (je (g:=gb127) (o:=.cells #[.slice A0_0 l0_0.length c0_0] 37 (0,0)) (kq BK127.out) hb);replace HB:=am (jl (Y135) hb);clear hb hbox hg));try go_wp2_with (first |((with_reducible refine jI (N:=2) rfl ?_);(try (refine jWa (by rfl) ?_;dsimp only));refine jpb ?hg (N:=2) ?hd (cs:=#[.slice A0_0 l0_0.length c0_0]) (t:=37) ?hr ?_;(case hd=>rfl);(case hg=>rfl);(case hr=>exact Y4);intro gb127 hg w3 hbox hb;have BK127:=am (hbox);have GW127:=am ((Y1:w.heap.size≤gb127));have GE127:=am ((Y1:w.heap.size≤gb127));replace HB:=am (jl (bq) hb);clear hb hbox hg) |((with_reducible refine jI (N:=3) rfl ?_);(try (refine jWa (by rfl) ?_;dsimp only));refine jpb ?hg (N:=3) ?hd (cs:=#[.slice A1_0 l1_0.length c1_0]) (t:=32) ?hr ?_;(case hd=>rfl);(case hg=>rfl);(case hr=>exact Y4);intro gb128 hg w4 hbox hb;have BK128:=am (hbox);have GW128:=am ((Y59:w.heap.size≤gb128));have GE128:=am ((Y59:w.heap.size≤gb128));have NB127_128:=am ((Y60:gb127≠gb128));have NB128_127:=am ((Y61:gb128≠gb127));replace BK127:=am (je (g:=gb127) (o:=.cells #[.slice A0_0 l0_0.length c0_0] 37 (0,0)) (kq BK127.out) hb);replace HB:=am (jl (Y135) hb);clear hb hbox hg)))
 go_loopg [5] k (fun kq v5 w'=>∃ (x5_1:Int),v5=.int .i64 x5_1∧jw (jG.l0 kq x5_1 l0_0 l1_0=some r)∧jw (kq≤k)∧jw (w'.heap[gb127]?=some (.cells #[(.slice A0_0 l0_0.length c0_0)] 37 (0,0)))∧jw (w'.heap[gb128]?=some (.cells #[(.slice A1_0 l1_0.length c1_0)] 32 (0,0)))∧jw (Below w.heap.size w w'))
 case atStart=>exact ⟨(0),(sq),H',⟨Nat.le_refl _⟩,⟨kq BK127.out⟩,⟨kq BK128.out⟩,⟨Y10⟩⟩
 case round =>
  clear H'
  try clear c1
  try clear p2
  obtain ⟨x5_1,rfl,HA,HK1,BK127,BK128,HB⟩:=hrel
  cases gk with
  | zero=>exact absurd HA.out (by simp [jG.l0])
  | succ k1 =>
   have H:=HA.out
   clear HA
   simp only [jG.l0] at H
   by_cases c5:x5_1<(l1_0.length:Int)
   ·rw [if_pos c5] at H
    have c5b0:decide (x5_1<(l1_0.length:Int))=true:=dzT c5
    clear c5
    by_cases c6:0≤x5_1
    ·rw [if_pos c6] at H
     have c6b0:decide (0≤x5_1)=true:=dzT c6
     clear c6
     have HC7:=am H
     clear H
     have hnb8:=NB128_127.out
     have hnc8:=NB127_128.out
     have hcz9_0:=bc0 BK128.out
     have hfz9_0:=jf BK128.out 0
     have p129:0≤(x5_1:Int):=ozD (uq)
     have q129:x5_1<(l1_0.length:Int):=ozD (uq)
     obtain ⟨ad129,e129,hx129_0,hx129_1,hx129_2,hx129_3,hx129_4⟩:=jfb HR1_0.out x5_1 p129 q129
     cases e129
     replace hx129_0:=cb HB.out hx129_0
     replace hx129_1:=cb HB.out hx129_1
     replace hx129_2:=cb HB.out hx129_2
     replace hx129_3:=cb HB.out hx129_3
     replace hx129_4:=cb HB.out hx129_4
     replace p129:=ezT p129
     replace q129:=ezT q129
     go_upto_region 5 with (first |((with_reducible refine jI (N:=6) rfl ?_);(try (refine jWa (by rfl) ?_;dsimp only));refine jpb ?hg (N:=6) ?hd (cs:=#[.int .i64 0, .int .i64 0, .int .i64 0, .int .i64 0, .bool false]) (t:=54) ?hr ?_;(case hd=>rfl);(case hg=>rfl);(case hr=>exact Y4);intro gb130 hg w10 hbox hb;have BK130:=am (hbox);have GW130:=am ((Y62:w.heap.size≤gb130));have GE130:=am ((Y62:w.heap.size≤gb130));have NB127_130:=am ((Y60:gb127≠gb130));have NB130_127:=am ((Y61:gb130≠gb127));have NB128_130:=am ((Y136:gb128≠gb130));have NB130_128:=am ((Y137:gb130≠gb128));replace BK127:=am (je (g:=gb127) (o:=.cells #[.slice A0_0 l0_0.length c0_0] 37 (0,0)) (kq BK127.out) hb);replace BK128:=am (je (g:=gb128) (o:=.cells #[.slice (some ad129) l1_0.length c1_0] 32 (0,0)) (kq BK128.out) hb);replace HB:=am (jl (Y10) hb);clear hb hbox hg;have hnb11:=NB130_127.out;have hnc11:=NB127_130.out;have hnb12:=NB130_128.out;have hnc12:=NB128_130.out;have hcz13_0:=bc0 BK130.out;have hcz13_1:=bc1 BK130.out;have hcz13_2:=bc2 BK130.out;have hcz13_3:=bc3 BK130.out;have hcz13_4:w10.cell? ⟨gb130,4,none⟩=some (.bool false):=(jH BK130.out 4).trans rfl;have hfz13_0:=jf BK130.out 0;have hfz13_1:=jf BK130.out 1;have hfz13_2:=jf BK130.out 2;have hfz13_3:=jf BK130.out 3;have hfz13_4:=jf BK130.out 4))
     repeat (go_quiet (first |((with_reducible refine jI (N:=6) rfl ?_);(try (refine jWa (by rfl) ?_;dsimp only));refine jpb ?hg (N:=6) ?hd (cs:=#[.int .i64 0, .int .i64 0, .int .i64 0, .int .i64 0, .bool false]) (t:=54) ?hr ?_;(case hd=>rfl);(case hg=>rfl);(case hr=>exact Y4);intro gb130 hg w10 hbox hb;have BK130:=am (hbox);have GW130:=am ((Y62:w.heap.size≤gb130));have GE130:=am ((Y62:w.heap.size≤gb130));have NB127_130:=am ((Y60:gb127≠gb130));have NB130_127:=am ((Y61:gb130≠gb127));have NB128_130:=am ((Y136:gb128≠gb130));have NB130_128:=am ((Y137:gb130≠gb128));replace BK127:=am (je (g:=gb127) (o:=.cells #[.slice A0_0 l0_0.length c0_0] 37 (0,0)) (kq BK127.out) hb);replace BK128:=am (je (g:=gb128) (o:=.cells #[.slice (some ad129) l1_0.length c1_0] 32 (0,0)) (kq BK128.out) hb);replace HB:=am (jl (Y10) hb);clear hb hbox hg;have hnb11:=NB130_127.out;have hnc11:=NB127_130.out;have hnb12:=NB130_128.out;have hnc12:=NB128_130.out;have hcz13_0:=bc0 BK130.out;have hcz13_1:=bc1 BK130.out;have hcz13_2:=bc2 BK130.out;have hcz13_3:=bc3 BK130.out;have hcz13_4:w10.cell? ⟨gb130,4,none⟩=some (.bool false):=(jH BK130.out 4).trans rfl;have hfz13_0:=jf BK130.out 0;have hfz13_1:=jf BK130.out 1;have hfz13_2:=jf BK130.out 2;have hfz13_3:=jf BK130.out 3;have hfz13_4:=jf BK130.out 4));go_upto_region 5 with (first |((with_reducible refine jI (N:=6) rfl ?_);(try (refine jWa (by rfl) ?_;dsimp only));refine jpb ?hg (N:=6) ?hd (cs:=#[.int .i64 0, .int .i64 0, .int .i64 0, .int .i64 0, .bool false]) (t:=54) ?hr ?_;(case hd=>rfl);(case hg=>rfl);(case hr=>exact Y4);intro gb130 hg w10 hbox hb;have BK130:=am (hbox);have GW130:=am ((Y62:w.heap.size≤gb130));have GE130:=am ((Y62:w.heap.size≤gb130));have NB127_130:=am ((Y60:gb127≠gb130));have NB130_127:=am ((Y61:gb130≠gb127));have NB128_130:=am ((Y136:gb128≠gb130));have NB130_128:=am ((Y137:gb130≠gb128));replace BK127:=am (je (g:=gb127) (o:=.cells #[.slice A0_0 l0_0.length c0_0] 37 (0,0)) (kq BK127.out) hb);replace BK128:=am (je (g:=gb128) (o:=.cells #[.slice (some ad129) l1_0.length c1_0] 32 (0,0)) (kq BK128.out) hb);replace HB:=am (jl (Y10) hb);clear hb hbox hg;have hnb11:=NB130_127.out;have hnc11:=NB127_130.out;have hnb12:=NB130_128.out;have hnc12:=NB128_130.out;have hcz13_0:=bc0 BK130.out;have hcz13_1:=bc1 BK130.out;have hcz13_2:=bc2 BK130.out;have hcz13_3:=bc3 BK130.out;have hcz13_4:w10.cell? ⟨gb130,4,none⟩=some (.bool false):=(jH BK130.out 4).trans rfl;have hfz13_0:=jf BK130.out 0;have hfz13_1:=jf BK130.out 1;have hfz13_2:=jf BK130.out 2;have hfz13_3:=jf BK130.out 3;have hfz13_4:=jf BK130.out 4)))
     (try simp only [Act.put,List.setIfInBounds_toArray,List.set_cons_zero,List.set_cons_succ])
     go_cut [37] (fun v37 wc=>∃ (kq:Nat) (x37_6:Bool),v37=.bool x37_6∧jw (jG.j1 kq x5_1 x37_6 l0_0 l1_0=some r)∧jw (kq≤k1)∧jw (wc.heap[gb127]?=some (.cells #[(.slice A0_0 l0_0.length c0_0)] 37 (0,0)))∧jw (wc.heap[gb128]?=some (.cells #[(.slice (some ad129) l1_0.length c1_0)] 32 (0,0)))∧jw (wc.heap[gb130]?=some (.cells #[.int .i64 ((ja l1_0 x5_1).f0), .int .i64 ((ja l1_0 x5_1).f1), .int .i64 ((ja l1_0 x5_1).f2), .int .i64 ((ja l1_0 x5_1).f3), .bool ((ja l1_0 x5_1).f4)] 54 (0,0)))∧jw (Below w.heap.size w wc))
     case first =>
      have H:=HC7.out
      clear HC7
      replace H:=bzS H
      obtain ⟨t131,A140,H⟩:=H
      replace H:(if t131=true then ((jY.f ((ja l1_0 x5_1).f1) 0 99).bind fun t132=>(if t132=true then ((jJa.f l1_0 x5_1).bind fun t133=>(jG.j1 k1 x5_1 (!t133) l0_0 l1_0)) else (jG.j1 k1 x5_1 true l0_0 l1_0))) else (jG.j1 k1 x5_1 true l0_0 l1_0))=some r:=H
      have A14:=am A140
      clear A140
      by_cases c15:t131=true
      ·subst c15
       have H1:((jY.f ((ja l1_0 x5_1).f1) 0 99).bind fun t132=>(if t132=true then ((jJa.f l1_0 x5_1).bind fun t133=>(jG.j1 k1 x5_1 (!t133) l0_0 l1_0)) else (jG.j1 k1 x5_1 true l0_0 l1_0)))=some r:=by rw [if_pos rfl] at H;exact H
       clear H
       have H:=H1
       clear H1
       replace H:=bzS H
       obtain ⟨t132,A160,H⟩:=H
       replace H:(if t132=true then ((jJa.f l1_0 x5_1).bind fun t133=>(jG.j1 k1 x5_1 (!t133) l0_0 l1_0)) else (jG.j1 k1 x5_1 true l0_0 l1_0))=some r:=H
       have A16:=am A160
       clear A160
       by_cases c17:t132=true
       ·subst c17
        have H1:((jJa.f l1_0 x5_1).bind fun t133=>(jG.j1 k1 x5_1 (!t133) l0_0 l1_0))=some r:=by rw [if_pos rfl] at H;exact H
        clear H
        have H:=H1
        clear H1
        replace H:=bzS H
        obtain ⟨t133,A180,H⟩:=H
        replace H:(jG.j1 k1 x5_1 (!t133) l0_0 l1_0)=some r:=H
        have A18:=am A180
        clear A180
        have H':=am H
        clear H
        have hnb19:=NB127_128.out
        have hnc19:=NB128_127.out
        have hnb20:=NB127_130.out
        have hnc20:=NB130_127.out
        have hcz21_0:=bc0 BK127.out
        have hfz21_0:=jf BK127.out 0
        have hnb22:=NB130_128.out
        have hnc22:=NB128_130.out
        have hcz23_0:=bc0 BK130.out
        have hcz23_1:=bc1 BK130.out
        have hcz23_2:=bc2 BK130.out
        have hcz23_3:=bc3 BK130.out
        have hcz23_4:w10.cell? ⟨gb130,4,none⟩=some (.bool false):=(jH BK130.out 4).trans rfl
        have hfz23_0:=jf BK130.out 0
        have hfz23_1:=jf BK130.out 1
        have hfz23_2:=jf BK130.out 2
        have hfz23_3:=jf BK130.out 3
        have hfz23_4:=jf BK130.out 4
        go_wp2_with (first |(go_at_call 97;(with_reducible refine (jLa.calls _ _ l0_0 ((ja l1_0 x5_1).f0) true _ ?side1 ?side2 A14.out).mono ?_);(case side1=>exact Kd.jea HR0_0.out (Y12));(case side2=>exact HC0_0.out);rintro e w24 ⟨rfl,hb⟩;replace BK127:=am (je (g:=gb127) (o:=.cells #[.slice A0_0 l0_0.length c0_0] 37 (0,0)) (Y42) hb);replace BK128:=am (je (g:=gb128) (o:=.cells #[.slice (some ad129) l1_0.length c1_0] 32 (0,0)) (Y43) hb);replace BK130:=am (je (g:=gb130) (o:=.cells #[.int .i64 ((ja l1_0 x5_1).f0), .int .i64 ((ja l1_0 x5_1).f1), .int .i64 ((ja l1_0 x5_1).f2), .int .i64 ((ja l1_0 x5_1).f3), .bool ((ja l1_0 x5_1).f4)] 54 (0,0)) (Y44) hb);replace HB:=am (jl (Y12) hb);(try clear hb);(try clear hb2);(try clear hk);(try clear hi);have hcz25_0:=bc0 BK130.out;have hcz25_1:=bc1 BK130.out;have hcz25_2:=bc2 BK130.out;have hcz25_3:=bc3 BK130.out;have hcz25_4:w24.cell? ⟨gb130,4,none⟩=some (.bool ((ja l1_0 x5_1).f4)):=(jH BK130.out 4).trans rfl;have hfz25_0:=jf BK130.out 0;have hfz25_1:=jf BK130.out 1;have hfz25_2:=jf BK130.out 2;have hfz25_3:=jf BK130.out 3;have hfz25_4:=jf BK130.out 4) |(go_at_call 98;(with_reducible refine (jY.calls ((ja l1_0 x5_1).f1) 0 99 true _ A16.out).mono ?_);rintro e w' ⟨rfl,⟨nd,rfl⟩⟩;(try first | exact ⟨rfl,_,World.drewN_drewN _ _ _⟩ | exact ⟨rfl,_,Eq.trans (World.drewN_drewN _ _ _) (congrArg (World.drewN _) (Nat.add_assoc _ _ _))⟩);have hcz26_0:=bc0 BK128.out;have hfz26_0:=jf BK128.out 0) |(go_at_call 99;(with_reducible refine (jJa.calls _ _ l1_0 x5_1 t133 _ ?side1 ?side2 A18.out).mono ?_);(case side1=>exact Y138);(case side2=>exact HC1_0.out);rintro e w27 ⟨rfl,hb⟩;replace BK127:=am (je (g:=gb127) (o:=.cells #[.slice A0_0 l0_0.length c0_0] 37 (0,0)) (kq BK127.out) hb);replace BK128:=am (je (g:=gb128) (o:=.cells #[.slice (some ad129) l1_0.length c1_0] 32 (0,0)) (kq BK128.out) hb);replace BK130:=am (je (g:=gb130) (o:=.cells #[.int .i64 ((ja l1_0 x5_1).f0), .int .i64 ((ja l1_0 x5_1).f1), .int .i64 ((ja l1_0 x5_1).f2), .int .i64 ((ja l1_0 x5_1).f3), .bool ((ja l1_0 x5_1).f4)] 54 (0,0)) (kq BK130.out) hb);replace HB:=am (jl (Y12) hb);(try clear hb);(try clear hb2);(try clear hk);(try clear hi)))
        repeat (go_quiet (first |(go_at_call 97;(with_reducible refine (jLa.calls _ _ l0_0 ((ja l1_0 x5_1).f0) true _ ?side1 ?side2 A14.out).mono ?_);(case side1=>exact Kd.jea HR0_0.out (Y12));(case side2=>exact HC0_0.out);rintro e w24 ⟨rfl,hb⟩;replace BK127:=am (je (g:=gb127) (o:=.cells #[.slice A0_0 l0_0.length c0_0] 37 (0,0)) (Y42) hb);replace BK128:=am (je (g:=gb128) (o:=.cells #[.slice (some ad129) l1_0.length c1_0] 32 (0,0)) (Y43) hb);replace BK130:=am (je (g:=gb130) (o:=.cells #[.int .i64 ((ja l1_0 x5_1).f0), .int .i64 ((ja l1_0 x5_1).f1), .int .i64 ((ja l1_0 x5_1).f2), .int .i64 ((ja l1_0 x5_1).f3), .bool ((ja l1_0 x5_1).f4)] 54 (0,0)) (Y44) hb);replace HB:=am (jl (Y12) hb);(try clear hb);(try clear hb2);(try clear hk);(try clear hi);have hcz25_0:=bc0 BK130.out;have hcz25_1:=bc1 BK130.out;have hcz25_2:=bc2 BK130.out;have hcz25_3:=bc3 BK130.out;have hcz25_4:w24.cell? ⟨gb130,4,none⟩=some (.bool ((ja l1_0 x5_1).f4)):=(jH BK130.out 4).trans rfl;have hfz25_0:=jf BK130.out 0;have hfz25_1:=jf BK130.out 1;have hfz25_2:=jf BK130.out 2;have hfz25_3:=jf BK130.out 3;have hfz25_4:=jf BK130.out 4) |(go_at_call 98;(with_reducible refine (jY.calls ((ja l1_0 x5_1).f1) 0 99 true _ A16.out).mono ?_);rintro e w' ⟨rfl,⟨nd,rfl⟩⟩;(try first | exact ⟨rfl,_,World.drewN_drewN _ _ _⟩ | exact ⟨rfl,_,Eq.trans (World.drewN_drewN _ _ _) (congrArg (World.drewN _) (Nat.add_assoc _ _ _))⟩);have hcz26_0:=bc0 BK128.out;have hfz26_0:=jf BK128.out 0) |(go_at_call 99;(with_reducible refine (jJa.calls _ _ l1_0 x5_1 t133 _ ?side1 ?side2 A18.out).mono ?_);(case side1=>exact Y138);(case side2=>exact HC1_0.out);rintro e w27 ⟨rfl,hb⟩;replace BK127:=am (je (g:=gb127) (o:=.cells #[.slice A0_0 l0_0.length c0_0] 37 (0,0)) (kq BK127.out) hb);replace BK128:=am (je (g:=gb128) (o:=.cells #[.slice (some ad129) l1_0.length c1_0] 32 (0,0)) (kq BK128.out) hb);replace BK130:=am (je (g:=gb130) (o:=.cells #[.int .i64 ((ja l1_0 x5_1).f0), .int .i64 ((ja l1_0 x5_1).f1), .int .i64 ((ja l1_0 x5_1).f2), .int .i64 ((ja l1_0 x5_1).f3), .bool ((ja l1_0 x5_1).f4)] 54 (0,0)) (kq BK130.out) hb);replace HB:=am (jl (Y12) hb);(try clear hb);(try clear hb2);(try clear hk);(try clear hi)));try go_wp2_with (first |(go_at_call 97;(with_reducible refine (jLa.calls _ _ l0_0 ((ja l1_0 x5_1).f0) true _ ?side1 ?side2 A14.out).mono ?_);(case side1=>exact Kd.jea HR0_0.out (Y12));(case side2=>exact HC0_0.out);rintro e w24 ⟨rfl,hb⟩;replace BK127:=am (je (g:=gb127) (o:=.cells #[.slice A0_0 l0_0.length c0_0] 37 (0,0)) (Y42) hb);replace BK128:=am (je (g:=gb128) (o:=.cells #[.slice (some ad129) l1_0.length c1_0] 32 (0,0)) (Y43) hb);replace BK130:=am (je (g:=gb130) (o:=.cells #[.int .i64 ((ja l1_0 x5_1).f0), .int .i64 ((ja l1_0 x5_1).f1), .int .i64 ((ja l1_0 x5_1).f2), .int .i64 ((ja l1_0 x5_1).f3), .bool ((ja l1_0 x5_1).f4)] 54 (0,0)) (Y44) hb);replace HB:=am (jl (Y12) hb);(try clear hb);(try clear hb2);(try clear hk);(try clear hi);have hcz25_0:=bc0 BK130.out;have hcz25_1:=bc1 BK130.out;have hcz25_2:=bc2 BK130.out;have hcz25_3:=bc3 BK130.out;have hcz25_4:w24.cell? ⟨gb130,4,none⟩=some (.bool ((ja l1_0 x5_1).f4)):=(jH BK130.out 4).trans rfl;have hfz25_0:=jf BK130.out 0;have hfz25_1:=jf BK130.out 1;have hfz25_2:=jf BK130.out 2;have hfz25_3:=jf BK130.out 3;have hfz25_4:=jf BK130.out 4) |(go_at_call 98;(with_reducible refine (jY.calls ((ja l1_0 x5_1).f1) 0 99 true _ A16.out).mono ?_);rintro e w' ⟨rfl,⟨nd,rfl⟩⟩;(try first | exact ⟨rfl,_,World.drewN_drewN _ _ _⟩ | exact ⟨rfl,_,Eq.trans (World.drewN_drewN _ _ _) (congrArg (World.drewN _) (Nat.add_assoc _ _ _))⟩);have hcz26_0:=bc0 BK128.out;have hfz26_0:=jf BK128.out 0) |(go_at_call 99;(with_reducible refine (jJa.calls _ _ l1_0 x5_1 t133 _ ?side1 ?side2 A18.out).mono ?_);(case side1=>exact Y138);(case side2=>exact HC1_0.out);rintro e w27 ⟨rfl,hb⟩;replace BK127:=am (je (g:=gb127) (o:=.cells #[.slice A0_0 l0_0.length c0_0] 37 (0,0)) (kq BK127.out) hb);replace BK128:=am (je (g:=gb128) (o:=.cells #[.slice (some ad129) l1_0.length c1_0] 32 (0,0)) (kq BK128.out) hb);replace BK130:=am (je (g:=gb130) (o:=.cells #[.int .i64 ((ja l1_0 x5_1).f0), .int .i64 ((ja l1_0 x5_1).f1), .int .i64 ((ja l1_0 x5_1).f2), .int .i64 ((ja l1_0 x5_1).f3), .bool ((ja l1_0 x5_1).f4)] 54 (0,0)) (kq BK130.out) hb);replace HB:=am (jl (Y12) hb);(try clear hb);(try clear hb2);(try clear hk);(try clear hi))))
        go_meet
        case rel=>exact ⟨_,(!t133),(sq),H',⟨by have:=HK1.out;first | omega | exact Nat.le_refl _⟩,⟨kq BK127.out⟩,⟨kq BK128.out⟩,⟨kq BK130.out⟩,⟨Y12⟩⟩
       ·replace c17:=Bool.eq_false_iff.mpr c17
        subst c17
        have H1:(jG.j1 k1 x5_1 true l0_0 l1_0)=some r:=by rw [if_neg (show ¬ (false=true) by decide)] at H;exact H
        clear H
        have H:=H1
        clear H1
        have H':=am H
        clear H
        have hnb28:=NB127_128.out
        have hnc28:=NB128_127.out
        have hnb29:=NB127_130.out
        have hnc29:=NB130_127.out
        have hcz30_0:=bc0 BK127.out
        have hfz30_0:=jf BK127.out 0
        have hnb31:=NB130_128.out
        have hnc31:=NB128_130.out
        have hcz32_0:=bc0 BK130.out
        have hcz32_1:=bc1 BK130.out
        have hcz32_2:=bc2 BK130.out
        have hcz32_3:=bc3 BK130.out
        have hcz32_4:w10.cell? ⟨gb130,4,none⟩=some (.bool false):=(jH BK130.out 4).trans rfl
        have hfz32_0:=jf BK130.out 0
        have hfz32_1:=jf BK130.out 1
        have hfz32_2:=jf BK130.out 2
        have hfz32_3:=jf BK130.out 3
        have hfz32_4:=jf BK130.out 4
        go_wp2_with (first |(go_at_call 97;(with_reducible refine (jLa.calls _ _ l0_0 ((ja l1_0 x5_1).f0) true _ ?side1 ?side2 A14.out).mono ?_);(case side1=>exact Kd.jea HR0_0.out (Y12));(case side2=>exact HC0_0.out);rintro e w33 ⟨rfl,hb⟩;replace BK127:=am (je (g:=gb127) (o:=.cells #[.slice A0_0 l0_0.length c0_0] 37 (0,0)) (Y42) hb);replace BK128:=am (je (g:=gb128) (o:=.cells #[.slice (some ad129) l1_0.length c1_0] 32 (0,0)) (Y43) hb);replace BK130:=am (je (g:=gb130) (o:=.cells #[.int .i64 ((ja l1_0 x5_1).f0), .int .i64 ((ja l1_0 x5_1).f1), .int .i64 ((ja l1_0 x5_1).f2), .int .i64 ((ja l1_0 x5_1).f3), .bool ((ja l1_0 x5_1).f4)] 54 (0,0)) (Y44) hb);replace HB:=am (jl (Y12) hb);(try clear hb);(try clear hb2);(try clear hk);(try clear hi);have hcz34_0:=bc0 BK130.out;have hcz34_1:=bc1 BK130.out;have hcz34_2:=bc2 BK130.out;have hcz34_3:=bc3 BK130.out;have hcz34_4:w33.cell? ⟨gb130,4,none⟩=some (.bool ((ja l1_0 x5_1).f4)):=(jH BK130.out 4).trans rfl;have hfz34_0:=jf BK130.out 0;have hfz34_1:=jf BK130.out 1;have hfz34_2:=jf BK130.out 2;have hfz34_3:=jf BK130.out 3;have hfz34_4:=jf BK130.out 4) |(go_at_call 98;(with_reducible refine (jY.calls ((ja l1_0 x5_1).f1) 0 99 false _ A16.out).mono ?_);rintro e w' ⟨rfl,⟨nd,rfl⟩⟩;(try first | exact ⟨rfl,_,World.drewN_drewN _ _ _⟩ | exact ⟨rfl,_,Eq.trans (World.drewN_drewN _ _ _) (congrArg (World.drewN _) (Nat.add_assoc _ _ _))⟩)))
        repeat (go_quiet (first |(go_at_call 97;(with_reducible refine (jLa.calls _ _ l0_0 ((ja l1_0 x5_1).f0) true _ ?side1 ?side2 A14.out).mono ?_);(case side1=>exact Kd.jea HR0_0.out (Y12));(case side2=>exact HC0_0.out);rintro e w33 ⟨rfl,hb⟩;replace BK127:=am (je (g:=gb127) (o:=.cells #[.slice A0_0 l0_0.length c0_0] 37 (0,0)) (Y42) hb);replace BK128:=am (je (g:=gb128) (o:=.cells #[.slice (some ad129) l1_0.length c1_0] 32 (0,0)) (Y43) hb);replace BK130:=am (je (g:=gb130) (o:=.cells #[.int .i64 ((ja l1_0 x5_1).f0), .int .i64 ((ja l1_0 x5_1).f1), .int .i64 ((ja l1_0 x5_1).f2), .int .i64 ((ja l1_0 x5_1).f3), .bool ((ja l1_0 x5_1).f4)] 54 (0,0)) (Y44) hb);replace HB:=am (jl (Y12) hb);(try clear hb);(try clear hb2);(try clear hk);(try clear hi);have hcz34_0:=bc0 BK130.out;have hcz34_1:=bc1 BK130.out;have hcz34_2:=bc2 BK130.out;have hcz34_3:=bc3 BK130.out;have hcz34_4:w33.cell? ⟨gb130,4,none⟩=some (.bool ((ja l1_0 x5_1).f4)):=(jH BK130.out 4).trans rfl;have hfz34_0:=jf BK130.out 0;have hfz34_1:=jf BK130.out 1;have hfz34_2:=jf BK130.out 2;have hfz34_3:=jf BK130.out 3;have hfz34_4:=jf BK130.out 4) |(go_at_call 98;(with_reducible refine (jY.calls ((ja l1_0 x5_1).f1) 0 99 false _ A16.out).mono ?_);rintro e w' ⟨rfl,⟨nd,rfl⟩⟩;(try first | exact ⟨rfl,_,World.drewN_drewN _ _ _⟩ | exact ⟨rfl,_,Eq.trans (World.drewN_drewN _ _ _) (congrArg (World.drewN _) (Nat.add_assoc _ _ _))⟩)));try go_wp2_with (first |(go_at_call 97;(with_reducible refine (jLa.calls _ _ l0_0 ((ja l1_0 x5_1).f0) true _ ?side1 ?side2 A14.out).mono ?_);(case side1=>exact Kd.jea HR0_0.out (Y12));(case side2=>exact HC0_0.out);rintro e w33 ⟨rfl,hb⟩;replace BK127:=am (je (g:=gb127) (o:=.cells #[.slice A0_0 l0_0.length c0_0] 37 (0,0)) (Y42) hb);replace BK128:=am (je (g:=gb128) (o:=.cells #[.slice (some ad129) l1_0.length c1_0] 32 (0,0)) (Y43) hb);replace BK130:=am (je (g:=gb130) (o:=.cells #[.int .i64 ((ja l1_0 x5_1).f0), .int .i64 ((ja l1_0 x5_1).f1), .int .i64 ((ja l1_0 x5_1).f2), .int .i64 ((ja l1_0 x5_1).f3), .bool ((ja l1_0 x5_1).f4)] 54 (0,0)) (Y44) hb);replace HB:=am (jl (Y12) hb);(try clear hb);(try clear hb2);(try clear hk);(try clear hi);have hcz34_0:=bc0 BK130.out;have hcz34_1:=bc1 BK130.out;have hcz34_2:=bc2 BK130.out;have hcz34_3:=bc3 BK130.out;have hcz34_4:w33.cell? ⟨gb130,4,none⟩=some (.bool ((ja l1_0 x5_1).f4)):=(jH BK130.out 4).trans rfl;have hfz34_0:=jf BK130.out 0;have hfz34_1:=jf BK130.out 1;have hfz34_2:=jf BK130.out 2;have hfz34_3:=jf BK130.out 3;have hfz34_4:=jf BK130.out 4) |(go_at_call 98;(with_reducible refine (jY.calls ((ja l1_0 x5_1).f1) 0 99 false _ A16.out).mono ?_);rintro e w' ⟨rfl,⟨nd,rfl⟩⟩;(try first | exact ⟨rfl,_,World.drewN_drewN _ _ _⟩ | exact ⟨rfl,_,Eq.trans (World.drewN_drewN _ _ _) (congrArg (World.drewN _) (Nat.add_assoc _ _ _))⟩))))
        go_meet
        case rel=>exact ⟨_,(true),(sq),H',⟨by have:=HK1.out;first | omega | exact Nat.le_refl _⟩,⟨kq BK127.out⟩,⟨kq BK128.out⟩,⟨kq BK130.out⟩,⟨Y12⟩⟩
      ·replace c15:=Bool.eq_false_iff.mpr c15
       subst c15
       have H1:(jG.j1 k1 x5_1 true l0_0 l1_0)=some r:=by rw [if_neg (show ¬ (false=true) by decide)] at H;exact H
       clear H
       have H:=H1
       clear H1
       have H':=am H
       clear H
       have hnb35:=NB127_128.out
       have hnc35:=NB128_127.out
       have hnb36:=NB127_130.out
       have hnc36:=NB130_127.out
       have hcz37_0:=bc0 BK127.out
       have hfz37_0:=jf BK127.out 0
       have hnb38:=NB130_128.out
       have hnc38:=NB128_130.out
       have hcz39_0:=bc0 BK130.out
       have hcz39_1:=bc1 BK130.out
       have hcz39_2:=bc2 BK130.out
       have hcz39_3:=bc3 BK130.out
       have hcz39_4:w10.cell? ⟨gb130,4,none⟩=some (.bool false):=(jH BK130.out 4).trans rfl
       have hfz39_0:=jf BK130.out 0
       have hfz39_1:=jf BK130.out 1
       have hfz39_2:=jf BK130.out 2
       have hfz39_3:=jf BK130.out 3
       have hfz39_4:=jf BK130.out 4
       go_wp2_with (first |(go_at_call 97;(with_reducible refine (jLa.calls _ _ l0_0 ((ja l1_0 x5_1).f0) false _ ?side1 ?side2 A14.out).mono ?_);(case side1=>exact Kd.jea HR0_0.out (Y12));(case side2=>exact HC0_0.out);rintro e w40 ⟨rfl,hb⟩;replace BK127:=am (je (g:=gb127) (o:=.cells #[.slice A0_0 l0_0.length c0_0] 37 (0,0)) (Y42) hb);replace BK128:=am (je (g:=gb128) (o:=.cells #[.slice (some ad129) l1_0.length c1_0] 32 (0,0)) (Y43) hb);replace BK130:=am (je (g:=gb130) (o:=.cells #[.int .i64 ((ja l1_0 x5_1).f0), .int .i64 ((ja l1_0 x5_1).f1), .int .i64 ((ja l1_0 x5_1).f2), .int .i64 ((ja l1_0 x5_1).f3), .bool ((ja l1_0 x5_1).f4)] 54 (0,0)) (Y44) hb);replace HB:=am (jl (Y12) hb);(try clear hb);(try clear hb2);(try clear hk);(try clear hi)))
       repeat (go_quiet (first |(go_at_call 97;(with_reducible refine (jLa.calls _ _ l0_0 ((ja l1_0 x5_1).f0) false _ ?side1 ?side2 A14.out).mono ?_);(case side1=>exact Kd.jea HR0_0.out (Y12));(case side2=>exact HC0_0.out);rintro e w40 ⟨rfl,hb⟩;replace BK127:=am (je (g:=gb127) (o:=.cells #[.slice A0_0 l0_0.length c0_0] 37 (0,0)) (Y42) hb);replace BK128:=am (je (g:=gb128) (o:=.cells #[.slice (some ad129) l1_0.length c1_0] 32 (0,0)) (Y43) hb);replace BK130:=am (je (g:=gb130) (o:=.cells #[.int .i64 ((ja l1_0 x5_1).f0), .int .i64 ((ja l1_0 x5_1).f1), .int .i64 ((ja l1_0 x5_1).f2), .int .i64 ((ja l1_0 x5_1).f3), .bool ((ja l1_0 x5_1).f4)] 54 (0,0)) (Y44) hb);replace HB:=am (jl (Y12) hb);(try clear hb);(try clear hb2);(try clear hk);(try clear hi)));try go_wp2_with (first |(go_at_call 97;(with_reducible refine (jLa.calls _ _ l0_0 ((ja l1_0 x5_1).f0) false _ ?side1 ?side2 A14.out).mono ?_);(case side1=>exact Kd.jea HR0_0.out (Y12));(case side2=>exact HC0_0.out);rintro e w40 ⟨rfl,hb⟩;replace BK127:=am (je (g:=gb127) (o:=.cells #[.slice A0_0 l0_0.length c0_0] 37 (0,0)) (Y42) hb);replace BK128:=am (je (g:=gb128) (o:=.cells #[.slice (some ad129) l1_0.length c1_0] 32 (0,0)) (Y43) hb);replace BK130:=am (je (g:=gb130) (o:=.cells #[.int .i64 ((ja l1_0 x5_1).f0), .int .i64 ((ja l1_0 x5_1).f1), .int .i64 ((ja l1_0 x5_1).f2), .int .i64 ((ja l1_0 x5_1).f3), .bool ((ja l1_0 x5_1).f4)] 54 (0,0)) (Y44) hb);replace HB:=am (jl (Y12) hb);(try clear hb);(try clear hb2);(try clear hk);(try clear hi))))
       go_meet
       case rel=>exact ⟨_,(true),(sq),H',⟨by have:=HK1.out;first | omega | exact Nat.le_refl _⟩,⟨kq BK127.out⟩,⟨kq BK128.out⟩,⟨kq BK130.out⟩,⟨Y12⟩⟩
     case rest =>
      clear HC7
      try clear c1
      try clear p1
      try clear q1
      try clear hx1
      try clear c2
      try clear p2
      try clear c3
      try clear c5
      try clear c5b0
      try clear c6
      try clear c6b0
      try clear c8
      try clear c11
      try clear c12
      try clear p12
      try clear q12
      try clear hx12
      try clear c15
      try clear c17
      try clear c19
      try clear c20
      try clear c22
      try clear c28
      try clear c29
      try clear c31
      try clear c35
      try clear c36
      try clear c38
      try clear hcz13_0
      try clear hcz13_1
      try clear hcz13_2
      try clear hcz13_3
      try clear hcz13_4
      try clear hcz21_0
      try clear hcz23_0
      try clear hcz23_1
      try clear hcz23_2
      try clear hcz23_3
      try clear hcz23_4
      try clear hcz25_0
      try clear hcz25_1
      try clear hcz25_2
      try clear hcz25_3
      try clear hcz25_4
      try clear hcz26_0
      try clear hcz30_0
      try clear hcz32_0
      try clear hcz32_1
      try clear hcz32_2
      try clear hcz32_3
      try clear hcz32_4
      try clear hcz34_0
      try clear hcz34_1
      try clear hcz34_2
      try clear hcz34_3
      try clear hcz34_4
      try clear hcz37_0
      try clear hcz39_0
      try clear hcz39_1
      try clear hcz39_2
      try clear hcz39_3
      try clear hcz39_4
      try clear hcz9_0
      try clear hfz13_0
      try clear hfz13_1
      try clear hfz13_2
      try clear hfz13_3
      try clear hfz13_4
      try clear hfz21_0
      try clear hfz23_0
      try clear hfz23_1
      try clear hfz23_2
      try clear hfz23_3
      try clear hfz23_4
      try clear hfz25_0
      try clear hfz25_1
      try clear hfz25_2
      try clear hfz25_3
      try clear hfz25_4
      try clear hfz26_0
      try clear hfz30_0
      try clear hfz32_0
      try clear hfz32_1
      try clear hfz32_2
      try clear hfz32_3
      try clear hfz32_4
      try clear hfz34_0
      try clear hfz34_1
      try clear hfz34_2
      try clear hfz34_3
      try clear hfz34_4
      try clear hfz37_0
      try clear hfz39_0
      try clear hfz39_1
      try clear hfz39_2
      try clear hfz39_3
      try clear hfz39_4
      try clear hfz9_0
      try clear hx129_0
      try clear hx129_1
      try clear hx129_2
      try clear hx129_3
      try clear hx129_4
      try clear p129
      try clear p2
      try clear q129
      obtain ⟨kq,x37_6,rfl,HA,HJ6,BK127,BK128,BK130,HB⟩:=hcut
      cases kq with
      | zero=>exact absurd HA.out (by simp [jG.j1])
      | succ kj6 =>
       have H:=HA.out
       clear HA
       simp only [jG.j1] at H
       by_cases c41:x37_6=true
       ·subst c41
        have H1:(some false)=some r:=by rw [if_pos rfl] at H;exact H
        clear H
        have H:=H1
        clear H1
        obtain rfl:=Option.some.inj H
        go_wp2
        repeat (go_quiet (fail);try go_wp2)
        go_ret
        exact ⟨Y2,Y12⟩
       ·replace c41:=Bool.eq_false_iff.mpr c41
        subst c41
        have H1:(jG.l0 kj6 (wrap64 (x5_1+1)) l0_0 l1_0)=some r:=by rw [if_neg (show ¬ (false=true) by decide)] at H;exact H
        clear H
        have H:=H1
        clear H1
        have H':=am H
        clear H
        go_wp2
        repeat (go_quiet (fail);try go_wp2)
        go_roundg kj6
        case measure=>have:=HK1.out;have:=HJ6.out;omega
        case rel=>exact ⟨(wrap64 (x5_1+1)),(sq),H',⟨by have:=HK1.out;have:=HJ6.out;omega⟩,⟨kq BK127.out⟩,⟨kq BK128.out⟩,⟨Y12⟩⟩
    ·rw [if_neg c6] at H
     exact absurd H (by simp)
   ·rw [if_neg c5] at H
    have c5b0:decide (x5_1<(l1_0.length:Int))=false:=dzF c5
    clear c5
    have H':=am H
    clear H
    have hnb42:=NB128_127.out
    have hnc42:=NB127_128.out
    have hcz43_0:=bc0 BK128.out
    have hfz43_0:=jf BK128.out 0
    go_wp2
    repeat (go_quiet (fail);try go_wp2)
    go_loopg [7] k1 (fun kq v7 w'=>∃ (x7_2:Int),v7=.int .i64 x7_2∧jw (jG.l1 kq x7_2 l0_0 l1_0=some r)∧jw (kq≤k1)∧jw (w'.heap[gb127]?=some (.cells #[(.slice A0_0 l0_0.length c0_0)] 37 (0,0)))∧jw (w'.heap[gb128]?=some (.cells #[(.slice A1_0 l1_0.length c1_0)] 32 (0,0)))∧jw (Below w.heap.size w w'))
    case atStart=>exact ⟨(0),(sq),H',⟨Nat.le_refl _⟩,⟨kq BK127.out⟩,⟨kq BK128.out⟩,⟨Y10⟩⟩
    case round =>
     clear H'
     try clear c1
     try clear p1
     try clear q1
     try clear hx1
     try clear c2
     try clear p2
     try clear c3
     try clear c4
     try clear c5
     try clear c5b0
     try clear c6
     try clear c6b0
     try clear p6
     try clear c8
     try clear c11
     try clear c12
     try clear p12
     try clear q12
     try clear hx12
     try clear c15
     try clear c17
     try clear c19
     try clear c20
     try clear c22
     try clear c28
     try clear c29
     try clear c31
     try clear c35
     try clear c36
     try clear c38
     try clear c41
     try clear c42
     try clear hcz13_0
     try clear hcz13_1
     try clear hcz13_2
     try clear hcz13_3
     try clear hcz13_4
     try clear hcz21_0
     try clear hcz23_0
     try clear hcz23_1
     try clear hcz23_2
     try clear hcz23_3
     try clear hcz23_4
     try clear hcz25_0
     try clear hcz25_1
     try clear hcz25_2
     try clear hcz25_3
     try clear hcz25_4
     try clear hcz26_0
     try clear hcz30_0
     try clear hcz32_0
     try clear hcz32_1
     try clear hcz32_2
     try clear hcz32_3
     try clear hcz32_4
     try clear hcz34_0
     try clear hcz34_1
     try clear hcz34_2
     try clear hcz34_3
     try clear hcz34_4
     try clear hcz37_0
     try clear hcz39_0
     try clear hcz39_1
     try clear hcz39_2
     try clear hcz39_3
     try clear hcz39_4
     try clear hcz43_0
     try clear hcz9_0
     try clear hfz13_0
     try clear hfz13_1
     try clear hfz13_2
     try clear hfz13_3
     try clear hfz13_4
     try clear hfz21_0
     try clear hfz23_0
     try clear hfz23_1
     try clear hfz23_2
     try clear hfz23_3
     try clear hfz23_4
     try clear hfz25_0
     try clear hfz25_1
     try clear hfz25_2
     try clear hfz25_3
     try clear hfz25_4
     try clear hfz26_0
     try clear hfz30_0
     try clear hfz32_0
     try clear hfz32_1
     try clear hfz32_2
     try clear hfz32_3
     try clear hfz32_4
     try clear hfz34_0
     try clear hfz34_1
     try clear hfz34_2
     try clear hfz34_3
     try clear hfz34_4
     try clear hfz37_0
     try clear hfz39_0
     try clear hfz39_1
     try clear hfz39_2
     try clear hfz39_3
     try clear hfz39_4
     try clear hfz43_0
     try clear hfz9_0
     try clear hx129_0
     try clear hx129_1
     try clear hx129_2
     try clear hx129_3
     try clear hx129_4
     try clear p1
     try clear p12
     try clear p129
     try clear p2
     try clear q1
     try clear q12
     try clear q129
     obtain ⟨x7_2,rfl,HA,HK2,BK127,BK128,HB⟩:=hrel
     cases gk with
     | zero=>exact absurd HA.out (by simp [jG.l1])
     | succ k2 =>
      have H:=HA.out
      clear HA
      simp only [jG.l1] at H
      by_cases c44:x7_2<(l1_0.length:Int)
      ·rw [if_pos c44] at H
       have c44b0:decide (x7_2<(l1_0.length:Int))=true:=dzT c44
       clear c44
       replace H:=bzS H
       obtain ⟨t135,A450,H⟩:=H
       replace H:(if 0≤(wrap64 ((t135.length:Int) - 1)) then (if (wrap64 ((t135.length:Int) - 1))<(t135.length:Int) then (if 0≤(rd t135 (wrap64 ((t135.length:Int) - 1))) then (if (rd t135 (wrap64 ((t135.length:Int) - 1)))<(l1_0.length:Int) then (if ((ja l1_0 (rd t135 (wrap64 ((t135.length:Int) - 1)))).f3)≥0 then (some false) else (jG.l1 k2 (wrap64 (x7_2+1)) l0_0 l1_0)) else (none)) else (none)) else (none)) else (none))=some r:=H
       have A45:=am A450
       clear A450
       obtain ⟨ji46,hji46⟩:∃ j_:Int,(wrap64 ((t135.length:Int) - 1))=j_:=⟨_,rfl⟩
       replace H:(if 0≤(ji46) then (if (ji46)<(t135.length:Int) then (if 0≤(rd t135 (ji46)) then (if (rd t135 (ji46))<(l1_0.length:Int) then (if ((ja l1_0 (rd t135 (ji46))).f3)≥0 then (some false) else (jG.l1 k2 (wrap64 (x7_2+1)) l0_0 l1_0)) else (none)) else (none)) else (none)) else (none))=some r:=by first |(rw [hji46] at H;exact H) |(simp only [hji46] at H ⊢;exact H)
       (try rw [hji46] at A45)
       have hji46w:(IntKind.i64.wrap ((t135.length:Int) - 1))=ji46:=(jjb _).trans hji46
       by_cases c47:0≤(ji46)
       ·rw [if_pos c47] at H
        have c47b0:decide (0≤(ji46))=true:=dzT c47
        clear c47
        by_cases c48:(ji46)<(t135.length:Int)
        ·rw [if_pos c48] at H
         have c48b0:decide ((ji46)<(t135.length:Int))=true:=dzT c48
         clear c48
         by_cases c49:0≤(rd t135 (ji46))
         ·rw [if_pos c49] at H
          have c49b0:decide (0≤(rd t135 (ji46)))=true:=dzT c49
          clear c49
          by_cases c50:(rd t135 (ji46))<(l1_0.length:Int)
          ·rw [if_pos c50] at H
           have c50b0:decide ((rd t135 (ji46))<(l1_0.length:Int))=true:=dzT c50
           clear c50
           by_cases c51:((ja l1_0 (rd t135 (ji46))).f3)≥0
           ·rw [if_pos c51] at H
            have c51b0:decide (0≤((ja l1_0 (rd t135 (ji46))).f3))=true:=dzT c51
            clear c51
            obtain rfl:=Option.some.inj H
            have hnb52:=NB128_127.out
            have hnc52:=NB127_128.out
            have hcz53_0:=bc0 BK128.out
            have hfz53_0:=jf BK128.out 0
            go_wp2_with (first |(go_at_call 58;(with_reducible refine (jpa.calls k2 _ _ l1_0 x7_2 t135 _ ?side1 ?side2 A45.out).mono ?_);(case side1=>exact cq (Kd.jea HR1_0.out HB.out));(case side2=>exact HC1_0.out);rintro e w54 ⟨v136,rfl,ho0,hb⟩;have HO137:=am (Kd.jla ho0 (jQ (Y10)));replace BK127:=am (je (g:=gb127) (o:=.cells #[.slice A0_0 l0_0.length c0_0] 37 (0,0)) (kq BK127.out) hb);replace BK128:=am (je (g:=gb128) (o:=.cells #[.slice A1_0 l1_0.length c1_0] 32 (0,0)) (kq BK128.out) hb);replace HB:=am (jl (Y10) hb);(try clear hb);(try clear hb2);(try clear hk);(try clear hi);(try clear ho0);have hcz55_0:=bc0 BK128.out;have hfz55_0:=jf BK128.out 0;obtain ⟨Ao56,co56,eo56⟩:=Kd.jaa HO137.out;subst eo56;have p138:0≤((ji46):Int):=ozD (uq);have q138:(ji46)<(t135.length:Int):=ozD (uq);obtain ⟨ad138,e138,hx138_0⟩:=Kd.jOb (Kd.jB HO137.out).2.2 (ji46) p138 q138;cases e138;replace p138:=ezT p138;replace q138:=ezT q138;have p139:0≤((rd t135 (ji46)):Int):=ozD (uq);have q139:(rd t135 (ji46))<(l1_0.length:Int):=ozD (uq);obtain ⟨ad139,e139,hx139_0,hx139_1,hx139_2,hx139_3,hx139_4⟩:=jfb HR1_0.out (rd t135 (ji46)) p139 q139;cases e139;replace hx139_0:=cb HB.out hx139_0;replace hx139_1:=cb HB.out hx139_1;replace hx139_2:=cb HB.out hx139_2;replace hx139_3:=cb HB.out hx139_3;replace hx139_4:=cb HB.out hx139_4;replace p139:=ezT p139;replace q139:=ezT q139))
            repeat (go_quiet (first |(go_at_call 58;(with_reducible refine (jpa.calls k2 _ _ l1_0 x7_2 t135 _ ?side1 ?side2 A45.out).mono ?_);(case side1=>exact cq (Kd.jea HR1_0.out HB.out));(case side2=>exact HC1_0.out);rintro e w54 ⟨v136,rfl,ho0,hb⟩;have HO137:=am (Kd.jla ho0 (jQ (Y10)));replace BK127:=am (je (g:=gb127) (o:=.cells #[.slice A0_0 l0_0.length c0_0] 37 (0,0)) (kq BK127.out) hb);replace BK128:=am (je (g:=gb128) (o:=.cells #[.slice A1_0 l1_0.length c1_0] 32 (0,0)) (kq BK128.out) hb);replace HB:=am (jl (Y10) hb);(try clear hb);(try clear hb2);(try clear hk);(try clear hi);(try clear ho0);have hcz55_0:=bc0 BK128.out;have hfz55_0:=jf BK128.out 0;obtain ⟨Ao56,co56,eo56⟩:=Kd.jaa HO137.out;subst eo56;have p138:0≤((ji46):Int):=ozD (uq);have q138:(ji46)<(t135.length:Int):=ozD (uq);obtain ⟨ad138,e138,hx138_0⟩:=Kd.jOb (Kd.jB HO137.out).2.2 (ji46) p138 q138;cases e138;replace p138:=ezT p138;replace q138:=ezT q138;have p139:0≤((rd t135 (ji46)):Int):=ozD (uq);have q139:(rd t135 (ji46))<(l1_0.length:Int):=ozD (uq);obtain ⟨ad139,e139,hx139_0,hx139_1,hx139_2,hx139_3,hx139_4⟩:=jfb HR1_0.out (rd t135 (ji46)) p139 q139;cases e139;replace hx139_0:=cb HB.out hx139_0;replace hx139_1:=cb HB.out hx139_1;replace hx139_2:=cb HB.out hx139_2;replace hx139_3:=cb HB.out hx139_3;replace hx139_4:=cb HB.out hx139_4;replace p139:=ezT p139;replace q139:=ezT q139));try go_wp2_with (first |(go_at_call 58;(with_reducible refine (jpa.calls k2 _ _ l1_0 x7_2 t135 _ ?side1 ?side2 A45.out).mono ?_);(case side1=>exact cq (Kd.jea HR1_0.out HB.out));(case side2=>exact HC1_0.out);rintro e w54 ⟨v136,rfl,ho0,hb⟩;have HO137:=am (Kd.jla ho0 (jQ (Y10)));replace BK127:=am (je (g:=gb127) (o:=.cells #[.slice A0_0 l0_0.length c0_0] 37 (0,0)) (kq BK127.out) hb);replace BK128:=am (je (g:=gb128) (o:=.cells #[.slice A1_0 l1_0.length c1_0] 32 (0,0)) (kq BK128.out) hb);replace HB:=am (jl (Y10) hb);(try clear hb);(try clear hb2);(try clear hk);(try clear hi);(try clear ho0);have hcz55_0:=bc0 BK128.out;have hfz55_0:=jf BK128.out 0;obtain ⟨Ao56,co56,eo56⟩:=Kd.jaa HO137.out;subst eo56;have p138:0≤((ji46):Int):=ozD (uq);have q138:(ji46)<(t135.length:Int):=ozD (uq);obtain ⟨ad138,e138,hx138_0⟩:=Kd.jOb (Kd.jB HO137.out).2.2 (ji46) p138 q138;cases e138;replace p138:=ezT p138;replace q138:=ezT q138;have p139:0≤((rd t135 (ji46)):Int):=ozD (uq);have q139:(rd t135 (ji46))<(l1_0.length:Int):=ozD (uq);obtain ⟨ad139,e139,hx139_0,hx139_1,hx139_2,hx139_3,hx139_4⟩:=jfb HR1_0.out (rd t135 (ji46)) p139 q139;cases e139;replace hx139_0:=cb HB.out hx139_0;replace hx139_1:=cb HB.out hx139_1;replace hx139_2:=cb HB.out hx139_2;replace hx139_3:=cb HB.out hx139_3;replace hx139_4:=cb HB.out hx139_4;replace p139:=ezT p139;replace q139:=ezT q139)))
            go_ret
            exact ⟨by first | rfl |(simp [jzb,jyb] <;> rfl) |(simp only [← hji46];first | rfl |(simp [jzb,jyb] <;> rfl)) |(simp [*,jzb,jyb] <;> rfl),Y10⟩
           ·rw [if_neg c51] at H
            have c51b0:decide (0≤((ja l1_0 (rd t135 (ji46))).f3))=false:=dzF c51
            clear c51
            have H':=am H
            clear H
            have hnb57:=NB128_127.out
            have hnc57:=NB127_128.out
            have hcz58_0:=bc0 BK128.out
            have hfz58_0:=jf BK128.out 0
            go_wp2_with (first |(go_at_call 58;(with_reducible refine (jpa.calls k2 _ _ l1_0 x7_2 t135 _ ?side1 ?side2 A45.out).mono ?_);(case side1=>exact cq (Kd.jea HR1_0.out HB.out));(case side2=>exact HC1_0.out);rintro e w59 ⟨v136,rfl,ho0,hb⟩;have HO137:=am (Kd.jla ho0 (jQ (Y10)));replace BK127:=am (je (g:=gb127) (o:=.cells #[.slice A0_0 l0_0.length c0_0] 37 (0,0)) (kq BK127.out) hb);replace BK128:=am (je (g:=gb128) (o:=.cells #[.slice A1_0 l1_0.length c1_0] 32 (0,0)) (kq BK128.out) hb);replace HB:=am (jl (Y10) hb);(try clear hb);(try clear hb2);(try clear hk);(try clear hi);(try clear ho0);have hcz60_0:=bc0 BK128.out;have hfz60_0:=jf BK128.out 0;obtain ⟨Ao61,co61,eo61⟩:=Kd.jaa HO137.out;subst eo61;have p138:0≤((ji46):Int):=ozD (uq);have q138:(ji46)<(t135.length:Int):=ozD (uq);obtain ⟨ad138,e138,hx138_0⟩:=Kd.jOb (Kd.jB HO137.out).2.2 (ji46) p138 q138;cases e138;replace p138:=ezT p138;replace q138:=ezT q138;have p139:0≤((rd t135 (ji46)):Int):=ozD (uq);have q139:(rd t135 (ji46))<(l1_0.length:Int):=ozD (uq);obtain ⟨ad139,e139,hx139_0,hx139_1,hx139_2,hx139_3,hx139_4⟩:=jfb HR1_0.out (rd t135 (ji46)) p139 q139;cases e139;replace hx139_0:=cb HB.out hx139_0;replace hx139_1:=cb HB.out hx139_1;replace hx139_2:=cb HB.out hx139_2;replace hx139_3:=cb HB.out hx139_3;replace hx139_4:=cb HB.out hx139_4;replace p139:=ezT p139;replace q139:=ezT q139))
            repeat (go_quiet (first |(go_at_call 58;(with_reducible refine (jpa.calls k2 _ _ l1_0 x7_2 t135 _ ?side1 ?side2 A45.out).mono ?_);(case side1=>exact cq (Kd.jea HR1_0.out HB.out));(case side2=>exact HC1_0.out);rintro e w59 ⟨v136,rfl,ho0,hb⟩;have HO137:=am (Kd.jla ho0 (jQ (Y10)));replace BK127:=am (je (g:=gb127) (o:=.cells #[.slice A0_0 l0_0.length c0_0] 37 (0,0)) (kq BK127.out) hb);replace BK128:=am (je (g:=gb128) (o:=.cells #[.slice A1_0 l1_0.length c1_0] 32 (0,0)) (kq BK128.out) hb);replace HB:=am (jl (Y10) hb);(try clear hb);(try clear hb2);(try clear hk);(try clear hi);(try clear ho0);have hcz60_0:=bc0 BK128.out;have hfz60_0:=jf BK128.out 0;obtain ⟨Ao61,co61,eo61⟩:=Kd.jaa HO137.out;subst eo61;have p138:0≤((ji46):Int):=ozD (uq);have q138:(ji46)<(t135.length:Int):=ozD (uq);obtain ⟨ad138,e138,hx138_0⟩:=Kd.jOb (Kd.jB HO137.out).2.2 (ji46) p138 q138;cases e138;replace p138:=ezT p138;replace q138:=ezT q138;have p139:0≤((rd t135 (ji46)):Int):=ozD (uq);have q139:(rd t135 (ji46))<(l1_0.length:Int):=ozD (uq);obtain ⟨ad139,e139,hx139_0,hx139_1,hx139_2,hx139_3,hx139_4⟩:=jfb HR1_0.out (rd t135 (ji46)) p139 q139;cases e139;replace hx139_0:=cb HB.out hx139_0;replace hx139_1:=cb HB.out hx139_1;replace hx139_2:=cb HB.out hx139_2;replace hx139_3:=cb HB.out hx139_3;replace hx139_4:=cb HB.out hx139_4;replace p139:=ezT p139;replace q139:=ezT q139));try go_wp2_with (first |(go_at_call 58;(with_reducible refine (jpa.calls k2 _ _ l1_0 x7_2 t135 _ ?side1 ?side2 A45.out).mono ?_);(case side1=>exact cq (Kd.jea HR1_0.out HB.out));(case side2=>exact HC1_0.out);rintro e w59 ⟨v136,rfl,ho0,hb⟩;have HO137:=am (Kd.jla ho0 (jQ (Y10)));replace BK127:=am (je (g:=gb127) (o:=.cells #[.slice A0_0 l0_0.length c0_0] 37 (0,0)) (kq BK127.out) hb);replace BK128:=am (je (g:=gb128) (o:=.cells #[.slice A1_0 l1_0.length c1_0] 32 (0,0)) (kq BK128.out) hb);replace HB:=am (jl (Y10) hb);(try clear hb);(try clear hb2);(try clear hk);(try clear hi);(try clear ho0);have hcz60_0:=bc0 BK128.out;have hfz60_0:=jf BK128.out 0;obtain ⟨Ao61,co61,eo61⟩:=Kd.jaa HO137.out;subst eo61;have p138:0≤((ji46):Int):=ozD (uq);have q138:(ji46)<(t135.length:Int):=ozD (uq);obtain ⟨ad138,e138,hx138_0⟩:=Kd.jOb (Kd.jB HO137.out).2.2 (ji46) p138 q138;cases e138;replace p138:=ezT p138;replace q138:=ezT q138;have p139:0≤((rd t135 (ji46)):Int):=ozD (uq);have q139:(rd t135 (ji46))<(l1_0.length:Int):=ozD (uq);obtain ⟨ad139,e139,hx139_0,hx139_1,hx139_2,hx139_3,hx139_4⟩:=jfb HR1_0.out (rd t135 (ji46)) p139 q139;cases e139;replace hx139_0:=cb HB.out hx139_0;replace hx139_1:=cb HB.out hx139_1;replace hx139_2:=cb HB.out hx139_2;replace hx139_3:=cb HB.out hx139_3;replace hx139_4:=cb HB.out hx139_4;replace p139:=ezT p139;replace q139:=ezT q139)))
            go_roundg k2
            case measure=>have:=HK1.out;have:=HK2.out;omega
            case rel=>exact ⟨(wrap64 (x7_2+1)),(sq),H',⟨by have:=HK1.out;have:=HK2.out;omega⟩,⟨kq BK127.out⟩,⟨kq BK128.out⟩,⟨Y10⟩⟩
          ·rw [if_neg c50] at H
           exact absurd H (by simp)
         ·rw [if_neg c49] at H
          exact absurd H (by simp)
        ·rw [if_neg c48] at H
         exact absurd H (by simp)
       ·rw [if_neg c47] at H
        exact absurd H (by simp)
      ·rw [if_neg c44] at H
       have c44b0:decide (x7_2<(l1_0.length:Int))=false:=dzF c44
       clear c44
       replace H:=bzS H
       obtain ⟨t134,A620,H⟩:=H
       replace H:(if t134=true then (some (decide ((l1_0.length:Int)≤24))) else (some false))=some r:=H
       have A62:=am A620
       clear A620
       by_cases c63:t134=true
       ·subst c63
        have H1:(some (decide ((l1_0.length:Int)≤24)))=some r:=by rw [if_pos rfl] at H;exact H
        clear H
        have H:=H1
        clear H1
        obtain rfl:=Option.some.inj H
        have hnb64:=NB128_127.out
        have hnc64:=NB127_128.out
        have hcz65_0:=bc0 BK128.out
        have hfz65_0:=jf BK128.out 0
        have hcz66_0:=bc0 BK127.out
        have hfz66_0:=jf BK127.out 0
        go_wp2_with (first |(go_at_call 100;(with_reducible refine (jT.calls k2 _ _ l0_0 true _ ?side1 ?side2 A62.out).mono ?_);(case side1=>exact cq (Kd.jea HR0_0.out HB.out));(case side2=>exact HC0_0.out);rintro e w67 ⟨rfl,hb⟩;replace BK127:=am (je (g:=gb127) (o:=.cells #[.slice A0_0 l0_0.length c0_0] 37 (0,0)) (kq BK127.out) hb);replace BK128:=am (je (g:=gb128) (o:=.cells #[.slice A1_0 l1_0.length c1_0] 32 (0,0)) (kq BK128.out) hb);replace HB:=am (jl (Y10) hb);(try clear hb);(try clear hb2);(try clear hk);(try clear hi);have hcz68_0:=bc0 BK128.out;have hfz68_0:=jf BK128.out 0))
        repeat (go_quiet (first |(go_at_call 100;(with_reducible refine (jT.calls k2 _ _ l0_0 true _ ?side1 ?side2 A62.out).mono ?_);(case side1=>exact cq (Kd.jea HR0_0.out HB.out));(case side2=>exact HC0_0.out);rintro e w67 ⟨rfl,hb⟩;replace BK127:=am (je (g:=gb127) (o:=.cells #[.slice A0_0 l0_0.length c0_0] 37 (0,0)) (kq BK127.out) hb);replace BK128:=am (je (g:=gb128) (o:=.cells #[.slice A1_0 l1_0.length c1_0] 32 (0,0)) (kq BK128.out) hb);replace HB:=am (jl (Y10) hb);(try clear hb);(try clear hb2);(try clear hk);(try clear hi);have hcz68_0:=bc0 BK128.out;have hfz68_0:=jf BK128.out 0));try go_wp2_with (first |(go_at_call 100;(with_reducible refine (jT.calls k2 _ _ l0_0 true _ ?side1 ?side2 A62.out).mono ?_);(case side1=>exact cq (Kd.jea HR0_0.out HB.out));(case side2=>exact HC0_0.out);rintro e w67 ⟨rfl,hb⟩;replace BK127:=am (je (g:=gb127) (o:=.cells #[.slice A0_0 l0_0.length c0_0] 37 (0,0)) (kq BK127.out) hb);replace BK128:=am (je (g:=gb128) (o:=.cells #[.slice A1_0 l1_0.length c1_0] 32 (0,0)) (kq BK128.out) hb);replace HB:=am (jl (Y10) hb);(try clear hb);(try clear hb2);(try clear hk);(try clear hi);have hcz68_0:=bc0 BK128.out;have hfz68_0:=jf BK128.out 0)))
        go_ret
        exact ⟨Y2,Y10⟩
       ·replace c63:=Bool.eq_false_iff.mpr c63
        subst c63
        have H1:(some false)=some r:=by rw [if_neg (show ¬ (false=true) by decide)] at H;exact H
        clear H
        have H:=H1
        clear H1
        obtain rfl:=Option.some.inj H
        have hnb69:=NB128_127.out
        have hnc69:=NB127_128.out
        have hcz70_0:=bc0 BK128.out
        have hfz70_0:=jf BK128.out 0
        have hcz71_0:=bc0 BK127.out
        have hfz71_0:=jf BK127.out 0
        go_wp2_with (first |(go_at_call 100;(with_reducible refine (jT.calls k2 _ _ l0_0 false _ ?side1 ?side2 A62.out).mono ?_);(case side1=>exact cq (Kd.jea HR0_0.out HB.out));(case side2=>exact HC0_0.out);rintro e w72 ⟨rfl,hb⟩;replace BK127:=am (je (g:=gb127) (o:=.cells #[.slice A0_0 l0_0.length c0_0] 37 (0,0)) (kq BK127.out) hb);replace BK128:=am (je (g:=gb128) (o:=.cells #[.slice A1_0 l1_0.length c1_0] 32 (0,0)) (kq BK128.out) hb);replace HB:=am (jl (Y10) hb);(try clear hb);(try clear hb2);(try clear hk);(try clear hi)))
        repeat (go_quiet (first |(go_at_call 100;(with_reducible refine (jT.calls k2 _ _ l0_0 false _ ?side1 ?side2 A62.out).mono ?_);(case side1=>exact cq (Kd.jea HR0_0.out HB.out));(case side2=>exact HC0_0.out);rintro e w72 ⟨rfl,hb⟩;replace BK127:=am (je (g:=gb127) (o:=.cells #[.slice A0_0 l0_0.length c0_0] 37 (0,0)) (kq BK127.out) hb);replace BK128:=am (je (g:=gb128) (o:=.cells #[.slice A1_0 l1_0.length c1_0] 32 (0,0)) (kq BK128.out) hb);replace HB:=am (jl (Y10) hb);(try clear hb);(try clear hb2);(try clear hk);(try clear hi)));try go_wp2_with (first |(go_at_call 100;(with_reducible refine (jT.calls k2 _ _ l0_0 false _ ?side1 ?side2 A62.out).mono ?_);(case side1=>exact cq (Kd.jea HR0_0.out HB.out));(case side2=>exact HC0_0.out);rintro e w72 ⟨rfl,hb⟩;replace BK127:=am (je (g:=gb127) (o:=.cells #[.slice A0_0 l0_0.length c0_0] 37 (0,0)) (kq BK127.out) hb);replace BK128:=am (je (g:=gb128) (o:=.cells #[.slice A1_0 l1_0.length c1_0] 32 (0,0)) (kq BK128.out) hb);replace HB:=am (jl (Y10) hb);(try clear hb);(try clear hb2);(try clear hk);(try clear hi))))
        go_ret
        exact ⟨Y2,Y10⟩
def soPos (l : List Int) (x : Int) : Nat → Nat → Nat
 | 0,k=>k
 | n+1,k=>if (k:Int)<(l.length:Int)∧rd l (k:Int)<x then soPos l x n (k+1) else k
def soIns (l : List Int) (x : Int) : List Int := if soPos l x l.length 0 = l.length ∨ rd l (soPos l x l.length 0 : Nat) ≠ x then l.take (soPos l x l.length 0) ++ [x] ++ l.drop (soPos l x l.length 0) else l
def soAll : List Int → List Int → Option (List Int)
 | [],out=>some out
 | x :: r,out=>if out.length<17592186044410 then soAll r (soIns out x) else none
def spec_sorted.f (l0 : List Int) : Option (List Int) := soAll l0 []
mutual
def jVa.j0 : Nat → Int → List Int → Bool → List (S54) → Option (List Int)
 | 0,_,_,_,_=>none
 | k+1,x1,x2,x13,x147000=>if x13=true then (some x2) else (if x2.length<17592186044416 then (if 0≤x1 then (if x1<(x147000.length:Int) then ((jVa.f k x147000 ((ja x147000 x1).f2) (x2 ++ [x1])).bind fun t152=>((jVa.f k x147000 ((ja x147000 x1).f3) t152).bind fun t156=>(some t156))) else (none)) else (none)) else (none))
def jVa.f : Nat → List (S54) → Int → List Int → Option (List Int)
 | 0,_,_,_=>none
 | k+1,l0_0,a1,l2=>if a1<0 then (jVa.j0 k a1 l2 true l0_0) else ((jNa.f k l2 a1).bind fun t147=>(jVa.j0 k a1 l2 t147 l0_0))
end
def jbb.l0 : Nat → List Int → Int → Int → Option (Int)
 | 0,_,_,_=>none
 | k+1,x0,x1,x5=>if x5<(x0.length:Int) then (if 0≤x5 then (if (rd x0 x5)=x1 then (some x5) else (jbb.l0 k x0 x1 (wrap64 (x5+1)))) else (none)) else (some (-1))
def jbb.f (k : Nat) (l0 : List Int) (a1 : Int) : Option (Int) := jbb.l0 k l0 a1 0
def jhb.l0 : Nat → Int → List Int → Int → List (S54) → List (S54) → Option ((List (S54)) × Int)
 | 0,_,_,_,_,_=>none
 | k+1,x1,x6,x8,x161000,x175000=>if x8<(x6.length:Int) then (if 0≤x8 then (if 0≤(rd x6 x8) then (if (rd x6 x8)<(x161000.length:Int) then ((jbb.f k x6 ((ja x161000 (rd x6 x8)).f2)).bind fun t179=>((jbb.f k x6 ((ja x161000 (rd x6 x8)).f3)).bind fun t180=>(if x175000.length<3518437208883 then (jhb.l0 k x1 x6 (wrap64 (x8+1)) x161000 (x175000 ++ [(⟨(ja x161000 (rd x6 x8)).f0,(ja x161000 (rd x6 x8)).f1,t179,t180,(ja x161000 (rd x6 x8)).f4⟩:S54)])) else (none)))) else (none)) else (none)) else (none)) else ((jbb.f k x6 x1).bind fun t175=>(some (x175000,t175)))
def jhb.f (k : Nat) (l0_0 : List (S54)) (a1 : Int) : Option ((List (S54)) × Int) := (jVa.f k l0_0 a1 (([] : List Int))).bind fun t165 => ((spec_sorted.f t165).bind fun t168 => (jhb.l0 k a1 t168 0 l0_0 (([] : List (S54)))))
def jR.l0 : Nat → List Int → Int → Int → Int → Option (Int)
 | 0,_,_,_,_=>none
 | k+1,x0,x1,x7,x8=>if x8<x7 then (if 0≤x8 then (if x8<(x0.length:Int) then (if x1=(rd x0 x8) then (some x8) else (jR.l0 k x0 x1 x7 (wrap64 (x8+1)))) else (none)) else (none)) else (some (-1))
def jR.f (k : Nat) (l0 : List Int) (a1 : Int) : Option (Int) := jR.l0 k l0 a1 (l0.length : Int) 0
set_option maxHeartbeats 8000000 in
set_option maxRecDepth 100000 in
theorem jR.calls (k : Nat) (A0 : Option Addr) (c0 : Nat) (l0 : List Int) (a1 : Int) (r : Int) (w : World) (hr0 : Kd.C (Kd.int .i64) w A0 l0.length l0) (hc0 : l0.length ≤ c0) (h : jR.f k l0 a1 = some r) :
  Calls Try.prog 76 #[.slice A0 l0.length c0, .int .i64 a1] w fun e w'=>e=.returned (.int .i64 r)∧jqb w w':=by
 have HR0:=am hr0
 have HC0:=am hc0
 clear hr0 hc0
 have H:(jR.l0 k l0 a1 (l0.length:Int) 0)=some r:=h
 clear h
 have H':=am H
 clear H
 go_enter Try.func76,Try.ntmps76
 go_wp2
 go_loopg [8] k (fun kq v8 w'=>∃ (x8_1:Int),v8=.int .i64 x8_1∧jw (jR.l0 kq l0 a1 (l0.length:Int) x8_1=some r)∧jw (kq≤k)∧jqb w w')
 case atStart=>exact ⟨(0),(sq),H',⟨Nat.le_refl _⟩,Y6⟩
 case round =>
  clear H'
  try clear p2
  obtain ⟨x8_1,rfl,HA,HK1,⟨m1,rfl⟩⟩:=hrel
  cases gk with
  | zero=>exact absurd HA.out (by simp [jR.l0])
  | succ k1 =>
   have H:=HA.out
   clear HA
   simp only [jR.l0] at H
   by_cases c3:x8_1<(l0.length:Int)
   ·rw [if_pos c3] at H
    have c3b0:decide (x8_1<(l0.length:Int))=true:=dzT c3
    clear c3
    by_cases c4:0≤x8_1
    ·rw [if_pos c4] at H
     have c4b0:decide (0≤x8_1)=true:=dzT c4
     clear c4
     by_cases c5:x8_1<(l0.length:Int)
     ·rw [if_pos c5] at H
      have c5b0:decide (x8_1<(l0.length:Int))=true:=dzT c5
      clear c5
      by_cases c6:a1=(rd l0 x8_1)
      ·rw [if_pos c6] at H
       have c6b0:(a1 == (rd l0 x8_1))=true:=beq_iff_eq.mpr c6
       have c6b1:(a1 != (rd l0 x8_1))=false:=bne_eq_false_iff_eq.mpr c6
       clear c6
       obtain rfl:=Option.some.inj H
       have p227:0≤(x8_1:Int):=ozD (uq)
       have q227:x8_1<(l0.length:Int):=ozD (uq)
       obtain ⟨ad227,e227,hx227_0⟩:=Kd.jOb HR0.out x8_1 p227 q227
       cases e227
       replace p227:=ezT p227
       replace q227:=ezT q227
       go_wp2
       go_ret
       exact ⟨sq,Y6⟩
      ·rw [if_neg c6] at H
       have c6b0:(a1 == (rd l0 x8_1))=false:=beq_eq_false_iff_ne.mpr c6
       have c6b1:(a1 != (rd l0 x8_1))=true:=bne_iff_ne.mpr c6
       have H':=am H
       clear H
       have p227:0≤(x8_1:Int):=ozD (uq)
       have q227:x8_1<(l0.length:Int):=ozD (uq)
       obtain ⟨ad227,e227,hx227_0⟩:=Kd.jOb HR0.out x8_1 p227 q227
       cases e227
       replace p227:=ezT p227
       replace q227:=ezT q227
       go_wp2
       go_roundg k1
       case measure=>have:=HK1.out;omega
       case rel=>exact ⟨(wrap64 (x8_1+1)),(sq),H',⟨by have:=HK1.out;omega⟩,Y6⟩
     ·rw [if_neg c5] at H
      exact absurd H (by simp)
    ·rw [if_neg c4] at H
     exact absurd H (by simp)
   ·rw [if_neg c3] at H
    have c3b0:decide (x8_1<(l0.length:Int))=false:=dzF c3
    clear c3
    obtain rfl:=Option.some.inj H
    go_wp2
    go_ret
    exact ⟨sq,Y6⟩
def jya.f (k : Nat) (l0 : List Int) (a1 : Int) : Option (Bool) := (jR.f k l0 a1).bind fun t228 => (some (decide (t228 ≥ 0)))
set_option maxHeartbeats 8000000 in
set_option maxRecDepth 100000 in
theorem jya.calls (k : Nat) (A0 : Option Addr) (c0 : Nat) (l0 : List Int) (a1 : Int) (r : Bool) (w : World) (hr0 : Kd.C (Kd.int .i64) w A0 l0.length l0) (hc0 : l0.length ≤ c0) (h : jya.f k l0 a1 = some r) :
  Calls Try.prog 81 #[.slice A0 l0.length c0, .int .i64 a1] w fun e w'=>e=.returned (.bool r)∧jqb w w':=by
 have HR0:=am hr0
 have HC0:=am hc0
 clear hr0 hc0
 have H:((jR.f k l0 a1).bind fun t228=>(some (decide (t228≥0))))=some r:=h
 clear h
 replace H:=bzS H
 obtain ⟨t228,A30,H⟩:=H
 replace H:(some (decide (t228≥0)))=some r:=H
 have A3:=am A30
 clear A30
 obtain rfl:=Option.some.inj H
 go_enter Try.func81,Try.ntmps81
 go_wp2_with (first |((with_reducible refine jC (f:=76) rfl ?_);refine gL (some 7) Try.func76 #[.slice A0 l0.length c0, .int .i64 a1] ?_;(with_reducible refine (jR.calls k _ _ l0 a1 t228 _ ?side1 ?side2 A3.out).mono ?_);(case side1=>exact Y171);(case side2=>exact HC0.out);rintro e w' ⟨rfl,⟨nd,rfl⟩⟩;refine ⟨_,rfl,?_⟩))
 go_ret
 exact ⟨sq,Y6⟩
def jOa.f (l0 : List Int) : Option (List Int) := some (l0)
set_option maxHeartbeats 8000000 in
set_option maxRecDepth 100000 in
theorem jOa.calls (P0_ : Nat → Prop) (u9000_ : Value) (l0 : List Int) (r : List Int) (w0 w : World) (hB : Below w0.heap.size w0 w) (ho0 : Kd.R (Kd.int .i64) 3 w w0.heap.size P0_ u9000_ l0) (h : jOa.f l0 = some r) :
  Calls Try.prog 83 #[u9000_] w fun e w'=>∃ v0_:Value,e=.returned (v0_)∧Kd.R (Kd.int .i64) 3 w' w0.heap.size (fun k_=>(P0_ k_∨w.heap.size≤k_)) v0_ r∧Below w0.heap.size w0 w'∧Kept w w' (fun k_=>P0_ k_):=by
 have HO0:=am (show Kd.R (Kd.int .i64) 3 w w0.heap.size (fun k_=>(P0_ k_∨w.heap.size≤k_)) u9000_ l0 from Kd.jD ho0 (fun k_ hk=>(.inl hk)))
 have HK:=am (Kept.refl w (fun k_=>P0_ k_))
 have HW0:=am hB.size
 have HB:=am hB
 clear hB
 have H:(some (l0))=some r:=h
 clear h
 obtain ⟨y229,hy229⟩:∃ y_:List Int,y_=(l0):=⟨_,rfl⟩
 replace H:(some y229)=some r:=by first |(rw [hy229];with_reducible exact H) |(have H2_:=(Option.bind_some _ _).symm.trans H;rw [hy229];with_reducible exact H2_) |(have H2_:=(Option.bind_some _ _).symm.trans H;with_reducible exact H2_) | with_reducible exact H |(rw [hy229];exact H) | exact H
 have Ny229:=am hy229
 clear hy229
 obtain rfl:=Option.some.inj H
 obtain ⟨Ao2,co2,eo2⟩:=Kd.jaa HO0.out
 subst eo2
 obtain ⟨i03,hi03,_,hsz3,_⟩:=info_parts info3
 have hy3:y229.length=l0.length:=(by rw [Ny229.out])
 have hcut3:=cut_clip (P:=Try.prog) 45 3 Try.underlying45 hi03 Ao2 _ co2 _ (Kd.jB HO0.out).2.1 hy3
 have hr3:=Kd.R_clip HO0.out Ny229.out
 clear hy3 hi03 hsz3 HO0
 have HO231:=am hr3
 clear hr3
 go_enter Try.func83,Try.ntmps83
 go_wp2
 go_ret
 exact ⟨_,Y2,rq HO231.out,bq,by repeat (first |(with_reducible first | exact HK.out | apply Kept.alloc | apply Kept.drewN | apply Kept.drew) | exact HK.out)⟩

def jXb (nx : Int → Option Int) : Nat → Int → List Int → Option (List Int)
 | 0,_,_=>none
 | k+1,f,acc=>if f≥0 then ((jya.f k acc f).bind fun b=>if b=true then some acc else (if acc.length<17592186044416 then (nx f).bind fun g=>jXb nx k g (acc ++ [f]) else none)) else some acc
set_option maxHeartbeats 8000000 in
set_option maxRecDepth 100000 in
theorem impl_contexts_walk (k : Nat) (B0_ : Nat) (nx : Int → Option Int) (a0 : Int) (r : List Int) (w : World) (h : jXb nx k a0 [] = some r)
  (hp:∀ W,Below w.heap.size w W→∀ (x y:Int),nx x=some y→Calls Try.prog 86 #[.int .i64 x, .pointer (some ⟨B0_,0,none⟩)] W fun e w'=>e=.returned (.int .i64 y)∧Below W.heap.size W w') :
  Calls Try.prog 85 #[.int .i64 a0, .func (.func 86) #[] #[.pointer (some ⟨B0_,0,none⟩)]] w fun e w'=>∃ v0_:Value,e=.returned v0_∧Kd.R (Kd.int .i64) 3 w' w.heap.size (fun _=>True) v0_ r∧Below w.heap.size w w':=by
 have HP:=am hp
 have H0:=am h
 have HB:=am (Below.refl w.heap.size w)
 clear hp h
 go_enter Try.func85,Try.ntmps85
 go_wp2_with ((with_reducible refine jI (N:=6) rfl ?_);refine Kd.R_lit (Kd.int .i64) _ 3 ?hg (N:=6) ?hd (xs:=([]:List Int)) (inner:=[]) (ok:=fun _=>True) (okp:=fun _=>True) ?hr ?hp (fun _ hk=>hk) trivial (Below.refl _ _) (Nat.le_refl _) (by simp) ?_;(case hd=>rfl);(case hg=>rfl);(case hr=>exact Y4);(case hp=>exact (Reps.none _ _));intro v111 w4 ho5 hb hg_ hnew_;clear hg_ hnew_;have n0_:=am (Kd.jla ho5 (jQ (bq)));have n2_:=am (jl (bq) hb);clear HB;have HO:=n0_;have HB:=n2_;clear n0_ n2_ hb ho5)
 go_loopg [0,5] k (fun kq v0 v5 w'=>∃ (x:Int) (acc:List Int),v0=.int .i64 x∧jw (jXb nx kq x acc=some r)∧jw (kq≤k)∧jw (Kd.R (Kd.int .i64) 3 w' w.heap.size (fun _=>True) v5 acc)∧jw (Below w.heap.size w w'))
 case atStart=>exact ⟨a0,[],(sq),H0,⟨Nat.le_refl _⟩,⟨rq HO.out⟩,⟨bq⟩⟩
 case round =>
  clear H0 HO HB
  obtain ⟨x,acc,rfl,HA,HK1,HO,HB⟩:=hrel
  cases gk with
  | zero=>exact absurd HA.out (by simp [jXb])
  | succ k1 =>
   have H:=HA.out
   clear HA
   simp only [jXb] at H
   obtain ⟨Ao,co,eo⟩:=Kd.jaa HO.out
   subst eo
   by_cases c6:x≥0
   ·rw [if_pos c6] at H
    have c6b0:decide (0≤x)=true:=dzT c6
    clear c6
    obtain ⟨b,A70,H⟩:=bzS H
    have A7:=am A70
    clear A70
    cases b with
    | true =>
     rw [if_pos rfl] at H
     obtain rfl:=Option.some.inj H
     clear H
     go_wp2_with (first |(go_at_call 81;(with_reducible refine (jya.calls k1 _ _ acc x true _ ?side1 ?side2 A7.out).mono ?_);(case side1=>exact cq (Kd.jB HO.out).2.2);(case side2=>exact (Kd.jB HO.out).2.1);rintro e w' ⟨rfl,⟨nd,rfl⟩⟩) |(go_at_call 83;refine (jOa.calls (fun _=>True) _ acc acc w _ (bq) (rq HO.out) (show jOa.f acc=some acc from rfl)).mono ?_;rintro e w9 ⟨v9,rfl,hR9,hB9,hK9⟩))
     go_ret
     exact ⟨_,rfl,Kd.jD hR9 (fun _ _=>trivial),hB9⟩
    | false =>
     rw [if_neg (by simp)] at H
     by_cases c10:acc.length<17592186044416
     ·rw [if_pos c10] at H
      have LM:=am c10
      clear c10
      obtain ⟨y,hy,H⟩:=bzS H
      have HQ:=am hy
      have H':=am H
      clear H hy
      go_wp2_with (first |(go_at_call 81;(with_reducible refine (jya.calls k1 _ _ acc x false _ ?side1 ?side2 A7.out).mono ?_);(case side1=>exact cq (Kd.jB HO.out).2.2);(case side2=>exact (Kd.jB HO.out).2.1);rintro e w' ⟨rfl,⟨nd,rfl⟩⟩) |(go_at_call 86;refine (HP.out _ (bq) _ _ HQ.out).mono ?_;rintro e w2 ⟨rfl,hb2⟩;have n1_:=am (Kd.jP (rq HO.out) hb2);have n2_:=am (jl (bq) hb2);clear HO HB;have HO:=n1_;have HB:=n2_;clear n1_ n2_ hb2) |((with_reducible refine jkb (b:=.append) (xs:=#[.tmp 18, .tmp 20]) rfl ?_);at_builtin;refine Kd.jbc (Kd.int .i64) (w0:=w) w.heap.size rfl (.tmp 18) (.tmp 20) 45 3 (.int .i64 0) 8 rfl Try.underlying45 info3 rfl (by decide) (by omega) (.slice Ao acc.length co) acc x [.int .i64 x] (fun _=>True) (fun _=>False) rfl rfl ?aP (fun _ hk=>hk.elim) ?aF ?aO ?aB ?aS ?aL ?_;(case aP=>exact rfl);(case aB=>exact (bq));(case aF=>exact (fun _ _=>trivial));(case aO=>exact (rq HO.out));(case aS=>exact (jQ (bq)));(case aL=>have:=LM.out;omega);intro v115 w14 ho hb hg hat;have n1_:=am (hb);have n2_:=am (ho);clear HB HO;have HB:=n1_;have HO:=n2_;clear n1_ n2_ ho hb hg hat))
      go_roundg k1
      case measure=>have:=HK1.out;omega
      case rel=>exact ⟨y,acc ++ [x],(sq),H',⟨by have:=HK1.out;omega⟩,⟨rq HO.out⟩,⟨bq⟩⟩
     ·rw [if_neg c10] at H
      cases H
   ·rw [if_neg c6] at H
    have c6b0:decide (0≤x)=false:=dzF c6
    clear c6
    obtain rfl:=Option.some.inj H
    clear H
    go_wp2_with (go_at_call 83;refine (jOa.calls (fun _=>True) _ acc acc w _ (bq) (rq HO.out) (show jOa.f acc=some acc from rfl)).mono ?_;rintro e w9 ⟨v9,rfl,hR9,hB9,hK9⟩)
    go_ret
    exact ⟨_,rfl,Kd.jD hR9 (fun _ _=>trivial),hB9⟩
def ctxF (h : List S54) (g : Int) : Option Int := if 0 ≤ g then if g < (h.length : Int) then some (ja h g).f3 else none else none
theorem impl_contexts1_calls (A_ : Option Addr) (c_ : Nat) (l : List S54) (x y : Int) (B0 : Nat) (w : World) (hr : Kd.C k54 w A_ l.length l) (hc : w.cell? ⟨B0, 0, none⟩ = some (.slice A_ l.length c_)) (h : ctxF l x = some y) :
  Calls Try.prog 86 #[.int .i64 x, .pointer (some ⟨B0,0,none⟩)] w fun e w'=>e=.returned (.int .i64 y)∧Below w.heap.size w w':=by
 unfold ctxF at h
 by_cases h0:0≤x
 ·rw [if_pos h0] at h
  by_cases h1:x<(l.length:Int)
  ·rw [if_pos h1] at h
   obtain ⟨ad,rfl,hx0,hx1,hx2,hx3,hx4⟩:=jfb hr x h0 h1
   have HY:=am (Option.some.inj h)
   have HB:=am (Below.refl w.heap.size w)
   clear h hr
   have p0:=ezT h0
   have p1:=ezT h1
   have hu32:=Try.underlying32
   go_enter Try.func86,Try.ntmps86
   go_wp2
   go_ret
   exact ⟨by rw [← HY.out];rfl,bq⟩
  ·rw [if_neg h1] at h;cases h
 ·rw [if_neg h0] at h;cases h
def jSa.f (k : Nat) (l0_0 : List S54) (a1 : Int) : Option (List Int) := jXb (ctxF l0_0) k a1 []
theorem hp_cell_new (w : World) (v : Value) (t : TypeId) : (w.alloc (.cells #[v] t)).cell? ⟨w.heap.size, 0, none⟩ = some v := by simp
set_option maxHeartbeats 8000000 in
set_option maxRecDepth 100000 in
theorem jSa.calls (k : Nat) (A0_0 : Option Addr) (c0_0 : Nat) (l0_0 : List (S54)) (a1 : Int) (r : List Int) (w : World) (hr0_0 : Kd.C k54 w A0_0 l0_0.length l0_0) (hc0_0 : l0_0.length ≤ c0_0) (h : jSa.f k l0_0 a1 = some r) :
  Calls Try.prog 57 #[.agg #[.slice A0_0 l0_0.length c0_0], .int .i64 a1] w fun e w'=>∃ v0_:Value,e=.returned (v0_)∧Kd.R (Kd.int .i64) 3 w' w.heap.size (fun _=>True) v0_ r∧Below w.heap.size w w':=by
 have hu32:=Try.underlying32
 have B3:=am ((Below.refl w.heap.size w).alloc (Nat.le_refl _) (.cells #[.slice A0_0 l0_0.length c0_0] 32))
 have KC:=am (hp_cell_new w (.slice A0_0 l0_0.length c0_0) 32)
 have HF:=am (fun W (hb:Below w.heap.size w W) (B0:Nat) (hc:W.cell? ⟨B0,0,none⟩=some (.slice A0_0 l0_0.length c0_0))=>impl_contexts_walk k B0 (ctxF l0_0) a1 r W h (fun W' hb' x y hx =>
  impl_contexts1_calls A0_0 c0_0 l0_0 x y B0 W' (Kd.jea (Kd.jea hr0_0 hb) hb') (jDa hb' hc) hx))
 clear h hr0_0
 go_enter Try.func57,Try.ntmps57
 go_wp2_with (go_at_call 85;refine (HF.out _ B3.out _ KC.out).mono ?_;rintro e w2 ⟨v2,rfl,hr2,hb3⟩)
 go_ret
 exact ⟨_,rfl,Kd.jla hr2 B3.out.size,jDb B3.out B3.out.size hb3⟩
def jwa.f (a0 : Int) (a1 : Int) (a2 : Int) : Option (Bool) := if a0 ≥ a1 then (some (decide (a0 ≤ a2))) else (some false)
set_option maxHeartbeats 8000000 in
set_option maxRecDepth 100000 in
theorem jwa.calls (a0 : Int) (a1 : Int) (a2 : Int) (r : Bool) (w : World) (h : jwa.f a0 a1 a2 = some r) :
  Calls Try.prog 102 #[.int .i64 a0, .int .i64 a1, .int .i64 a2] w fun e w'=>e=.returned (.bool r)∧jqb w w':=by
 have H:(if a0≥a1 then (some (decide (a0≤a2))) else (some false))=some r:=h
 clear h
 by_cases c4:a0≥a1
 ·rw [if_pos c4] at H
  have c4b0:decide (a1≤a0)=true:=dzT c4
  clear c4
  obtain rfl:=Option.some.inj H
  go_enter Try.func102,Try.ntmps102
  go_wp2
  go_ret
  exact ⟨sq,Y6⟩
 ·rw [if_neg c4] at H
  have c4b0:decide (a1≤a0)=false:=dzF c4
  clear c4
  obtain rfl:=Option.some.inj H
  go_enter Try.func102,Try.ntmps102
  go_wp2
  go_ret
  exact ⟨sq,Y6⟩
def jRa.f (l0_0 : List (S94)) (a1 : Int) : Option (Bool) := (jwa.f a1 0 (wrap64 ((l0_0.length : Int) - 1))).bind fun t235 => (some t235)
set_option maxHeartbeats 8000000 in
set_option maxRecDepth 100000 in
theorem jRa.calls (A0_0 : Option Addr) (c0_0 : Nat) (l0_0 : List (S94)) (a1 : Int) (r : Bool) (w : World) (hr0_0 : Kd.C k94 w A0_0 l0_0.length l0_0) (hc0_0 : l0_0.length ≤ c0_0) (h : jRa.f l0_0 a1 = some r) :
  Calls Try.prog 94 #[.agg #[.slice A0_0 l0_0.length c0_0], .int .i64 a1] w fun e w'=>e=.returned (.bool r)∧Below w.heap.size w w':=by
 have hu37:=Try.underlying37
 have HR0_0:=am hr0_0
 have HC0_0:=am hc0_0
 clear hr0_0 hc0_0
 have HB:=am (Below.refl w.heap.size w)
 have H:((jwa.f a1 0 (wrap64 ((l0_0.length:Int) - 1))).bind fun t235=>(some t235))=some r:=h
 clear h
 replace H:=bzS H
 obtain ⟨t235,A30,H⟩:=H
 replace H:(some t235)=some r:=H
 have A3:=am A30
 clear A30
 obtain rfl:=Option.some.inj H
 go_enter Try.func94,Try.ntmps94
 go_wp2_with (first |((with_reducible refine jI (N:=2) rfl ?_);refine bE (N:=2) (cs:=#[.slice A0_0 l0_0.length c0_0]) (t:=37) ?_;intro gb234 hg w4 hbox hb;have BK234:=am (hbox);have GW234:=am ((Y1:w.heap.size≤gb234));have GE234:=am ((Y1:w.heap.size≤gb234));replace HB:=am (jl (bq) hb);clear hb hbox hg;have hcz5_0:=bc0 BK234.out;have hfz5_0:=jf BK234.out 0) |((with_reducible refine jC (f:=102) rfl ?_);refine gL (some 10) Try.func102 #[.int .i64 a1, .int .i64 0, .int .i64 (wrap64 ((l0_0.length:Int) - 1))] ?_;(with_reducible refine (jwa.calls a1 0 (wrap64 ((l0_0.length:Int) - 1)) t235 _ A3.out).mono ?_);rintro e w' ⟨rfl,⟨nd,rfl⟩⟩;refine ⟨_,rfl,?_⟩))
 go_ret
 exact ⟨Y2,by repeat (first |(with_reducible first | exact HB.out | apply jy | apply jo | apply jr | refine jk ?_ GE234.out) | exact HB.out)⟩
def jnb.f (a0 : Int) : Option (Bool) := (jwa.f a0 0 99).bind fun t236 => (some t236)
set_option maxHeartbeats 8000000 in
set_option maxRecDepth 100000 in
theorem jnb.calls (a0 : Int) (r : Bool) (w : World) (h : jnb.f a0 = some r) :
  Calls Try.prog 95 #[.int .i64 a0] w fun e w'=>e=.returned (.bool r)∧jqb w w':=by
 have H:((jwa.f a0 0 99).bind fun t236=>(some t236))=some r:=h
 clear h
 replace H:=bzS H
 obtain ⟨t236,A20,H⟩:=H
 replace H:(some t236)=some r:=H
 have A2:=am A20
 clear A20
 obtain rfl:=Option.some.inj H
 go_enter Try.func95,Try.ntmps95
 go_wp2_with (first |((with_reducible refine jC (f:=102) rfl ?_);refine gL (some 4) Try.func102 #[.int .i64 a0, .int .i64 0, .int .i64 99] ?_;(with_reducible refine (jwa.calls a0 0 99 t236 _ A2.out).mono ?_);rintro e w' ⟨rfl,⟨nd,rfl⟩⟩;refine ⟨_,rfl,?_⟩))
 go_ret
 exact ⟨sq,Y6⟩
end Go.Proofs.Ytecdfgejmbpclaa.P
end
