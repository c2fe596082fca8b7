/- One part of the proofs on this program: functions of the program as plain functions, that the code comes to them, and facts on them. -/
import Derived.ArgAppend
import Derived.Below
import Derived.BigQuiet
import Derived.Deep.AppendLies
import Derived.Deep.CutBlock
import Derived.Deep.DeepCutAuto
import Derived.Deep.Draws
import Derived.Deep.LoopGhost
import Derived.Deep.OwnRows
import Derived.Deep.QuietTactic
import Derived.Deep.RegionHeld3
import Derived.KernelRfl
import Derived.Laws.BitsLemmas
import Derived.Laws.BytesArg
import Derived.Laws.IdiomCopy
import Derived.Laws.MakeOwn
import Derived.Laws.OwnMore
import Derived.Laws.Rows
import Derived.Laws.Slices
import Derived.Laws.StructEq
import Derived.Lib.AppendStr
import Derived.Lib.ConvBytes
import Derived.LoopTactic
import Derived.Maps.AppendAt
import Derived.OrdersHeld
import Derived.OwnWalk
import Derived.RowKit
import Derived.RowKit3
import Derived.Tactics
import Derived.WalkKit
import Derived.WideLaws
import Derived.Test.YtkhiiiddbmgiaaaProg
import Derived.Test.YtkhiiiddbmgiaaaYWApart
import Derived.Test.YtkhiiiddbmgiaaaYWAuto
import Derived.Test.YtkhiiiddbmgiaaaYWClip
import Derived.Test.YtkhiiiddbmgiaaaYWFoot
import Derived.Test.YtkhiiiddbmgiaaaYWGuard
import Derived.Test.YtkhiiiddbmgiaaaYWIdx
import Derived.Test.YtkhiiiddbmgiaaaYWInv
import Derived.Test.YtkhiiiddbmgiaaaYWKept
import Derived.Test.YtkhiiiddbmgiaaaYWLast
import Derived.Test.YtkhiiiddbmgiaaaYWMkcap
import Derived.Test.YtkhiiiddbmgiaaaYWMore
import Derived.Test.YtkhiiiddbmgiaaaYWN
import Derived.Test.YtkhiiiddbmgiaaaYWRepsOne
import Derived.Test.YtkhiiiddbmgiaaaYWShare
import Derived.Test.YtkhiiiddbmgiaaaYWSome
import Derived.Test.YtkhiiiddbmgiaaaYWTab
import Derived.Test.YtkhiiiddbmgiaaaYWWords
section
namespace Go.Proofs.Ytkhiiiddbmgiaaa.P
open Go.RowKit Go.Proofs.YtkhiiiddbmgiaaaW.PrintWords Go.Proofs.YtkhiiiddbmgiaaaW.PrintLast Go.Proofs.YtkhiiiddbmgiaaaW.PrintMore
attribute [local go_sem] jU jS jia jha jM jL jT jR jc
set_option linter.unusedVariables false
set_option linter.unusedSimpArgs false
def errW : Option Int → Value
 | none=>.nilIface
 | some c=>.iface 0 (.int .i64 c)
theorem errW_none : errW none = .nilIface := rfl
theorem errW_some (c : Int) : errW (some c) = .iface 0 (.int .i64 c) := rfl
theorem info3 : (Try.prog.info? 3).map (fun i => (i.zero, i.size, i.bytes)) = some (some (.int .i64 0), 1, 8) := by kernel_rfl
theorem info52 : (Try.prog.info? 52).map (fun i => (i.zero, i.size, i.bytes)) = some (some (.agg #[(.int .i64 0), (.int .i64 0), (.int .i64 0), (.int .i64 0)]), 4, 32) := by kernel_rfl
theorem info78 : (Try.prog.info? 78).map (fun i => (i.zero, i.size, i.bytes)) = some (some (.agg #[(.string ⟨#[]⟩), (.int .i64 0)]), 2, 24) := by kernel_rfl
structure S77 where
 f0:ByteArray
 f1:Int
def z77 : S77 := ⟨(⟨#[]⟩ : ByteArray), (0 : Int)⟩
def k77 : Kd S77 := Kd.iso (Kd.pair Kd.string (Kd.int .i64)) (fun x : S77 => (x.f0, x.f1))
theorem k77_open {w : World} {x : S77} {cs : List Value} (h : k77.K w x cs) : cs = [.string x.f0, .int .i64 x.f1] := by
 obtain ⟨_,_,rfl,rfl,rfl⟩:=h
 exact rfl
theorem k77_mk (w : World) (x : S77)  : k77.K w x [.string x.f0, .int .i64 x.f1] := ⟨[.string x.f0], [.int .i64 x.f1], rfl, rfl, rfl⟩
def jDb (xs : List S77) (i : Int) : S77 := xs.getD i.toNat z77
theorem at_T77 {w : World} {A : Option Addr} {n : Nat} {xs : List S77} (h : Kd.C k77 w A n xs) (i : Int) (h0 : 0 ≤ i) (h1 : i < n) : ∃ ad , A = some ad ∧ w.cell? (ad.add (i.toNat * 2)) = some (.string (jDb xs i).f0) ∧ w.cell? ⟨(ad.add (i.toNat * 2)).block, (ad.add (i.toNat * 2)).off + 1, none⟩ = some (.int .i64 (jDb xs i).f1) := by
 obtain ⟨ad,c,e,_,hK,hc0⟩:=Kd.C_get h z77 i h0 h1
 have hc:∀ j u,c[j]?=some u→w.cell? (ad.add (i.toNat * 2+j))=some u:=hc0
 obtain rfl:=k77_open hK
 exact ⟨ad,e,hc 0 _ rfl,by rw [← jWb _ _ 1 (by omega)];exact hc 1 _ rfl⟩
structure S55 where
 f0:Int
 f1:Int
 f2:Int
 f3:Int
def z55 : S55 := ⟨(0 : Int), (0 : Int), (0 : Int), (0 : Int)⟩
def k55 : Kd S55 := Kd.iso (Kd.pair (Kd.int .i64) (Kd.pair (Kd.int .i64) (Kd.pair (Kd.int .i64) (Kd.int .i64)))) (fun x : S55 => (x.f0, x.f1, x.f2, x.f3))
theorem k55_open {w : World} {x : S55} {cs : List Value} (h : k55.K w x cs) : cs = [.int .i64 x.f0, .int .i64 x.f1, .int .i64 x.f2, .int .i64 x.f3] := by
 obtain ⟨_,_,rfl,rfl,⟨_,_,rfl,rfl,⟨_,_,rfl,rfl,rfl⟩⟩⟩:=h
 exact rfl
theorem k55_mk (w : World) (x : S55)  : k55.K w x [.int .i64 x.f0, .int .i64 x.f1, .int .i64 x.f2, .int .i64 x.f3] := ⟨[.int .i64 x.f0], [.int .i64 x.f1, .int .i64 x.f2, .int .i64 x.f3], rfl, rfl, ⟨[.int .i64 x.f1], [.int .i64 x.f2, .int .i64 x.f3], rfl, rfl, ⟨[.int .i64 x.f2], [.int .i64 x.f3], rfl, rfl, rfl⟩⟩⟩
def jPb (xs : List S55) (i : Int) : S55 := xs.getD i.toNat z55
theorem at_T55 {w : World} {A : Option Addr} {n : Nat} {xs : List S55} (h : Kd.C k55 w A n xs) (i : Int) (h0 : 0 ≤ i) (h1 : i < n) : ∃ ad , A = some ad ∧ w.cell? (ad.add (i.toNat * 4)) = some (.int .i64 (jPb xs i).f0) ∧ w.cell? ⟨(ad.add (i.toNat * 4)).block, (ad.add (i.toNat * 4)).off + 1, none⟩ = some (.int .i64 (jPb xs i).f1) ∧ w.cell? ⟨(ad.add (i.toNat * 4)).block, (ad.add (i.toNat * 4)).off + 2, none⟩ = some (.int .i64 (jPb xs i).f2) ∧ w.cell? ⟨(ad.add (i.toNat * 4)).block, (ad.add (i.toNat * 4)).off + 3, none⟩ = some (.int .i64 (jPb xs i).f3) := by
 obtain ⟨ad,c,e,_,hK,hc0⟩:=Kd.C_get h z55 i h0 h1
 have hc:∀ j u,c[j]?=some u→w.cell? (ad.add (i.toNat * 4+j))=some u:=hc0
 obtain rfl:=k55_open hK
 exact ⟨ad,e,hc 0 _ rfl,by rw [← jWb _ _ 1 (by omega)];exact hc 1 _ rfl,by rw [← jWb _ _ 2 (by omega)];exact hc 2 _ rfl,by rw [← jWb _ _ 3 (by omega)];exact hc 3 _ rfl⟩
structure S78 where
 f0:ByteArray
 f1:Int
def z78 : S78 := ⟨(⟨#[]⟩ : ByteArray), (0 : Int)⟩
def k78 : Kd S78 := Kd.iso (Kd.pair Kd.string (Kd.int .i64)) (fun x : S78 => (x.f0, x.f1))
theorem k78_open {w : World} {x : S78} {cs : List Value} (h : k78.K w x cs) : cs = [.string x.f0, .int .i64 x.f1] := by
 obtain ⟨_,_,rfl,rfl,rfl⟩:=h
 exact rfl
theorem jkc {w : World} {base : Nat} {ok : Nat → Prop} {x : S78} {cs : List Value} (h : k78.M w base ok x cs) : cs = [.string x.f0, .int .i64 x.f1] := by
 obtain ⟨_,_,rfl,rfl,rfl⟩:=h
 exact rfl
theorem k78_mkM (w : World) (base : Nat) (ok : Nat → Prop) (x : S78)  : k78.M w base ok x [.string x.f0, .int .i64 x.f1] := ⟨[.string x.f0], [.int .i64 x.f1], rfl, rfl, rfl⟩
def jK (xs : List S78) (i : Int) : S78 := xs.getD i.toNat z78
theorem at_T78 {w : World} {A : Option Addr} {n : Nat} {xs : List S78} (h : Kd.C k78 w A n xs) (i : Int) (h0 : 0 ≤ i) (h1 : i < n) : ∃ ad , A = some ad ∧ w.cell? (ad.add (i.toNat * 2)) = some (.string (jK xs i).f0) ∧ w.cell? ⟨(ad.add (i.toNat * 2)).block, (ad.add (i.toNat * 2)).off + 1, none⟩ = some (.int .i64 (jK xs i).f1) := by
 obtain ⟨ad,c,e,_,hK,hc0⟩:=Kd.C_get h z78 i h0 h1
 have hc:∀ j u,c[j]?=some u→w.cell? (ad.add (i.toNat * 2+j))=some u:=hc0
 obtain rfl:=k78_open hK
 exact ⟨ad,e,hc 0 _ rfl,by rw [← jWb _ _ 1 (by omega)];exact hc 1 _ rfl⟩
structure S52 where
 f0:Int
 f1:Int
 f2:Int
 f3:Int
def z52 : S52 := ⟨(0 : Int), (0 : Int), (0 : Int), (0 : Int)⟩
def k52 : Kd S52 := Kd.iso (Kd.pair (Kd.int .i64) (Kd.pair (Kd.int .i64) (Kd.pair (Kd.int .i64) (Kd.int .i64)))) (fun x : S52 => (x.f0, x.f1, x.f2, x.f3))
theorem k52_open {w : World} {x : S52} {cs : List Value} (h : k52.K w x cs) : cs = [.int .i64 x.f0, .int .i64 x.f1, .int .i64 x.f2, .int .i64 x.f3] := by
 obtain ⟨_,_,rfl,rfl,⟨_,_,rfl,rfl,⟨_,_,rfl,rfl,rfl⟩⟩⟩:=h
 exact rfl
theorem jFb {w : World} {base : Nat} {ok : Nat → Prop} {x : S52} {cs : List Value} (h : k52.M w base ok x cs) : cs = [.int .i64 x.f0, .int .i64 x.f1, .int .i64 x.f2, .int .i64 x.f3] := by
 obtain ⟨_,_,rfl,rfl,⟨_,_,rfl,rfl,⟨_,_,rfl,rfl,rfl⟩⟩⟩:=h
 exact rfl
theorem k52_mkM (w : World) (base : Nat) (ok : Nat → Prop) (x : S52)  : k52.M w base ok x [.int .i64 x.f0, .int .i64 x.f1, .int .i64 x.f2, .int .i64 x.f3] := ⟨[.int .i64 x.f0], [.int .i64 x.f1, .int .i64 x.f2, .int .i64 x.f3], rfl, rfl, ⟨[.int .i64 x.f1], [.int .i64 x.f2, .int .i64 x.f3], rfl, rfl, ⟨[.int .i64 x.f2], [.int .i64 x.f3], rfl, rfl, rfl⟩⟩⟩
def jb (xs : List S52) (i : Int) : S52 := xs.getD i.toNat z52
theorem jba {w : World} {A : Option Addr} {n : Nat} {xs : List S52} (h : Kd.C k52 w A n xs) (i : Int) (h0 : 0 ≤ i) (h1 : i < n) : ∃ ad , A = some ad ∧ w.cell? (ad.add (i.toNat * 4)) = some (.int .i64 (jb xs i).f0) ∧ w.cell? ⟨(ad.add (i.toNat * 4)).block, (ad.add (i.toNat * 4)).off + 1, none⟩ = some (.int .i64 (jb xs i).f1) ∧ w.cell? ⟨(ad.add (i.toNat * 4)).block, (ad.add (i.toNat * 4)).off + 2, none⟩ = some (.int .i64 (jb xs i).f2) ∧ w.cell? ⟨(ad.add (i.toNat * 4)).block, (ad.add (i.toNat * 4)).off + 3, none⟩ = some (.int .i64 (jb xs i).f3) := by
 obtain ⟨ad,c,e,_,hK,hc0⟩:=Kd.C_get h z52 i h0 h1
 have hc:∀ j u,c[j]?=some u→w.cell? (ad.add (i.toNat * 4+j))=some u:=hc0
 obtain rfl:=k52_open hK
 exact ⟨ad,e,hc 0 _ rfl,by rw [← jWb _ _ 1 (by omega)];exact hc 1 _ rfl,by rw [← jWb _ _ 2 (by omega)];exact hc 2 _ rfl,by rw [← jWb _ _ 3 (by omega)];exact hc 3 _ rfl⟩
def jwb.f (a0_0 : ByteArray) (a0_1 : Int) (a1 : Int) : Option (Int) := if (wrap64 (a1 - (a0_0.size : Int))) < 0 then (some (-1)) else (some (wrap64 (a1 - (a0_0.size : Int))))
set_option maxHeartbeats 8000000 in
set_option maxRecDepth 100000 in
theorem jwb.calls (a0_0 : ByteArray) (a0_1 : Int) (a1 : Int) (r : Int) (w : World) (h : jwb.f a0_0 a0_1 a1 = some r) :
  Calls Try.prog 56 #[.agg #[.string a0_0, .int .i64 a0_1], .int .i64 a1] w fun e w'=>e=.returned (.int .i64 r)∧Below w.heap.size w w':=by
 have hu77:=Try.underlying77
 have HB:=am (Below.refl w.heap.size w)
 have H:(if (wrap64 (a1 - (a0_0.size:Int)))<0 then (some (-1)) else (some (wrap64 (a1 - (a0_0.size:Int)))))=some r:=h
 clear h
 by_cases c3:(wrap64 (a1 - (a0_0.size:Int)))<0
 ·rw [if_pos c3] at H
  have c3b0:decide ((wrap64 (a1 - (a0_0.size:Int)))<0)=true:=dzT c3
  clear c3
  obtain rfl:=Option.some.inj H
  go_enter Try.func56,Try.ntmps56
  go_wp2_with (first |((with_reducible refine jP (N:=2) rfl ?_);refine bE (N:=2) (cs:=#[.string a0_0, .int .i64 a0_1]) (t:=77) ?_;intro gb101 hg w4 hbox hb;have BK101:=am (hbox);have GW101:=am ((Y1:w.heap.size≤gb101));have GE101:=am ((Y1:w.heap.size≤gb101));replace HB:=am (jd (bq) hb);clear hb hbox hg;have hcz5_0:=bc0 BK101.out;have hcz5_1:=bc1 BK101.out;have hfz5_0:=ja BK101.out 0;have hfz5_1:=ja BK101.out 1))
  go_ret
  exact ⟨Y0,Y38⟩
 ·rw [if_neg c3] at H
  have c3b0:decide ((wrap64 (a1 - (a0_0.size:Int)))<0)=false:=dzF c3
  clear c3
  obtain rfl:=Option.some.inj H
  go_enter Try.func56,Try.ntmps56
  go_wp2_with (first |((with_reducible refine jP (N:=2) rfl ?_);refine bE (N:=2) (cs:=#[.string a0_0, .int .i64 a0_1]) (t:=77) ?_;intro gb101 hg w6 hbox hb;have BK101:=am (hbox);have GW101:=am ((Y1:w.heap.size≤gb101));have GE101:=am ((Y1:w.heap.size≤gb101));replace HB:=am (jd (bq) hb);clear hb hbox hg;have hcz7_0:=bc0 BK101.out;have hcz7_1:=bc1 BK101.out;have hfz7_0:=ja BK101.out 0;have hfz7_1:=ja BK101.out 1))
  go_ret
  exact ⟨Y0,Y38⟩
def jwa.l0 : Nat → List (S77) → Int → Int → Option (Int)
 | 0,_,_,_=>none
 | k+1,x0,x1,x5=>if x5<(x0.length:Int) then (if 0≤x5 then ((jwb.f ((jDb x0 x5).f0) ((jDb x0 x5).f1) x1).bind fun t103=>(if t103<0 then (some (-1)) else (jwa.l0 k x0 t103 (wrap64 (x5+1))))) else (none)) else (some x1)
def jwa.f (k : Nat) (l0 : List (S77)) (a1 : Int) : Option (Int) := if (wrap64 (a1 - (l0.length : Int))) < 0 then (some (-1)) else (jwa.l0 k l0 (wrap64 (a1 - (l0.length : Int))) 0)
set_option maxHeartbeats 8000000 in
set_option maxRecDepth 100000 in
theorem jwa.calls (k : Nat) (A0 : Option Addr) (c0 : Nat) (l0 : List (S77)) (a1 : Int) (r : Int) (w : World) (hr0 : Kd.C k77 w A0 l0.length l0) (hc0 : l0.length ≤ c0) (h : jwa.f k l0 a1 = some r) :
  Calls Try.prog 28 #[.slice A0 l0.length c0, .int .i64 a1] w fun e w'=>e=.returned (.int .i64 r)∧Below w.heap.size w w':=by
 have hu77:=Try.underlying77
 have HR0:=am hr0
 have HC0:=am hc0
 clear hr0 hc0
 have HB:=am (Below.refl w.heap.size w)
 have H:(if (wrap64 (a1 - (l0.length:Int)))<0 then (some (-1)) else (jwa.l0 k l0 (wrap64 (a1 - (l0.length:Int))) 0))=some r:=h
 clear h
 by_cases c3:(wrap64 (a1 - (l0.length:Int)))<0
 ·rw [if_pos c3] at H
  have c3b0:decide ((wrap64 (a1 - (l0.length:Int)))<0)=true:=dzT c3
  clear c3
  obtain rfl:=Option.some.inj H
  go_enter Try.func28,Try.ntmps28
  go_wp2
  go_ret
  exact ⟨Y0,bq⟩
 ·rw [if_neg c3] at H
  have c3b0:decide ((wrap64 (a1 - (l0.length:Int)))<0)=false:=dzF c3
  clear c3
  have H':=am H
  clear H
  go_enter Try.func28,Try.ntmps28
  go_wp2
  go_loopg [1,5] k (fun kq v1 v5 w'=>∃ (x1_1:Int) (x5_1:Int),v1=.int .i64 x1_1∧v5=.int .i64 x5_1∧jk (jwa.l0 kq l0 x1_1 x5_1=some r)∧jk (kq≤k)∧jk (Below w.heap.size w w'))
  case atStart=>exact ⟨(wrap64 (a1 - (l0.length:Int))),(0),(sq),(sq),H',⟨Nat.le_refl _⟩,⟨bq⟩⟩
  case round =>
   clear H'
   try clear c2
   try clear p2
   try clear c3
   try clear c3b0
   obtain ⟨x1_1,x5_1,rfl,rfl,HA,HK1,HB⟩:=hrel
   cases gk with
   | zero=>exact absurd HA.out (by simp [jwa.l0])
   | succ k1 =>
    have H:=HA.out
    clear HA
    simp only [jwa.l0] at H
    by_cases c4:x5_1<(l0.length:Int)
    ·rw [if_pos c4] at H
     have c4b0:decide (x5_1<(l0.length:Int))=true:=dzT c4
     clear c4
     by_cases c5:0≤x5_1
     ·rw [if_pos c5] at H
      have c5b0:decide (0≤x5_1)=true:=dzT c5
      clear c5
      replace H:=bzS H
      obtain ⟨t103,A60,H⟩:=H
      replace H:(if t103<0 then (some (-1)) else (jwa.l0 k1 l0 t103 (wrap64 (x5_1+1))))=some r:=H
      have A6:=am A60
      clear A60
      by_cases c7:t103<0
      ·rw [if_pos c7] at H
       have c7b0:decide (t103<0)=true:=dzT c7
       clear c7
       obtain rfl:=Option.some.inj H
       have p102:0≤(x5_1:Int):=ozD (uq)
       have q102:x5_1<(l0.length:Int):=ozD (uq)
       obtain ⟨ad102,e102,hx102_0,hx102_1⟩:=at_T77 HR0.out x5_1 p102 q102
       cases e102
       replace hx102_0:=cb HB.out hx102_0
       replace hx102_1:=cb HB.out hx102_1
       replace p102:=ezT p102
       replace q102:=ezT q102
       go_wp2_with (first |((with_reducible refine je (f:=56) rfl ?_);refine gL (some 23) Try.func56 #[.agg #[.string ((jDb l0 x5_1).f0), .int .i64 ((jDb l0 x5_1).f1)], .int .i64 x1_1] ?_;(with_reducible refine (jwb.calls ((jDb l0 x5_1).f0) ((jDb l0 x5_1).f1) x1_1 t103 _ A6.out).mono ?_);rintro e w8 ⟨rfl,hb⟩;refine ⟨_,rfl,?_⟩;replace HB:=am (jd (bq) hb);(try clear hb);(try clear hb2);(try clear hk);(try clear hi)))
       go_ret
       exact ⟨Y0,bq⟩
      ·rw [if_neg c7] at H
       have c7b0:decide (t103<0)=false:=dzF c7
       clear c7
       have H':=am H
       clear H
       have p102:0≤(x5_1:Int):=ozD (uq)
       have q102:x5_1<(l0.length:Int):=ozD (uq)
       obtain ⟨ad102,e102,hx102_0,hx102_1⟩:=at_T77 HR0.out x5_1 p102 q102
       cases e102
       replace hx102_0:=cb HB.out hx102_0
       replace hx102_1:=cb HB.out hx102_1
       replace p102:=ezT p102
       replace q102:=ezT q102
       go_wp2_with (first |((with_reducible refine je (f:=56) rfl ?_);refine gL (some 23) Try.func56 #[.agg #[.string ((jDb l0 x5_1).f0), .int .i64 ((jDb l0 x5_1).f1)], .int .i64 x1_1] ?_;(with_reducible refine (jwb.calls ((jDb l0 x5_1).f0) ((jDb l0 x5_1).f1) x1_1 t103 _ A6.out).mono ?_);rintro e w9 ⟨rfl,hb⟩;refine ⟨_,rfl,?_⟩;replace HB:=am (jd (bq) hb);(try clear hb);(try clear hb2);(try clear hk);(try clear hi)))
       go_roundg k1
       case measure=>have:=HK1.out;omega
       case rel=>exact ⟨(t103),(wrap64 (x5_1+1)),(sq),(sq),H',⟨by have:=HK1.out;omega⟩,⟨bq⟩⟩
     ·rw [if_neg c5] at H
      exact absurd H (by simp)
    ·rw [if_neg c4] at H
     have c4b0:decide (x5_1<(l0.length:Int))=false:=dzF c4
     clear c4
     obtain rfl:=Option.some.inj H
     go_wp2
     go_ret
     exact ⟨Y0,bq⟩
def jrb.f (k : Nat) (l0_0 : List (S77)) (a1 : Int) : Option (Int) := (jwa.f k l0_0 a1).bind fun t105 => (if t105 < 0 then (some (-1)) else (some t105))
set_option maxHeartbeats 8000000 in
set_option maxRecDepth 100000 in
theorem jrb.calls (k : Nat) (A0_0 : Option Addr) (c0_0 : Nat) (l0_0 : List (S77)) (a1 : Int) (r : Int) (w : World) (hr0_0 : Kd.C k77 w A0_0 l0_0.length l0_0) (hc0_0 : l0_0.length ≤ c0_0) (h : jrb.f k l0_0 a1 = some r) :
  Calls Try.prog 7 #[.agg #[.slice A0_0 l0_0.length c0_0], .int .i64 a1] w fun e w'=>e=.returned (.int .i64 r)∧Below w.heap.size w w':=by
 have hu24:=Try.underlying24
 have HR0_0:=am hr0_0
 have HC0_0:=am hc0_0
 clear hr0_0 hc0_0
 have HB:=am (Below.refl w.heap.size w)
 have H:((jwa.f k l0_0 a1).bind fun t105=>(if t105<0 then (some (-1)) else (some t105)))=some r:=h
 clear h
 replace H:=bzS H
 obtain ⟨t105,A30,H⟩:=H
 replace H:(if t105<0 then (some (-1)) else (some t105))=some r:=H
 have A3:=am A30
 clear A30
 by_cases c4:t105<0
 ·rw [if_pos c4] at H
  have c4b0:decide (t105<0)=true:=dzT c4
  clear c4
  obtain rfl:=Option.some.inj H
  go_enter Try.func7,Try.ntmps7
  go_wp2_with (first |((with_reducible refine jP (N:=2) rfl ?_);refine bE (N:=2) (cs:=#[.slice A0_0 l0_0.length c0_0]) (t:=24) ?_;intro gb104 hg w5 hbox hb;have BK104:=am (hbox);have GW104:=am ((Y1:w.heap.size≤gb104));have GE104:=am ((Y1:w.heap.size≤gb104));replace HB:=am (jd (bq) hb);clear hb hbox hg;have hcz6_0:=bc0 BK104.out;have hfz6_0:=ja BK104.out 0) |((with_reducible refine je (f:=28) rfl ?_);refine gL (some 8) Try.func28 #[.slice A0_0 l0_0.length c0_0, .int .i64 a1] ?_;(with_reducible refine (jwa.calls k _ _ l0_0 a1 t105 _ ?side1 ?side2 A3.out).mono ?_);(case side1=>exact cq (Kd.jF HR0_0.out HB.out));(case side2=>exact HC0_0.out);rintro e w7 ⟨rfl,hb⟩;refine ⟨_,rfl,?_⟩;replace BK104:=am (jm (g:=gb104) (o:=.cells #[.slice A0_0 l0_0.length c0_0] 24 (0,0)) (kq BK104.out) hb);replace HB:=am (jd (Y26) hb);(try clear hb);(try clear hb2);(try clear hk);(try clear hi)))
  go_ret
  exact ⟨Y0,Y26⟩
 ·rw [if_neg c4] at H
  have c4b0:decide (t105<0)=false:=dzF c4
  clear c4
  obtain rfl:=Option.some.inj H
  go_enter Try.func7,Try.ntmps7
  go_wp2_with (first |((with_reducible refine jP (N:=2) rfl ?_);refine bE (N:=2) (cs:=#[.slice A0_0 l0_0.length c0_0]) (t:=24) ?_;intro gb104 hg w8 hbox hb;have BK104:=am (hbox);have GW104:=am ((Y1:w.heap.size≤gb104));have GE104:=am ((Y1:w.heap.size≤gb104));replace HB:=am (jd (bq) hb);clear hb hbox hg;have hcz9_0:=bc0 BK104.out;have hfz9_0:=ja BK104.out 0) |((with_reducible refine je (f:=28) rfl ?_);refine gL (some 8) Try.func28 #[.slice A0_0 l0_0.length c0_0, .int .i64 a1] ?_;(with_reducible refine (jwa.calls k _ _ l0_0 a1 t105 _ ?side1 ?side2 A3.out).mono ?_);(case side1=>exact cq (Kd.jF HR0_0.out HB.out));(case side2=>exact HC0_0.out);rintro e w10 ⟨rfl,hb⟩;refine ⟨_,rfl,?_⟩;replace BK104:=am (jm (g:=gb104) (o:=.cells #[.slice A0_0 l0_0.length c0_0] 24 (0,0)) (kq BK104.out) hb);replace HB:=am (jd (Y26) hb);(try clear hb);(try clear hb2);(try clear hk);(try clear hi)))
  go_ret
  exact ⟨Y0,Y26⟩
def jib.f (l0 : List (S55)) (a1 : Int) : Option (Int) := if (wrap64 (a1 - (l0.length : Int))) < 0 then (some (-1)) else (some (wrap64 (a1 - (l0.length : Int))))
set_option maxHeartbeats 8000000 in
set_option maxRecDepth 100000 in
theorem jib.calls (A0 : Option Addr) (c0 : Nat) (l0 : List (S55)) (a1 : Int) (r : Int) (w : World) (hr0 : Kd.C k55 w A0 l0.length l0) (hc0 : l0.length ≤ c0) (h : jib.f l0 a1 = some r) :
  Calls Try.prog 8 #[.slice A0 l0.length c0, .int .i64 a1] w fun e w'=>e=.returned (.int .i64 r)∧jKa w w':=by
 have HR0:=am hr0
 have HC0:=am hc0
 clear hr0 hc0
 have H:(if (wrap64 (a1 - (l0.length:Int)))<0 then (some (-1)) else (some (wrap64 (a1 - (l0.length:Int)))))=some r:=h
 clear h
 by_cases c3:(wrap64 (a1 - (l0.length:Int)))<0
 ·rw [if_pos c3] at H
  have c3b0:decide ((wrap64 (a1 - (l0.length:Int)))<0)=true:=dzT c3
  clear c3
  obtain rfl:=Option.some.inj H
  go_enter Try.func8,Try.ntmps8
  go_wp2
  go_ret
  exact ⟨sq,Y2⟩
 ·rw [if_neg c3] at H
  have c3b0:decide ((wrap64 (a1 - (l0.length:Int)))<0)=false:=dzF c3
  clear c3
  obtain rfl:=Option.some.inj H
  go_enter Try.func8,Try.ntmps8
  go_wp2
  go_ret
  exact ⟨sq,Y2⟩
def jB.f (a0 : Int) (a1 : Int) (a2 : Int) : Option (Bool) := if a1 ≤ a0 then (some (decide (a0 ≤ a2))) else (some false)
set_option maxHeartbeats 8000000 in
set_option maxRecDepth 100000 in
theorem jB.calls (a0 : Int) (a1 : Int) (a2 : Int) (r : Bool) (w : World) (h : jB.f a0 a1 a2 = some r) :
  Calls Try.prog 85 #[.int .i64 a0, .int .i64 a1, .int .i64 a2] w fun e w'=>e=.returned (.bool r)∧jKa w w':=by
 have H:(if a1≤a0 then (some (decide (a0≤a2))) else (some false))=some r:=h
 clear h
 by_cases c4:a1≤a0
 ·rw [if_pos c4] at H
  have c4b0:decide (a1≤a0)=true:=dzT c4
  clear c4
  obtain rfl:=Option.some.inj H
  go_enter Try.func85,Try.ntmps85
  go_wp2
  go_ret
  exact ⟨sq,Y2⟩
 ·rw [if_neg c4] at H
  have c4b0:decide (a1≤a0)=false:=dzF c4
  clear c4
  obtain rfl:=Option.some.inj H
  go_enter Try.func85,Try.ntmps85
  go_wp2
  go_ret
  exact ⟨sq,Y2⟩
def jWa.f (l0_0 : List (S78)) (a1 : Int) : Option (Bool) := (jB.f a1 0 (wrap64 ((l0_0.length : Int) - 1))).bind fun t107 => (some t107)
set_option maxHeartbeats 8000000 in
set_option maxRecDepth 100000 in
theorem jWa.calls (A0_0 : Option Addr) (c0_0 : Nat) (l0_0 : List (S78)) (a1 : Int) (r : Bool) (w : World) (hr0_0 : Kd.C k78 w A0_0 l0_0.length l0_0) (hc0_0 : l0_0.length ≤ c0_0) (h : jWa.f l0_0 a1 = some r) :
  Calls Try.prog 103 #[.agg #[.slice A0_0 l0_0.length c0_0], .int .i64 a1] w fun e w'=>e=.returned (.bool r)∧Below w.heap.size w w':=by
 have hu32:=Try.underlying32
 have HR0_0:=am hr0_0
 have HC0_0:=am hc0_0
 clear hr0_0 hc0_0
 have HB:=am (Below.refl w.heap.size w)
 have H:((jB.f a1 0 (wrap64 ((l0_0.length:Int) - 1))).bind fun t107=>(some t107))=some r:=h
 clear h
 replace H:=bzS H
 obtain ⟨t107,A30,H⟩:=H
 replace H:(some t107)=some r:=H
 have A3:=am A30
 clear A30
 obtain rfl:=Option.some.inj H
 go_enter Try.func103,Try.ntmps103
 go_wp2_with (first |((with_reducible refine jP (N:=2) rfl ?_);refine bE (N:=2) (cs:=#[.slice A0_0 l0_0.length c0_0]) (t:=32) ?_;intro gb106 hg w4 hbox hb;have BK106:=am (hbox);have GW106:=am ((Y1:w.heap.size≤gb106));have GE106:=am ((Y1:w.heap.size≤gb106));replace HB:=am (jd (bq) hb);clear hb hbox hg;have hcz5_0:=bc0 BK106.out;have hfz5_0:=ja BK106.out 0) |((with_reducible refine je (f:=85) rfl ?_);refine gL (some 10) Try.func85 #[.int .i64 a1, .int .i64 0, .int .i64 (wrap64 ((l0_0.length:Int) - 1))] ?_;(with_reducible refine (jB.calls a1 0 (wrap64 ((l0_0.length:Int) - 1)) t107 _ A3.out).mono ?_);rintro e w' ⟨rfl,⟨nd,rfl⟩⟩;refine ⟨_,rfl,?_⟩))
 go_ret
 exact ⟨Y0,by repeat (first |(with_reducible first | exact HB.out | apply jv | apply jg | apply jr | refine jw ?_ GE106.out) | exact HB.out)⟩
def jVb.f (a0_0 : ByteArray) (a0_1 : Int) : Option (ByteArray × Int) := some (a0_0, a0_1)
set_option maxHeartbeats 8000000 in
set_option maxRecDepth 100000 in
theorem jVb.calls (a0_0 : ByteArray) (a0_1 : Int) (r1 : ByteArray) (r2 : Int) (w : World) (h : jVb.f a0_0 a0_1 = some (r1, r2)) :
  Calls Try.prog 60 #[.agg #[.string a0_0, .int .i64 a0_1]] w fun e w'=>e=.returned (.agg #[.string r1, .int .i64 r2])∧Below w.heap.size w w':=by
 have hu77:=Try.underlying77
 have hu78:=Try.underlying78
 have HB:=am (Below.refl w.heap.size w)
 have H:(some (a0_0,a0_1))=some (r1,r2):=h
 clear h
 simp only [Option.some.injEq,Prod.mk.injEq] at H
 obtain ⟨rfl,rfl⟩:=H
 go_enter Try.func60,Try.ntmps60
 go_wp2_with (first |((with_reducible refine jP (N:=1) rfl ?_);refine bE (N:=1) (cs:=#[.string a0_0, .int .i64 a0_1]) (t:=77) ?_;intro gb175 hg w2 hbox hb;have BK175:=am (hbox);have GW175:=am ((Y1:w.heap.size≤gb175));have GE175:=am ((Y1:w.heap.size≤gb175));replace HB:=am (jd (bq) hb);clear hb hbox hg) |((with_reducible refine jP (N:=2) rfl ?_);refine bE (N:=2) (cs:=#[.string (⟨#[]⟩:ByteArray), .int .i64 0]) (t:=78) ?_;intro gb176 hg w3 hbox hb;have BK176:=am (hbox);have GW176:=am ((Y39:w.heap.size≤gb176));have GE176:=am ((Y39:w.heap.size≤gb176));have NB175_176:=am ((by rw [hg];exact Nat.ne_of_lt (jVa (g:=gb175) (o:=.cells #[.string a0_0, .int .i64 a0_1] 77 (0,0)) (kq BK175.out)):gb175≠gb176));have NB176_175:=am ((by rw [hg];exact Nat.ne_of_gt (jVa (g:=gb175) (o:=.cells #[.string a0_0, .int .i64 a0_1] 77 (0,0)) (kq BK175.out)):gb176≠gb175));replace BK175:=am (jm (g:=gb175) (o:=.cells #[.string a0_0, .int .i64 a0_1] 77 (0,0)) (kq BK175.out) hb);replace HB:=am (jd (by repeat (first |(with_reducible first | exact HB.out | apply jv | apply jg | apply jr | refine jw ?_ GE175.out) | exact HB.out)) hb);clear hb hbox hg) |((with_reducible refine jP (N:=3) rfl ?_);refine bE (N:=3) (cs:=#[.string (⟨#[]⟩:ByteArray), .int .i64 0]) (t:=78) ?_;intro gb177 hg w4 hbox hb;have BK177:=am (hbox);have GW177:=am ((Y40:w.heap.size≤gb177));have GE177:=am ((Y40:w.heap.size≤gb177));have NB175_177:=am ((by rw [hg];exact Nat.ne_of_lt (jVa (g:=gb175) (o:=.cells #[.string a0_0, .int .i64 a0_1] 77 (0,0)) (kq BK175.out)):gb175≠gb177));have NB177_175:=am ((by rw [hg];exact Nat.ne_of_gt (jVa (g:=gb175) (o:=.cells #[.string a0_0, .int .i64 a0_1] 77 (0,0)) (kq BK175.out)):gb177≠gb175));have NB176_177:=am ((by rw [hg];exact Nat.ne_of_lt (jVa (g:=gb176) (o:=.cells #[.string (⟨#[]⟩:ByteArray), .int .i64 0] 78 (0,0)) (kq BK176.out)):gb176≠gb177));have NB177_176:=am ((by rw [hg];exact Nat.ne_of_gt (jVa (g:=gb176) (o:=.cells #[.string (⟨#[]⟩:ByteArray), .int .i64 0] 78 (0,0)) (kq BK176.out)):gb177≠gb176));replace BK175:=am (jm (g:=gb175) (o:=.cells #[.string a0_0, .int .i64 a0_1] 77 (0,0)) (kq BK175.out) hb);replace BK176:=am (jm (g:=gb176) (o:=.cells #[.string (⟨#[]⟩:ByteArray), .int .i64 0] 78 (0,0)) (kq BK176.out) hb);replace HB:=am (jd (by repeat (first |(with_reducible first | exact HB.out | apply jv | apply jg | apply jr | refine jw ?_ GE175.out | refine jw ?_ GE176.out) | exact HB.out)) hb);clear hb hbox hg;have hnb5:=NB175_176.out;have hnc5:=NB176_175.out;have hnb6:=NB175_177.out;have hnc6:=NB177_175.out;have hcz7_0:=bc0 BK175.out;have hcz7_1:=bc1 BK175.out;have hfz7_0:=ja BK175.out 0;have hfz7_1:=ja BK175.out 1;have hnb8:=NB177_176.out;have hnc8:=NB176_177.out;have hcz9_0:=bc0 BK177.out;have hcz9_1:=bc1 BK177.out;have hfz9_0:=ja BK177.out 0;have hfz9_1:=ja BK177.out 1;have hcz10_0:=bc0 BK176.out;have hcz10_1:=bc1 BK176.out;have hfz10_0:=ja BK176.out 0;have hfz10_1:=ja BK176.out 1))
 refine bodyPost_ret (results_cell_row rfl _ _ gb176 78 #[.string a0_0, .int .i64 a0_1] (0,0) _ rfl (by (with_reducible repeat (first | refine jea ?_ _ | refine jta ?_ | refine joa ?_ _));refine jLb (cs:=#[.string a0_0, .int .i64 0]) ?_ 1 _ rfl;(with_reducible repeat (first | refine jea ?_ _ | refine jta ?_ | refine joa ?_ _));refine jLb (cs:=#[.string (⟨#[]⟩:ByteArray), .int .i64 0]) ?_ 0 _ rfl;(with_reducible repeat (first | refine jea ?_ _ | refine jta ?_ | refine joa ?_ _));refine jMb ?_ NB176_177.out _;(with_reducible repeat (first | refine jea ?_ _ | refine jta ?_ | refine joa ?_ _));refine jMb ?_ NB176_177.out _;(with_reducible repeat (first | refine jea ?_ _ | refine jta ?_ | refine joa ?_ _));exact BK176.out) Try.underlying78 rfl (by kernel_rfl)) rfl ?_
 exact ⟨Y0,by repeat (first |(with_reducible first | exact HB.out | apply jv | apply jg | apply jr | refine jw ?_ GE175.out | refine jw ?_ GE176.out | refine jw ?_ GE177.out) | exact HB.out)⟩
def jva.l0 : Nat → List (S77) → List (S78) → Int → Option ((List (S78)))
 | 0,_,_,_=>none
 | k+1,x0,x3,x4=>if x4<(x0.length:Int) then (if 0≤x4 then ((jVb.f ((jDb x0 x4).f0) ((jDb x0 x4).f1)).bind fun bt182=>(if x4<(x3.length:Int) then (jva.l0 k x0 (x3.set (x4:Int).toNat (⟨bt182.1,bt182.2⟩:S78)) (wrap64 (x4+1))) else (none))) else (none)) else (some x3)
def jva.f (k : Nat) (l0 : List (S77)) : Option ((List (S78))) := if 0 ≤ (l0.length : Int) then (if ((l0.length : Int) : Int).toNat ≤ 11728124029610 then (jva.l0 k l0 (List.replicate ((l0.length : Int) : Int).toNat z78) 0) else (none)) else (none)
set_option maxHeartbeats 8000000 in
set_option maxRecDepth 100000 in
theorem jva.calls (k : Nat) (A0 : Option Addr) (c0 : Nat) (l0 : List (S77)) (r : List (S78)) (w : World) (hr0 : Kd.C k77 w A0 l0.length l0) (hc0 : l0.length ≤ c0) (h : jva.f k l0 = some r) :
  Calls Try.prog 32 #[.slice A0 l0.length c0] w fun e w'=>∃ v0_:Value,e=.returned (v0_)∧Kd.R k78 78 w' w.heap.size (fun _=>True) v0_ r∧Below w.heap.size w w':=by
 have hu77:=Try.underlying77
 have hu78:=Try.underlying78
 have HR0:=am hr0
 have HC0:=am hc0
 clear hr0 hc0
 have HB:=am (Below.refl w.heap.size w)
 have H:(if 0≤(l0.length:Int) then (if ((l0.length:Int):Int).toNat≤11728124029610 then (jva.l0 k l0 (List.replicate ((l0.length:Int):Int).toNat z78) 0) else (none)) else (none))=some r:=h
 clear h
 by_cases c2:0≤(l0.length:Int)
 ·rw [if_pos c2] at H
  have c2b0:=ezT c2
  have c2b1:decide (0≤(l0.length:Int))=true:=dzT c2
  clear c2
  by_cases c3:((l0.length:Int):Int).toNat≤11728124029610
  ·rw [if_pos c3] at H
   have c3b0:=ezT c3
   have c3b1:decide (((l0.length:Int):Int).toNat≤11728124029610)=true:=dzT c3
   clear c3
   obtain ⟨y178,hy178⟩:∃ y_:List (S78),y_=(List.replicate ((l0.length:Int):Int).toNat z78):=⟨_,rfl⟩
   replace H:(jva.l0 k l0 y178 0)=some r:=by first |(rw [hy178];with_reducible exact H) |(have H2_:=(Option.bind_some _ _).symm.trans H;rw [hy178];with_reducible exact H2_) |(have H2_:=(Option.bind_some _ _).symm.trans H;with_reducible exact H2_) | with_reducible exact H |(rw [hy178];exact H) | exact H
   have Ny178:=am hy178
   clear hy178
   have H':=am H
   clear H
   go_enter Try.func32,Try.ntmps32
   go_wp2_with (first |((with_reducible refine jP (N:=7) rfl ?_);refine Kd.R_make k78 _ 78 rfl (N:=7) rfl 30 _ _ rfl (l0.length:Int) rfl rfl Try.underlying30 (.agg #[(.string ⟨#[]⟩),(.int .i64 0)]) 24 info78 rfl (by decide) (by omega) z78 (ok:=fun _=>True) (okp:=fun _=>True) (k78_mkM _ _ _ z78 ) (fun _ hk=>hk) trivial (ozD (uq)) (Nat.le_trans (Nat.mul_le_mul_right _ (ozD (uq):(l0.length:Int).toNat≤11728124029610)) (by omega)) (Below.refl _ _) (Nat.le_refl _) ?_;intro v179 w4 ho5 hb hg_ hnew_;clear hg_ hnew_;(first | rw [← Ny178.out] at ho5 |(simp only [Int.reduceToNat] at ho5;rw [← Ny178.out] at ho5));have HO180:=am (Kd.jRa ho5 (jH (bq)));replace HB:=am (jd (bq) hb);clear hb ho5))
   go_loopg [4] k (fun kq v4 w'=>∃ (x3_1:List (S78)) (x4_1:Int),v4=.int .i64 x4_1∧jk (jva.l0 kq l0 x3_1 x4_1=some r)∧jk (kq≤k)∧jk (Kd.R k78 78 w' w.heap.size (fun _=>True) v179 x3_1)∧jk (Below w.heap.size w w'))
   case atStart=>exact ⟨(y178),(0),(sq),H',⟨Nat.le_refl _⟩,⟨rq HO180.out⟩,⟨bq⟩⟩
   case round =>
    clear H'
    try clear c2
    try clear c2b0
    try clear c2b1
    try clear p2
    try clear c3
    try clear c3b0
    try clear c3b1
    obtain ⟨x3_1,x4_1,rfl,HA,HK1,HO_3,HB⟩:=hrel
    cases gk with
    | zero=>exact absurd HA.out (by simp [jva.l0])
    | succ k1 =>
     have H:=HA.out
     clear HA
     simp only [jva.l0] at H
     by_cases c6:x4_1<(l0.length:Int)
     ·rw [if_pos c6] at H
      have c6b0:decide (x4_1<(l0.length:Int))=true:=dzT c6
      clear c6
      by_cases c7:0≤x4_1
      ·rw [if_pos c7] at H
       have c7b0:decide (0≤x4_1)=true:=dzT c7
       clear c7
       replace H:=bzS H
       obtain ⟨⟨t182,t183⟩,A80,H⟩:=H
       replace H:(if x4_1<(x3_1.length:Int) then (jva.l0 k1 l0 (x3_1.set (x4_1:Int).toNat (⟨t182,t183⟩:S78)) (wrap64 (x4_1+1))) else (none))=some r:=H
       have A8:=am A80
       clear A80
       by_cases c9:x4_1<(x3_1.length:Int)
       ·rw [if_pos c9] at H
        have c9b0:decide (x4_1<(x3_1.length:Int))=true:=dzT c9
        clear c9
        obtain ⟨y184,hy184⟩:∃ y_:List (S78),y_=(x3_1.set (x4_1:Int).toNat (⟨t182,t183⟩:S78)):=⟨_,rfl⟩
        replace H:(jva.l0 k1 l0 y184 (wrap64 (x4_1+1)))=some r:=by first |(rw [hy184];with_reducible exact H) |(have H2_:=(Option.bind_some _ _).symm.trans H;rw [hy184];with_reducible exact H2_) |(have H2_:=(Option.bind_some _ _).symm.trans H;with_reducible exact H2_) | with_reducible exact H |(rw [hy184];exact H) | exact H
        have Ny184:=am hy184
        clear hy184
        have H':=am H
        clear H
        have p181:0≤(x4_1:Int):=ozD (uq)
        have q181:x4_1<(l0.length:Int):=ozD (uq)
        obtain ⟨ad181,e181,hx181_0,hx181_1⟩:=at_T77 HR0.out x4_1 p181 q181
        cases e181
        replace hx181_0:=cb HB.out hx181_0
        replace hx181_1:=cb HB.out hx181_1
        replace p181:=ezT p181
        replace q181:=ezT q181
        go_wp2_with (first |((with_reducible refine je (f:=60) rfl ?_);refine gL (some 20) Try.func60 #[.agg #[.string ((jDb l0 x4_1).f0), .int .i64 ((jDb l0 x4_1).f1)]] ?_;(with_reducible refine (jVb.calls ((jDb l0 x4_1).f0) ((jDb l0 x4_1).f1) t182 t183 _ A8.out).mono ?_);rintro e w11 ⟨rfl,hb⟩;refine ⟨_,rfl,?_⟩;replace HO_3:=am (Kd.jX (rq HO_3.out) hb);replace HB:=am (jd (bq) hb);(try clear hb);(try clear hb2);(try clear hk);(try clear hi);have p10:0≤(x4_1:Int):=ozD (uq);have q10:(x4_1:Int)<((x3_1.length:Int):Int):=ozD (uq);obtain ⟨go10,co10,eo10,gb10,gl10,cl10,HG10⟩:=Kd.R_form HO_3.out (by omega);(first | cases eo10 |(injection eo10 with ea_ en_ ec_;(first | subst ea_ |(injection ea_ with ea_;subst ea_));subst ec_;clear en_));have GB10:=am gb10;have GG10:=am HG10;clear gb10 gl10 HG10;obtain ⟨ce10,hcl10,hM10,hcc10,hfr10⟩:=Kd.jYb HO_3.out z78 (x4_1:Int) p10 q10;obtain rfl:=jkc hM10;have hx10_0:w11.cell? ⟨go10,(x4_1:Int).toNat * 2,none⟩=some (.string ((jK x3_1 x4_1).f0)):=hcc10 0 _ rfl;have hx10_1:w11.cell? ⟨go10,(x4_1:Int).toNat * 2+1,none⟩=some (.int .i64 ((jK x3_1 x4_1).f1)):=hcc10 1 _ rfl;have hf10_0:w11.frozen? ⟨go10,(x4_1:Int).toNat * 2,none⟩=false:=hfr10 0;have hf10_1:w11.frozen? ⟨go10,(x4_1:Int).toNat * 2+1,none⟩=false:=hfr10 1;clear hcl10 hcc10 hfr10 hM10;replace p10:=ezT p10;replace q10:=ezT q10;have HX12:=am (show Kd.R k78 78 w11 w.heap.size (fun _=>True) (.slice (some ⟨go10,0,none⟩) x3_1.length co10) x3_1 from (rq HO_3.out));obtain ⟨ce12,hcl12,hM12,hcc12,hfr12⟩:=Kd.jYb HX12.out z78 (x4_1:Int) (ozD (uq)) (by have h_:(x4_1:Int)<((x3_1.length:Int):Int):=ozD (uq);first | exact h_ |(have e_:=(Kd.jA HO_3.out).1;omega) | simpa using h_);obtain rfl:=jkc hM12;have HP12:=Kd.R_seg HX12.out (x4_1:Int) (ozD (uq)) (by have h_:(x4_1:Int)<((x3_1.length:Int):Int):=ozD (uq);first | exact h_ |(have e_:=(Kd.jA HO_3.out).1;omega) | simpa using h_) (seg:=[.string t182, .int .i64 t183]) (j:=0) hcl12 hcc12 (show 2≤2 from by decide) (x':=(⟨t182,t183⟩:S78)) (k78_mkM _ _ _ (⟨t182,t183⟩:S78) ) (fun _ hk=>hk);have hx12_0:=hcc12 0 _ rfl;(try simp only [show (k78).sz=2 from rfl,Nat.mul_one,Nat.add_zero] at hx12_0);have hf12_0:=hfr12 0;(try simp only [show (k78).sz=2 from rfl,Nat.mul_one,Nat.add_zero] at hf12_0);have hx12_1:=hcc12 1 _ rfl;(try simp only [show (k78).sz=2 from rfl,Nat.mul_one,Nat.add_zero] at hx12_1);have hf12_1:=hfr12 1;(try simp only [show (k78).sz=2 from rfl,Nat.mul_one,Nat.add_zero] at hf12_1);clear hcl12 hcc12 hfr12 hM12) |((with_reducible refine jBb (t:=78) (p:=21) rfl ?_);refine jqb (t:=78) (p:=21) (v:=?vo_w13) (w1:=((w11.setCell ⟨go10,(x4_1:Int).toNat * 2,none⟩ (.string t182)).setCell ⟨go10,(x4_1:Int).toNat * 2+1,none⟩ (.int .i64 t183))) ?hg ?ho ?hn ?hr ?_;(case ho=>rfl);(case hg=>rfl);(case hn=>rfl);(case hr=>exact Y4);intro w13 hw;have hg:w11.grownBy w13 (some go10):=(by rw [hw];exact HP12.2);have hp_:Kd.R k78 78 w13 w.heap.size (fun _=>True) (.slice (some ⟨go10,0,none⟩) x3_1.length co10) y184:=(by rw [hw,Ny184.out];exact HP12.1);clear HP12;replace HO_3:=am (hp_);replace HB:=am ((by rw [hw];exact jw (jw (HB.out) GB10.out) GB10.out:Below w.heap.size w w13));clear hg hw hp_))
        go_roundg k1
        case measure=>have:=HK1.out;omega
        case rel=>exact ⟨(y184),(wrap64 (x4_1+1)),(sq),H',⟨by have:=HK1.out;omega⟩,⟨rq HO_3.out⟩,⟨bq⟩⟩
       ·rw [if_neg c9] at H
        exact absurd H (by simp)
      ·rw [if_neg c7] at H
       exact absurd H (by simp)
     ·rw [if_neg c6] at H
      have c6b0:decide (x4_1<(l0.length:Int))=false:=dzF c6
      clear c6
      obtain rfl:=Option.some.inj H
      go_wp2
      go_ret
      exact ⟨_,Y0,rq HO_3.out,bq⟩
  ·rw [if_neg c3] at H
   exact absurd H (by simp)
 ·rw [if_neg c2] at H
  exact absurd H (by simp)
def jga.f (k : Nat) (l0_0 : List (S77)) : Option ((List (S78))) := (jva.f k l0_0).bind fun t188 => (some t188)
set_option maxHeartbeats 8000000 in
set_option maxRecDepth 100000 in
theorem jga.calls (k : Nat) (A0_0 : Option Addr) (c0_0 : Nat) (l0_0 : List (S77)) (r : List (S78)) (w : World) (hr0_0 : Kd.C k77 w A0_0 l0_0.length l0_0) (hc0_0 : l0_0.length ≤ c0_0) (h : jga.f k l0_0 = some r) :
  Calls Try.prog 10 #[.agg #[.slice A0_0 l0_0.length c0_0]] w fun e w'=>∃ v0_:Value,e=.returned (.agg #[v0_])∧Kd.R k78 78 w' w.heap.size (fun _=>True) v0_ r∧Below w.heap.size w w':=by
 have hu24:=Try.underlying24
 have hu32:=Try.underlying32
 have HR0_0:=am hr0_0
 have HC0_0:=am hc0_0
 clear hr0_0 hc0_0
 have HB:=am (Below.refl w.heap.size w)
 have H:((jva.f k l0_0).bind fun t188=>(some t188))=some r:=h
 clear h
 replace H:=bzS H
 obtain ⟨t188,A20,H⟩:=H
 replace H:(some t188)=some r:=H
 have A2:=am A20
 clear A20
 obtain rfl:=Option.some.inj H
 go_enter Try.func10,Try.ntmps10
 go_wp2_with (first |((with_reducible refine jP (N:=1) rfl ?_);refine bE (N:=1) (cs:=#[.slice A0_0 l0_0.length c0_0]) (t:=24) ?_;intro gb185 hg w3 hbox hb;have BK185:=am (hbox);have GW185:=am ((Y1:w.heap.size≤gb185));have GE185:=am ((Y1:w.heap.size≤gb185));replace HB:=am (jd (bq) hb);clear hb hbox hg) |((with_reducible refine jP (N:=2) rfl ?_);refine bE (N:=2) (cs:=#[.slice none 0 0]) (t:=32) ?_;intro gb186 hg w4 hbox hb;have BK186:=am (hbox);have GW186:=am ((Y41:w.heap.size≤gb186));have GE186:=am ((Y41:w.heap.size≤gb186));have NB185_186:=am ((by rw [hg];exact Nat.ne_of_lt (jVa (g:=gb185) (o:=.cells #[.slice A0_0 l0_0.length c0_0] 24 (0,0)) (kq BK185.out)):gb185≠gb186));have NB186_185:=am ((by rw [hg];exact Nat.ne_of_gt (jVa (g:=gb185) (o:=.cells #[.slice A0_0 l0_0.length c0_0] 24 (0,0)) (kq BK185.out)):gb186≠gb185));replace BK185:=am (jm (g:=gb185) (o:=.cells #[.slice A0_0 l0_0.length c0_0] 24 (0,0)) (kq BK185.out) hb);replace HB:=am (jd (by repeat (first |(with_reducible first | exact HB.out | apply jv | apply jg | apply jr | refine jw ?_ GE185.out) | exact HB.out)) hb);clear hb hbox hg) |((with_reducible refine jP (N:=3) rfl ?_);refine bE (N:=3) (cs:=#[.slice none 0 0]) (t:=32) ?_;intro gb187 hg w5 hbox hb;have BK187:=am (hbox);have GW187:=am ((Y42:w.heap.size≤gb187));have GE187:=am ((Y42:w.heap.size≤gb187));have NB185_187:=am ((by rw [hg];exact Nat.ne_of_lt (jVa (g:=gb185) (o:=.cells #[.slice A0_0 l0_0.length c0_0] 24 (0,0)) (kq BK185.out)):gb185≠gb187));have NB187_185:=am ((by rw [hg];exact Nat.ne_of_gt (jVa (g:=gb185) (o:=.cells #[.slice A0_0 l0_0.length c0_0] 24 (0,0)) (kq BK185.out)):gb187≠gb185));have NB186_187:=am ((by rw [hg];exact Nat.ne_of_lt (jVa (g:=gb186) (o:=.cells #[.slice none 0 0] 32 (0,0)) (kq BK186.out)):gb186≠gb187));have NB187_186:=am ((by rw [hg];exact Nat.ne_of_gt (jVa (g:=gb186) (o:=.cells #[.slice none 0 0] 32 (0,0)) (kq BK186.out)):gb187≠gb186));replace BK185:=am (jm (g:=gb185) (o:=.cells #[.slice A0_0 l0_0.length c0_0] 24 (0,0)) (kq BK185.out) hb);replace BK186:=am (jm (g:=gb186) (o:=.cells #[.slice none 0 0] 32 (0,0)) (kq BK186.out) hb);replace HB:=am (jd (by repeat (first |(with_reducible first | exact HB.out | apply jv | apply jg | apply jr | refine jw ?_ GE185.out | refine jw ?_ GE186.out) | exact HB.out)) hb);clear hb hbox hg;have hnb6:=NB185_186.out;have hnc6:=NB186_185.out;have hnb7:=NB185_187.out;have hnc7:=NB187_185.out;have hcz8_0:=bc0 BK185.out;have hfz8_0:=ja BK185.out 0) |((with_reducible refine je (f:=32) rfl ?_);refine gL (some 6) Try.func32 #[.slice A0_0 l0_0.length c0_0] ?_;(with_reducible refine (jva.calls k _ _ l0_0 t188 _ ?side1 ?side2 A2.out).mono ?_);(case side1=>exact cq (Kd.jF HR0_0.out HB.out));(case side2=>exact HC0_0.out);rintro e w9 ⟨v189,rfl,ho0,hb⟩;refine ⟨_,rfl,?_⟩;have HO190:=am (Kd.jRa ho0 (jH (Y29)));replace BK185:=am (jm (g:=gb185) (o:=.cells #[.slice A0_0 l0_0.length c0_0] 24 (0,0)) (kq BK185.out) hb);replace BK186:=am (jm (g:=gb186) (o:=.cells #[.slice none 0 0] 32 (0,0)) (kq BK186.out) hb);replace BK187:=am (jm (g:=gb187) (o:=.cells #[.slice none 0 0] 32 (0,0)) (kq BK187.out) hb);replace HB:=am (jd (Y29) hb);(try clear hb);(try clear hb2);(try clear hk);(try clear hi);(try clear ho0);obtain ⟨Ao10,co10,eo10⟩:=Kd.jGa HO190.out;subst eo10;have hnb11:=NB187_186.out;have hnc11:=NB186_187.out;have hcz12_0:=bc0 BK187.out;have hfz12_0:=ja BK187.out 0;have hcz13_0:=bc0 BK186.out;have hfz13_0:=ja BK186.out 0))
 refine bodyPost_ret (results_cell_row rfl _ _ gb186 32 #[.slice Ao10 t188.length co10] (0,0) _ rfl (by (with_reducible repeat (first | refine jea ?_ _ | refine jta ?_ | refine joa ?_ _));refine jLb (cs:=#[.slice none 0 0]) ?_ 0 _ rfl;(with_reducible repeat (first | refine jea ?_ _ | refine jta ?_ | refine joa ?_ _));refine jMb ?_ NB186_187.out _;(with_reducible repeat (first | refine jea ?_ _ | refine jta ?_ | refine joa ?_ _));exact BK186.out) Try.underlying32 rfl (by kernel_rfl)) rfl ?_
 exact ⟨_,Y0,by (with_reducible repeat (first | apply Kd.jzb | apply Kd.jyb | apply Kd.jsb));exact Kd.jSa (Kd.R_far (p:=⟨gb186,0,none⟩) (Kd.R_far (p:=⟨gb187,0,none⟩) (Kd.R_types (Kd.R_types HO190.out BK187.out (by decide)) BK186.out (by decide)) (fun _ hk=>hk.1.2) (.slice Ao10 t188.length co10)) (fun _ hk=>hk.2) (.slice Ao10 t188.length co10)) (fun _ hk=>trivial),Y29⟩
def jac.f (a0_0 : Int) (a0_1 : Int) (a0_2 : Int) (a0_3 : Int) : Option (Int × Int × Int × Int) := some (a0_0, a0_1, a0_2, a0_3)
set_option maxHeartbeats 8000000 in
set_option maxRecDepth 100000 in
theorem jac.calls (a0_0 : Int) (a0_1 : Int) (a0_2 : Int) (a0_3 : Int) (r1 : Int) (r2 : Int) (r3 : Int) (r4 : Int) (w : World) (h : jac.f a0_0 a0_1 a0_2 a0_3 = some (r1, r2, r3, r4)) :
  Calls Try.prog 33 #[.agg #[.int .i64 a0_0, .int .i64 a0_1, .int .i64 a0_2, .int .i64 a0_3]] w fun e w'=>e=.returned (.agg #[.int .i64 r1, .int .i64 r2, .int .i64 r3, .int .i64 r4])∧Below w.heap.size w w':=by
 have hu55:=Try.underlying55
 have hu52:=Try.underlying52
 have HB:=am (Below.refl w.heap.size w)
 have H:(some (a0_0,a0_1,a0_2,a0_3))=some (r1,r2,r3,r4):=h
 clear h
 simp only [Option.some.injEq,Prod.mk.injEq] at H
 obtain ⟨rfl,rfl,rfl,rfl⟩:=H
 go_enter Try.func33,Try.ntmps33
 go_wp2_with (first |((with_reducible refine jP (N:=1) rfl ?_);refine bE (N:=1) (cs:=#[.int .i64 a0_0, .int .i64 a0_1, .int .i64 a0_2, .int .i64 a0_3]) (t:=55) ?_;intro gb191 hg w2 hbox hb;have BK191:=am (hbox);have GW191:=am ((Y1:w.heap.size≤gb191));have GE191:=am ((Y1:w.heap.size≤gb191));replace HB:=am (jd (bq) hb);clear hb hbox hg) |((with_reducible refine jP (N:=2) rfl ?_);refine bE (N:=2) (cs:=#[.int .i64 0, .int .i64 0, .int .i64 0, .int .i64 0]) (t:=52) ?_;intro gb192 hg w3 hbox hb;have BK192:=am (hbox);have GW192:=am ((Y43:w.heap.size≤gb192));have GE192:=am ((Y43:w.heap.size≤gb192));have NB191_192:=am ((Y44:gb191≠gb192));have NB192_191:=am ((Y45:gb192≠gb191));replace BK191:=am (jm (g:=gb191) (o:=.cells #[.int .i64 a0_0, .int .i64 a0_1, .int .i64 a0_2, .int .i64 a0_3] 55 (0,0)) (kq BK191.out) hb);replace HB:=am (jd (by repeat (first |(with_reducible first | exact HB.out | apply jv | apply jg | apply jr | refine jw ?_ GE191.out) | exact HB.out)) hb);clear hb hbox hg) |((with_reducible refine jP (N:=3) rfl ?_);refine bE (N:=3) (cs:=#[.int .i64 0, .int .i64 0, .int .i64 0, .int .i64 0]) (t:=52) ?_;intro gb193 hg w4 hbox hb;have BK193:=am (hbox);have GW193:=am ((Y46:w.heap.size≤gb193));have GE193:=am ((Y46:w.heap.size≤gb193));have NB191_193:=am ((Y44:gb191≠gb193));have NB193_191:=am ((Y45:gb193≠gb191));have NB192_193:=am ((by rw [hg];exact Nat.ne_of_lt (jVa (g:=gb192) (o:=.cells #[.int .i64 0, .int .i64 0, .int .i64 0, .int .i64 0] 52 (0,0)) (kq BK192.out)):gb192≠gb193));have NB193_192:=am ((by rw [hg];exact Nat.ne_of_gt (jVa (g:=gb192) (o:=.cells #[.int .i64 0, .int .i64 0, .int .i64 0, .int .i64 0] 52 (0,0)) (kq BK192.out)):gb193≠gb192));replace BK191:=am (jm (g:=gb191) (o:=.cells #[.int .i64 a0_0, .int .i64 a0_1, .int .i64 a0_2, .int .i64 a0_3] 55 (0,0)) (kq BK191.out) hb);replace BK192:=am (jm (g:=gb192) (o:=.cells #[.int .i64 0, .int .i64 0, .int .i64 0, .int .i64 0] 52 (0,0)) (kq BK192.out) hb);replace HB:=am (jd (by repeat (first |(with_reducible first | exact HB.out | apply jv | apply jg | apply jr | refine jw ?_ GE191.out | refine jw ?_ GE192.out) | exact HB.out)) hb);clear hb hbox hg;have hnb5:=NB191_192.out;have hnc5:=NB192_191.out;have hnb6:=NB191_193.out;have hnc6:=NB193_191.out;have hcz7_0:=bc0 BK191.out;have hcz7_1:=bc1 BK191.out;have hcz7_2:=bc2 BK191.out;have hcz7_3:=bc3 BK191.out;have hfz7_0:=ja BK191.out 0;have hfz7_1:=ja BK191.out 1;have hfz7_2:=ja BK191.out 2;have hfz7_3:=ja BK191.out 3;have hnb8:=NB193_192.out;have hnc8:=NB192_193.out;have hcz9_0:=bc0 BK193.out;have hcz9_1:=bc1 BK193.out;have hcz9_2:=bc2 BK193.out;have hcz9_3:=bc3 BK193.out;have hfz9_0:=ja BK193.out 0;have hfz9_1:=ja BK193.out 1;have hfz9_2:=ja BK193.out 2;have hfz9_3:=ja BK193.out 3;have hcz10_0:=bc0 BK192.out;have hcz10_1:=bc1 BK192.out;have hcz10_2:=bc2 BK192.out;have hcz10_3:=bc3 BK192.out;have hfz10_0:=ja BK192.out 0;have hfz10_1:=ja BK192.out 1;have hfz10_2:=ja BK192.out 2;have hfz10_3:=ja BK192.out 3))
 refine bodyPost_ret (results_cell_row rfl _ _ gb192 52 #[.int .i64 a0_0, .int .i64 a0_1, .int .i64 a0_2, .int .i64 a0_3] (0,0) _ rfl (by (with_reducible repeat (first | refine jea ?_ _ | refine jta ?_ | refine joa ?_ _));refine jLb (cs:=#[.int .i64 a0_0, .int .i64 a0_1, .int .i64 a0_2, .int .i64 0]) ?_ 3 _ rfl;(with_reducible repeat (first | refine jea ?_ _ | refine jta ?_ | refine joa ?_ _));refine jLb (cs:=#[.int .i64 a0_0, .int .i64 a0_1, .int .i64 0, .int .i64 0]) ?_ 2 _ rfl;(with_reducible repeat (first | refine jea ?_ _ | refine jta ?_ | refine joa ?_ _));refine jLb (cs:=#[.int .i64 a0_0, .int .i64 0, .int .i64 0, .int .i64 0]) ?_ 1 _ rfl;(with_reducible repeat (first | refine jea ?_ _ | refine jta ?_ | refine joa ?_ _));refine jLb (cs:=#[.int .i64 0, .int .i64 0, .int .i64 0, .int .i64 0]) ?_ 0 _ rfl;(with_reducible repeat (first | refine jea ?_ _ | refine jta ?_ | refine joa ?_ _));refine jMb ?_ NB192_193.out _;(with_reducible repeat (first | refine jea ?_ _ | refine jta ?_ | refine joa ?_ _));refine jMb ?_ NB192_193.out _;(with_reducible repeat (first | refine jea ?_ _ | refine jta ?_ | refine joa ?_ _));refine jMb ?_ NB192_193.out _;(with_reducible repeat (first | refine jea ?_ _ | refine jta ?_ | refine joa ?_ _));refine jMb ?_ NB192_193.out _;(with_reducible repeat (first | refine jea ?_ _ | refine jta ?_ | refine joa ?_ _));exact BK192.out) Try.underlying52 rfl (by kernel_rfl)) rfl ?_
 exact ⟨Y0,by repeat (first |(with_reducible first | exact HB.out | apply jv | apply jg | apply jr | refine jw ?_ GE191.out | refine jw ?_ GE192.out | refine jw ?_ GE193.out) | exact HB.out)⟩
def jD.l0 : Nat → List (S55) → List (S52) → Int → Option ((List (S52)))
 | 0,_,_,_=>none
 | k+1,x0,x3,x4=>if x4<(x0.length:Int) then (if 0≤x4 then ((jac.f ((jPb x0 x4).f0) ((jPb x0 x4).f1) ((jPb x0 x4).f2) ((jPb x0 x4).f3)).bind fun bt198=>(if x4<(x3.length:Int) then (jD.l0 k x0 (x3.set (x4:Int).toNat (⟨bt198.1,bt198.2.1,bt198.2.2.1,bt198.2.2.2⟩:S52)) (wrap64 (x4+1))) else (none))) else (none)) else (some x3)
def jD.f (k : Nat) (l0 : List (S55)) : Option ((List (S52))) := if 0 ≤ (l0.length : Int) then (if ((l0.length : Int) : Int).toNat ≤ 8796093022208 then (jD.l0 k l0 (List.replicate ((l0.length : Int) : Int).toNat z52) 0) else (none)) else (none)
set_option maxHeartbeats 8000000 in
set_option maxRecDepth 100000 in
theorem jD.calls (k : Nat) (A0 : Option Addr) (c0 : Nat) (l0 : List (S55)) (r : List (S52)) (w : World) (hr0 : Kd.C k55 w A0 l0.length l0) (hc0 : l0.length ≤ c0) (h : jD.f k l0 = some r) :
  Calls Try.prog 11 #[.slice A0 l0.length c0] w fun e w'=>∃ v0_:Value,e=.returned (v0_)∧Kd.R k52 52 w' w.heap.size (fun _=>True) v0_ r∧Below w.heap.size w w':=by
 have hu55:=Try.underlying55
 have hu52:=Try.underlying52
 have HR0:=am hr0
 have HC0:=am hc0
 clear hr0 hc0
 have HB:=am (Below.refl w.heap.size w)
 have H:(if 0≤(l0.length:Int) then (if ((l0.length:Int):Int).toNat≤8796093022208 then (jD.l0 k l0 (List.replicate ((l0.length:Int):Int).toNat z52) 0) else (none)) else (none))=some r:=h
 clear h
 by_cases c2:0≤(l0.length:Int)
 ·rw [if_pos c2] at H
  have c2b0:=ezT c2
  have c2b1:decide (0≤(l0.length:Int))=true:=dzT c2
  clear c2
  by_cases c3:((l0.length:Int):Int).toNat≤8796093022208
  ·rw [if_pos c3] at H
   have c3b0:=ezT c3
   have c3b1:decide (((l0.length:Int):Int).toNat≤8796093022208)=true:=dzT c3
   clear c3
   obtain ⟨y194,hy194⟩:∃ y_:List (S52),y_=(List.replicate ((l0.length:Int):Int).toNat z52):=⟨_,rfl⟩
   replace H:(jD.l0 k l0 y194 0)=some r:=by first |(rw [hy194];with_reducible exact H) |(have H2_:=(Option.bind_some _ _).symm.trans H;rw [hy194];with_reducible exact H2_) |(have H2_:=(Option.bind_some _ _).symm.trans H;with_reducible exact H2_) | with_reducible exact H |(rw [hy194];exact H) | exact H
   have Ny194:=am hy194
   clear hy194
   have H':=am H
   clear H
   go_enter Try.func11,Try.ntmps11
   go_wp2_with (first |((with_reducible refine jP (N:=7) rfl ?_);refine Kd.R_make k52 _ 52 rfl (N:=7) rfl 28 _ _ rfl (l0.length:Int) rfl rfl Try.underlying28 (.agg #[(.int .i64 0),(.int .i64 0),(.int .i64 0),(.int .i64 0)]) 32 info52 rfl (by decide) (by omega) z52 (ok:=fun _=>True) (okp:=fun _=>True) (k52_mkM _ _ _ z52 ) (fun _ hk=>hk) trivial (ozD (uq)) (Nat.le_trans (Nat.mul_le_mul_right _ (ozD (uq):(l0.length:Int).toNat≤8796093022208)) (by omega)) (Below.refl _ _) (Nat.le_refl _) ?_;intro v195 w4 ho5 hb hg_ hnew_;clear hg_ hnew_;(first | rw [← Ny194.out] at ho5 |(simp only [Int.reduceToNat] at ho5;rw [← Ny194.out] at ho5));have HO196:=am (Kd.jRa ho5 (jH (bq)));replace HB:=am (jd (bq) hb);clear hb ho5))
   go_loopg [4] k (fun kq v4 w'=>∃ (x3_1:List (S52)) (x4_1:Int),v4=.int .i64 x4_1∧jk (jD.l0 kq l0 x3_1 x4_1=some r)∧jk (kq≤k)∧jk (Kd.R k52 52 w' w.heap.size (fun _=>True) v195 x3_1)∧jk (Below w.heap.size w w'))
   case atStart=>exact ⟨(y194),(0),(sq),H',⟨Nat.le_refl _⟩,⟨rq HO196.out⟩,⟨bq⟩⟩
   case round =>
    clear H'
    try clear c1
    try clear c2
    try clear c2b0
    try clear c2b1
    try clear p2
    try clear c3
    try clear c3b0
    try clear c3b1
    obtain ⟨x3_1,x4_1,rfl,HA,HK1,HO_3,HB⟩:=hrel
    cases gk with
    | zero=>exact absurd HA.out (by simp [jD.l0])
    | succ k1 =>
     have H:=HA.out
     clear HA
     simp only [jD.l0] at H
     by_cases c6:x4_1<(l0.length:Int)
     ·rw [if_pos c6] at H
      have c6b0:decide (x4_1<(l0.length:Int))=true:=dzT c6
      clear c6
      by_cases c7:0≤x4_1
      ·rw [if_pos c7] at H
       have c7b0:decide (0≤x4_1)=true:=dzT c7
       clear c7
       replace H:=bzS H
       obtain ⟨⟨t198,t199,t200,t201⟩,A80,H⟩:=H
       replace H:(if x4_1<(x3_1.length:Int) then (jD.l0 k1 l0 (x3_1.set (x4_1:Int).toNat (⟨t198,t199,t200,t201⟩:S52)) (wrap64 (x4_1+1))) else (none))=some r:=H
       have A8:=am A80
       clear A80
       by_cases c9:x4_1<(x3_1.length:Int)
       ·rw [if_pos c9] at H
        have c9b0:decide (x4_1<(x3_1.length:Int))=true:=dzT c9
        clear c9
        obtain ⟨y202,hy202⟩:∃ y_:List (S52),y_=(x3_1.set (x4_1:Int).toNat (⟨t198,t199,t200,t201⟩:S52)):=⟨_,rfl⟩
        replace H:(jD.l0 k1 l0 y202 (wrap64 (x4_1+1)))=some r:=by first |(rw [hy202];with_reducible exact H) |(have H2_:=(Option.bind_some _ _).symm.trans H;rw [hy202];with_reducible exact H2_) |(have H2_:=(Option.bind_some _ _).symm.trans H;with_reducible exact H2_) | with_reducible exact H |(rw [hy202];exact H) | exact H
        have Ny202:=am hy202
        clear hy202
        have H':=am H
        clear H
        have p197:0≤(x4_1:Int):=ozD (uq)
        have q197:x4_1<(l0.length:Int):=ozD (uq)
        obtain ⟨ad197,e197,hx197_0,hx197_1,hx197_2,hx197_3⟩:=at_T55 HR0.out x4_1 p197 q197
        cases e197
        replace hx197_0:=cb HB.out hx197_0
        replace hx197_1:=cb HB.out hx197_1
        replace hx197_2:=cb HB.out hx197_2
        replace hx197_3:=cb HB.out hx197_3
        replace p197:=ezT p197
        replace q197:=ezT q197
        go_wp2_with (first |((with_reducible refine je (f:=33) rfl ?_);refine gL (some 20) Try.func33 #[.agg #[.int .i64 ((jPb l0 x4_1).f0), .int .i64 ((jPb l0 x4_1).f1), .int .i64 ((jPb l0 x4_1).f2), .int .i64 ((jPb l0 x4_1).f3)]] ?_;(with_reducible refine (jac.calls ((jPb l0 x4_1).f0) ((jPb l0 x4_1).f1) ((jPb l0 x4_1).f2) ((jPb l0 x4_1).f3) t198 t199 t200 t201 _ A8.out).mono ?_);rintro e w11 ⟨rfl,hb⟩;refine ⟨_,rfl,?_⟩;replace HO_3:=am (Kd.jX (rq HO_3.out) hb);replace HB:=am (jd (bq) hb);(try clear hb);(try clear hb2);(try clear hk);(try clear hi);have p10:0≤(x4_1:Int):=ozD (uq);have q10:(x4_1:Int)<((x3_1.length:Int):Int):=ozD (uq);obtain ⟨go10,co10,eo10,gb10,gl10,cl10,HG10⟩:=Kd.R_form HO_3.out (by omega);(first | cases eo10 |(injection eo10 with ea_ en_ ec_;(first | subst ea_ |(injection ea_ with ea_;subst ea_));subst ec_;clear en_));have GB10:=am gb10;have GG10:=am HG10;clear gb10 gl10 HG10;obtain ⟨ce10,hcl10,hM10,hcc10,hfr10⟩:=Kd.jYb HO_3.out z52 (x4_1:Int) p10 q10;obtain rfl:=jFb hM10;have hx10_0:w11.cell? ⟨go10,(x4_1:Int).toNat * 4,none⟩=some (.int .i64 ((jb x3_1 x4_1).f0)):=hcc10 0 _ rfl;have hx10_1:w11.cell? ⟨go10,(x4_1:Int).toNat * 4+1,none⟩=some (.int .i64 ((jb x3_1 x4_1).f1)):=hcc10 1 _ rfl;have hx10_2:w11.cell? ⟨go10,(x4_1:Int).toNat * 4+2,none⟩=some (.int .i64 ((jb x3_1 x4_1).f2)):=hcc10 2 _ rfl;have hx10_3:w11.cell? ⟨go10,(x4_1:Int).toNat * 4+3,none⟩=some (.int .i64 ((jb x3_1 x4_1).f3)):=hcc10 3 _ rfl;have hf10_0:w11.frozen? ⟨go10,(x4_1:Int).toNat * 4,none⟩=false:=hfr10 0;have hf10_1:w11.frozen? ⟨go10,(x4_1:Int).toNat * 4+1,none⟩=false:=hfr10 1;have hf10_2:w11.frozen? ⟨go10,(x4_1:Int).toNat * 4+2,none⟩=false:=hfr10 2;have hf10_3:w11.frozen? ⟨go10,(x4_1:Int).toNat * 4+3,none⟩=false:=hfr10 3;clear hcl10 hcc10 hfr10 hM10;replace p10:=ezT p10;replace q10:=ezT q10;have HX12:=am (show Kd.R k52 52 w11 w.heap.size (fun _=>True) (.slice (some ⟨go10,0,none⟩) x3_1.length co10) x3_1 from (rq HO_3.out));obtain ⟨ce12,hcl12,hM12,hcc12,hfr12⟩:=Kd.jYb HX12.out z52 (x4_1:Int) (ozD (uq)) (by have h_:(x4_1:Int)<((x3_1.length:Int):Int):=ozD (uq);first | exact h_ |(have e_:=(Kd.jA HO_3.out).1;omega) | simpa using h_);obtain rfl:=jFb hM12;have HP12:=Kd.R_seg HX12.out (x4_1:Int) (ozD (uq)) (by have h_:(x4_1:Int)<((x3_1.length:Int):Int):=ozD (uq);first | exact h_ |(have e_:=(Kd.jA HO_3.out).1;omega) | simpa using h_) (seg:=[.int .i64 t198, .int .i64 t199, .int .i64 t200, .int .i64 t201]) (j:=0) hcl12 hcc12 (show 4≤4 from by decide) (x':=(⟨t198,t199,t200,t201⟩:S52)) (k52_mkM _ _ _ (⟨t198,t199,t200,t201⟩:S52) ) (fun _ hk=>hk);have hx12_0:=hcc12 0 _ rfl;(try simp only [show (k52).sz=4 from rfl,Nat.mul_one,Nat.add_zero] at hx12_0);have hf12_0:=hfr12 0;(try simp only [show (k52).sz=4 from rfl,Nat.mul_one,Nat.add_zero] at hf12_0);have hx12_1:=hcc12 1 _ rfl;(try simp only [show (k52).sz=4 from rfl,Nat.mul_one,Nat.add_zero] at hx12_1);have hf12_1:=hfr12 1;(try simp only [show (k52).sz=4 from rfl,Nat.mul_one,Nat.add_zero] at hf12_1);have hx12_2:=hcc12 2 _ rfl;(try simp only [show (k52).sz=4 from rfl,Nat.mul_one,Nat.add_zero] at hx12_2);have hf12_2:=hfr12 2;(try simp only [show (k52).sz=4 from rfl,Nat.mul_one,Nat.add_zero] at hf12_2);have hx12_3:=hcc12 3 _ rfl;(try simp only [show (k52).sz=4 from rfl,Nat.mul_one,Nat.add_zero] at hx12_3);have hf12_3:=hfr12 3;(try simp only [show (k52).sz=4 from rfl,Nat.mul_one,Nat.add_zero] at hf12_3);clear hcl12 hcc12 hfr12 hM12) |((with_reducible refine jBb (t:=52) (p:=21) rfl ?_);refine jqb (t:=52) (p:=21) (v:=?vo_w13) (w1:=((((w11.setCell ⟨go10,(x4_1:Int).toNat * 4,none⟩ (.int .i64 t198)).setCell ⟨go10,(x4_1:Int).toNat * 4+1,none⟩ (.int .i64 t199)).setCell ⟨go10,(x4_1:Int).toNat * 4+2,none⟩ (.int .i64 t200)).setCell ⟨go10,(x4_1:Int).toNat * 4+3,none⟩ (.int .i64 t201))) ?hg ?ho ?hn ?hr ?_;(case ho=>rfl);(case hg=>rfl);(case hn=>rfl);(case hr=>exact Y4);intro w13 hw;have hg:w11.grownBy w13 (some go10):=(by rw [hw];exact HP12.2);have hp_:Kd.R k52 52 w13 w.heap.size (fun _=>True) (.slice (some ⟨go10,0,none⟩) x3_1.length co10) y202:=(by rw [hw,Ny202.out];exact HP12.1);clear HP12;replace HO_3:=am (hp_);replace HB:=am ((by rw [hw];exact jw (jw (jw (jw (HB.out) GB10.out) GB10.out) GB10.out) GB10.out:Below w.heap.size w w13));clear hg hw hp_))
        go_roundg k1
        case measure=>have:=HK1.out;omega
        case rel=>exact ⟨(y202),(wrap64 (x4_1+1)),(sq),H',⟨by have:=HK1.out;omega⟩,⟨rq HO_3.out⟩,⟨bq⟩⟩
       ·rw [if_neg c9] at H
        exact absurd H (by simp)
      ·rw [if_neg c7] at H
       exact absurd H (by simp)
     ·rw [if_neg c6] at H
      have c6b0:decide (x4_1<(l0.length:Int))=false:=dzF c6
      clear c6
      obtain rfl:=Option.some.inj H
      go_wp2
      go_ret
      exact ⟨_,Y0,rq HO_3.out,bq⟩
  ·rw [if_neg c3] at H
   exact absurd H (by simp)
 ·rw [if_neg c2] at H
  exact absurd H (by simp)
def jQb.f (a0_0 : Int) (a0_1 : Int) (a0_2 : Int) (a0_3 : Int) (a1_0 : Int) (a1_1 : Int) (a1_2 : Int) (a1_3 : Int) : Option (Bool) := if a0_0 = a1_0 then (if a0_1 = a1_1 then (if a0_2 = a1_2 then (if a0_3 = a1_3 then (some true) else (some false)) else (some false)) else (some false)) else (some false)
set_option maxHeartbeats 8000000 in
set_option maxRecDepth 100000 in
theorem jQb.calls (a0_0 : Int) (a0_1 : Int) (a0_2 : Int) (a0_3 : Int) (a1_0 : Int) (a1_1 : Int) (a1_2 : Int) (a1_3 : Int) (r : Bool) (w : World) (h : jQb.f a0_0 a0_1 a0_2 a0_3 a1_0 a1_1 a1_2 a1_3 = some r) :
  Calls Try.prog 37 #[.agg #[.int .i64 a0_0, .int .i64 a0_1, .int .i64 a0_2, .int .i64 a0_3], .agg #[.int .i64 a1_0, .int .i64 a1_1, .int .i64 a1_2, .int .i64 a1_3]] w fun e w'=>e=.returned (.bool r)∧Below w.heap.size w w':=by
 have hu52:=Try.underlying52
 have HB:=am (Below.refl w.heap.size w)
 have H:(if a0_0=a1_0 then (if a0_1=a1_1 then (if a0_2=a1_2 then (if a0_3=a1_3 then (some true) else (some false)) else (some false)) else (some false)) else (some false))=some r:=h
 clear h
 by_cases c3:a0_0=a1_0
 ·rw [if_pos c3] at H
  have c3b0:(a0_0 == a1_0)=true:=beq_iff_eq.mpr c3
  have c3b1:(a0_0 != a1_0)=false:=bne_eq_false_iff_eq.mpr c3
  clear c3
  by_cases c4:a0_1=a1_1
  ·rw [if_pos c4] at H
   have c4b0:(a0_1 == a1_1)=true:=beq_iff_eq.mpr c4
   have c4b1:(a0_1 != a1_1)=false:=bne_eq_false_iff_eq.mpr c4
   clear c4
   by_cases c5:a0_2=a1_2
   ·rw [if_pos c5] at H
    have c5b0:(a0_2 == a1_2)=true:=beq_iff_eq.mpr c5
    have c5b1:(a0_2 != a1_2)=false:=bne_eq_false_iff_eq.mpr c5
    clear c5
    by_cases c6:a0_3=a1_3
    ·rw [if_pos c6] at H
     have c6b0:(a0_3 == a1_3)=true:=beq_iff_eq.mpr c6
     have c6b1:(a0_3 != a1_3)=false:=bne_eq_false_iff_eq.mpr c6
     clear c6
     obtain rfl:=Option.some.inj H
     go_enter Try.func37,Try.ntmps37
     go_wp2_with (first |((with_reducible refine jP (N:=2) rfl ?_);refine bE (N:=2) (cs:=#[.int .i64 a0_0, .int .i64 a0_1, .int .i64 a0_2, .int .i64 a0_3]) (t:=52) ?_;intro gb268 hg w7 hbox hb;have BK268:=am (hbox);have GW268:=am ((Y1:w.heap.size≤gb268));have GE268:=am ((Y1:w.heap.size≤gb268));replace HB:=am (jd (bq) hb);clear hb hbox hg) |((with_reducible refine jP (N:=3) rfl ?_);refine bE (N:=3) (cs:=#[.int .i64 a1_0, .int .i64 a1_1, .int .i64 a1_2, .int .i64 a1_3]) (t:=52) ?_;intro gb269 hg w8 hbox hb;have BK269:=am (hbox);have GW269:=am ((Y15:w.heap.size≤gb269));have GE269:=am ((Y15:w.heap.size≤gb269));have NB268_269:=am ((Y22:gb268≠gb269));have NB269_268:=am ((Y23:gb269≠gb268));replace BK268:=am (jm (g:=gb268) (o:=.cells #[.int .i64 a0_0, .int .i64 a0_1, .int .i64 a0_2, .int .i64 a0_3] 52 (0,0)) (kq BK268.out) hb);replace HB:=am (jd (Y24) hb);clear hb hbox hg;have hnb9:=NB268_269.out;have hnc9:=NB269_268.out;have hcz10_0:=bc0 BK268.out;have hcz10_1:=bc1 BK268.out;have hcz10_2:=bc2 BK268.out;have hcz10_3:=bc3 BK268.out;have hfz10_0:=ja BK268.out 0;have hfz10_1:=ja BK268.out 1;have hfz10_2:=ja BK268.out 2;have hfz10_3:=ja BK268.out 3;have hcz11_0:=bc0 BK269.out;have hcz11_1:=bc1 BK269.out;have hcz11_2:=bc2 BK269.out;have hcz11_3:=bc3 BK269.out;have hfz11_0:=ja BK269.out 0;have hfz11_1:=ja BK269.out 1;have hfz11_2:=ja BK269.out 2;have hfz11_3:=ja BK269.out 3))
     go_ret
     exact ⟨Y0,Y25⟩
    ·rw [if_neg c6] at H
     have c6b0:(a0_3 == a1_3)=false:=beq_eq_false_iff_ne.mpr c6
     have c6b1:(a0_3 != a1_3)=true:=bne_iff_ne.mpr c6
     obtain rfl:=Option.some.inj H
     go_enter Try.func37,Try.ntmps37
     go_wp2_with (first |((with_reducible refine jP (N:=2) rfl ?_);refine bE (N:=2) (cs:=#[.int .i64 a0_0, .int .i64 a0_1, .int .i64 a0_2, .int .i64 a0_3]) (t:=52) ?_;intro gb268 hg w12 hbox hb;have BK268:=am (hbox);have GW268:=am ((Y1:w.heap.size≤gb268));have GE268:=am ((Y1:w.heap.size≤gb268));replace HB:=am (jd (bq) hb);clear hb hbox hg) |((with_reducible refine jP (N:=3) rfl ?_);refine bE (N:=3) (cs:=#[.int .i64 a1_0, .int .i64 a1_1, .int .i64 a1_2, .int .i64 a1_3]) (t:=52) ?_;intro gb269 hg w13 hbox hb;have BK269:=am (hbox);have GW269:=am ((Y15:w.heap.size≤gb269));have GE269:=am ((Y15:w.heap.size≤gb269));have NB268_269:=am ((Y22:gb268≠gb269));have NB269_268:=am ((Y23:gb269≠gb268));replace BK268:=am (jm (g:=gb268) (o:=.cells #[.int .i64 a0_0, .int .i64 a0_1, .int .i64 a0_2, .int .i64 a0_3] 52 (0,0)) (kq BK268.out) hb);replace HB:=am (jd (Y24) hb);clear hb hbox hg;have hnb14:=NB268_269.out;have hnc14:=NB269_268.out;have hcz15_0:=bc0 BK268.out;have hcz15_1:=bc1 BK268.out;have hcz15_2:=bc2 BK268.out;have hcz15_3:=bc3 BK268.out;have hfz15_0:=ja BK268.out 0;have hfz15_1:=ja BK268.out 1;have hfz15_2:=ja BK268.out 2;have hfz15_3:=ja BK268.out 3;have hcz16_0:=bc0 BK269.out;have hcz16_1:=bc1 BK269.out;have hcz16_2:=bc2 BK269.out;have hcz16_3:=bc3 BK269.out;have hfz16_0:=ja BK269.out 0;have hfz16_1:=ja BK269.out 1;have hfz16_2:=ja BK269.out 2;have hfz16_3:=ja BK269.out 3))
     go_ret
     exact ⟨Y0,Y25⟩
   ·rw [if_neg c5] at H
    have c5b0:(a0_2 == a1_2)=false:=beq_eq_false_iff_ne.mpr c5
    have c5b1:(a0_2 != a1_2)=true:=bne_iff_ne.mpr c5
    obtain rfl:=Option.some.inj H
    go_enter Try.func37,Try.ntmps37
    go_wp2_with (first |((with_reducible refine jP (N:=2) rfl ?_);refine bE (N:=2) (cs:=#[.int .i64 a0_0, .int .i64 a0_1, .int .i64 a0_2, .int .i64 a0_3]) (t:=52) ?_;intro gb268 hg w17 hbox hb;have BK268:=am (hbox);have GW268:=am ((Y1:w.heap.size≤gb268));have GE268:=am ((Y1:w.heap.size≤gb268));replace HB:=am (jd (bq) hb);clear hb hbox hg) |((with_reducible refine jP (N:=3) rfl ?_);refine bE (N:=3) (cs:=#[.int .i64 a1_0, .int .i64 a1_1, .int .i64 a1_2, .int .i64 a1_3]) (t:=52) ?_;intro gb269 hg w18 hbox hb;have BK269:=am (hbox);have GW269:=am ((Y15:w.heap.size≤gb269));have GE269:=am ((Y15:w.heap.size≤gb269));have NB268_269:=am ((Y22:gb268≠gb269));have NB269_268:=am ((Y23:gb269≠gb268));replace BK268:=am (jm (g:=gb268) (o:=.cells #[.int .i64 a0_0, .int .i64 a0_1, .int .i64 a0_2, .int .i64 a0_3] 52 (0,0)) (kq BK268.out) hb);replace HB:=am (jd (Y24) hb);clear hb hbox hg;have hnb19:=NB268_269.out;have hnc19:=NB269_268.out;have hcz20_0:=bc0 BK268.out;have hcz20_1:=bc1 BK268.out;have hcz20_2:=bc2 BK268.out;have hcz20_3:=bc3 BK268.out;have hfz20_0:=ja BK268.out 0;have hfz20_1:=ja BK268.out 1;have hfz20_2:=ja BK268.out 2;have hfz20_3:=ja BK268.out 3;have hcz21_0:=bc0 BK269.out;have hcz21_1:=bc1 BK269.out;have hcz21_2:=bc2 BK269.out;have hcz21_3:=bc3 BK269.out;have hfz21_0:=ja BK269.out 0;have hfz21_1:=ja BK269.out 1;have hfz21_2:=ja BK269.out 2;have hfz21_3:=ja BK269.out 3))
    go_ret
    exact ⟨Y0,Y25⟩
  ·rw [if_neg c4] at H
   have c4b0:(a0_1 == a1_1)=false:=beq_eq_false_iff_ne.mpr c4
   have c4b1:(a0_1 != a1_1)=true:=bne_iff_ne.mpr c4
   obtain rfl:=Option.some.inj H
   go_enter Try.func37,Try.ntmps37
   go_wp2_with (first |((with_reducible refine jP (N:=2) rfl ?_);refine bE (N:=2) (cs:=#[.int .i64 a0_0, .int .i64 a0_1, .int .i64 a0_2, .int .i64 a0_3]) (t:=52) ?_;intro gb268 hg w22 hbox hb;have BK268:=am (hbox);have GW268:=am ((Y1:w.heap.size≤gb268));have GE268:=am ((Y1:w.heap.size≤gb268));replace HB:=am (jd (bq) hb);clear hb hbox hg) |((with_reducible refine jP (N:=3) rfl ?_);refine bE (N:=3) (cs:=#[.int .i64 a1_0, .int .i64 a1_1, .int .i64 a1_2, .int .i64 a1_3]) (t:=52) ?_;intro gb269 hg w23 hbox hb;have BK269:=am (hbox);have GW269:=am ((Y15:w.heap.size≤gb269));have GE269:=am ((Y15:w.heap.size≤gb269));have NB268_269:=am ((Y22:gb268≠gb269));have NB269_268:=am ((Y23:gb269≠gb268));replace BK268:=am (jm (g:=gb268) (o:=.cells #[.int .i64 a0_0, .int .i64 a0_1, .int .i64 a0_2, .int .i64 a0_3] 52 (0,0)) (kq BK268.out) hb);replace HB:=am (jd (Y24) hb);clear hb hbox hg;have hnb24:=NB268_269.out;have hnc24:=NB269_268.out;have hcz25_0:=bc0 BK268.out;have hcz25_1:=bc1 BK268.out;have hcz25_2:=bc2 BK268.out;have hcz25_3:=bc3 BK268.out;have hfz25_0:=ja BK268.out 0;have hfz25_1:=ja BK268.out 1;have hfz25_2:=ja BK268.out 2;have hfz25_3:=ja BK268.out 3;have hcz26_0:=bc0 BK269.out;have hcz26_1:=bc1 BK269.out;have hcz26_2:=bc2 BK269.out;have hcz26_3:=bc3 BK269.out;have hfz26_0:=ja BK269.out 0;have hfz26_1:=ja BK269.out 1;have hfz26_2:=ja BK269.out 2;have hfz26_3:=ja BK269.out 3))
   go_ret
   exact ⟨Y0,Y25⟩
 ·rw [if_neg c3] at H
  have c3b0:(a0_0 == a1_0)=false:=beq_eq_false_iff_ne.mpr c3
  have c3b1:(a0_0 != a1_0)=true:=bne_iff_ne.mpr c3
  obtain rfl:=Option.some.inj H
  go_enter Try.func37,Try.ntmps37
  go_wp2_with (first |((with_reducible refine jP (N:=2) rfl ?_);refine bE (N:=2) (cs:=#[.int .i64 a0_0, .int .i64 a0_1, .int .i64 a0_2, .int .i64 a0_3]) (t:=52) ?_;intro gb268 hg w27 hbox hb;have BK268:=am (hbox);have GW268:=am ((Y1:w.heap.size≤gb268));have GE268:=am ((Y1:w.heap.size≤gb268));replace HB:=am (jd (bq) hb);clear hb hbox hg) |((with_reducible refine jP (N:=3) rfl ?_);refine bE (N:=3) (cs:=#[.int .i64 a1_0, .int .i64 a1_1, .int .i64 a1_2, .int .i64 a1_3]) (t:=52) ?_;intro gb269 hg w28 hbox hb;have BK269:=am (hbox);have GW269:=am ((Y15:w.heap.size≤gb269));have GE269:=am ((Y15:w.heap.size≤gb269));have NB268_269:=am ((Y22:gb268≠gb269));have NB269_268:=am ((Y23:gb269≠gb268));replace BK268:=am (jm (g:=gb268) (o:=.cells #[.int .i64 a0_0, .int .i64 a0_1, .int .i64 a0_2, .int .i64 a0_3] 52 (0,0)) (kq BK268.out) hb);replace HB:=am (jd (Y24) hb);clear hb hbox hg;have hnb29:=NB268_269.out;have hnc29:=NB269_268.out;have hcz30_0:=bc0 BK268.out;have hcz30_1:=bc1 BK268.out;have hcz30_2:=bc2 BK268.out;have hcz30_3:=bc3 BK268.out;have hfz30_0:=ja BK268.out 0;have hfz30_1:=ja BK268.out 1;have hfz30_2:=ja BK268.out 2;have hfz30_3:=ja BK268.out 3;have hcz31_0:=bc0 BK269.out;have hcz31_1:=bc1 BK269.out;have hcz31_2:=bc2 BK269.out;have hcz31_3:=bc3 BK269.out;have hfz31_0:=ja BK269.out 0;have hfz31_1:=ja BK269.out 1;have hfz31_2:=ja BK269.out 2;have hfz31_3:=ja BK269.out 3))
  go_ret
  exact ⟨Y0,Y25⟩
def jN.l0 : Nat → List (S52) → List (S52) → Int → Option (Bool)
 | 0,_,_,_=>none
 | k+1,x0,x1,x5=>if x5<(x0.length:Int) then (if 0≤x5 then (if x5<(x1.length:Int) then ((jQb.f ((jb x0 x5).f0) ((jb x0 x5).f1) ((jb x0 x5).f2) ((jb x0 x5).f3) ((jb x1 x5).f0) ((jb x1 x5).f1) ((jb x1 x5).f2) ((jb x1 x5).f3)).bind fun t272=>(if t272=true then (jN.l0 k x0 x1 (wrap64 (x5+1))) else (some false))) else (none)) else (none)) else (some true)
def jN.f (k : Nat) (l0 : List (S52)) (l1 : List (S52)) : Option (Bool) := if (l0.length : Int) = (l1.length : Int) then (jN.l0 k l0 l1 0) else (some false)
def jN.T6 : Bool × List (List Nat × List Nat) := (true, [([], []), ([], []), ([0, 1], [0, 1]), ([2], [2]), ([], []), ([], []), ([4, 5], [4, 5]), ([6], [6]), ([3, 7], [3, 7]), ([8], [8])])
def jN.B6 : List Nat := [0, 0, 3, 7, 0, 0, 48, 112, 255, 511]
theorem jN.tab6 : rtab .any (opsOf Try.f13 6) = jN.T6 := by kernel_rfl
theorem jN.bits6 : waitsOk jN.T6.2 jN.B6 = true := by kernel_rfl
set_option maxHeartbeats 8000000 in
set_option maxRecDepth 100000 in
theorem jN.calls (k : Nat) (A0 : Option Addr) (c0 : Nat) (l0 : List (S52)) (A1 : Option Addr) (c1 : Nat) (l1 : List (S52)) (r : Bool) (w : World) (hr0 : Kd.C k52 w A0 l0.length l0) (hc0 : l0.length ≤ c0) (hr1 : Kd.C k52 w A1 l1.length l1) (hc1 : l1.length ≤ c1) (h : jN.f k l0 l1 = some r) :
  Calls Try.prog 13 #[.slice A0 l0.length c0, .slice A1 l1.length c1] w fun e w'=>e=.returned (.bool r)∧Below w.heap.size w w':=by
 have hu52:=Try.underlying52
 have HR0:=am hr0
 have HC0:=am hc0
 clear hr0 hc0
 have HR1:=am hr1
 have HC1:=am hc1
 clear hr1 hc1
 have HB:=am (Below.refl w.heap.size w)
 have H:(if (l0.length:Int)=(l1.length:Int) then (jN.l0 k l0 l1 0) else (some false))=some r:=h
 clear h
 by_cases c3:(l0.length:Int)=(l1.length:Int)
 ·rw [if_pos c3] at H
  have c3b0:((l0.length:Int) == (l1.length:Int))=true:=beq_iff_eq.mpr c3
  have c3b1:((l0.length:Int) != (l1.length:Int))=false:=bne_eq_false_iff_eq.mpr c3
  have c3b2:(l0.length == l1.length)=true:=by first | simpa using c3 |(simp at c3 ⊢;omega)
  clear c3
  have H':=am H
  clear H
  go_enter Try.func13,Try.ntmps13
  go_wp2
  go_loopg [5] k (fun kq v5 w'=>∃ (x5_1:Int),v5=.int .i64 x5_1∧jk (jN.l0 kq l0 l1 x5_1=some r)∧jk (kq≤k)∧jk (Below w.heap.size w w'))
  case atStart=>exact ⟨(0),(sq),H',⟨Nat.le_refl _⟩,⟨bq⟩⟩
  case round =>
   clear H'
   try clear c1
   try clear p2
   try clear c3
   try clear c3b0
   try clear c3b1
   try clear c3b2
   obtain ⟨x5_1,rfl,HA,HK1,HB⟩:=hrel
   cases gk with
   | zero=>exact absurd HA.out (by simp [jN.l0])
   | succ k1 =>
    have H:=HA.out
    clear HA
    simp only [jN.l0] at H
    by_cases c4:x5_1<(l0.length:Int)
    ·rw [if_pos c4] at H
     have c4b0:decide (x5_1<(l0.length:Int))=true:=dzT c4
     clear c4
     by_cases c5:0≤x5_1
     ·rw [if_pos c5] at H
      have c5b0:decide (0≤x5_1)=true:=dzT c5
      clear c5
      by_cases c6:x5_1<(l1.length:Int)
      ·rw [if_pos c6] at H
       have c6b0:decide (x5_1<(l1.length:Int))=true:=dzT c6
       clear c6
       replace H:=bzS H
       obtain ⟨t272,A70,H⟩:=H
       replace H:(if t272=true then (jN.l0 k1 l0 l1 (wrap64 (x5_1+1))) else (some false))=some r:=H
       have A7:=am A70
       clear A70
       by_cases c8:t272=true
       ·subst c8
        have H1:(jN.l0 k1 l0 l1 (wrap64 (x5_1+1)))=some r:=by rw [if_pos rfl] at H;exact H
        clear H
        have H:=H1
        clear H1
        have H':=am H
        clear H
        try go_wp2
        replace HB:=am (jr HB.out)
        have p270:0≤(x5_1:Int):=ozD (uq)
        have q270:x5_1<(l0.length:Int):=ozD (uq)
        obtain ⟨ad270,e270,hx270_0,hx270_1,hx270_2,hx270_3⟩:=jba HR0.out x5_1 p270 q270
        have hw270_3:=hx270_3
        have hw270_2:=hx270_2
        have hw270_1:=hx270_1
        have hw270_0:=hx270_0
        cases e270
        replace hx270_0:=cb HB.out hx270_0
        replace hx270_1:=cb HB.out hx270_1
        replace hx270_2:=cb HB.out hx270_2
        replace hx270_3:=cb HB.out hx270_3
        replace p270:=ezT p270
        replace q270:=ezT q270
        have p271:0≤(x5_1:Int):=ozD (uq)
        have q271:x5_1<(l1.length:Int):=ozD (uq)
        obtain ⟨ad271,e271,hx271_0,hx271_1,hx271_2,hx271_3⟩:=jba HR1.out x5_1 p271 q271
        have hw271_3:=hx271_3
        have hw271_2:=hx271_2
        have hw271_1:=hx271_1
        have hw271_0:=hx271_0
        cases e271
        replace hx271_0:=cb HB.out hx271_0
        replace hx271_1:=cb HB.out hx271_1
        replace hx271_2:=cb HB.out hx271_2
        replace hx271_3:=cb HB.out hx271_3
        replace p271:=ezT p271
        replace q271:=ezT q271
        refine start_ (n:=10) (S:=fun w'=>w'.cell? (ad270.add ((x5_1).toNat * 4))=some (.int .i64 ((jb l0 x5_1).f0))∧w'.cell? ⟨(ad270.add ((x5_1).toNat * 4)).block,(ad270.add ((x5_1).toNat * 4)).off+1,none⟩=some (.int .i64 ((jb l0 x5_1).f1))∧w'.cell? ⟨(ad270.add ((x5_1).toNat * 4)).block,(ad270.add ((x5_1).toNat * 4)).off+2,none⟩=some (.int .i64 ((jb l0 x5_1).f2))∧w'.cell? ⟨(ad270.add ((x5_1).toNat * 4)).block,(ad270.add ((x5_1).toNat * 4)).off+3,none⟩=some (.int .i64 ((jb l0 x5_1).f3))∧w'.cell? (ad271.add ((x5_1).toNat * 4))=some (.int .i64 ((jb l1 x5_1).f0))∧w'.cell? ⟨(ad271.add ((x5_1).toNat * 4)).block,(ad271.add ((x5_1).toNat * 4)).off+1,none⟩=some (.int .i64 ((jb l1 x5_1).f1))∧w'.cell? ⟨(ad271.add ((x5_1).toNat * 4)).block,(ad271.add ((x5_1).toNat * 4)).off+2,none⟩=some (.int .i64 ((jb l1 x5_1).f2))∧w'.cell? ⟨(ad271.add ((x5_1).toNat * 4)).block,(ad271.add ((x5_1).toNat * 4)).off+3,none⟩=some (.int .i64 ((jb l1 x5_1).f3))) (ds:=[]) #[false,false,false,false,false,false,false,false,false,false] (by kernel_rfl) rfl rfl ⟨((HB.out.cell (World.block_lt_of_cell? w _ hw270_0)).trans hw270_0),((HB.out.cell (World.block_lt_of_cell? w _ hw270_1)).trans hw270_1),((HB.out.cell (World.block_lt_of_cell? w _ hw270_2)).trans hw270_2),((HB.out.cell (World.block_lt_of_cell? w _ hw270_3)).trans hw270_3),((HB.out.cell (World.block_lt_of_cell? w _ hw271_0)).trans hw271_0),((HB.out.cell (World.block_lt_of_cell? w _ hw271_1)).trans hw271_1),((HB.out.cell (World.block_lt_of_cell? w _ hw271_2)).trans hw271_2),((HB.out.cell (World.block_lt_of_cell? w _ hw271_3)).trans hw271_3)⟩ (fun hHeld=>?_);refine jhc jN.tab6 jN.bits6 (fun HT_ HW_=>?_)
        generalize wr.drew=w9 at HB hx270_0 hx270_1 hx270_2 hx270_3 hx271_0 hx271_1 hx271_2 hx271_3 hHeld ⊢
        refine pq (i:=0) (N:=some 17) #[true,false,false,false,false,false,false,false,false,false] ?_
        refine pq (i:=1) (N:=some 18) #[true,true,false,false,false,false,false,false,false,false] ?_
        refine pq (i:=2) (N:=some 19) #[true,true,true,false,false,false,false,false,false,false] ?_
        refine pq (i:=4) (N:=some 21) #[true,true,true,false,true,false,false,false,false,false] ?_
        refine pq (i:=5) (N:=some 22) #[true,true,true,false,true,true,false,false,false,false] ?_
        refine pq (i:=6) (N:=some 23) #[true,true,true,false,true,true,true,false,false,false] ?_
        refine jic (i:=3) (N:=some 20) (v:=?_) (a':=?_) #[true,true,true,true,true,true,true,false,false,false] rfl rfl (jmb HT_.out HW_.out (by kernel_rfl)) (fun _ _ _ h=>h) (Or.inl ⟨by rfl,?_⟩) hHeld ?_ ?_
        rotate_left
        ·rintro w' ⟨s0,s1,s2,s3,s4,s5,s6,s7⟩
         go_simp
         with_reducible rfl
        rotate_left
        ·exact sa
        refine jic (i:=7) (N:=some 24) (v:=?_) (a':=?_) #[true,true,true,true,true,true,true,true,false,false] rfl rfl (jmb HT_.out HW_.out (by kernel_rfl)) (fun _ _ _ h=>h) (Or.inl ⟨by rfl,?_⟩) hHeld ?_ ?_
        rotate_left
        ·rintro w' ⟨s0,s1,s2,s3,s4,s5,s6,s7⟩
         go_simp
         with_reducible rfl
        rotate_left
        ·exact sa
        refine one_ (i:=8) (N:=some 25) #[true,true,true,true,true,true,true,true,true,false] rfl rfl (one_of HT_.out (by kernel_rfl)) (by decide) (fun K hK=>?_)
        refine goes_ Try.func37 (by kernel_rfl) rfl #[.agg #[.int .i64 ((jb l0 x5_1).f0), .int .i64 ((jb l0 x5_1).f1), .int .i64 ((jb l0 x5_1).f2), .int .i64 ((jb l0 x5_1).f3)], .agg #[.int .i64 ((jb l1 x5_1).f0), .int .i64 ((jb l1 x5_1).f1), .int .i64 ((jb l1 x5_1).f2), .int .i64 ((jb l1 x5_1).f3)]] (by rfl) rfl rfl (aq) ?_
        with_reducible refine (jQb.calls ((jb l0 x5_1).f0) ((jb l0 x5_1).f1) ((jb l0 x5_1).f2) ((jb l0 x5_1).f3) ((jb l1 x5_1).f0) ((jb l1 x5_1).f1) ((jb l1 x5_1).f2) ((jb l1 x5_1).f3) true _ A7.out).mono ?_
        rintro e w10 ⟨rfl,hb⟩
        refine ⟨_,rfl,?_⟩
        replace HB:=am (jd (bq) hb)
        (try clear hb)
        (try clear hb2)
        (try clear hk)
        (try clear hi)
        refine hK.out _ _ ⟨((HB.out.cell (World.block_lt_of_cell? w _ hw270_0)).trans hw270_0),((HB.out.cell (World.block_lt_of_cell? w _ hw270_1)).trans hw270_1),((HB.out.cell (World.block_lt_of_cell? w _ hw270_2)).trans hw270_2),((HB.out.cell (World.block_lt_of_cell? w _ hw270_3)).trans hw270_3),((HB.out.cell (World.block_lt_of_cell? w _ hw271_0)).trans hw271_0),((HB.out.cell (World.block_lt_of_cell? w _ hw271_1)).trans hw271_1),((HB.out.cell (World.block_lt_of_cell? w _ hw271_2)).trans hw271_2),((HB.out.cell (World.block_lt_of_cell? w _ hw271_3)).trans hw271_3)⟩ (fun hHeld=>?_)
        clear hK K
        refine norm_ (a':=?_) ?_ ?_
        rotate_left
        ·show Act.put _ (some 25) _=_
         simp only [Act.put,List.setIfInBounds_toArray,List.set_cons_zero,List.set_cons_succ,jub,jvb]
         rfl
        refine pq (i:=9) (N:=some 26) #[true,true,true,true,true,true,true,true,true,true] ?_
        refine done_ (done_of HT_.out (by kernel_rfl)) ?_
        try go_wp2
        go_roundg k1
        case measure=>have:=HK1.out;omega
        case rel=>exact ⟨(wrap64 (x5_1+1)),(sq),H',⟨by have:=HK1.out;omega⟩,⟨bq⟩⟩
       ·replace c8:=Bool.eq_false_iff.mpr c8
        subst c8
        have H1:(some false)=some r:=by rw [if_neg (show ¬ (false=true) by decide)] at H;exact H
        clear H
        have H:=H1
        clear H1
        obtain rfl:=Option.some.inj H
        try go_wp2
        replace HB:=am (jr HB.out)
        have p270:0≤(x5_1:Int):=ozD (uq)
        have q270:x5_1<(l0.length:Int):=ozD (uq)
        obtain ⟨ad270,e270,hx270_0,hx270_1,hx270_2,hx270_3⟩:=jba HR0.out x5_1 p270 q270
        have hw270_3:=hx270_3
        have hw270_2:=hx270_2
        have hw270_1:=hx270_1
        have hw270_0:=hx270_0
        cases e270
        replace hx270_0:=cb HB.out hx270_0
        replace hx270_1:=cb HB.out hx270_1
        replace hx270_2:=cb HB.out hx270_2
        replace hx270_3:=cb HB.out hx270_3
        replace p270:=ezT p270
        replace q270:=ezT q270
        have p271:0≤(x5_1:Int):=ozD (uq)
        have q271:x5_1<(l1.length:Int):=ozD (uq)
        obtain ⟨ad271,e271,hx271_0,hx271_1,hx271_2,hx271_3⟩:=jba HR1.out x5_1 p271 q271
        have hw271_3:=hx271_3
        have hw271_2:=hx271_2
        have hw271_1:=hx271_1
        have hw271_0:=hx271_0
        cases e271
        replace hx271_0:=cb HB.out hx271_0
        replace hx271_1:=cb HB.out hx271_1
        replace hx271_2:=cb HB.out hx271_2
        replace hx271_3:=cb HB.out hx271_3
        replace p271:=ezT p271
        replace q271:=ezT q271
        refine start_ (n:=10) (S:=fun w'=>w'.cell? (ad270.add ((x5_1).toNat * 4))=some (.int .i64 ((jb l0 x5_1).f0))∧w'.cell? ⟨(ad270.add ((x5_1).toNat * 4)).block,(ad270.add ((x5_1).toNat * 4)).off+1,none⟩=some (.int .i64 ((jb l0 x5_1).f1))∧w'.cell? ⟨(ad270.add ((x5_1).toNat * 4)).block,(ad270.add ((x5_1).toNat * 4)).off+2,none⟩=some (.int .i64 ((jb l0 x5_1).f2))∧w'.cell? ⟨(ad270.add ((x5_1).toNat * 4)).block,(ad270.add ((x5_1).toNat * 4)).off+3,none⟩=some (.int .i64 ((jb l0 x5_1).f3))∧w'.cell? (ad271.add ((x5_1).toNat * 4))=some (.int .i64 ((jb l1 x5_1).f0))∧w'.cell? ⟨(ad271.add ((x5_1).toNat * 4)).block,(ad271.add ((x5_1).toNat * 4)).off+1,none⟩=some (.int .i64 ((jb l1 x5_1).f1))∧w'.cell? ⟨(ad271.add ((x5_1).toNat * 4)).block,(ad271.add ((x5_1).toNat * 4)).off+2,none⟩=some (.int .i64 ((jb l1 x5_1).f2))∧w'.cell? ⟨(ad271.add ((x5_1).toNat * 4)).block,(ad271.add ((x5_1).toNat * 4)).off+3,none⟩=some (.int .i64 ((jb l1 x5_1).f3))) (ds:=[]) #[false,false,false,false,false,false,false,false,false,false] (by kernel_rfl) rfl rfl ⟨((HB.out.cell (World.block_lt_of_cell? w _ hw270_0)).trans hw270_0),((HB.out.cell (World.block_lt_of_cell? w _ hw270_1)).trans hw270_1),((HB.out.cell (World.block_lt_of_cell? w _ hw270_2)).trans hw270_2),((HB.out.cell (World.block_lt_of_cell? w _ hw270_3)).trans hw270_3),((HB.out.cell (World.block_lt_of_cell? w _ hw271_0)).trans hw271_0),((HB.out.cell (World.block_lt_of_cell? w _ hw271_1)).trans hw271_1),((HB.out.cell (World.block_lt_of_cell? w _ hw271_2)).trans hw271_2),((HB.out.cell (World.block_lt_of_cell? w _ hw271_3)).trans hw271_3)⟩ (fun hHeld=>?_);refine jhc jN.tab6 jN.bits6 (fun HT_ HW_=>?_)
        generalize wr.drew=w11 at HB hx270_0 hx270_1 hx270_2 hx270_3 hx271_0 hx271_1 hx271_2 hx271_3 hHeld ⊢
        refine pq (i:=0) (N:=some 17) #[true,false,false,false,false,false,false,false,false,false] ?_
        refine pq (i:=1) (N:=some 18) #[true,true,false,false,false,false,false,false,false,false] ?_
        refine pq (i:=2) (N:=some 19) #[true,true,true,false,false,false,false,false,false,false] ?_
        refine pq (i:=4) (N:=some 21) #[true,true,true,false,true,false,false,false,false,false] ?_
        refine pq (i:=5) (N:=some 22) #[true,true,true,false,true,true,false,false,false,false] ?_
        refine pq (i:=6) (N:=some 23) #[true,true,true,false,true,true,true,false,false,false] ?_
        refine jic (i:=3) (N:=some 20) (v:=?_) (a':=?_) #[true,true,true,true,true,true,true,false,false,false] rfl rfl (jmb HT_.out HW_.out (by kernel_rfl)) (fun _ _ _ h=>h) (Or.inl ⟨by rfl,?_⟩) hHeld ?_ ?_
        rotate_left
        ·rintro w' ⟨s0,s1,s2,s3,s4,s5,s6,s7⟩
         go_simp
         with_reducible rfl
        rotate_left
        ·exact sa
        refine jic (i:=7) (N:=some 24) (v:=?_) (a':=?_) #[true,true,true,true,true,true,true,true,false,false] rfl rfl (jmb HT_.out HW_.out (by kernel_rfl)) (fun _ _ _ h=>h) (Or.inl ⟨by rfl,?_⟩) hHeld ?_ ?_
        rotate_left
        ·rintro w' ⟨s0,s1,s2,s3,s4,s5,s6,s7⟩
         go_simp
         with_reducible rfl
        rotate_left
        ·exact sa
        refine one_ (i:=8) (N:=some 25) #[true,true,true,true,true,true,true,true,true,false] rfl rfl (one_of HT_.out (by kernel_rfl)) (by decide) (fun K hK=>?_)
        refine goes_ Try.func37 (by kernel_rfl) rfl #[.agg #[.int .i64 ((jb l0 x5_1).f0), .int .i64 ((jb l0 x5_1).f1), .int .i64 ((jb l0 x5_1).f2), .int .i64 ((jb l0 x5_1).f3)], .agg #[.int .i64 ((jb l1 x5_1).f0), .int .i64 ((jb l1 x5_1).f1), .int .i64 ((jb l1 x5_1).f2), .int .i64 ((jb l1 x5_1).f3)]] (by rfl) rfl rfl (aq) ?_
        with_reducible refine (jQb.calls ((jb l0 x5_1).f0) ((jb l0 x5_1).f1) ((jb l0 x5_1).f2) ((jb l0 x5_1).f3) ((jb l1 x5_1).f0) ((jb l1 x5_1).f1) ((jb l1 x5_1).f2) ((jb l1 x5_1).f3) false _ A7.out).mono ?_
        rintro e w12 ⟨rfl,hb⟩
        refine ⟨_,rfl,?_⟩
        replace HB:=am (jd (bq) hb)
        (try clear hb)
        (try clear hb2)
        (try clear hk)
        (try clear hi)
        refine hK.out _ _ ⟨((HB.out.cell (World.block_lt_of_cell? w _ hw270_0)).trans hw270_0),((HB.out.cell (World.block_lt_of_cell? w _ hw270_1)).trans hw270_1),((HB.out.cell (World.block_lt_of_cell? w _ hw270_2)).trans hw270_2),((HB.out.cell (World.block_lt_of_cell? w _ hw270_3)).trans hw270_3),((HB.out.cell (World.block_lt_of_cell? w _ hw271_0)).trans hw271_0),((HB.out.cell (World.block_lt_of_cell? w _ hw271_1)).trans hw271_1),((HB.out.cell (World.block_lt_of_cell? w _ hw271_2)).trans hw271_2),((HB.out.cell (World.block_lt_of_cell? w _ hw271_3)).trans hw271_3)⟩ (fun hHeld=>?_)
        clear hK K
        refine norm_ (a':=?_) ?_ ?_
        rotate_left
        ·show Act.put _ (some 25) _=_
         simp only [Act.put,List.setIfInBounds_toArray,List.set_cons_zero,List.set_cons_succ,jub,jvb]
         rfl
        refine pq (i:=9) (N:=some 26) #[true,true,true,true,true,true,true,true,true,true] ?_
        refine done_ (done_of HT_.out (by kernel_rfl)) ?_
        try go_wp2
        go_ret
        exact ⟨Y0,bq⟩
      ·rw [if_neg c6] at H
       exact absurd H (by simp)
     ·rw [if_neg c5] at H
      exact absurd H (by simp)
    ·rw [if_neg c4] at H
     have c4b0:decide (x5_1<(l0.length:Int))=false:=dzF c4
     clear c4
     obtain rfl:=Option.some.inj H
     go_wp2
     go_ret
     exact ⟨Y0,bq⟩
 ·rw [if_neg c3] at H
  have c3b0:((l0.length:Int) == (l1.length:Int))=false:=beq_eq_false_iff_ne.mpr c3
  have c3b1:((l0.length:Int) != (l1.length:Int))=true:=bne_iff_ne.mpr c3
  have c3b2:(l0.length == l1.length)=false:=by first | simpa using c3 |(simp at c3 ⊢;omega)
  obtain rfl:=Option.some.inj H
  go_enter Try.func13,Try.ntmps13
  go_wp2
  go_ret
  exact ⟨Y0,bq⟩
def jHb.f (a0_0 : ByteArray) (a0_1 : Int) (a1_0 : ByteArray) (a1_1 : Int) : Option (Bool) := if a0_0.toList = a1_0.toList then (if a0_1 = a1_1 then (some true) else (some false)) else (some false)
set_option maxHeartbeats 8000000 in
set_option maxRecDepth 100000 in
theorem jHb.calls (a0_0 : ByteArray) (a0_1 : Int) (a1_0 : ByteArray) (a1_1 : Int) (r : Bool) (w : World) (h : jHb.f a0_0 a0_1 a1_0 a1_1 = some r) :
  Calls Try.prog 64 #[.agg #[.string a0_0, .int .i64 a0_1], .agg #[.string a1_0, .int .i64 a1_1]] w fun e w'=>e=.returned (.bool r)∧Below w.heap.size w w':=by
 have hu78:=Try.underlying78
 have HB:=am (Below.refl w.heap.size w)
 have H:(if a0_0.toList=a1_0.toList then (if a0_1=a1_1 then (some true) else (some false)) else (some false))=some r:=h
 clear h
 by_cases c3:a0_0.toList=a1_0.toList
 ·rw [if_pos c3] at H
  have c3b0:(a0_0.toList == a1_0.toList)=true:=beq_iff_eq.mpr c3
  have c3b1:(a0_0.toList != a1_0.toList)=false:=bne_eq_false_iff_eq.mpr c3
  clear c3
  by_cases c4:a0_1=a1_1
  ·rw [if_pos c4] at H
   have c4b0:(a0_1 == a1_1)=true:=beq_iff_eq.mpr c4
   have c4b1:(a0_1 != a1_1)=false:=bne_eq_false_iff_eq.mpr c4
   clear c4
   obtain rfl:=Option.some.inj H
   go_enter Try.func64,Try.ntmps64
   go_wp2_with (first |((with_reducible refine jP (N:=2) rfl ?_);refine bE (N:=2) (cs:=#[.string a0_0, .int .i64 a0_1]) (t:=78) ?_;intro gb273 hg w5 hbox hb;have BK273:=am (hbox);have GW273:=am ((Y1:w.heap.size≤gb273));have GE273:=am ((Y1:w.heap.size≤gb273));replace HB:=am (jd (bq) hb);clear hb hbox hg) |((with_reducible refine jP (N:=3) rfl ?_);refine bE (N:=3) (cs:=#[.string a1_0, .int .i64 a1_1]) (t:=78) ?_;intro gb274 hg w6 hbox hb;have BK274:=am (hbox);have GW274:=am ((Y18:w.heap.size≤gb274));have GE274:=am ((Y18:w.heap.size≤gb274));have NB273_274:=am ((Y30:gb273≠gb274));have NB274_273:=am ((Y31:gb274≠gb273));replace BK273:=am (jm (g:=gb273) (o:=.cells #[.string a0_0, .int .i64 a0_1] 78 (0,0)) (kq BK273.out) hb);replace HB:=am (jd (Y32) hb);clear hb hbox hg;have hnb7:=NB273_274.out;have hnc7:=NB274_273.out;have hcz8_0:=bc0 BK273.out;have hcz8_1:=bc1 BK273.out;have hfz8_0:=ja BK273.out 0;have hfz8_1:=ja BK273.out 1;have hcz9_0:=bc0 BK274.out;have hcz9_1:=bc1 BK274.out;have hfz9_0:=ja BK274.out 0;have hfz9_1:=ja BK274.out 1))
   go_ret
   exact ⟨Y0,Y33⟩
  ·rw [if_neg c4] at H
   have c4b0:(a0_1 == a1_1)=false:=beq_eq_false_iff_ne.mpr c4
   have c4b1:(a0_1 != a1_1)=true:=bne_iff_ne.mpr c4
   obtain rfl:=Option.some.inj H
   go_enter Try.func64,Try.ntmps64
   go_wp2_with (first |((with_reducible refine jP (N:=2) rfl ?_);refine bE (N:=2) (cs:=#[.string a0_0, .int .i64 a0_1]) (t:=78) ?_;intro gb273 hg w10 hbox hb;have BK273:=am (hbox);have GW273:=am ((Y1:w.heap.size≤gb273));have GE273:=am ((Y1:w.heap.size≤gb273));replace HB:=am (jd (bq) hb);clear hb hbox hg) |((with_reducible refine jP (N:=3) rfl ?_);refine bE (N:=3) (cs:=#[.string a1_0, .int .i64 a1_1]) (t:=78) ?_;intro gb274 hg w11 hbox hb;have BK274:=am (hbox);have GW274:=am ((Y18:w.heap.size≤gb274));have GE274:=am ((Y18:w.heap.size≤gb274));have NB273_274:=am ((Y30:gb273≠gb274));have NB274_273:=am ((Y31:gb274≠gb273));replace BK273:=am (jm (g:=gb273) (o:=.cells #[.string a0_0, .int .i64 a0_1] 78 (0,0)) (kq BK273.out) hb);replace HB:=am (jd (Y32) hb);clear hb hbox hg;have hnb12:=NB273_274.out;have hnc12:=NB274_273.out;have hcz13_0:=bc0 BK273.out;have hcz13_1:=bc1 BK273.out;have hfz13_0:=ja BK273.out 0;have hfz13_1:=ja BK273.out 1;have hcz14_0:=bc0 BK274.out;have hcz14_1:=bc1 BK274.out;have hfz14_0:=ja BK274.out 0;have hfz14_1:=ja BK274.out 1))
   go_ret
   exact ⟨Y0,Y33⟩
 ·rw [if_neg c3] at H
  have c3b0:(a0_0.toList == a1_0.toList)=false:=beq_eq_false_iff_ne.mpr c3
  have c3b1:(a0_0.toList != a1_0.toList)=true:=bne_iff_ne.mpr c3
  obtain rfl:=Option.some.inj H
  go_enter Try.func64,Try.ntmps64
  go_wp2_with (first |((with_reducible refine jP (N:=2) rfl ?_);refine bE (N:=2) (cs:=#[.string a0_0, .int .i64 a0_1]) (t:=78) ?_;intro gb273 hg w15 hbox hb;have BK273:=am (hbox);have GW273:=am ((Y1:w.heap.size≤gb273));have GE273:=am ((Y1:w.heap.size≤gb273));replace HB:=am (jd (bq) hb);clear hb hbox hg) |((with_reducible refine jP (N:=3) rfl ?_);refine bE (N:=3) (cs:=#[.string a1_0, .int .i64 a1_1]) (t:=78) ?_;intro gb274 hg w16 hbox hb;have BK274:=am (hbox);have GW274:=am ((Y18:w.heap.size≤gb274));have GE274:=am ((Y18:w.heap.size≤gb274));have NB273_274:=am ((Y30:gb273≠gb274));have NB274_273:=am ((Y31:gb274≠gb273));replace BK273:=am (jm (g:=gb273) (o:=.cells #[.string a0_0, .int .i64 a0_1] 78 (0,0)) (kq BK273.out) hb);replace HB:=am (jd (Y32) hb);clear hb hbox hg;have hnb17:=NB273_274.out;have hnc17:=NB274_273.out;have hcz18_0:=bc0 BK273.out;have hcz18_1:=bc1 BK273.out;have hfz18_0:=ja BK273.out 0;have hfz18_1:=ja BK273.out 1;have hcz19_0:=bc0 BK274.out;have hcz19_1:=bc1 BK274.out;have hfz19_0:=ja BK274.out 0;have hfz19_1:=ja BK274.out 1))
  go_ret
  exact ⟨Y0,Y33⟩
def jca.l0 : Nat → List (S78) → List (S78) → Int → Option (Bool)
 | 0,_,_,_=>none
 | k+1,x0,x1,x5=>if x5<(x0.length:Int) then (if 0≤x5 then (if x5<(x1.length:Int) then ((jHb.f ((jK x0 x5).f0) ((jK x0 x5).f1) ((jK x1 x5).f0) ((jK x1 x5).f1)).bind fun t277=>(if t277=true then (jca.l0 k x0 x1 (wrap64 (x5+1))) else (some false))) else (none)) else (none)) else (some true)
def jca.f (k : Nat) (l0 : List (S78)) (l1 : List (S78)) : Option (Bool) := if (l0.length : Int) = (l1.length : Int) then (jca.l0 k l0 l1 0) else (some false)
def jca.T6 : Bool × List (List Nat × List Nat) := (true, [([], []), ([], []), ([0, 1], [0, 1]), ([2], [2]), ([], []), ([], []), ([4, 5], [4, 5]), ([6], [6]), ([3, 7], [3, 7]), ([8], [8])])
def jca.B6 : List Nat := [0, 0, 3, 7, 0, 0, 48, 112, 255, 511]
theorem jca.tab6 : rtab .any (opsOf Try.f38 6) = jca.T6 := by kernel_rfl
theorem jca.bits6 : waitsOk jca.T6.2 jca.B6 = true := by kernel_rfl
set_option maxHeartbeats 8000000 in
set_option maxRecDepth 100000 in
theorem jca.calls (k : Nat) (A0 : Option Addr) (c0 : Nat) (l0 : List (S78)) (A1 : Option Addr) (c1 : Nat) (l1 : List (S78)) (r : Bool) (w : World) (hr0 : Kd.C k78 w A0 l0.length l0) (hc0 : l0.length ≤ c0) (hr1 : Kd.C k78 w A1 l1.length l1) (hc1 : l1.length ≤ c1) (h : jca.f k l0 l1 = some r) :
  Calls Try.prog 38 #[.slice A0 l0.length c0, .slice A1 l1.length c1] w fun e w'=>e=.returned (.bool r)∧Below w.heap.size w w':=by
 have hu78:=Try.underlying78
 have HR0:=am hr0
 have HC0:=am hc0
 clear hr0 hc0
 have HR1:=am hr1
 have HC1:=am hc1
 clear hr1 hc1
 have HB:=am (Below.refl w.heap.size w)
 have H:(if (l0.length:Int)=(l1.length:Int) then (jca.l0 k l0 l1 0) else (some false))=some r:=h
 clear h
 by_cases c3:(l0.length:Int)=(l1.length:Int)
 ·rw [if_pos c3] at H
  have c3b0:((l0.length:Int) == (l1.length:Int))=true:=beq_iff_eq.mpr c3
  have c3b1:((l0.length:Int) != (l1.length:Int))=false:=bne_eq_false_iff_eq.mpr c3
  have c3b2:(l0.length == l1.length)=true:=by first | simpa using c3 |(simp at c3 ⊢;omega)
  clear c3
  have H':=am H
  clear H
  go_enter Try.func38,Try.ntmps38
  go_wp2
  go_loopg [5] k (fun kq v5 w'=>∃ (x5_1:Int),v5=.int .i64 x5_1∧jk (jca.l0 kq l0 l1 x5_1=some r)∧jk (kq≤k)∧jk (Below w.heap.size w w'))
  case atStart=>exact ⟨(0),(sq),H',⟨Nat.le_refl _⟩,⟨bq⟩⟩
  case round =>
   clear H'
   try clear c1
   try clear p2
   try clear c3
   try clear c3b0
   try clear c3b1
   try clear c3b2
   obtain ⟨x5_1,rfl,HA,HK1,HB⟩:=hrel
   cases gk with
   | zero=>exact absurd HA.out (by simp [jca.l0])
   | succ k1 =>
    have H:=HA.out
    clear HA
    simp only [jca.l0] at H
    by_cases c4:x5_1<(l0.length:Int)
    ·rw [if_pos c4] at H
     have c4b0:decide (x5_1<(l0.length:Int))=true:=dzT c4
     clear c4
     by_cases c5:0≤x5_1
     ·rw [if_pos c5] at H
      have c5b0:decide (0≤x5_1)=true:=dzT c5
      clear c5
      by_cases c6:x5_1<(l1.length:Int)
      ·rw [if_pos c6] at H
       have c6b0:decide (x5_1<(l1.length:Int))=true:=dzT c6
       clear c6
       replace H:=bzS H
       obtain ⟨t277,A70,H⟩:=H
       replace H:(if t277=true then (jca.l0 k1 l0 l1 (wrap64 (x5_1+1))) else (some false))=some r:=H
       have A7:=am A70
       clear A70
       by_cases c8:t277=true
       ·subst c8
        have H1:(jca.l0 k1 l0 l1 (wrap64 (x5_1+1)))=some r:=by rw [if_pos rfl] at H;exact H
        clear H
        have H:=H1
        clear H1
        have H':=am H
        clear H
        try go_wp2
        replace HB:=am (jr HB.out)
        have p275:0≤(x5_1:Int):=ozD (uq)
        have q275:x5_1<(l0.length:Int):=ozD (uq)
        obtain ⟨ad275,e275,hx275_0,hx275_1⟩:=at_T78 HR0.out x5_1 p275 q275
        have hw275_1:=hx275_1
        have hw275_0:=hx275_0
        cases e275
        replace hx275_0:=cb HB.out hx275_0
        replace hx275_1:=cb HB.out hx275_1
        replace p275:=ezT p275
        replace q275:=ezT q275
        have p276:0≤(x5_1:Int):=ozD (uq)
        have q276:x5_1<(l1.length:Int):=ozD (uq)
        obtain ⟨ad276,e276,hx276_0,hx276_1⟩:=at_T78 HR1.out x5_1 p276 q276
        have hw276_1:=hx276_1
        have hw276_0:=hx276_0
        cases e276
        replace hx276_0:=cb HB.out hx276_0
        replace hx276_1:=cb HB.out hx276_1
        replace p276:=ezT p276
        replace q276:=ezT q276
        refine start_ (n:=10) (S:=fun w'=>w'.cell? (ad275.add ((x5_1).toNat * 2))=some (.string ((jK l0 x5_1).f0))∧w'.cell? ⟨(ad275.add ((x5_1).toNat * 2)).block,(ad275.add ((x5_1).toNat * 2)).off+1,none⟩=some (.int .i64 ((jK l0 x5_1).f1))∧w'.cell? (ad276.add ((x5_1).toNat * 2))=some (.string ((jK l1 x5_1).f0))∧w'.cell? ⟨(ad276.add ((x5_1).toNat * 2)).block,(ad276.add ((x5_1).toNat * 2)).off+1,none⟩=some (.int .i64 ((jK l1 x5_1).f1))) (ds:=[]) #[false,false,false,false,false,false,false,false,false,false] (by kernel_rfl) rfl rfl ⟨((HB.out.cell (World.block_lt_of_cell? w _ hw275_0)).trans hw275_0),((HB.out.cell (World.block_lt_of_cell? w _ hw275_1)).trans hw275_1),((HB.out.cell (World.block_lt_of_cell? w _ hw276_0)).trans hw276_0),((HB.out.cell (World.block_lt_of_cell? w _ hw276_1)).trans hw276_1)⟩ (fun hHeld=>?_);refine jhc jca.tab6 jca.bits6 (fun HT_ HW_=>?_)
        generalize wr.drew=w9 at HB hx275_0 hx275_1 hx276_0 hx276_1 hHeld ⊢
        refine pq (i:=0) (N:=some 17) #[true,false,false,false,false,false,false,false,false,false] ?_
        refine pq (i:=1) (N:=some 18) #[true,true,false,false,false,false,false,false,false,false] ?_
        refine pq (i:=2) (N:=some 19) #[true,true,true,false,false,false,false,false,false,false] ?_
        refine pq (i:=4) (N:=some 21) #[true,true,true,false,true,false,false,false,false,false] ?_
        refine pq (i:=5) (N:=some 22) #[true,true,true,false,true,true,false,false,false,false] ?_
        refine pq (i:=6) (N:=some 23) #[true,true,true,false,true,true,true,false,false,false] ?_
        refine jic (i:=3) (N:=some 20) (v:=?_) (a':=?_) #[true,true,true,true,true,true,true,false,false,false] rfl rfl (jmb HT_.out HW_.out (by kernel_rfl)) (fun _ _ _ h=>h) (Or.inl ⟨by rfl,?_⟩) hHeld ?_ ?_
        rotate_left
        ·rintro w' ⟨s0,s1,s2,s3⟩
         go_simp
         with_reducible rfl
        rotate_left
        ·exact sa
        refine jic (i:=7) (N:=some 24) (v:=?_) (a':=?_) #[true,true,true,true,true,true,true,true,false,false] rfl rfl (jmb HT_.out HW_.out (by kernel_rfl)) (fun _ _ _ h=>h) (Or.inl ⟨by rfl,?_⟩) hHeld ?_ ?_
        rotate_left
        ·rintro w' ⟨s0,s1,s2,s3⟩
         go_simp
         with_reducible rfl
        rotate_left
        ·exact sa
        refine one_ (i:=8) (N:=some 25) #[true,true,true,true,true,true,true,true,true,false] rfl rfl (one_of HT_.out (by kernel_rfl)) (by decide) (fun K hK=>?_)
        refine goes_ Try.func64 (by kernel_rfl) rfl #[.agg #[.string ((jK l0 x5_1).f0), .int .i64 ((jK l0 x5_1).f1)], .agg #[.string ((jK l1 x5_1).f0), .int .i64 ((jK l1 x5_1).f1)]] (by rfl) rfl rfl (aq) ?_
        with_reducible refine (jHb.calls ((jK l0 x5_1).f0) ((jK l0 x5_1).f1) ((jK l1 x5_1).f0) ((jK l1 x5_1).f1) true _ A7.out).mono ?_
        rintro e w10 ⟨rfl,hb⟩
        refine ⟨_,rfl,?_⟩
        replace HB:=am (jd (bq) hb)
        (try clear hb)
        (try clear hb2)
        (try clear hk)
        (try clear hi)
        refine hK.out _ _ ⟨((HB.out.cell (World.block_lt_of_cell? w _ hw275_0)).trans hw275_0),((HB.out.cell (World.block_lt_of_cell? w _ hw275_1)).trans hw275_1),((HB.out.cell (World.block_lt_of_cell? w _ hw276_0)).trans hw276_0),((HB.out.cell (World.block_lt_of_cell? w _ hw276_1)).trans hw276_1)⟩ (fun hHeld=>?_)
        clear hK K
        refine norm_ (a':=?_) ?_ ?_
        rotate_left
        ·show Act.put _ (some 25) _=_
         simp only [Act.put,List.setIfInBounds_toArray,List.set_cons_zero,List.set_cons_succ,jub,jvb]
         rfl
        refine pq (i:=9) (N:=some 26) #[true,true,true,true,true,true,true,true,true,true] ?_
        refine done_ (done_of HT_.out (by kernel_rfl)) ?_
        try go_wp2
        go_roundg k1
        case measure=>have:=HK1.out;omega
        case rel=>exact ⟨(wrap64 (x5_1+1)),(sq),H',⟨by have:=HK1.out;omega⟩,⟨bq⟩⟩
       ·replace c8:=Bool.eq_false_iff.mpr c8
        subst c8
        have H1:(some false)=some r:=by rw [if_neg (show ¬ (false=true) by decide)] at H;exact H
        clear H
        have H:=H1
        clear H1
        obtain rfl:=Option.some.inj H
        try go_wp2
        replace HB:=am (jr HB.out)
        have p275:0≤(x5_1:Int):=ozD (uq)
        have q275:x5_1<(l0.length:Int):=ozD (uq)
        obtain ⟨ad275,e275,hx275_0,hx275_1⟩:=at_T78 HR0.out x5_1 p275 q275
        have hw275_1:=hx275_1
        have hw275_0:=hx275_0
        cases e275
        replace hx275_0:=cb HB.out hx275_0
        replace hx275_1:=cb HB.out hx275_1
        replace p275:=ezT p275
        replace q275:=ezT q275
        have p276:0≤(x5_1:Int):=ozD (uq)
        have q276:x5_1<(l1.length:Int):=ozD (uq)
        obtain ⟨ad276,e276,hx276_0,hx276_1⟩:=at_T78 HR1.out x5_1 p276 q276
        have hw276_1:=hx276_1
        have hw276_0:=hx276_0
        cases e276
        replace hx276_0:=cb HB.out hx276_0
        replace hx276_1:=cb HB.out hx276_1
        replace p276:=ezT p276
        replace q276:=ezT q276
        refine start_ (n:=10) (S:=fun w'=>w'.cell? (ad275.add ((x5_1).toNat * 2))=some (.string ((jK l0 x5_1).f0))∧w'.cell? ⟨(ad275.add ((x5_1).toNat * 2)).block,(ad275.add ((x5_1).toNat * 2)).off+1,none⟩=some (.int .i64 ((jK l0 x5_1).f1))∧w'.cell? (ad276.add ((x5_1).toNat * 2))=some (.string ((jK l1 x5_1).f0))∧w'.cell? ⟨(ad276.add ((x5_1).toNat * 2)).block,(ad276.add ((x5_1).toNat * 2)).off+1,none⟩=some (.int .i64 ((jK l1 x5_1).f1))) (ds:=[]) #[false,false,false,false,false,false,false,false,false,false] (by kernel_rfl) rfl rfl ⟨((HB.out.cell (World.block_lt_of_cell? w _ hw275_0)).trans hw275_0),((HB.out.cell (World.block_lt_of_cell? w _ hw275_1)).trans hw275_1),((HB.out.cell (World.block_lt_of_cell? w _ hw276_0)).trans hw276_0),((HB.out.cell (World.block_lt_of_cell? w _ hw276_1)).trans hw276_1)⟩ (fun hHeld=>?_);refine jhc jca.tab6 jca.bits6 (fun HT_ HW_=>?_)
        generalize wr.drew=w11 at HB hx275_0 hx275_1 hx276_0 hx276_1 hHeld ⊢
        refine pq (i:=0) (N:=some 17) #[true,false,false,false,false,false,false,false,false,false] ?_
        refine pq (i:=1) (N:=some 18) #[true,true,false,false,false,false,false,false,false,false] ?_
        refine pq (i:=2) (N:=some 19) #[true,true,true,false,false,false,false,false,false,false] ?_
        refine pq (i:=4) (N:=some 21) #[true,true,true,false,true,false,false,false,false,false] ?_
        refine pq (i:=5) (N:=some 22) #[true,true,true,false,true,true,false,false,false,false] ?_
        refine pq (i:=6) (N:=some 23) #[true,true,true,false,true,true,true,false,false,false] ?_
        refine jic (i:=3) (N:=some 20) (v:=?_) (a':=?_) #[true,true,true,true,true,true,true,false,false,false] rfl rfl (jmb HT_.out HW_.out (by kernel_rfl)) (fun _ _ _ h=>h) (Or.inl ⟨by rfl,?_⟩) hHeld ?_ ?_
        rotate_left
        ·rintro w' ⟨s0,s1,s2,s3⟩
         go_simp
         with_reducible rfl
        rotate_left
        ·exact sa
        refine jic (i:=7) (N:=some 24) (v:=?_) (a':=?_) #[true,true,true,true,true,true,true,true,false,false] rfl rfl (jmb HT_.out HW_.out (by kernel_rfl)) (fun _ _ _ h=>h) (Or.inl ⟨by rfl,?_⟩) hHeld ?_ ?_
        rotate_left
        ·rintro w' ⟨s0,s1,s2,s3⟩
         go_simp
         with_reducible rfl
        rotate_left
        ·exact sa
        refine one_ (i:=8) (N:=some 25) #[true,true,true,true,true,true,true,true,true,false] rfl rfl (one_of HT_.out (by kernel_rfl)) (by decide) (fun K hK=>?_)
        refine goes_ Try.func64 (by kernel_rfl) rfl #[.agg #[.string ((jK l0 x5_1).f0), .int .i64 ((jK l0 x5_1).f1)], .agg #[.string ((jK l1 x5_1).f0), .int .i64 ((jK l1 x5_1).f1)]] (by rfl) rfl rfl (aq) ?_
        with_reducible refine (jHb.calls ((jK l0 x5_1).f0) ((jK l0 x5_1).f1) ((jK l1 x5_1).f0) ((jK l1 x5_1).f1) false _ A7.out).mono ?_
        rintro e w12 ⟨rfl,hb⟩
        refine ⟨_,rfl,?_⟩
        replace HB:=am (jd (bq) hb)
        (try clear hb)
        (try clear hb2)
        (try clear hk)
        (try clear hi)
        refine hK.out _ _ ⟨((HB.out.cell (World.block_lt_of_cell? w _ hw275_0)).trans hw275_0),((HB.out.cell (World.block_lt_of_cell? w _ hw275_1)).trans hw275_1),((HB.out.cell (World.block_lt_of_cell? w _ hw276_0)).trans hw276_0),((HB.out.cell (World.block_lt_of_cell? w _ hw276_1)).trans hw276_1)⟩ (fun hHeld=>?_)
        clear hK K
        refine norm_ (a':=?_) ?_ ?_
        rotate_left
        ·show Act.put _ (some 25) _=_
         simp only [Act.put,List.setIfInBounds_toArray,List.set_cons_zero,List.set_cons_succ,jub,jvb]
         rfl
        refine pq (i:=9) (N:=some 26) #[true,true,true,true,true,true,true,true,true,true] ?_
        refine done_ (done_of HT_.out (by kernel_rfl)) ?_
        try go_wp2
        go_ret
        exact ⟨Y0,bq⟩
      ·rw [if_neg c6] at H
       exact absurd H (by simp)
     ·rw [if_neg c5] at H
      exact absurd H (by simp)
    ·rw [if_neg c4] at H
     have c4b0:decide (x5_1<(l0.length:Int))=false:=dzF c4
     clear c4
     obtain rfl:=Option.some.inj H
     go_wp2
     go_ret
     exact ⟨Y0,bq⟩
 ·rw [if_neg c3] at H
  have c3b0:((l0.length:Int) == (l1.length:Int))=false:=beq_eq_false_iff_ne.mpr c3
  have c3b1:((l0.length:Int) != (l1.length:Int))=true:=bne_iff_ne.mpr c3
  have c3b2:(l0.length == l1.length)=false:=by first | simpa using c3 |(simp at c3 ⊢;omega)
  obtain rfl:=Option.some.inj H
  go_enter Try.func38,Try.ntmps38
  go_wp2
  go_ret
  exact ⟨Y0,bq⟩
def jQa.f (k : Nat) (l0_0 : List (S78)) (l1_0 : List (S78)) : Option (Bool) := (jca.f k l0_0 l1_0).bind fun t280 => (if t280 = true then (some true) else (some false))
set_option maxHeartbeats 8000000 in
set_option maxRecDepth 100000 in
theorem jQa.calls (k : Nat) (A0_0 : Option Addr) (c0_0 : Nat) (l0_0 : List (S78)) (A1_0 : Option Addr) (c1_0 : Nat) (l1_0 : List (S78)) (r : Bool) (w : World) (hr0_0 : Kd.C k78 w A0_0 l0_0.length l0_0) (hc0_0 : l0_0.length ≤ c0_0) (hr1_0 : Kd.C k78 w A1_0 l1_0.length l1_0) (hc1_0 : l1_0.length ≤ c1_0) (h : jQa.f k l0_0 l1_0 = some r) :
  Calls Try.prog 14 #[.agg #[.slice A0_0 l0_0.length c0_0], .agg #[.slice A1_0 l1_0.length c1_0]] w fun e w'=>e=.returned (.bool r)∧Below w.heap.size w w':=by
 have hu32:=Try.underlying32
 have HR0_0:=am hr0_0
 have HC0_0:=am hc0_0
 clear hr0_0 hc0_0
 have HR1_0:=am hr1_0
 have HC1_0:=am hc1_0
 clear hr1_0 hc1_0
 have HB:=am (Below.refl w.heap.size w)
 have H:((jca.f k l0_0 l1_0).bind fun t280=>(if t280=true then (some true) else (some false)))=some r:=h
 clear h
 replace H:=bzS H
 obtain ⟨t280,A30,H⟩:=H
 replace H:(if t280=true then (some true) else (some false))=some r:=H
 have A3:=am A30
 clear A30
 by_cases c4:t280=true
 ·subst c4
  have H1:(some true)=some r:=by rw [if_pos rfl] at H;exact H
  clear H
  have H:=H1
  clear H1
  obtain rfl:=Option.some.inj H
  go_enter Try.func14,Try.ntmps14
  go_wp2_with (first |((with_reducible refine jP (N:=2) rfl ?_);refine bE (N:=2) (cs:=#[.slice A0_0 l0_0.length c0_0]) (t:=32) ?_;intro gb278 hg w5 hbox hb;have BK278:=am (hbox);have GW278:=am ((Y1:w.heap.size≤gb278));have GE278:=am ((Y1:w.heap.size≤gb278));replace HB:=am (jd (bq) hb);clear hb hbox hg) |((with_reducible refine jP (N:=3) rfl ?_);refine bE (N:=3) (cs:=#[.slice A1_0 l1_0.length c1_0]) (t:=32) ?_;intro gb279 hg w6 hbox hb;have BK279:=am (hbox);have GW279:=am ((Y27:w.heap.size≤gb279));have GE279:=am ((Y27:w.heap.size≤gb279));have NB278_279:=am ((by rw [hg];exact Nat.ne_of_lt (jVa (g:=gb278) (o:=.cells #[.slice A0_0 l0_0.length c0_0] 32 (0,0)) (kq BK278.out)):gb278≠gb279));have NB279_278:=am ((by rw [hg];exact Nat.ne_of_gt (jVa (g:=gb278) (o:=.cells #[.slice A0_0 l0_0.length c0_0] 32 (0,0)) (kq BK278.out)):gb279≠gb278));replace BK278:=am (jm (g:=gb278) (o:=.cells #[.slice A0_0 l0_0.length c0_0] 32 (0,0)) (kq BK278.out) hb);replace HB:=am (jd (Y47) hb);clear hb hbox hg;have hnb7:=NB278_279.out;have hnc7:=NB279_278.out;have hcz8_0:=bc0 BK278.out;have hfz8_0:=ja BK278.out 0;have hcz9_0:=bc0 BK279.out;have hfz9_0:=ja BK279.out 0) |((with_reducible refine je (f:=38) rfl ?_);refine gL (some 9) Try.func38 #[.slice A0_0 l0_0.length c0_0, .slice A1_0 l1_0.length c1_0] ?_;(with_reducible refine (jca.calls k _ _ l0_0 _ _ l1_0 true _ ?side1 ?side2 ?side3 ?side4 A3.out).mono ?_);(case side1=>exact cq (Kd.jF HR0_0.out HB.out));(case side2=>exact HC0_0.out);(case side3=>exact cq (Kd.jF HR1_0.out HB.out));(case side4=>exact HC1_0.out);rintro e w10 ⟨rfl,hb⟩;refine ⟨_,rfl,?_⟩;replace BK278:=am (jm (g:=gb278) (o:=.cells #[.slice A0_0 l0_0.length c0_0] 32 (0,0)) (kq BK278.out) hb);replace BK279:=am (jm (g:=gb279) (o:=.cells #[.slice A1_0 l1_0.length c1_0] 32 (0,0)) (kq BK279.out) hb);replace HB:=am (jd (Y28) hb);(try clear hb);(try clear hb2);(try clear hk);(try clear hi)))
  go_ret
  exact ⟨Y0,Y28⟩
 ·replace c4:=Bool.eq_false_iff.mpr c4
  subst c4
  have H1:(some false)=some r:=by rw [if_neg (show ¬ (false=true) by decide)] at H;exact H
  clear H
  have H:=H1
  clear H1
  obtain rfl:=Option.some.inj H
  go_enter Try.func14,Try.ntmps14
  go_wp2_with (first |((with_reducible refine jP (N:=2) rfl ?_);refine bE (N:=2) (cs:=#[.slice A0_0 l0_0.length c0_0]) (t:=32) ?_;intro gb278 hg w11 hbox hb;have BK278:=am (hbox);have GW278:=am ((Y1:w.heap.size≤gb278));have GE278:=am ((Y1:w.heap.size≤gb278));replace HB:=am (jd (bq) hb);clear hb hbox hg) |((with_reducible refine jP (N:=3) rfl ?_);refine bE (N:=3) (cs:=#[.slice A1_0 l1_0.length c1_0]) (t:=32) ?_;intro gb279 hg w12 hbox hb;have BK279:=am (hbox);have GW279:=am ((Y27:w.heap.size≤gb279));have GE279:=am ((Y27:w.heap.size≤gb279));have NB278_279:=am ((by rw [hg];exact Nat.ne_of_lt (jVa (g:=gb278) (o:=.cells #[.slice A0_0 l0_0.length c0_0] 32 (0,0)) (kq BK278.out)):gb278≠gb279));have NB279_278:=am ((by rw [hg];exact Nat.ne_of_gt (jVa (g:=gb278) (o:=.cells #[.slice A0_0 l0_0.length c0_0] 32 (0,0)) (kq BK278.out)):gb279≠gb278));replace BK278:=am (jm (g:=gb278) (o:=.cells #[.slice A0_0 l0_0.length c0_0] 32 (0,0)) (kq BK278.out) hb);replace HB:=am (jd (Y47) hb);clear hb hbox hg;have hnb13:=NB278_279.out;have hnc13:=NB279_278.out;have hcz14_0:=bc0 BK278.out;have hfz14_0:=ja BK278.out 0;have hcz15_0:=bc0 BK279.out;have hfz15_0:=ja BK279.out 0) |((with_reducible refine je (f:=38) rfl ?_);refine gL (some 9) Try.func38 #[.slice A0_0 l0_0.length c0_0, .slice A1_0 l1_0.length c1_0] ?_;(with_reducible refine (jca.calls k _ _ l0_0 _ _ l1_0 false _ ?side1 ?side2 ?side3 ?side4 A3.out).mono ?_);(case side1=>exact cq (Kd.jF HR0_0.out HB.out));(case side2=>exact HC0_0.out);(case side3=>exact cq (Kd.jF HR1_0.out HB.out));(case side4=>exact HC1_0.out);rintro e w16 ⟨rfl,hb⟩;refine ⟨_,rfl,?_⟩;replace BK278:=am (jm (g:=gb278) (o:=.cells #[.slice A0_0 l0_0.length c0_0] 32 (0,0)) (kq BK278.out) hb);replace BK279:=am (jm (g:=gb279) (o:=.cells #[.slice A1_0 l1_0.length c1_0] 32 (0,0)) (kq BK279.out) hb);replace HB:=am (jd (Y28) hb);(try clear hb);(try clear hb2);(try clear hk);(try clear hi)))
  go_ret
  exact ⟨Y0,Y28⟩
def jAa.l0 : Nat → Int → ByteArray → Option (ByteArray)
 | 0,_,_=>none
 | k+1,x0,x3=>if x0 > 0 then ((some (([(wrap64 (48+(Int.tmod x0 10))) % 256]:List Int):List Int)).bind fun y281=>(if (strOfNums y281).size+x3.size≤9223372036854775807 then (jAa.l0 k (wrap64 (Int.tdiv x0 10)) ((strOfNums y281) ++ x3)) else (none))) else (if 1+x3.size≤9223372036854775807 then (some ((⟨#[109]⟩:ByteArray) ++ x3)) else (none))
def jAa.f (k : Nat) (a0 : Int) : Option (ByteArray) := if a0 ≤ 0 then (some (⟨#[109, 48]⟩ : ByteArray)) else (jAa.l0 k a0 (⟨#[]⟩ : ByteArray))
set_option maxHeartbeats 8000000 in
set_option maxRecDepth 100000 in
theorem jAa.calls (k : Nat) (a0 : Int) (r : ByteArray) (w : World) (h : jAa.f k a0 = some r) :
  Calls Try.prog 65 #[.int .i64 a0] w fun e w'=>e=.returned (.string r)∧Below w.heap.size w w':=by
 have HB:=am (Below.refl w.heap.size w)
 have H:(if a0≤0 then (some (⟨#[109,48]⟩:ByteArray)) else (jAa.l0 k a0 (⟨#[]⟩:ByteArray)))=some r:=h
 clear h
 by_cases c2:a0≤0
 ·rw [if_pos c2] at H
  have c2b0:decide (a0≤0)=true:=dzT c2
  clear c2
  obtain rfl:=Option.some.inj H
  go_enter Try.func65,Try.ntmps65
  go_wp2
  go_ret
  exact ⟨Y0,bq⟩
 ·rw [if_neg c2] at H
  have c2b0:decide (a0≤0)=false:=dzF c2
  clear c2
  have H':=am H
  clear H
  go_enter Try.func65,Try.ntmps65
  go_wp2
  go_loopg [0,3] k (fun kq v0 v3 w'=>∃ (x0_1:Int) (x3_1:ByteArray),v0=.int .i64 x0_1∧v3=.string x3_1∧jk (jAa.l0 kq x0_1 x3_1=some r)∧jk (kq≤k)∧jk (Below w.heap.size w w'))
  case atStart=>exact ⟨(a0),((⟨#[]⟩:ByteArray)),(sq),(sq),H',⟨Nat.le_refl _⟩,⟨bq⟩⟩
  case round =>
   clear H'
   try clear c2
   try clear c2b0
   try clear p2
   obtain ⟨x0_1,x3_1,rfl,rfl,HA,HK1,HB⟩:=hrel
   cases gk with
   | zero=>exact absurd HA.out (by simp [jAa.l0])
   | succ k1 =>
    have H:=HA.out
    clear HA
    simp only [jAa.l0] at H
    by_cases c3:x0_1 > 0
    ·rw [if_pos c3] at H
     have c3b0:decide (0<x0_1)=true:=dzT c3
     clear c3
     obtain ⟨y281,hy281⟩:∃ y_:List Int,y_=(([(wrap64 (48+(Int.tmod x0_1 10))) % 256]:List Int)):=⟨_,rfl⟩
     replace H:(if (strOfNums y281).size+x3_1.size≤9223372036854775807 then (jAa.l0 k1 (wrap64 (Int.tdiv x0_1 10)) ((strOfNums y281) ++ x3_1)) else (none))=some r:=by first |(rw [hy281];with_reducible exact H) |(have H2_:=(Option.bind_some _ _).symm.trans H;rw [hy281];with_reducible exact H2_) |(have H2_:=(Option.bind_some _ _).symm.trans H;with_reducible exact H2_) | with_reducible exact H |(rw [hy281];exact H) | exact H
     have Ny281:=am hy281
     clear hy281
     by_cases c4:(strOfNums y281).size+x3_1.size≤9223372036854775807
     ·rw [if_pos c4] at H
      have c4b0:=ezT c4
      have c4b1:decide ((strOfNums y281).size+x3_1.size≤9223372036854775807)=true:=dzT c4
      try have c4b2:(9223372036854775807<(strOfNums y281).size+x3_1.size)=False:=eq_false (Nat.not_lt.2 c4)
      have H':=am H
      clear H
      go_wp2_with (first |((with_reducible refine jP (N:=12) rfl ?_);refine Kd.R_lit (Kd.int .u8) _ 5 ?hg (N:=12) ?hd (xs:=([(wrap64 (48+(Int.tmod x0_1 10))) % 256]:List Int)) (inner:=[.int .u8 ((wrap64 (48+(Int.tmod x0_1 10))) % 256)]) (ok:=fun _=>True) (okp:=fun _=>True) ?hr ?hp (fun _ hk=>hk) trivial (Below.refl _ _) (Nat.le_refl _) (by simp) ?_;(case hd=>rfl);(case hg=>rfl);(case hr=>exact Y4);(case hp=>exact (Reps.one (show Kd.M (Kd.int .u8) _ _ _ ((wrap64 (48+(Int.tmod x0_1 10))) % 256) [.int .u8 ((wrap64 (48+(Int.tmod x0_1 10))) % 256)] from rfl) (Reps.none _ _)));intro v282 w5 ho6 hb hg_ hnew_;clear hg_ hnew_;(first | rw [← Ny281.out] at ho6 |(simp only [Int.reduceToNat] at ho6;rw [← Ny281.out] at ho6));have HO283:=am (Kd.jRa ho6 (jH (bq)));replace HB:=am (jd (bq) hb);clear hb ho6;have hcv7:=own_string (P:=Try.prog) Try.underlying44 Try.underlying5 Try.underlying9 (Kd.own_of_R HO283.out)))
      go_roundg k1
      case measure=>have:=HK1.out;omega
      case rel=>exact ⟨(wrap64 (Int.tdiv x0_1 10)),((strOfNums y281) ++ x3_1),(sq),(sq),H',⟨by have:=HK1.out;omega⟩,⟨bq⟩⟩
     ·rw [if_neg c4] at H
      exact absurd H (by simp)
    ·rw [if_neg c3] at H
     have c3b0:decide (0<x0_1)=false:=dzF c3
     clear c3
     by_cases c8:1+x3_1.size≤9223372036854775807
     ·rw [if_pos c8] at H
      have c8b0:=ezT c8
      have c8b1:decide (1+x3_1.size≤9223372036854775807)=true:=dzT c8
      try have c8b2:(9223372036854775807<1+x3_1.size)=False:=eq_false (Nat.not_lt.2 c8)
      obtain rfl:=Option.some.inj H
      go_wp2
      go_ret
      exact ⟨Y0,bq⟩
     ·rw [if_neg c8] at H
      exact absurd H (by simp)
def jna.l0 : Nat → List (S78) → Int → Int → Option (Int × (List (S78)))
 | 0,_,_,_=>none
 | k+1,x0,x1,x5=>if x5<(x0.length:Int) then ((jAa.f k x1).bind fun t284=>(if 0≤x5 then ((some (x0.set (x5:Int).toNat (⟨t284,(jK x0 x5).f1⟩:S78):List (S78))).bind fun y285=>(jna.l0 k (y285.set (x5:Int).toNat (⟨(jK y285 x5).f0,wrap64 (x1+1)⟩:S78)) (wrap64 ((wrap64 (x1+1))+1)) (wrap64 (x5+1)))) else (none))) else (some (x1,x0))
def jna.f (k : Nat) (l0 : List (S78)) (a1 : Int) : Option (Int × (List (S78))) := jna.l0 k l0 a1 0
set_option maxHeartbeats 8000000 in
set_option maxRecDepth 100000 in
theorem jna.calls (k : Nat) (P0_ : Nat → Prop) (u9000_ : Value) (l0 : List (S78)) (a1 : Int) (r1 : Int) (r2 : List (S78)) (w0 w : World) (hB : Below w0.heap.size w0 w) (ho0 : Kd.R k78 78 w w0.heap.size P0_ u9000_ l0) (h : jna.f k l0 a1 = some (r1, r2)) :
  Calls Try.prog 39 #[u9000_, .int .i64 a1] w fun e w'=>e=.returned (.int .i64 r1)∧Kd.R k78 78 w' w0.heap.size (fun k_=>(P0_ k_∨w.heap.size≤k_)) u9000_ r2∧Below w0.heap.size w0 w'∧Kept w w' (fun k_=>P0_ k_):=by
 have HO0:=am (show Kd.R k78 78 w w0.heap.size (fun k_=>(P0_ k_∨w.heap.size≤k_)) u9000_ l0 from Kd.jSa ho0 (fun k_ hk=>(.inl hk)))
 have HK:=am (Kept.refl w (fun k_=>P0_ k_))
 have HW0:=am hB.size
 have HB:=am hB
 clear hB
 have H:(jna.l0 k l0 a1 0)=some (r1,r2):=h
 clear h
 have H':=am H
 clear H
 go_enter Try.func39,Try.ntmps39
 go_wp2
 go_loopg [1,5] k (fun kq v1 v5 w'=>∃ (x0_1:List (S78)) (x1_1:Int) (x5_1:Int),v1=.int .i64 x1_1∧v5=.int .i64 x5_1∧jk (jna.l0 kq x0_1 x1_1 x5_1=some (r1,r2))∧jk (kq≤k)∧jk (Kd.R k78 78 w' w0.heap.size (fun k_=>(P0_ k_∨w.heap.size≤k_)) u9000_ x0_1)∧jk (Kept w w' (fun k_=>P0_ k_))∧jk (Below w0.heap.size w0 w'))
 case atStart=>exact ⟨(l0),(a1),(0),(sq),(sq),H',⟨Nat.le_refl _⟩,⟨rq HO0.out⟩,⟨Y7⟩,⟨bq⟩⟩
 case round =>
  clear H'
  try clear p2
  obtain ⟨x0_1,x1_1,x5_1,rfl,rfl,HA,HK1,HO_0,HK,HB⟩:=hrel
  cases gk with
  | zero=>exact absurd HA.out (by simp [jna.l0])
  | succ k1 =>
   have H:=HA.out
   clear HA
   simp only [jna.l0] at H
   by_cases c3:x5_1<(x0_1.length:Int)
   ·rw [if_pos c3] at H
    have c3b0:decide (x5_1<(x0_1.length:Int))=true:=dzT c3
    clear c3
    replace H:=bzS H
    obtain ⟨t284,A40,H⟩:=H
    replace H:(if 0≤x5_1 then ((some (x0_1.set (x5_1:Int).toNat (⟨t284,(jK x0_1 x5_1).f1⟩:S78):List (S78))).bind fun y285=>(jna.l0 k1 (y285.set (x5_1:Int).toNat (⟨(jK y285 x5_1).f0,wrap64 (x1_1+1)⟩:S78)) (wrap64 ((wrap64 (x1_1+1))+1)) (wrap64 (x5_1+1)))) else (none))=some (r1,r2):=H
    have A4:=am A40
    clear A40
    by_cases c5:0≤x5_1
    ·rw [if_pos c5] at H
     have c5b0:decide (0≤x5_1)=true:=dzT c5
     clear c5
     obtain ⟨y285,hy285⟩:∃ y_:List (S78),y_=(x0_1.set (x5_1:Int).toNat (⟨t284,(jK x0_1 x5_1).f1⟩:S78)):=⟨_,rfl⟩
     replace H:(jna.l0 k1 (y285.set (x5_1:Int).toNat (⟨(jK y285 x5_1).f0,wrap64 (x1_1+1)⟩:S78)) (wrap64 ((wrap64 (x1_1+1))+1)) (wrap64 (x5_1+1)))=some (r1,r2):=by first |(rw [hy285];with_reducible exact H) |(have H2_:=(Option.bind_some _ _).symm.trans H;rw [hy285];with_reducible exact H2_) |(have H2_:=(Option.bind_some _ _).symm.trans H;with_reducible exact H2_) | with_reducible exact H |(rw [hy285];exact H) | exact H
     have Ny285:=am hy285
     clear hy285
     obtain ⟨y286,hy286⟩:∃ y_:List (S78),y_=(y285.set (x5_1:Int).toNat (⟨(jK y285 x5_1).f0,wrap64 (x1_1+1)⟩:S78)):=⟨_,rfl⟩
     replace H:(jna.l0 k1 y286 (wrap64 ((wrap64 (x1_1+1))+1)) (wrap64 (x5_1+1)))=some (r1,r2):=by first |(rw [hy286];with_reducible exact H) |(have H2_:=(Option.bind_some _ _).symm.trans H;rw [hy286];with_reducible exact H2_) |(have H2_:=(Option.bind_some _ _).symm.trans H;with_reducible exact H2_) | with_reducible exact H |(rw [hy286];exact H) | exact H
     have Ny286:=am hy286
     clear hy286
     have H':=am H
     clear H
     obtain ⟨Ao8,co8,eo8⟩:=Kd.jGa HO_0.out
     subst eo8
     go_wp2_with (first |((with_reducible refine je (f:=65) rfl ?_);refine gL (some 15) Try.func65 #[.int .i64 x1_1] ?_;(with_reducible refine (jAa.calls k1 x1_1 t284 _ A4.out).mono ?_);rintro e w9 ⟨rfl,hb⟩;refine ⟨_,rfl,?_⟩;replace HO_0:=am (Kd.jX (rq HO_0.out) hb);replace HK:=am (Kept.below (S:=(fun k_=>P0_ k_)) (Y7) hb);replace HB:=am (jd (bq) hb);(try clear hb);(try clear hb2);(try clear hk);(try clear hi);have p6:0≤(x5_1:Int):=ozD (uq);have q6:(x5_1:Int)<((x0_1.length:Int):Int):=ozD (uq);obtain ⟨go6,co6,eo6,gb6,gl6,cl6,HG6⟩:=Kd.R_form HO_0.out (by omega);(first | cases eo6 |(injection eo6 with ea_ en_ ec_;(first | subst ea_ |(injection ea_ with ea_;subst ea_));subst ec_;clear en_));have GB6:=am gb6;have GG6:=am HG6;clear gb6 gl6 HG6;have HMgo6:=am (show (P0_ go6∨w.heap.size≤go6) from (HO_0.out.1 _ rfl));obtain ⟨ce6,hcl6,hM6,hcc6,hfr6⟩:=Kd.jYb HO_0.out z78 (x5_1:Int) p6 q6;obtain rfl:=jkc hM6;have hx6_0:w9.cell? ⟨go6,(x5_1:Int).toNat * 2,none⟩=some (.string ((jK x0_1 x5_1).f0)):=hcc6 0 _ rfl;have hx6_1:w9.cell? ⟨go6,(x5_1:Int).toNat * 2+1,none⟩=some (.int .i64 ((jK x0_1 x5_1).f1)):=hcc6 1 _ rfl;have hf6_0:w9.frozen? ⟨go6,(x5_1:Int).toNat * 2,none⟩=false:=hfr6 0;have hf6_1:w9.frozen? ⟨go6,(x5_1:Int).toNat * 2+1,none⟩=false:=hfr6 1;clear hcl6 hcc6 hfr6 hM6;replace p6:=ezT p6;replace q6:=ezT q6;have HX10:=am (show Kd.R k78 78 w9 w0.heap.size (fun k_=>(P0_ k_∨w.heap.size≤k_)) (.slice (some ⟨go6,0,none⟩) x0_1.length co8) x0_1 from (rq HO_0.out));obtain ⟨ce10,hcl10,hM10,hcc10,hfr10⟩:=Kd.jYb HX10.out z78 (x5_1:Int) (ozD (uq)) (by have h_:(x5_1:Int)<((x0_1.length:Int):Int):=ozD (uq);first | exact h_ |(have e_:=(Kd.jA HO_0.out).1;omega) | simpa using h_);obtain rfl:=jkc hM10;have HP10:=Kd.R_seg HX10.out (x5_1:Int) (ozD (uq)) (by have h_:(x5_1:Int)<((x0_1.length:Int):Int):=ozD (uq);first | exact h_ |(have e_:=(Kd.jA HO_0.out).1;omega) | simpa using h_) (seg:=[.string t284]) (j:=0) hcl10 hcc10 (show 1≤2 from by decide) (x':=(⟨t284,(jK x0_1 x5_1).f1⟩:S78)) (k78_mkM _ _ _ (⟨t284,(jK x0_1 x5_1).f1⟩:S78) ) (fun _ hk=>hk);have hx10_0:=hcc10 0 _ rfl;(try simp only [show (k78).sz=2 from rfl,Nat.mul_one,Nat.add_zero] at hx10_0);have hf10_0:=hfr10 0;(try simp only [show (k78).sz=2 from rfl,Nat.mul_one,Nat.add_zero] at hf10_0);clear hcl10 hcc10 hfr10 hM10) |((with_reducible refine jBb (t:=9) (p:=17) rfl ?_);refine jqb (t:=9) (p:=17) (v:=?vo_w11) (w1:=(w9.setCell ⟨go6,(x5_1:Int).toNat * 2,none⟩ (.string t284))) ?hg ?ho ?hn ?hr ?_;(case ho=>rfl);(case hg=>rfl);(case hn=>rfl);(case hr=>exact Y4);intro w11 hw;have hg:w9.grownBy w11 (some go6):=(by rw [hw];exact HP10.2);have hp_:Kd.R k78 78 w11 w0.heap.size (fun k_=>(P0_ k_∨w.heap.size≤k_)) (.slice (some ⟨go6,0,none⟩) x0_1.length co8) y285:=(by rw [hw,Ny285.out];exact HP10.1);clear HP10;replace HB:=am ((by rw [hw];exact jw (HB.out) GB6.out:Below w0.heap.size w0 w11));replace HK:=am (Kept.jec (S:=(fun k_=>P0_ k_)) hg (Y7) (fun k_ e_=>(HO_0.out.1 k_ e_)));replace HO_0:=am (hp_);clear hg hw hp_;have p7:0≤(x5_1:Int):=ozD (uq);have q7:(x5_1:Int)<((x0_1.length:Int):Int):=ozD (uq);obtain ⟨ce7,hcl7,hM7,hcc7,hfr7⟩:=Kd.jYb HO_0.out z78 (x5_1:Int) p7 q7;obtain rfl:=jkc hM7;have hx7_0:w11.cell? ⟨go6,(x5_1:Int).toNat * 2,none⟩=some (.string ((jK y285 x5_1).f0)):=hcc7 0 _ rfl;have hx7_1:w11.cell? ⟨go6,(x5_1:Int).toNat * 2+1,none⟩=some (.int .i64 ((jK y285 x5_1).f1)):=hcc7 1 _ rfl;have hf7_0:w11.frozen? ⟨go6,(x5_1:Int).toNat * 2,none⟩=false:=hfr7 0;have hf7_1:w11.frozen? ⟨go6,(x5_1:Int).toNat * 2+1,none⟩=false:=hfr7 1;clear hcl7 hcc7 hfr7 hM7;replace p7:=ezT p7;replace q7:=ezT q7;have HX12:=am (show Kd.R k78 78 w11 w0.heap.size (fun k_=>(P0_ k_∨w.heap.size≤k_)) (.slice (some ⟨go6,0,none⟩) x0_1.length co8) y285 from (rq HO_0.out));obtain ⟨ce12,hcl12,hM12,hcc12,hfr12⟩:=Kd.jYb HX12.out z78 (x5_1:Int) (ozD (uq)) (by have h_:(x5_1:Int)<((x0_1.length:Int):Int):=ozD (uq);first | exact h_ |(have e_:=(Kd.jA HO_0.out).1;omega) | simpa using h_);obtain rfl:=jkc hM12;have HP12:=Kd.R_seg HX12.out (x5_1:Int) (ozD (uq)) (by have h_:(x5_1:Int)<((x0_1.length:Int):Int):=ozD (uq);first | exact h_ |(have e_:=(Kd.jA HO_0.out).1;omega) | simpa using h_) (seg:=[.int .i64 (wrap64 (x1_1+1))]) (j:=1) hcl12 hcc12 (show 2≤2 from by decide) (x':=(⟨(jK y285 x5_1).f0,wrap64 (x1_1+1)⟩:S78)) (k78_mkM _ _ _ (⟨(jK y285 x5_1).f0,wrap64 (x1_1+1)⟩:S78) ) (fun _ hk=>hk);have hx12_1:=hcc12 1 _ rfl;(try simp only [show (k78).sz=2 from rfl,Nat.mul_one,Nat.add_zero] at hx12_1);have hf12_1:=hfr12 1;(try simp only [show (k78).sz=2 from rfl,Nat.mul_one,Nat.add_zero] at hf12_1);clear hcl12 hcc12 hfr12 hM12) |((with_reducible refine jBb (t:=3) (p:=24) rfl ?_);refine jqb (t:=3) (p:=24) (v:=?vo_w13) (w1:=(w11.setCell ⟨go6,(x5_1:Int).toNat * 2+1,none⟩ (.int .i64 (wrap64 (x1_1+1))))) ?hg ?ho ?hn ?hr ?_;(case ho=>rfl);(case hg=>rfl);(case hn=>rfl);(case hr=>exact Y4);intro w13 hw;have hg:w11.grownBy w13 (some go6):=(by rw [hw];exact HP12.2);have hp_:Kd.R k78 78 w13 w0.heap.size (fun k_=>(P0_ k_∨w.heap.size≤k_)) (.slice (some ⟨go6,0,none⟩) x0_1.length co8) y286:=(by rw [hw,Ny286.out];exact HP12.1);clear HP12;replace HB:=am ((by rw [hw];exact jw (HB.out) GB6.out:Below w0.heap.size w0 w13));replace HK:=am (Kept.jec (S:=(fun k_=>P0_ k_)) hg (Y7) (fun k_ e_=>(HO_0.out.1 k_ e_)));replace HO_0:=am (hp_);clear hg hw hp_))
     go_roundg k1
     case measure=>have:=HK1.out;omega
     case rel=>exact ⟨(y286),(wrap64 ((wrap64 (x1_1+1))+1)),(wrap64 (x5_1+1)),(sq),(sq),H',⟨by have:=HK1.out;omega⟩,⟨rq HO_0.out⟩,⟨Y7⟩,⟨bq⟩⟩
    ·rw [if_neg c5] at H
     exact absurd H (by simp)
   ·rw [if_neg c3] at H
    have c3b0:decide (x5_1<(x0_1.length:Int))=false:=dzF c3
    clear c3
    simp only [Option.some.injEq,Prod.mk.injEq] at H
    obtain ⟨rfl,rfl⟩:=H
    obtain ⟨Ao14,co14,eo14⟩:=Kd.jGa HO_0.out
    subst eo14
    go_wp2
    go_ret
    exact ⟨Y0,rq HO_0.out,bq,Y7⟩
def jpa.f (k : Nat) (l0_0 : List (S78)) (a1 : Int) : Option (Int × (List (S78))) := (jna.f k l0_0 a1).bind fun bt288 => (some (bt288.1, bt288.2))
set_option maxHeartbeats 8000000 in
set_option maxRecDepth 100000 in
theorem jpa.calls (k : Nat) (P0_0_ : Nat → Prop) (u9000_ : Value) (l0_0 : List (S78)) (a1 : Int) (r1 : Int) (r2 : List (S78)) (w0 w : World) (hB : Below w0.heap.size w0 w) (ho0_0 : Kd.R k78 78 w w0.heap.size P0_0_ u9000_ l0_0) (h : jpa.f k l0_0 a1 = some (r1, r2)) :
  Calls Try.prog 15 #[.agg #[u9000_], .int .i64 a1] w fun e w'=>e=.returned (.int .i64 r1)∧Kd.R k78 78 w' w0.heap.size (fun k_=>(P0_0_ k_∨w.heap.size≤k_)) u9000_ r2∧Below w0.heap.size w0 w'∧Kept w w' (fun k_=>P0_0_ k_):=by
 have hu32:=Try.underlying32
 have HO0_0:=am (show Kd.R k78 78 w w0.heap.size (fun k_=>(P0_0_ k_∨w.heap.size≤k_)) u9000_ l0_0 from Kd.jSa ho0_0 (fun k_ hk=>(.inl hk)))
 have HK:=am (Kept.refl w (fun k_=>P0_0_ k_))
 have HW0:=am hB.size
 have HB:=am hB
 clear hB
 have H:((jna.f k l0_0 a1).bind fun bt288=>(some (bt288.1,bt288.2)))=some (r1,r2):=h
 clear h
 replace H:=bzS H
 obtain ⟨⟨t288,t289⟩,A30,H⟩:=H
 replace H:(some (t288,t289))=some (r1,r2):=H
 have A3:=am A30
 clear A30
 simp only [Option.some.injEq,Prod.mk.injEq] at H
 obtain ⟨rfl,rfl⟩:=H
 obtain ⟨Ao4,co4,eo4⟩:=Kd.jGa HO0_0.out
 subst eo4
 go_enter Try.func15,Try.ntmps15
 go_wp2_with (first |((with_reducible refine jP (N:=2) rfl ?_);refine bE (N:=2) (cs:=#[.slice Ao4 l0_0.length co4]) (t:=32) ?_;intro gb287 hg w5 hbox hb;have BK287:=am (hbox);have GW287:=am ((by rw [hg];exact (by first | exact HK.out.1 | exact (show Kept w _ (fun k_=>P0_0_ k_) from by repeat (first |(with_reducible first | exact HK.out | apply Kept.alloc | apply Kept.drewN | apply Kept.drew) | exact HK.out)).1):w.heap.size≤gb287));have GE287:=am ((Y1:w0.heap.size≤gb287));replace HO0_0:=am (Kd.jX (rq HO0_0.out) hb);replace HK:=am (Kept.below (S:=(fun k_=>P0_0_ k_)) (Y7) hb);replace HB:=am (jd (bq) hb);clear hb hbox hg;have hcz6_0:=bc0 BK287.out;have hfz6_0:=ja BK287.out 0) |((with_reducible refine je (f:=39) rfl ?_);refine gL (some 8) Try.func39 #[.slice Ao4 l0_0.length co4, .int .i64 a1] ?_;(with_reducible refine (jna.calls k (fun k_=>some k_=(.slice Ao4 l0_0.length co4:Value).ownBlock) (.slice Ao4 l0_0.length co4) l0_0 a1 t288 t289 w0 _ ?side1 ?side2 A3.out).mono ?_);(case side1=>exact Y48);(case side2=>exact Kd.R_tight rfl HO0_0.out);rintro e w7 ⟨rfl,hy0,hb,hkp⟩;refine ⟨_,rfl,?_⟩;replace BK287:=am (joc (kq BK287.out) hkp (fun hs_=>(fun e_=>(Kd.R_ne HO0_0.out BK287.out (by decide)) e_) hs_));replace HK:=am (Kept.then_ (S:=(fun k_=>P0_0_ k_)) (Y49) hkp (fun k_ hs_=>(fun e_=>(HO0_0.out.1 k_ e_.symm)) hs_));replace HO0_0:=am (Kd.R_reok rfl hy0 (fun k_ e_=>HO0_0.out.1 k_ e_));replace HB:=am (hb);(try clear hb);(try clear hkp);(try clear hy0)))
 go_ret
 exact ⟨Y0,rq HO0_0.out,Y48,Y49⟩
end Go.Proofs.Ytkhiiiddbmgiaaa.P
end
