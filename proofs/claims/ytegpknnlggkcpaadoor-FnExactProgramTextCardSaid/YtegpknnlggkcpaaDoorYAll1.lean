/- One part of the proofs on this program: functions of the program as plain functions, that the code comes to them, and facts on them. -/
import Derived.ArgAppend
import Derived.Below
import Derived.BigQuiet
import Derived.Deep.AppendLies
import Derived.Deep.CutBlock
import Derived.Deep.DeepCutAuto
import Derived.Deep.Draws
import Derived.Deep.LoopGhost
import Derived.Deep.OwnRows
import Derived.Deep.QuietTactic
import Derived.Deep.RegionHeld3
import Derived.KernelRfl
import Derived.Laws.BitsLemmas
import Derived.Laws.BytesArg
import Derived.Laws.IdiomCopy
import Derived.Laws.MakeOwn
import Derived.Laws.OwnMore
import Derived.Laws.Rows
import Derived.Laws.Slices
import Derived.Laws.StructEq
import Derived.Lib.AppendStr
import Derived.Lib.ConvBytes
import Derived.LoopTactic
import Derived.Maps.AppendAt
import Derived.OrdersHeld
import Derived.OwnWalk
import Derived.RowKit
import Derived.RowKit3
import Derived.Tactics
import Derived.WalkKit
import Derived.WideLaws
import Derived.Test.YtegpknnlggkcpaaDoorProg
import Derived.Test.YtegpknnlggkcpaaDoorYWApart
import Derived.Test.YtegpknnlggkcpaaDoorYWAuto
import Derived.Test.YtegpknnlggkcpaaDoorYWFoot
import Derived.Test.YtegpknnlggkcpaaDoorYWGuard
import Derived.Test.YtegpknnlggkcpaaDoorYWIdx
import Derived.Test.YtegpknnlggkcpaaDoorYWKept
import Derived.Test.YtegpknnlggkcpaaDoorYWLast
import Derived.Test.YtegpknnlggkcpaaDoorYWMore
import Derived.Test.YtegpknnlggkcpaaDoorYWN
import Derived.Test.YtegpknnlggkcpaaDoorYWRepsOne
import Derived.Test.YtegpknnlggkcpaaDoorYWShare
import Derived.Test.YtegpknnlggkcpaaDoorYWSome
import Derived.Test.YtegpknnlggkcpaaDoorYWTab
import Derived.Test.YtegpknnlggkcpaaDoorYWWords
section
namespace Go.Proofs.YtegpknnlggkcpaaDoor.P
open Go.RowKit Go.Proofs.YtegpknnlggkcpaaDoorW.PrintWords Go.Proofs.YtegpknnlggkcpaaDoorW.PrintLast Go.Proofs.YtegpknnlggkcpaaDoorW.PrintMore
attribute [local go_sem] jaa jY jna jma jR jQ jZ jX jh
set_option linter.unusedVariables false
set_option linter.unusedSimpArgs false
def errW : Option Int → Value
 | none=>.nilIface
 | some c=>.iface 0 (.int .i64 c)
theorem errW_none : errW none = .nilIface := rfl
theorem errW_some (c : Int) : errW (some c) = .iface 0 (.int .i64 c) := rfl
theorem info3 : (Tryd.prog.info? 3).map (fun i => (i.zero, i.size, i.bytes)) = some (some (.int .i64 0), 1, 8) := by kernel_rfl
theorem info42 : (Tryd.prog.info? 42).map (fun i => (i.zero, i.size, i.bytes)) = some (some (.agg #[(.int .i64 0), (.int .i64 0), (.int .i64 0), (.int .i64 0)]), 4, 32) := by kernel_rfl
theorem info63 : (Tryd.prog.info? 63).map (fun i => (i.zero, i.size, i.bytes)) = some (some (.agg #[(.string ⟨#[]⟩), (.int .i64 0)]), 2, 24) := by kernel_rfl
structure S59 where
 f0:ByteArray
 f1:Int
def z59 : S59 := ⟨(⟨#[]⟩ : ByteArray), (0 : Int)⟩
def k59 : Kd S59 := Kd.iso (Kd.pair Kd.string (Kd.int .i64)) (fun x : S59 => (x.f0, x.f1))
theorem k59_open {w : World} {x : S59} {cs : List Value} (h : k59.K w x cs) : cs = [.string x.f0, .int .i64 x.f1] := by
 obtain ⟨_,_,rfl,rfl,rfl⟩:=h
 exact rfl
theorem k59_mk (w : World) (x : S59)  : k59.K w x [.string x.f0, .int .i64 x.f1] := ⟨[.string x.f0], [.int .i64 x.f1], rfl, rfl, rfl⟩
def jdb (xs : List S59) (i : Int) : S59 := xs.getD i.toNat z59
theorem at_T59 {w : World} {A : Option Addr} {n : Nat} {xs : List S59} (h : Kd.C k59 w A n xs) (i : Int) (h0 : 0 ≤ i) (h1 : i < n) : ∃ ad , A = some ad ∧ w.cell? (ad.add (i.toNat * 2)) = some (.string (jdb xs i).f0) ∧ w.cell? ⟨(ad.add (i.toNat * 2)).block, (ad.add (i.toNat * 2)).off + 1, none⟩ = some (.int .i64 (jdb xs i).f1) := by
 obtain ⟨ad,c,e,_,hK,hc0⟩:=Kd.C_get h z59 i h0 h1
 have hc:∀ j u,c[j]?=some u→w.cell? (ad.add (i.toNat * 2+j))=some u:=hc0
 obtain rfl:=k59_open hK
 exact ⟨ad,e,hc 0 _ rfl,by rw [← jvb _ _ 1 (by omega)];exact hc 1 _ rfl⟩
structure S44 where
 f0:Int
 f1:Int
 f2:Int
 f3:Int
def z44 : S44 := ⟨(0 : Int), (0 : Int), (0 : Int), (0 : Int)⟩
def k44 : Kd S44 := Kd.iso (Kd.pair (Kd.int .i64) (Kd.pair (Kd.int .i64) (Kd.pair (Kd.int .i64) (Kd.int .i64)))) (fun x : S44 => (x.f0, x.f1, x.f2, x.f3))
theorem k44_open {w : World} {x : S44} {cs : List Value} (h : k44.K w x cs) : cs = [.int .i64 x.f0, .int .i64 x.f1, .int .i64 x.f2, .int .i64 x.f3] := by
 obtain ⟨_,_,rfl,rfl,⟨_,_,rfl,rfl,⟨_,_,rfl,rfl,rfl⟩⟩⟩:=h
 exact rfl
theorem k44_mk (w : World) (x : S44)  : k44.K w x [.int .i64 x.f0, .int .i64 x.f1, .int .i64 x.f2, .int .i64 x.f3] := ⟨[.int .i64 x.f0], [.int .i64 x.f1, .int .i64 x.f2, .int .i64 x.f3], rfl, rfl, ⟨[.int .i64 x.f1], [.int .i64 x.f2, .int .i64 x.f3], rfl, rfl, ⟨[.int .i64 x.f2], [.int .i64 x.f3], rfl, rfl, rfl⟩⟩⟩
def jmb (xs : List S44) (i : Int) : S44 := xs.getD i.toNat z44
theorem at_T44 {w : World} {A : Option Addr} {n : Nat} {xs : List S44} (h : Kd.C k44 w A n xs) (i : Int) (h0 : 0 ≤ i) (h1 : i < n) : ∃ ad , A = some ad ∧ w.cell? (ad.add (i.toNat * 4)) = some (.int .i64 (jmb xs i).f0) ∧ w.cell? ⟨(ad.add (i.toNat * 4)).block, (ad.add (i.toNat * 4)).off + 1, none⟩ = some (.int .i64 (jmb xs i).f1) ∧ w.cell? ⟨(ad.add (i.toNat * 4)).block, (ad.add (i.toNat * 4)).off + 2, none⟩ = some (.int .i64 (jmb xs i).f2) ∧ w.cell? ⟨(ad.add (i.toNat * 4)).block, (ad.add (i.toNat * 4)).off + 3, none⟩ = some (.int .i64 (jmb xs i).f3) := by
 obtain ⟨ad,c,e,_,hK,hc0⟩:=Kd.C_get h z44 i h0 h1
 have hc:∀ j u,c[j]?=some u→w.cell? (ad.add (i.toNat * 4+j))=some u:=hc0
 obtain rfl:=k44_open hK
 exact ⟨ad,e,hc 0 _ rfl,by rw [← jvb _ _ 1 (by omega)];exact hc 1 _ rfl,by rw [← jvb _ _ 2 (by omega)];exact hc 2 _ rfl,by rw [← jvb _ _ 3 (by omega)];exact hc 3 _ rfl⟩
structure S63 where
 f0:ByteArray
 f1:Int
def z63 : S63 := ⟨(⟨#[]⟩ : ByteArray), (0 : Int)⟩
def k63 : Kd S63 := Kd.iso (Kd.pair Kd.string (Kd.int .i64)) (fun x : S63 => (x.f0, x.f1))
theorem k63_open {w : World} {x : S63} {cs : List Value} (h : k63.K w x cs) : cs = [.string x.f0, .int .i64 x.f1] := by
 obtain ⟨_,_,rfl,rfl,rfl⟩:=h
 exact rfl
theorem k63_openM {w : World} {base : Nat} {ok : Nat → Prop} {x : S63} {cs : List Value} (h : k63.M w base ok x cs) : cs = [.string x.f0, .int .i64 x.f1] := by
 obtain ⟨_,_,rfl,rfl,rfl⟩:=h
 exact rfl
theorem k63_mkM (w : World) (base : Nat) (ok : Nat → Prop) (x : S63)  : k63.M w base ok x [.string x.f0, .int .i64 x.f1] := ⟨[.string x.f0], [.int .i64 x.f1], rfl, rfl, rfl⟩
def jE (xs : List S63) (i : Int) : S63 := xs.getD i.toNat z63
theorem jJb {w : World} {A : Option Addr} {n : Nat} {xs : List S63} (h : Kd.C k63 w A n xs) (i : Int) (h0 : 0 ≤ i) (h1 : i < n) : ∃ ad , A = some ad ∧ w.cell? (ad.add (i.toNat * 2)) = some (.string (jE xs i).f0) ∧ w.cell? ⟨(ad.add (i.toNat * 2)).block, (ad.add (i.toNat * 2)).off + 1, none⟩ = some (.int .i64 (jE xs i).f1) := by
 obtain ⟨ad,c,e,_,hK,hc0⟩:=Kd.C_get h z63 i h0 h1
 have hc:∀ j u,c[j]?=some u→w.cell? (ad.add (i.toNat * 2+j))=some u:=hc0
 obtain rfl:=k63_open hK
 exact ⟨ad,e,hc 0 _ rfl,by rw [← jvb _ _ 1 (by omega)];exact hc 1 _ rfl⟩
structure S42 where
 f0:Int
 f1:Int
 f2:Int
 f3:Int
def z42 : S42 := ⟨(0 : Int), (0 : Int), (0 : Int), (0 : Int)⟩
def k42 : Kd S42 := Kd.iso (Kd.pair (Kd.int .i64) (Kd.pair (Kd.int .i64) (Kd.pair (Kd.int .i64) (Kd.int .i64)))) (fun x : S42 => (x.f0, x.f1, x.f2, x.f3))
theorem k42_open {w : World} {x : S42} {cs : List Value} (h : k42.K w x cs) : cs = [.int .i64 x.f0, .int .i64 x.f1, .int .i64 x.f2, .int .i64 x.f3] := by
 obtain ⟨_,_,rfl,rfl,⟨_,_,rfl,rfl,⟨_,_,rfl,rfl,rfl⟩⟩⟩:=h
 exact rfl
theorem k42_openM {w : World} {base : Nat} {ok : Nat → Prop} {x : S42} {cs : List Value} (h : k42.M w base ok x cs) : cs = [.int .i64 x.f0, .int .i64 x.f1, .int .i64 x.f2, .int .i64 x.f3] := by
 obtain ⟨_,_,rfl,rfl,⟨_,_,rfl,rfl,⟨_,_,rfl,rfl,rfl⟩⟩⟩:=h
 exact rfl
theorem k42_mkM (w : World) (base : Nat) (ok : Nat → Prop) (x : S42)  : k42.M w base ok x [.int .i64 x.f0, .int .i64 x.f1, .int .i64 x.f2, .int .i64 x.f3] := ⟨[.int .i64 x.f0], [.int .i64 x.f1, .int .i64 x.f2, .int .i64 x.f3], rfl, rfl, ⟨[.int .i64 x.f1], [.int .i64 x.f2, .int .i64 x.f3], rfl, rfl, ⟨[.int .i64 x.f2], [.int .i64 x.f3], rfl, rfl, rfl⟩⟩⟩
def jb (xs : List S42) (i : Int) : S42 := xs.getD i.toNat z42
theorem jla {w : World} {A : Option Addr} {n : Nat} {xs : List S42} (h : Kd.C k42 w A n xs) (i : Int) (h0 : 0 ≤ i) (h1 : i < n) : ∃ ad , A = some ad ∧ w.cell? (ad.add (i.toNat * 4)) = some (.int .i64 (jb xs i).f0) ∧ w.cell? ⟨(ad.add (i.toNat * 4)).block, (ad.add (i.toNat * 4)).off + 1, none⟩ = some (.int .i64 (jb xs i).f1) ∧ w.cell? ⟨(ad.add (i.toNat * 4)).block, (ad.add (i.toNat * 4)).off + 2, none⟩ = some (.int .i64 (jb xs i).f2) ∧ w.cell? ⟨(ad.add (i.toNat * 4)).block, (ad.add (i.toNat * 4)).off + 3, none⟩ = some (.int .i64 (jb xs i).f3) := by
 obtain ⟨ad,c,e,_,hK,hc0⟩:=Kd.C_get h z42 i h0 h1
 have hc:∀ j u,c[j]?=some u→w.cell? (ad.add (i.toNat * 4+j))=some u:=hc0
 obtain rfl:=k42_open hK
 exact ⟨ad,e,hc 0 _ rfl,by rw [← jvb _ _ 1 (by omega)];exact hc 1 _ rfl,by rw [← jvb _ _ 2 (by omega)];exact hc 2 _ rfl,by rw [← jvb _ _ 3 (by omega)];exact hc 3 _ rfl⟩
def jab.f (a0_0 : ByteArray) (a0_1 : Int) (a1 : Int) : Option (Int) := if (wrap64 (a1 - (a0_0.size : Int))) < 0 then (some (-1)) else (some (wrap64 (a1 - (a0_0.size : Int))))
set_option maxHeartbeats 8000000 in
set_option maxRecDepth 100000 in
theorem jab.calls (a0_0 : ByteArray) (a0_1 : Int) (a1 : Int) (r : Int) (w : World) (h : jab.f a0_0 a0_1 a1 = some r) :
  Calls Tryd.prog 23 #[.agg #[.string a0_0, .int .i64 a0_1], .int .i64 a1] w fun e w'=>e=.returned (.int .i64 r)∧Below w.heap.size w w':=by
 have hu59:=Tryd.underlying59
 have HB:=am (Below.refl w.heap.size w)
 have H:(if (wrap64 (a1 - (a0_0.size:Int)))<0 then (some (-1)) else (some (wrap64 (a1 - (a0_0.size:Int)))))=some r:=h
 clear h
 by_cases c3:(wrap64 (a1 - (a0_0.size:Int)))<0
 ·rw [if_pos c3] at H
  have c3b0:decide ((wrap64 (a1 - (a0_0.size:Int)))<0)=true:=dzT c3
  clear c3
  obtain rfl:=Option.some.inj H
  go_enter Tryd.func23,Tryd.ntmps23
  go_wp2_with (first |((with_reducible refine jN (N:=2) rfl ?_);refine bE (N:=2) (cs:=#[.string a0_0, .int .i64 a0_1]) (t:=59) ?_;intro gb101 hg w4 hbox hb;have BK101:=am (hbox);have GW101:=am ((Y1:w.heap.size≤gb101));have GE101:=am ((Y1:w.heap.size≤gb101));replace HB:=am (jc (bq) hb);clear hb hbox hg;have hcz5_0:=bc0 BK101.out;have hcz5_1:=bc1 BK101.out;have hfz5_0:=ja BK101.out 0;have hfz5_1:=ja BK101.out 1))
  go_ret
  exact ⟨Y0,Y33⟩
 ·rw [if_neg c3] at H
  have c3b0:decide ((wrap64 (a1 - (a0_0.size:Int)))<0)=false:=dzF c3
  clear c3
  obtain rfl:=Option.some.inj H
  go_enter Tryd.func23,Tryd.ntmps23
  go_wp2_with (first |((with_reducible refine jN (N:=2) rfl ?_);refine bE (N:=2) (cs:=#[.string a0_0, .int .i64 a0_1]) (t:=59) ?_;intro gb101 hg w6 hbox hb;have BK101:=am (hbox);have GW101:=am ((Y1:w.heap.size≤gb101));have GE101:=am ((Y1:w.heap.size≤gb101));replace HB:=am (jc (bq) hb);clear hb hbox hg;have hcz7_0:=bc0 BK101.out;have hcz7_1:=bc1 BK101.out;have hfz7_0:=ja BK101.out 0;have hfz7_1:=ja BK101.out 1))
  go_ret
  exact ⟨Y0,Y33⟩
def jea.l0 : Nat → List (S59) → Int → Int → Option (Int)
 | 0,_,_,_=>none
 | k+1,x0,x1,x5=>if x5<(x0.length:Int) then (if 0≤x5 then ((jab.f ((jdb x0 x5).f0) ((jdb x0 x5).f1) x1).bind fun t103=>(if t103<0 then (some (-1)) else (jea.l0 k x0 t103 (wrap64 (x5+1))))) else (none)) else (some x1)
def jea.f (k : Nat) (l0 : List (S59)) (a1 : Int) : Option (Int) := if (wrap64 (a1 - (l0.length : Int))) < 0 then (some (-1)) else (jea.l0 k l0 (wrap64 (a1 - (l0.length : Int))) 0)
set_option maxHeartbeats 8000000 in
set_option maxRecDepth 100000 in
theorem jea.calls (k : Nat) (A0 : Option Addr) (c0 : Nat) (l0 : List (S59)) (a1 : Int) (r : Int) (w : World) (hr0 : Kd.C k59 w A0 l0.length l0) (hc0 : l0.length ≤ c0) (h : jea.f k l0 a1 = some r) :
  Calls Tryd.prog 12 #[.slice A0 l0.length c0, .int .i64 a1] w fun e w'=>e=.returned (.int .i64 r)∧Below w.heap.size w w':=by
 have hu59:=Tryd.underlying59
 have HR0:=am hr0
 have HC0:=am hc0
 clear hr0 hc0
 have HB:=am (Below.refl w.heap.size w)
 have H:(if (wrap64 (a1 - (l0.length:Int)))<0 then (some (-1)) else (jea.l0 k l0 (wrap64 (a1 - (l0.length:Int))) 0))=some r:=h
 clear h
 by_cases c3:(wrap64 (a1 - (l0.length:Int)))<0
 ·rw [if_pos c3] at H
  have c3b0:decide ((wrap64 (a1 - (l0.length:Int)))<0)=true:=dzT c3
  clear c3
  obtain rfl:=Option.some.inj H
  go_enter Tryd.func12,Tryd.ntmps12
  go_wp2
  go_ret
  exact ⟨Y0,bq⟩
 ·rw [if_neg c3] at H
  have c3b0:decide ((wrap64 (a1 - (l0.length:Int)))<0)=false:=dzF c3
  clear c3
  have H':=am H
  clear H
  go_enter Tryd.func12,Tryd.ntmps12
  go_wp2
  go_loopg [1,5] k (fun kq v1 v5 w'=>∃ (x1_1:Int) (x5_1:Int),v1=.int .i64 x1_1∧v5=.int .i64 x5_1∧jD (jea.l0 kq l0 x1_1 x5_1=some r)∧jD (kq≤k)∧jD (Below w.heap.size w w'))
  case atStart=>exact ⟨(wrap64 (a1 - (l0.length:Int))),(0),(sq),(sq),H',⟨Nat.le_refl _⟩,⟨bq⟩⟩
  case round =>
   clear H'
   try clear c1
   try clear p2
   try clear c3
   try clear c3b0
   obtain ⟨x1_1,x5_1,rfl,rfl,HA,HK1,HB⟩:=hrel
   cases gk with
   | zero=>exact absurd HA.out (by simp [jea.l0])
   | succ k1 =>
    have H:=HA.out
    clear HA
    simp only [jea.l0] at H
    by_cases c4:x5_1<(l0.length:Int)
    ·rw [if_pos c4] at H
     have c4b0:decide (x5_1<(l0.length:Int))=true:=dzT c4
     clear c4
     by_cases c5:0≤x5_1
     ·rw [if_pos c5] at H
      have c5b0:decide (0≤x5_1)=true:=dzT c5
      clear c5
      replace H:=bzS H
      obtain ⟨t103,A60,H⟩:=H
      replace H:(if t103<0 then (some (-1)) else (jea.l0 k1 l0 t103 (wrap64 (x5_1+1))))=some r:=H
      have A6:=am A60
      clear A60
      by_cases c7:t103<0
      ·rw [if_pos c7] at H
       have c7b0:decide (t103<0)=true:=dzT c7
       clear c7
       obtain rfl:=Option.some.inj H
       have p102:0≤(x5_1:Int):=ozD (uq)
       have q102:x5_1<(l0.length:Int):=ozD (uq)
       obtain ⟨ad102,e102,hx102_0,hx102_1⟩:=at_T59 HR0.out x5_1 p102 q102
       cases e102
       replace hx102_0:=cb HB.out hx102_0
       replace hx102_1:=cb HB.out hx102_1
       replace p102:=ezT p102
       replace q102:=ezT q102
       go_wp2_with (first |((with_reducible refine jf (f:=23) rfl ?_);refine gL (some 23) Tryd.func23 #[.agg #[.string ((jdb l0 x5_1).f0), .int .i64 ((jdb l0 x5_1).f1)], .int .i64 x1_1] ?_;(with_reducible refine (jab.calls ((jdb l0 x5_1).f0) ((jdb l0 x5_1).f1) x1_1 t103 _ A6.out).mono ?_);rintro e w8 ⟨rfl,hb⟩;refine ⟨_,rfl,?_⟩;replace HB:=am (jc (bq) hb);(try clear hb);(try clear hb2);(try clear hk);(try clear hi)))
       go_ret
       exact ⟨Y0,bq⟩
      ·rw [if_neg c7] at H
       have c7b0:decide (t103<0)=false:=dzF c7
       clear c7
       have H':=am H
       clear H
       have p102:0≤(x5_1:Int):=ozD (uq)
       have q102:x5_1<(l0.length:Int):=ozD (uq)
       obtain ⟨ad102,e102,hx102_0,hx102_1⟩:=at_T59 HR0.out x5_1 p102 q102
       cases e102
       replace hx102_0:=cb HB.out hx102_0
       replace hx102_1:=cb HB.out hx102_1
       replace p102:=ezT p102
       replace q102:=ezT q102
       go_wp2_with (first |((with_reducible refine jf (f:=23) rfl ?_);refine gL (some 23) Tryd.func23 #[.agg #[.string ((jdb l0 x5_1).f0), .int .i64 ((jdb l0 x5_1).f1)], .int .i64 x1_1] ?_;(with_reducible refine (jab.calls ((jdb l0 x5_1).f0) ((jdb l0 x5_1).f1) x1_1 t103 _ A6.out).mono ?_);rintro e w9 ⟨rfl,hb⟩;refine ⟨_,rfl,?_⟩;replace HB:=am (jc (bq) hb);(try clear hb);(try clear hb2);(try clear hk);(try clear hi)))
       go_roundg k1
       case measure=>have:=HK1.out;omega
       case rel=>exact ⟨(t103),(wrap64 (x5_1+1)),(sq),(sq),H',⟨by have:=HK1.out;omega⟩,⟨bq⟩⟩
     ·rw [if_neg c5] at H
      exact absurd H (by simp)
    ·rw [if_neg c4] at H
     have c4b0:decide (x5_1<(l0.length:Int))=false:=dzF c4
     clear c4
     obtain rfl:=Option.some.inj H
     go_wp2
     go_ret
     exact ⟨Y0,bq⟩
def jVa.f (k : Nat) (l0_0 : List (S59)) (a1 : Int) : Option (Int) := (jea.f k l0_0 a1).bind fun t105 => (if t105 < 0 then (some (-1)) else (some t105))
set_option maxHeartbeats 8000000 in
set_option maxRecDepth 100000 in
theorem jVa.calls (k : Nat) (A0_0 : Option Addr) (c0_0 : Nat) (l0_0 : List (S59)) (a1 : Int) (r : Int) (w : World) (hr0_0 : Kd.C k59 w A0_0 l0_0.length l0_0) (hc0_0 : l0_0.length ≤ c0_0) (h : jVa.f k l0_0 a1 = some r) :
  Calls Tryd.prog 4 #[.agg #[.slice A0_0 l0_0.length c0_0], .int .i64 a1] w fun e w'=>e=.returned (.int .i64 r)∧Below w.heap.size w w':=by
 have hu24:=Tryd.underlying24
 have HR0_0:=am hr0_0
 have HC0_0:=am hc0_0
 clear hr0_0 hc0_0
 have HB:=am (Below.refl w.heap.size w)
 have H:((jea.f k l0_0 a1).bind fun t105=>(if t105<0 then (some (-1)) else (some t105)))=some r:=h
 clear h
 replace H:=bzS H
 obtain ⟨t105,A30,H⟩:=H
 replace H:(if t105<0 then (some (-1)) else (some t105))=some r:=H
 have A3:=am A30
 clear A30
 by_cases c4:t105<0
 ·rw [if_pos c4] at H
  have c4b0:decide (t105<0)=true:=dzT c4
  clear c4
  obtain rfl:=Option.some.inj H
  go_enter Tryd.func4,Tryd.ntmps4
  go_wp2_with (first |((with_reducible refine jN (N:=2) rfl ?_);refine bE (N:=2) (cs:=#[.slice A0_0 l0_0.length c0_0]) (t:=24) ?_;intro gb104 hg w5 hbox hb;have BK104:=am (hbox);have GW104:=am ((Y1:w.heap.size≤gb104));have GE104:=am ((Y1:w.heap.size≤gb104));replace HB:=am (jc (bq) hb);clear hb hbox hg;have hcz6_0:=bc0 BK104.out;have hfz6_0:=ja BK104.out 0) |((with_reducible refine jf (f:=12) rfl ?_);refine gL (some 8) Tryd.func12 #[.slice A0_0 l0_0.length c0_0, .int .i64 a1] ?_;(with_reducible refine (jea.calls k _ _ l0_0 a1 t105 _ ?side1 ?side2 A3.out).mono ?_);(case side1=>exact cq (Kd.jH HR0_0.out HB.out));(case side2=>exact HC0_0.out);rintro e w7 ⟨rfl,hb⟩;refine ⟨_,rfl,?_⟩;replace BK104:=am (ji (g:=gb104) (o:=.cells #[.slice A0_0 l0_0.length c0_0] 24 (0,0)) (kq BK104.out) hb);replace HB:=am (jc (Y23) hb);(try clear hb);(try clear hb2);(try clear hk);(try clear hi)))
  go_ret
  exact ⟨Y0,Y23⟩
 ·rw [if_neg c4] at H
  have c4b0:decide (t105<0)=false:=dzF c4
  clear c4
  obtain rfl:=Option.some.inj H
  go_enter Tryd.func4,Tryd.ntmps4
  go_wp2_with (first |((with_reducible refine jN (N:=2) rfl ?_);refine bE (N:=2) (cs:=#[.slice A0_0 l0_0.length c0_0]) (t:=24) ?_;intro gb104 hg w8 hbox hb;have BK104:=am (hbox);have GW104:=am ((Y1:w.heap.size≤gb104));have GE104:=am ((Y1:w.heap.size≤gb104));replace HB:=am (jc (bq) hb);clear hb hbox hg;have hcz9_0:=bc0 BK104.out;have hfz9_0:=ja BK104.out 0) |((with_reducible refine jf (f:=12) rfl ?_);refine gL (some 8) Tryd.func12 #[.slice A0_0 l0_0.length c0_0, .int .i64 a1] ?_;(with_reducible refine (jea.calls k _ _ l0_0 a1 t105 _ ?side1 ?side2 A3.out).mono ?_);(case side1=>exact cq (Kd.jH HR0_0.out HB.out));(case side2=>exact HC0_0.out);rintro e w10 ⟨rfl,hb⟩;refine ⟨_,rfl,?_⟩;replace BK104:=am (ji (g:=gb104) (o:=.cells #[.slice A0_0 l0_0.length c0_0] 24 (0,0)) (kq BK104.out) hb);replace HB:=am (jc (Y23) hb);(try clear hb);(try clear hb2);(try clear hk);(try clear hi)))
  go_ret
  exact ⟨Y0,Y23⟩
def jPa.f (l0 : List (S44)) (a1 : Int) : Option (Int) := if (wrap64 (a1 - (l0.length : Int))) < 0 then (some (-1)) else (some (wrap64 (a1 - (l0.length : Int))))
set_option maxHeartbeats 8000000 in
set_option maxRecDepth 100000 in
theorem jPa.calls (A0 : Option Addr) (c0 : Nat) (l0 : List (S44)) (a1 : Int) (r : Int) (w : World) (hr0 : Kd.C k44 w A0 l0.length l0) (hc0 : l0.length ≤ c0) (h : jPa.f l0 a1 = some r) :
  Calls Tryd.prog 5 #[.slice A0 l0.length c0, .int .i64 a1] w fun e w'=>e=.returned (.int .i64 r)∧jAa w w':=by
 have HR0:=am hr0
 have HC0:=am hc0
 clear hr0 hc0
 have H:(if (wrap64 (a1 - (l0.length:Int)))<0 then (some (-1)) else (some (wrap64 (a1 - (l0.length:Int)))))=some r:=h
 clear h
 by_cases c3:(wrap64 (a1 - (l0.length:Int)))<0
 ·rw [if_pos c3] at H
  have c3b0:decide ((wrap64 (a1 - (l0.length:Int)))<0)=true:=dzT c3
  clear c3
  obtain rfl:=Option.some.inj H
  go_enter Tryd.func5,Tryd.ntmps5
  go_wp2
  go_ret
  exact ⟨sq,Y2⟩
 ·rw [if_neg c3] at H
  have c3b0:decide ((wrap64 (a1 - (l0.length:Int)))<0)=false:=dzF c3
  clear c3
  obtain rfl:=Option.some.inj H
  go_enter Tryd.func5,Tryd.ntmps5
  go_wp2
  go_ret
  exact ⟨sq,Y2⟩
def jq.f (a0 : Int) (a1 : Int) (a2 : Int) : Option (Bool) := if a1 ≤ a0 then (some (decide (a0 ≤ a2))) else (some false)
set_option maxHeartbeats 8000000 in
set_option maxRecDepth 100000 in
theorem jq.calls (a0 : Int) (a1 : Int) (a2 : Int) (r : Bool) (w : World) (h : jq.f a0 a1 a2 = some r) :
  Calls Tryd.prog 39 #[.int .i64 a0, .int .i64 a1, .int .i64 a2] w fun e w'=>e=.returned (.bool r)∧jAa w w':=by
 have H:(if a1≤a0 then (some (decide (a0≤a2))) else (some false))=some r:=h
 clear h
 by_cases c4:a1≤a0
 ·rw [if_pos c4] at H
  have c4b0:decide (a1≤a0)=true:=dzT c4
  clear c4
  obtain rfl:=Option.some.inj H
  go_enter Tryd.func39,Tryd.ntmps39
  go_wp2
  go_ret
  exact ⟨sq,Y2⟩
 ·rw [if_neg c4] at H
  have c4b0:decide (a1≤a0)=false:=dzF c4
  clear c4
  obtain rfl:=Option.some.inj H
  go_enter Tryd.func39,Tryd.ntmps39
  go_wp2
  go_ret
  exact ⟨sq,Y2⟩
def jFa.f (l0_0 : List (S63)) (a1 : Int) : Option (Bool) := (jq.f a1 0 (wrap64 ((l0_0.length : Int) - 1))).bind fun t107 => (some t107)
set_option maxHeartbeats 8000000 in
set_option maxRecDepth 100000 in
theorem jFa.calls (A0_0 : Option Addr) (c0_0 : Nat) (l0_0 : List (S63)) (a1 : Int) (r : Bool) (w : World) (hr0_0 : Kd.C k63 w A0_0 l0_0.length l0_0) (hc0_0 : l0_0.length ≤ c0_0) (h : jFa.f l0_0 a1 = some r) :
  Calls Tryd.prog 63 #[.agg #[.slice A0_0 l0_0.length c0_0], .int .i64 a1] w fun e w'=>e=.returned (.bool r)∧Below w.heap.size w w':=by
 have hu31:=Tryd.underlying31
 have HR0_0:=am hr0_0
 have HC0_0:=am hc0_0
 clear hr0_0 hc0_0
 have HB:=am (Below.refl w.heap.size w)
 have H:((jq.f a1 0 (wrap64 ((l0_0.length:Int) - 1))).bind fun t107=>(some t107))=some r:=h
 clear h
 replace H:=bzS H
 obtain ⟨t107,A30,H⟩:=H
 replace H:(some t107)=some r:=H
 have A3:=am A30
 clear A30
 obtain rfl:=Option.some.inj H
 go_enter Tryd.func63,Tryd.ntmps63
 go_wp2_with (first |((with_reducible refine jN (N:=2) rfl ?_);refine bE (N:=2) (cs:=#[.slice A0_0 l0_0.length c0_0]) (t:=31) ?_;intro gb106 hg w4 hbox hb;have BK106:=am (hbox);have GW106:=am ((Y1:w.heap.size≤gb106));have GE106:=am ((Y1:w.heap.size≤gb106));replace HB:=am (jc (bq) hb);clear hb hbox hg;have hcz5_0:=bc0 BK106.out;have hfz5_0:=ja BK106.out 0) |((with_reducible refine jf (f:=39) rfl ?_);refine gL (some 10) Tryd.func39 #[.int .i64 a1, .int .i64 0, .int .i64 (wrap64 ((l0_0.length:Int) - 1))] ?_;(with_reducible refine (jq.calls a1 0 (wrap64 ((l0_0.length:Int) - 1)) t107 _ A3.out).mono ?_);rintro e w' ⟨rfl,⟨nd,rfl⟩⟩;refine ⟨_,rfl,?_⟩))
 go_ret
 exact ⟨Y0,by repeat (first |(with_reducible first | exact HB.out | apply jA | apply je | apply jy | refine jB ?_ GE106.out) | exact HB.out)⟩
def jV.j0 : Nat → Int → Bool → List (S63) → Int → Int → Int → Int → Option (Bool)
 | 0,_,_,_,_,_,_,_=>none
 | k+1,x6,x7,x109000,x110000,x110001,x110002,x110003=>if x7=true then ((jq.f x110002 0 99).bind fun t110=>(if t110=true then (some (x110003 == 0)) else (some false))) else (if x6=2 then ((jFa.f x109000 x110002).bind fun t111=>(if t111=true then ((jq.f x110003 0 99).bind fun t112=>(some t112)) else (some false))) else (if x6=8 then ((jFa.f x109000 x110002).bind fun t113=>(if t113=true then (some (x110003 == 0)) else (some false))) else (if x6=11 then ((jq.f x110002 0 9).bind fun t114=>(if t114=true then ((jq.f x110003 0 1).bind fun t115=>(some t115)) else (some false))) else (if x6=12 then ((jq.f x110002 0 3).bind fun t116=>(if t116=true then (some (x110003 == 0)) else (some false))) else ((jq.f x110001 0 10).bind fun t117=>(if t117=true then (if x110002=0 then (some (x110003 == 0)) else (some false)) else (some false)))))))
def jV.f (k : Nat) (l0_0 : List (S63)) (a1_0 : Int) (a1_1 : Int) (a1_2 : Int) (a1_3 : Int) : Option (Bool) := if a1_1 = 1 then (jV.j0 k a1_1 (a1_1 == 1) l0_0 a1_0 a1_1 a1_2 a1_3) else (jV.j0 k a1_1 (a1_1 == 4) l0_0 a1_0 a1_1 a1_2 a1_3)
set_option maxHeartbeats 8000000 in
set_option maxRecDepth 100000 in
theorem jV.calls (k : Nat) (A0_0 : Option Addr) (c0_0 : Nat) (l0_0 : List (S63)) (a1_0 : Int) (a1_1 : Int) (a1_2 : Int) (a1_3 : Int) (r : Bool) (w : World) (hr0_0 : Kd.C k63 w A0_0 l0_0.length l0_0) (hc0_0 : l0_0.length ≤ c0_0) (h : jV.f k l0_0 a1_0 a1_1 a1_2 a1_3 = some r) :
  Calls Tryd.prog 38 #[.agg #[.slice A0_0 l0_0.length c0_0], .agg #[.int .i64 a1_0, .int .i64 a1_1, .int .i64 a1_2, .int .i64 a1_3]] w fun e w'=>e=.returned (.bool r)∧Below w.heap.size w w':=by
 have hu31:=Tryd.underlying31
 have hu42:=Tryd.underlying42
 have HR0_0:=am hr0_0
 have HC0_0:=am hc0_0
 clear hr0_0 hc0_0
 have HB:=am (Below.refl w.heap.size w)
 have H:(if a1_1=1 then (jV.j0 k a1_1 (a1_1 == 1) l0_0 a1_0 a1_1 a1_2 a1_3) else (jV.j0 k a1_1 (a1_1 == 4) l0_0 a1_0 a1_1 a1_2 a1_3))=some r:=h
 clear h
 have HC3:=am H
 clear H
 go_enter Tryd.func38,Tryd.ntmps38
 go_upto_if 7 with (first |((with_reducible refine jN (N:=2) rfl ?_);refine bE (N:=2) (cs:=#[.slice A0_0 l0_0.length c0_0]) (t:=31) ?_;intro gb108 hg w4 hbox hb;have BK108:=am (hbox);have GW108:=am ((Y1:w.heap.size≤gb108));have GE108:=am ((Y1:w.heap.size≤gb108));replace HB:=am (jc (bq) hb);clear hb hbox hg) |((with_reducible refine jN (N:=3) rfl ?_);refine bE (N:=3) (cs:=#[.int .i64 a1_0, .int .i64 a1_1, .int .i64 a1_2, .int .i64 a1_3]) (t:=42) ?_;intro gb109 hg w5 hbox hb;have BK109:=am (hbox);have GW109:=am ((Y34:w.heap.size≤gb109));have GE109:=am ((Y34:w.heap.size≤gb109));have NB108_109:=am ((by rw [hg];exact Nat.ne_of_lt (jEa (g:=gb108) (o:=.cells #[.slice A0_0 l0_0.length c0_0] 31 (0,0)) (kq BK108.out)):gb108≠gb109));have NB109_108:=am ((by rw [hg];exact Nat.ne_of_gt (jEa (g:=gb108) (o:=.cells #[.slice A0_0 l0_0.length c0_0] 31 (0,0)) (kq BK108.out)):gb109≠gb108));replace BK108:=am (ji (g:=gb108) (o:=.cells #[.slice A0_0 l0_0.length c0_0] 31 (0,0)) (kq BK108.out) hb);replace HB:=am (jc (by repeat (first |(with_reducible first | exact HB.out | apply jA | apply je | apply jy | refine jB ?_ GE108.out) | exact HB.out)) hb);clear hb hbox hg;have hnb6:=NB109_108.out;have hnc6:=NB108_109.out;have hcz7_0:=bc0 BK109.out;have hcz7_1:=bc1 BK109.out;have hcz7_2:=bc2 BK109.out;have hcz7_3:=bc3 BK109.out;have hfz7_0:=ja BK109.out 0;have hfz7_1:=ja BK109.out 1;have hfz7_2:=ja BK109.out 2;have hfz7_3:=ja BK109.out 3))
 (try simp only [Act.put,List.setIfInBounds_toArray,List.set_cons_zero,List.set_cons_succ])
 go_cut [7] (fun v7 wc=>∃ (kq:Nat) (x7_2:Bool),v7=.bool x7_2∧jD (jV.j0 kq a1_1 x7_2 l0_0 a1_0 a1_1 a1_2 a1_3=some r)∧jD (kq≤k)∧jD (wc.heap[gb108]?=some (.cells #[(.slice A0_0 l0_0.length c0_0)] 31 (0,0)))∧jD (wc.heap[gb109]?=some (.cells #[.int .i64 a1_0, .int .i64 a1_1, .int .i64 a1_2, .int .i64 a1_3] 42 (0,0)))∧jD (Below w.heap.size w wc))
 case first =>
  have H:=HC3.out
  clear HC3
  by_cases c8:a1_1=1
  ·rw [if_pos c8] at H
   have c8b0:(a1_1 == 1)=true:=beq_iff_eq.mpr c8
   have c8b1:(a1_1 != 1)=false:=bne_eq_false_iff_eq.mpr c8
   clear c8
   (first | rw [c8b0] |(simp only [jlb,job];rw [c8b0]) | skip)
   have H':=am H
   clear H
   go_wp2
   go_meet
   case rel=>exact ⟨_,((a1_1 == 1)),(sq),H',⟨by first | omega | exact Nat.le_refl _⟩,⟨kq BK108.out⟩,⟨kq BK109.out⟩,⟨Y4⟩⟩
  ·rw [if_neg c8] at H
   have c8b0:(a1_1 == 1)=false:=beq_eq_false_iff_ne.mpr c8
   have c8b1:(a1_1 != 1)=true:=bne_iff_ne.mpr c8
   (first | rw [c8b0] |(simp only [jlb,job];rw [c8b0]) | skip)
   have H':=am H
   clear H
   go_wp2
   go_meet
   case rel=>exact ⟨_,((a1_1 == 4)),(sq),H',⟨by first | omega | exact Nat.le_refl _⟩,⟨kq BK108.out⟩,⟨kq BK109.out⟩,⟨Y4⟩⟩
 case rest =>
  clear HC3
  try clear p2
  try clear c3
  try clear c6
  try clear c8
  try clear c8b0
  try clear c8b1
  try clear hcz7_0
  try clear hcz7_1
  try clear hcz7_2
  try clear hcz7_3
  try clear hfz7_0
  try clear hfz7_1
  try clear hfz7_2
  try clear hfz7_3
  obtain ⟨kq,x7_2,rfl,HA,HJ2,BK108,BK109,HB⟩:=hcut
  cases kq with
  | zero=>exact absurd HA.out (by simp [jV.j0])
  | succ kj2 =>
   have H:=HA.out
   clear HA
   simp only [jV.j0] at H
   by_cases c9:x7_2=true
   ·subst c9
    have H1:((jq.f a1_2 0 99).bind fun t110=>(if t110=true then (some (a1_3 == 0)) else (some false)))=some r:=by rw [if_pos rfl] at H;exact H
    clear H
    have H:=H1
    clear H1
    replace H:=bzS H
    obtain ⟨t110,A100,H⟩:=H
    replace H:(if t110=true then (some (a1_3 == 0)) else (some false))=some r:=H
    have A10:=am A100
    clear A100
    by_cases c11:t110=true
    ·subst c11
     have H1:(some (a1_3 == 0))=some r:=by rw [if_pos rfl] at H;exact H
     clear H
     have H:=H1
     clear H1
     obtain rfl:=Option.some.inj H
     have hnb12:=NB109_108.out
     have hnc12:=NB108_109.out
     have hcz13_0:=bc0 BK109.out
     have hcz13_1:=bc1 BK109.out
     have hcz13_2:=bc2 BK109.out
     have hcz13_3:=bc3 BK109.out
     have hfz13_0:=ja BK109.out 0
     have hfz13_1:=ja BK109.out 1
     have hfz13_2:=ja BK109.out 2
     have hfz13_3:=ja BK109.out 3
     go_wp2_with (first |((with_reducible refine jf (f:=39) rfl ?_);refine gL (some 12) Tryd.func39 #[.int .i64 a1_2, .int .i64 0, .int .i64 99] ?_;(with_reducible refine (jq.calls a1_2 0 99 true _ A10.out).mono ?_);rintro e w' ⟨rfl,⟨nd,rfl⟩⟩;refine ⟨_,rfl,?_⟩))
     go_ret
     exact ⟨Y0,Y4⟩
    ·replace c11:=Bool.eq_false_iff.mpr c11
     subst c11
     have H1:(some false)=some r:=by rw [if_neg (show ¬ (false=true) by decide)] at H;exact H
     clear H
     have H:=H1
     clear H1
     obtain rfl:=Option.some.inj H
     have hnb14:=NB109_108.out
     have hnc14:=NB108_109.out
     have hcz15_0:=bc0 BK109.out
     have hcz15_1:=bc1 BK109.out
     have hcz15_2:=bc2 BK109.out
     have hcz15_3:=bc3 BK109.out
     have hfz15_0:=ja BK109.out 0
     have hfz15_1:=ja BK109.out 1
     have hfz15_2:=ja BK109.out 2
     have hfz15_3:=ja BK109.out 3
     go_wp2_with (first |((with_reducible refine jf (f:=39) rfl ?_);refine gL (some 12) Tryd.func39 #[.int .i64 a1_2, .int .i64 0, .int .i64 99] ?_;(with_reducible refine (jq.calls a1_2 0 99 false _ A10.out).mono ?_);rintro e w' ⟨rfl,⟨nd,rfl⟩⟩;refine ⟨_,rfl,?_⟩))
     go_ret
     exact ⟨Y0,Y4⟩
   ·replace c9:=Bool.eq_false_iff.mpr c9
    subst c9
    have H1:(if a1_1=2 then ((jFa.f l0_0 a1_2).bind fun t111=>(if t111=true then ((jq.f a1_3 0 99).bind fun t112=>(some t112)) else (some false))) else (if a1_1=8 then ((jFa.f l0_0 a1_2).bind fun t113=>(if t113=true then (some (a1_3 == 0)) else (some false))) else (if a1_1=11 then ((jq.f a1_2 0 9).bind fun t114=>(if t114=true then ((jq.f a1_3 0 1).bind fun t115=>(some t115)) else (some false))) else (if a1_1=12 then ((jq.f a1_2 0 3).bind fun t116=>(if t116=true then (some (a1_3 == 0)) else (some false))) else ((jq.f a1_1 0 10).bind fun t117=>(if t117=true then (if a1_2=0 then (some (a1_3 == 0)) else (some false)) else (some false)))))))=some r:=by rw [if_neg (show ¬ (false=true) by decide)] at H;exact H
    clear H
    have H:=H1
    clear H1
    by_cases c16:a1_1=2
    ·rw [if_pos c16] at H
     have c16b0:(a1_1 == 2)=true:=beq_iff_eq.mpr c16
     have c16b1:(a1_1 != 2)=false:=bne_eq_false_iff_eq.mpr c16
     clear c16
     replace H:=bzS H
     obtain ⟨t111,A170,H⟩:=H
     replace H:(if t111=true then ((jq.f a1_3 0 99).bind fun t112=>(some t112)) else (some false))=some r:=H
     have A17:=am A170
     clear A170
     by_cases c18:t111=true
     ·subst c18
      have H1:((jq.f a1_3 0 99).bind fun t112=>(some t112))=some r:=by rw [if_pos rfl] at H;exact H
      clear H
      have H:=H1
      clear H1
      replace H:=bzS H
      obtain ⟨t112,A190,H⟩:=H
      replace H:(some t112)=some r:=H
      have A19:=am A190
      clear A190
      obtain rfl:=Option.some.inj H
      have hnb20:=NB108_109.out
      have hnc20:=NB109_108.out
      have hcz21_0:=bc0 BK108.out
      have hfz21_0:=ja BK108.out 0
      have hcz22_0:=bc0 BK109.out
      have hcz22_1:=bc1 BK109.out
      have hcz22_2:=bc2 BK109.out
      have hcz22_3:=bc3 BK109.out
      have hfz22_0:=ja BK109.out 0
      have hfz22_1:=ja BK109.out 1
      have hfz22_2:=ja BK109.out 2
      have hfz22_3:=ja BK109.out 3
      go_wp2_with (first |((with_reducible refine jf (f:=63) rfl ?_);refine gL (some 23) Tryd.func63 #[.agg #[.slice A0_0 l0_0.length c0_0], .int .i64 a1_2] ?_;(with_reducible refine (jFa.calls _ _ l0_0 a1_2 true _ ?side1 ?side2 A17.out).mono ?_);(case side1=>exact cq (Kd.jH HR0_0.out HB.out));(case side2=>exact HC0_0.out);rintro e w23 ⟨rfl,hb⟩;refine ⟨_,rfl,?_⟩;replace BK108:=am (ji (g:=gb108) (o:=.cells #[.slice A0_0 l0_0.length c0_0] 31 (0,0)) (kq BK108.out) hb);replace BK109:=am (ji (g:=gb109) (o:=.cells #[.int .i64 a1_0, .int .i64 a1_1, .int .i64 a1_2, .int .i64 a1_3] 42 (0,0)) (kq BK109.out) hb);replace HB:=am (jc (Y4) hb);(try clear hb);(try clear hb2);(try clear hk);(try clear hi);have hcz24_0:=bc0 BK109.out;have hcz24_1:=bc1 BK109.out;have hcz24_2:=bc2 BK109.out;have hcz24_3:=bc3 BK109.out;have hfz24_0:=ja BK109.out 0;have hfz24_1:=ja BK109.out 1;have hfz24_2:=ja BK109.out 2;have hfz24_3:=ja BK109.out 3) |(go_at_call 39;(with_reducible refine (jq.calls a1_3 0 99 t112 _ A19.out).mono ?_);rintro e w' ⟨rfl,⟨nd,rfl⟩⟩))
      go_ret
      exact ⟨Y0,Y4⟩
     ·replace c18:=Bool.eq_false_iff.mpr c18
      subst c18
      have H1:(some false)=some r:=by rw [if_neg (show ¬ (false=true) by decide)] at H;exact H
      clear H
      have H:=H1
      clear H1
      obtain rfl:=Option.some.inj H
      have hnb25:=NB108_109.out
      have hnc25:=NB109_108.out
      have hcz26_0:=bc0 BK108.out
      have hfz26_0:=ja BK108.out 0
      have hcz27_0:=bc0 BK109.out
      have hcz27_1:=bc1 BK109.out
      have hcz27_2:=bc2 BK109.out
      have hcz27_3:=bc3 BK109.out
      have hfz27_0:=ja BK109.out 0
      have hfz27_1:=ja BK109.out 1
      have hfz27_2:=ja BK109.out 2
      have hfz27_3:=ja BK109.out 3
      go_wp2_with (first |((with_reducible refine jf (f:=63) rfl ?_);refine gL (some 23) Tryd.func63 #[.agg #[.slice A0_0 l0_0.length c0_0], .int .i64 a1_2] ?_;(with_reducible refine (jFa.calls _ _ l0_0 a1_2 false _ ?side1 ?side2 A17.out).mono ?_);(case side1=>exact cq (Kd.jH HR0_0.out HB.out));(case side2=>exact HC0_0.out);rintro e w28 ⟨rfl,hb⟩;refine ⟨_,rfl,?_⟩;replace BK108:=am (ji (g:=gb108) (o:=.cells #[.slice A0_0 l0_0.length c0_0] 31 (0,0)) (kq BK108.out) hb);replace BK109:=am (ji (g:=gb109) (o:=.cells #[.int .i64 a1_0, .int .i64 a1_1, .int .i64 a1_2, .int .i64 a1_3] 42 (0,0)) (kq BK109.out) hb);replace HB:=am (jc (Y4) hb);(try clear hb);(try clear hb2);(try clear hk);(try clear hi)))
      go_ret
      exact ⟨Y0,Y4⟩
    ·rw [if_neg c16] at H
     have c16b0:(a1_1 == 2)=false:=beq_eq_false_iff_ne.mpr c16
     have c16b1:(a1_1 != 2)=true:=bne_iff_ne.mpr c16
     by_cases c29:a1_1=8
     ·rw [if_pos c29] at H
      have c29b0:(a1_1 == 8)=true:=beq_iff_eq.mpr c29
      have c29b1:(a1_1 != 8)=false:=bne_eq_false_iff_eq.mpr c29
      clear c29
      replace H:=bzS H
      obtain ⟨t113,A300,H⟩:=H
      replace H:(if t113=true then (some (a1_3 == 0)) else (some false))=some r:=H
      have A30:=am A300
      clear A300
      by_cases c31:t113=true
      ·subst c31
       have H1:(some (a1_3 == 0))=some r:=by rw [if_pos rfl] at H;exact H
       clear H
       have H:=H1
       clear H1
       obtain rfl:=Option.some.inj H
       have hnb32:=NB108_109.out
       have hnc32:=NB109_108.out
       have hcz33_0:=bc0 BK108.out
       have hfz33_0:=ja BK108.out 0
       have hcz34_0:=bc0 BK109.out
       have hcz34_1:=bc1 BK109.out
       have hcz34_2:=bc2 BK109.out
       have hcz34_3:=bc3 BK109.out
       have hfz34_0:=ja BK109.out 0
       have hfz34_1:=ja BK109.out 1
       have hfz34_2:=ja BK109.out 2
       have hfz34_3:=ja BK109.out 3
       go_wp2_with (first |((with_reducible refine jf (f:=63) rfl ?_);refine gL (some 34) Tryd.func63 #[.agg #[.slice A0_0 l0_0.length c0_0], .int .i64 a1_2] ?_;(with_reducible refine (jFa.calls _ _ l0_0 a1_2 true _ ?side1 ?side2 A30.out).mono ?_);(case side1=>exact cq (Kd.jH HR0_0.out HB.out));(case side2=>exact HC0_0.out);rintro e w35 ⟨rfl,hb⟩;refine ⟨_,rfl,?_⟩;replace BK108:=am (ji (g:=gb108) (o:=.cells #[.slice A0_0 l0_0.length c0_0] 31 (0,0)) (kq BK108.out) hb);replace BK109:=am (ji (g:=gb109) (o:=.cells #[.int .i64 a1_0, .int .i64 a1_1, .int .i64 a1_2, .int .i64 a1_3] 42 (0,0)) (kq BK109.out) hb);replace HB:=am (jc (Y4) hb);(try clear hb);(try clear hb2);(try clear hk);(try clear hi);have hcz36_0:=bc0 BK109.out;have hcz36_1:=bc1 BK109.out;have hcz36_2:=bc2 BK109.out;have hcz36_3:=bc3 BK109.out;have hfz36_0:=ja BK109.out 0;have hfz36_1:=ja BK109.out 1;have hfz36_2:=ja BK109.out 2;have hfz36_3:=ja BK109.out 3))
       go_ret
       exact ⟨Y0,Y4⟩
      ·replace c31:=Bool.eq_false_iff.mpr c31
       subst c31
       have H1:(some false)=some r:=by rw [if_neg (show ¬ (false=true) by decide)] at H;exact H
       clear H
       have H:=H1
       clear H1
       obtain rfl:=Option.some.inj H
       have hnb37:=NB108_109.out
       have hnc37:=NB109_108.out
       have hcz38_0:=bc0 BK108.out
       have hfz38_0:=ja BK108.out 0
       have hcz39_0:=bc0 BK109.out
       have hcz39_1:=bc1 BK109.out
       have hcz39_2:=bc2 BK109.out
       have hcz39_3:=bc3 BK109.out
       have hfz39_0:=ja BK109.out 0
       have hfz39_1:=ja BK109.out 1
       have hfz39_2:=ja BK109.out 2
       have hfz39_3:=ja BK109.out 3
       go_wp2_with (first |((with_reducible refine jf (f:=63) rfl ?_);refine gL (some 34) Tryd.func63 #[.agg #[.slice A0_0 l0_0.length c0_0], .int .i64 a1_2] ?_;(with_reducible refine (jFa.calls _ _ l0_0 a1_2 false _ ?side1 ?side2 A30.out).mono ?_);(case side1=>exact cq (Kd.jH HR0_0.out HB.out));(case side2=>exact HC0_0.out);rintro e w40 ⟨rfl,hb⟩;refine ⟨_,rfl,?_⟩;replace BK108:=am (ji (g:=gb108) (o:=.cells #[.slice A0_0 l0_0.length c0_0] 31 (0,0)) (kq BK108.out) hb);replace BK109:=am (ji (g:=gb109) (o:=.cells #[.int .i64 a1_0, .int .i64 a1_1, .int .i64 a1_2, .int .i64 a1_3] 42 (0,0)) (kq BK109.out) hb);replace HB:=am (jc (Y4) hb);(try clear hb);(try clear hb2);(try clear hk);(try clear hi)))
       go_ret
       exact ⟨Y0,Y4⟩
     ·rw [if_neg c29] at H
      have c29b0:(a1_1 == 8)=false:=beq_eq_false_iff_ne.mpr c29
      have c29b1:(a1_1 != 8)=true:=bne_iff_ne.mpr c29
      by_cases c41:a1_1=11
      ·rw [if_pos c41] at H
       have c41b0:(a1_1 == 11)=true:=beq_iff_eq.mpr c41
       have c41b1:(a1_1 != 11)=false:=bne_eq_false_iff_eq.mpr c41
       clear c41
       replace H:=bzS H
       obtain ⟨t114,A420,H⟩:=H
       replace H:(if t114=true then ((jq.f a1_3 0 1).bind fun t115=>(some t115)) else (some false))=some r:=H
       have A42:=am A420
       clear A420
       by_cases c43:t114=true
       ·subst c43
        have H1:((jq.f a1_3 0 1).bind fun t115=>(some t115))=some r:=by rw [if_pos rfl] at H;exact H
        clear H
        have H:=H1
        clear H1
        replace H:=bzS H
        obtain ⟨t115,A440,H⟩:=H
        replace H:(some t115)=some r:=H
        have A44:=am A440
        clear A440
        obtain rfl:=Option.some.inj H
        have hnb45:=NB109_108.out
        have hnc45:=NB108_109.out
        have hcz46_0:=bc0 BK109.out
        have hcz46_1:=bc1 BK109.out
        have hcz46_2:=bc2 BK109.out
        have hcz46_3:=bc3 BK109.out
        have hfz46_0:=ja BK109.out 0
        have hfz46_1:=ja BK109.out 1
        have hfz46_2:=ja BK109.out 2
        have hfz46_3:=ja BK109.out 3
        go_wp2_with (first |((with_reducible refine jf (f:=39) rfl ?_);refine gL (some 44) Tryd.func39 #[.int .i64 a1_2, .int .i64 0, .int .i64 9] ?_;(with_reducible refine (jq.calls a1_2 0 9 true _ A42.out).mono ?_);rintro e w' ⟨rfl,⟨nd,rfl⟩⟩;refine ⟨_,rfl,?_⟩) |(go_at_call 39;(with_reducible refine (jq.calls a1_3 0 1 t115 _ A44.out).mono ?_);rintro e w' ⟨rfl,⟨nd,rfl⟩⟩))
        go_ret
        exact ⟨Y0,Y4⟩
       ·replace c43:=Bool.eq_false_iff.mpr c43
        subst c43
        have H1:(some false)=some r:=by rw [if_neg (show ¬ (false=true) by decide)] at H;exact H
        clear H
        have H:=H1
        clear H1
        obtain rfl:=Option.some.inj H
        have hnb47:=NB109_108.out
        have hnc47:=NB108_109.out
        have hcz48_0:=bc0 BK109.out
        have hcz48_1:=bc1 BK109.out
        have hcz48_2:=bc2 BK109.out
        have hcz48_3:=bc3 BK109.out
        have hfz48_0:=ja BK109.out 0
        have hfz48_1:=ja BK109.out 1
        have hfz48_2:=ja BK109.out 2
        have hfz48_3:=ja BK109.out 3
        go_wp2_with (first |((with_reducible refine jf (f:=39) rfl ?_);refine gL (some 44) Tryd.func39 #[.int .i64 a1_2, .int .i64 0, .int .i64 9] ?_;(with_reducible refine (jq.calls a1_2 0 9 false _ A42.out).mono ?_);rintro e w' ⟨rfl,⟨nd,rfl⟩⟩;refine ⟨_,rfl,?_⟩))
        go_ret
        exact ⟨Y0,Y4⟩
      ·rw [if_neg c41] at H
       have c41b0:(a1_1 == 11)=false:=beq_eq_false_iff_ne.mpr c41
       have c41b1:(a1_1 != 11)=true:=bne_iff_ne.mpr c41
       by_cases c49:a1_1=12
       ·rw [if_pos c49] at H
        have c49b0:(a1_1 == 12)=true:=beq_iff_eq.mpr c49
        have c49b1:(a1_1 != 12)=false:=bne_eq_false_iff_eq.mpr c49
        clear c49
        replace H:=bzS H
        obtain ⟨t116,A500,H⟩:=H
        replace H:(if t116=true then (some (a1_3 == 0)) else (some false))=some r:=H
        have A50:=am A500
        clear A500
        by_cases c51:t116=true
        ·subst c51
         have H1:(some (a1_3 == 0))=some r:=by rw [if_pos rfl] at H;exact H
         clear H
         have H:=H1
         clear H1
         obtain rfl:=Option.some.inj H
         have hnb52:=NB109_108.out
         have hnc52:=NB108_109.out
         have hcz53_0:=bc0 BK109.out
         have hcz53_1:=bc1 BK109.out
         have hcz53_2:=bc2 BK109.out
         have hcz53_3:=bc3 BK109.out
         have hfz53_0:=ja BK109.out 0
         have hfz53_1:=ja BK109.out 1
         have hfz53_2:=ja BK109.out 2
         have hfz53_3:=ja BK109.out 3
         go_wp2_with (first |((with_reducible refine jf (f:=39) rfl ?_);refine gL (some 54) Tryd.func39 #[.int .i64 a1_2, .int .i64 0, .int .i64 3] ?_;(with_reducible refine (jq.calls a1_2 0 3 true _ A50.out).mono ?_);rintro e w' ⟨rfl,⟨nd,rfl⟩⟩;refine ⟨_,rfl,?_⟩))
         go_ret
         exact ⟨Y0,Y4⟩
        ·replace c51:=Bool.eq_false_iff.mpr c51
         subst c51
         have H1:(some false)=some r:=by rw [if_neg (show ¬ (false=true) by decide)] at H;exact H
         clear H
         have H:=H1
         clear H1
         obtain rfl:=Option.some.inj H
         have hnb54:=NB109_108.out
         have hnc54:=NB108_109.out
         have hcz55_0:=bc0 BK109.out
         have hcz55_1:=bc1 BK109.out
         have hcz55_2:=bc2 BK109.out
         have hcz55_3:=bc3 BK109.out
         have hfz55_0:=ja BK109.out 0
         have hfz55_1:=ja BK109.out 1
         have hfz55_2:=ja BK109.out 2
         have hfz55_3:=ja BK109.out 3
         go_wp2_with (first |((with_reducible refine jf (f:=39) rfl ?_);refine gL (some 54) Tryd.func39 #[.int .i64 a1_2, .int .i64 0, .int .i64 3] ?_;(with_reducible refine (jq.calls a1_2 0 3 false _ A50.out).mono ?_);rintro e w' ⟨rfl,⟨nd,rfl⟩⟩;refine ⟨_,rfl,?_⟩))
         go_ret
         exact ⟨Y0,Y4⟩
       ·rw [if_neg c49] at H
        have c49b0:(a1_1 == 12)=false:=beq_eq_false_iff_ne.mpr c49
        have c49b1:(a1_1 != 12)=true:=bne_iff_ne.mpr c49
        replace H:=bzS H
        obtain ⟨t117,A560,H⟩:=H
        replace H:(if t117=true then (if a1_2=0 then (some (a1_3 == 0)) else (some false)) else (some false))=some r:=H
        have A56:=am A560
        clear A560
        by_cases c57:t117=true
        ·subst c57
         have H1:(if a1_2=0 then (some (a1_3 == 0)) else (some false))=some r:=by rw [if_pos rfl] at H;exact H
         clear H
         have H:=H1
         clear H1
         by_cases c58:a1_2=0
         ·rw [if_pos c58] at H
          have c58b0:(a1_2 == 0)=true:=beq_iff_eq.mpr c58
          have c58b1:(a1_2 != 0)=false:=bne_eq_false_iff_eq.mpr c58
          clear c58
          obtain rfl:=Option.some.inj H
          have hnb59:=NB109_108.out
          have hnc59:=NB108_109.out
          have hcz60_0:=bc0 BK109.out
          have hcz60_1:=bc1 BK109.out
          have hcz60_2:=bc2 BK109.out
          have hcz60_3:=bc3 BK109.out
          have hfz60_0:=ja BK109.out 0
          have hfz60_1:=ja BK109.out 1
          have hfz60_2:=ja BK109.out 2
          have hfz60_3:=ja BK109.out 3
          go_wp2_with (first |((with_reducible refine jf (f:=39) rfl ?_);refine gL (some 62) Tryd.func39 #[.int .i64 a1_1, .int .i64 0, .int .i64 10] ?_;(with_reducible refine (jq.calls a1_1 0 10 true _ A56.out).mono ?_);rintro e w' ⟨rfl,⟨nd,rfl⟩⟩;refine ⟨_,rfl,?_⟩))
          go_ret
          exact ⟨Y0,Y4⟩
         ·rw [if_neg c58] at H
          have c58b0:(a1_2 == 0)=false:=beq_eq_false_iff_ne.mpr c58
          have c58b1:(a1_2 != 0)=true:=bne_iff_ne.mpr c58
          obtain rfl:=Option.some.inj H
          have hnb61:=NB109_108.out
          have hnc61:=NB108_109.out
          have hcz62_0:=bc0 BK109.out
          have hcz62_1:=bc1 BK109.out
          have hcz62_2:=bc2 BK109.out
          have hcz62_3:=bc3 BK109.out
          have hfz62_0:=ja BK109.out 0
          have hfz62_1:=ja BK109.out 1
          have hfz62_2:=ja BK109.out 2
          have hfz62_3:=ja BK109.out 3
          go_wp2_with (first |((with_reducible refine jf (f:=39) rfl ?_);refine gL (some 62) Tryd.func39 #[.int .i64 a1_1, .int .i64 0, .int .i64 10] ?_;(with_reducible refine (jq.calls a1_1 0 10 true _ A56.out).mono ?_);rintro e w' ⟨rfl,⟨nd,rfl⟩⟩;refine ⟨_,rfl,?_⟩))
          go_ret
          exact ⟨Y0,Y4⟩
        ·replace c57:=Bool.eq_false_iff.mpr c57
         subst c57
         have H1:(some false)=some r:=by rw [if_neg (show ¬ (false=true) by decide)] at H;exact H
         clear H
         have H:=H1
         clear H1
         obtain rfl:=Option.some.inj H
         have hnb63:=NB109_108.out
         have hnc63:=NB108_109.out
         have hcz64_0:=bc0 BK109.out
         have hcz64_1:=bc1 BK109.out
         have hcz64_2:=bc2 BK109.out
         have hcz64_3:=bc3 BK109.out
         have hfz64_0:=ja BK109.out 0
         have hfz64_1:=ja BK109.out 1
         have hfz64_2:=ja BK109.out 2
         have hfz64_3:=ja BK109.out 3
         go_wp2_with (first |((with_reducible refine jf (f:=39) rfl ?_);refine gL (some 62) Tryd.func39 #[.int .i64 a1_1, .int .i64 0, .int .i64 10] ?_;(with_reducible refine (jq.calls a1_1 0 10 false _ A56.out).mono ?_);rintro e w' ⟨rfl,⟨nd,rfl⟩⟩;refine ⟨_,rfl,?_⟩))
         go_ret
         exact ⟨Y0,Y4⟩
def jHb.f (a0 : Int) : Option (Bool) := (jq.f a0 7 12).bind fun t118 => (some t118)
set_option maxHeartbeats 8000000 in
set_option maxRecDepth 100000 in
theorem jHb.calls (a0 : Int) (r : Bool) (w : World) (h : jHb.f a0 = some r) :
  Calls Tryd.prog 40 #[.int .i64 a0] w fun e w'=>e=.returned (.bool r)∧jAa w w':=by
 have H:((jq.f a0 7 12).bind fun t118=>(some t118))=some r:=h
 clear h
 replace H:=bzS H
 obtain ⟨t118,A20,H⟩:=H
 replace H:(some t118)=some r:=H
 have A2:=am A20
 clear A20
 obtain rfl:=Option.some.inj H
 go_enter Tryd.func40,Tryd.ntmps40
 go_wp2_with (first |((with_reducible refine jf (f:=39) rfl ?_);refine gL (some 4) Tryd.func39 #[.int .i64 a0, .int .i64 7, .int .i64 12] ?_;(with_reducible refine (jq.calls a0 7 12 t118 _ A2.out).mono ?_);rintro e w' ⟨rfl,⟨nd,rfl⟩⟩;refine ⟨_,rfl,?_⟩))
 go_ret
 exact ⟨sq,Y2⟩
def jNa.f (a0 : Int) : Option (Bool) := (jq.f a0 8 10).bind fun t119 => (some t119)
set_option maxHeartbeats 8000000 in
set_option maxRecDepth 100000 in
theorem jNa.calls (a0 : Int) (r : Bool) (w : World) (h : jNa.f a0 = some r) :
  Calls Tryd.prog 43 #[.int .i64 a0] w fun e w'=>e=.returned (.bool r)∧jAa w w':=by
 have H:((jq.f a0 8 10).bind fun t119=>(some t119))=some r:=h
 clear h
 replace H:=bzS H
 obtain ⟨t119,A20,H⟩:=H
 replace H:(some t119)=some r:=H
 have A2:=am A20
 clear A20
 obtain rfl:=Option.some.inj H
 go_enter Tryd.func43,Tryd.ntmps43
 go_wp2_with (first |((with_reducible refine jf (f:=39) rfl ?_);refine gL (some 4) Tryd.func39 #[.int .i64 a0, .int .i64 8, .int .i64 10] ?_;(with_reducible refine (jq.calls a0 8 10 t119 _ A2.out).mono ?_);rintro e w' ⟨rfl,⟨nd,rfl⟩⟩;refine ⟨_,rfl,?_⟩))
 go_ret
 exact ⟨sq,Y2⟩
def jU.l0 : Nat → List (S42) → Int → Int → Option (Int)
 | 0,_,_,_=>none
 | k+1,x0,x1,x5=>if x5<(x0.length:Int) then (if 0≤x5 then (if 0≤x1 then (if x1<(x0.length:Int) then (if ((jb x0 x5).f0) > ((jb x0 x1).f0) then (jU.l0 k x0 x1 (wrap64 (x5+1))) else (some x5)) else (none)) else (none)) else (none)) else (some x5)
def jU.f (k : Nat) (l0 : List (S42)) (a1 : Int) : Option (Int) := jU.l0 k l0 a1 (wrap64 (a1 + 1))
set_option maxHeartbeats 8000000 in
set_option maxRecDepth 100000 in
theorem jU.calls (k : Nat) (A0 : Option Addr) (c0 : Nat) (l0 : List (S42)) (a1 : Int) (r : Int) (w : World) (hr0 : Kd.C k42 w A0 l0.length l0) (hc0 : l0.length ≤ c0) (h : jU.f k l0 a1 = some r) :
  Calls Tryd.prog 78 #[.slice A0 l0.length c0, .int .i64 a1] w fun e w'=>e=.returned (.int .i64 r)∧jAa w w':=by
 have HR0:=am hr0
 have HC0:=am hc0
 clear hr0 hc0
 have H:(jU.l0 k l0 a1 (wrap64 (a1+1)))=some r:=h
 clear h
 have H':=am H
 clear H
 go_enter Tryd.func78,Tryd.ntmps78
 go_wp2
 repeat (go_quiet (fail);try go_wp2)
 go_loopg [5] k (fun kq v5 w'=>∃ (x5_1:Int),v5=.int .i64 x5_1∧jD (jU.l0 kq l0 a1 x5_1=some r)∧jD (kq≤k)∧jAa w w')
 case atStart=>exact ⟨(wrap64 (a1+1)),(sq),H',⟨Nat.le_refl _⟩,Y2⟩
 case round =>
  clear H'
  try clear p2
  obtain ⟨x5_1,rfl,HA,HK1,⟨m1,rfl⟩⟩:=hrel
  cases gk with
  | zero=>exact absurd HA.out (by simp [jU.l0])
  | succ k1 =>
   have H:=HA.out
   clear HA
   simp only [jU.l0] at H
   by_cases c3:x5_1<(l0.length:Int)
   ·rw [if_pos c3] at H
    have c3b0:decide (x5_1<(l0.length:Int))=true:=dzT c3
    clear c3
    by_cases c4:0≤x5_1
    ·rw [if_pos c4] at H
     have c4b0:decide (0≤x5_1)=true:=dzT c4
     clear c4
     by_cases c5:0≤a1
     ·rw [if_pos c5] at H
      have c5b0:decide (0≤a1)=true:=dzT c5
      clear c5
      by_cases c6:a1<(l0.length:Int)
      ·rw [if_pos c6] at H
       have c6b0:decide (a1<(l0.length:Int))=true:=dzT c6
       clear c6
       by_cases c7:((jb l0 x5_1).f0) > ((jb l0 a1).f0)
       ·rw [if_pos c7] at H
        have c7b0:decide (((jb l0 a1).f0)<((jb l0 x5_1).f0))=true:=dzT c7
        clear c7
        have H':=am H
        clear H
        have p120:0≤(x5_1:Int):=ozD (uq)
        have q120:x5_1<(l0.length:Int):=ozD (uq)
        obtain ⟨ad120,e120,hx120_0,hx120_1,hx120_2,hx120_3⟩:=jla HR0.out x5_1 p120 q120
        cases e120
        replace p120:=ezT p120
        replace q120:=ezT q120
        have p121:0≤(a1:Int):=ozD (uq)
        have q121:a1<(l0.length:Int):=ozD (uq)
        obtain ⟨ad121,e121,hx121_0,hx121_1,hx121_2,hx121_3⟩:=jla HR0.out a1 p121 q121
        obtain rfl:ad120=ad121:=(by injection e121)
        replace p121:=ezT p121
        replace q121:=ezT q121
        go_wp2
        repeat (go_quiet (fail);try go_wp2)
        go_roundg k1
        case measure=>have:=HK1.out;omega
        case rel=>exact ⟨(wrap64 (x5_1+1)),(sq),H',⟨by have:=HK1.out;omega⟩,Y2⟩
       ·rw [if_neg c7] at H
        have c7b0:decide (((jb l0 a1).f0)<((jb l0 x5_1).f0))=false:=dzF c7
        clear c7
        obtain rfl:=Option.some.inj H
        have p120:0≤(x5_1:Int):=ozD (uq)
        have q120:x5_1<(l0.length:Int):=ozD (uq)
        obtain ⟨ad120,e120,hx120_0,hx120_1,hx120_2,hx120_3⟩:=jla HR0.out x5_1 p120 q120
        cases e120
        replace p120:=ezT p120
        replace q120:=ezT q120
        have p121:0≤(a1:Int):=ozD (uq)
        have q121:a1<(l0.length:Int):=ozD (uq)
        obtain ⟨ad121,e121,hx121_0,hx121_1,hx121_2,hx121_3⟩:=jla HR0.out a1 p121 q121
        obtain rfl:ad120=ad121:=(by injection e121)
        replace p121:=ezT p121
        replace q121:=ezT q121
        go_wp2
        repeat (go_quiet (fail);try go_wp2)
        go_ret
        exact ⟨sq,Y2⟩
      ·rw [if_neg c6] at H
       exact absurd H (by simp)
     ·rw [if_neg c5] at H
      exact absurd H (by simp)
    ·rw [if_neg c4] at H
     exact absurd H (by simp)
   ·rw [if_neg c3] at H
    have c3b0:decide (x5_1<(l0.length:Int))=false:=dzF c3
    clear c3
    obtain rfl:=Option.some.inj H
    go_wp2
    repeat (go_quiet (fail);try go_wp2)
    go_ret
    exact ⟨sq,Y2⟩
def jBa.f (k : Nat) (l0 : List (S42)) (a1 : Int) : Option (Int) := (jU.f k l0 a1).bind fun t122 => (if t122 < (l0.length : Int) then (if 0 ≤ t122 then (if 0 ≤ a1 then (if a1 < (l0.length : Int) then (if ((jb l0 t122).f0) = ((jb l0 a1).f0) then (some t122) else (some (l0.length : Int))) else (none)) else (none)) else (none)) else (some (l0.length : Int)))
set_option maxHeartbeats 8000000 in
set_option maxRecDepth 100000 in
theorem jBa.calls (k : Nat) (A0 : Option Addr) (c0 : Nat) (l0 : List (S42)) (a1 : Int) (r : Int) (w : World) (hr0 : Kd.C k42 w A0 l0.length l0) (hc0 : l0.length ≤ c0) (h : jBa.f k l0 a1 = some r) :
  Calls Tryd.prog 72 #[.slice A0 l0.length c0, .int .i64 a1] w fun e w'=>e=.returned (.int .i64 r)∧jAa w w':=by
 have HR0:=am hr0
 have HC0:=am hc0
 clear hr0 hc0
 have H:((jU.f k l0 a1).bind fun t122=>(if t122<(l0.length:Int) then (if 0≤t122 then (if 0≤a1 then (if a1<(l0.length:Int) then (if ((jb l0 t122).f0)=((jb l0 a1).f0) then (some t122) else (some (l0.length:Int))) else (none)) else (none)) else (none)) else (some (l0.length:Int))))=some r:=h
 clear h
 replace H:=bzS H
 obtain ⟨t122,A30,H⟩:=H
 replace H:(if t122<(l0.length:Int) then (if 0≤t122 then (if 0≤a1 then (if a1<(l0.length:Int) then (if ((jb l0 t122).f0)=((jb l0 a1).f0) then (some t122) else (some (l0.length:Int))) else (none)) else (none)) else (none)) else (some (l0.length:Int)))=some r:=H
 have A3:=am A30
 clear A30
 by_cases c4:t122<(l0.length:Int)
 ·rw [if_pos c4] at H
  have c4b0:decide (t122<(l0.length:Int))=true:=dzT c4
  clear c4
  by_cases c5:0≤t122
  ·rw [if_pos c5] at H
   have c5b0:decide (0≤t122)=true:=dzT c5
   clear c5
   by_cases c6:0≤a1
   ·rw [if_pos c6] at H
    have c6b0:decide (0≤a1)=true:=dzT c6
    clear c6
    by_cases c7:a1<(l0.length:Int)
    ·rw [if_pos c7] at H
     have c7b0:decide (a1<(l0.length:Int))=true:=dzT c7
     clear c7
     by_cases c8:((jb l0 t122).f0)=((jb l0 a1).f0)
     ·rw [if_pos c8] at H
      have c8b0:(((jb l0 t122).f0) == ((jb l0 a1).f0))=true:=beq_iff_eq.mpr c8
      have c8b1:(((jb l0 t122).f0) != ((jb l0 a1).f0))=false:=bne_eq_false_iff_eq.mpr c8
      clear c8
      obtain rfl:=Option.some.inj H
      go_enter Tryd.func72,Tryd.ntmps72
      have p123:0≤(t122:Int):=ozD (uq)
      have q123:t122<(l0.length:Int):=ozD (uq)
      obtain ⟨ad123,e123,hx123_0,hx123_1,hx123_2,hx123_3⟩:=jla HR0.out t122 p123 q123
      cases e123
      replace p123:=ezT p123
      replace q123:=ezT q123
      have p124:0≤(a1:Int):=ozD (uq)
      have q124:a1<(l0.length:Int):=ozD (uq)
      obtain ⟨ad124,e124,hx124_0,hx124_1,hx124_2,hx124_3⟩:=jla HR0.out a1 p124 q124
      obtain rfl:ad123=ad124:=(by injection e124)
      replace p124:=ezT p124
      replace q124:=ezT q124
      go_wp2_with (first |(go_at_call 78;(with_reducible refine (jU.calls k _ _ l0 a1 t122 _ ?side1 ?side2 A3.out).mono ?_);(case side1=>exact Y8);(case side2=>exact HC0.out);rintro e w' ⟨rfl,⟨nd,rfl⟩⟩;(try first | exact ⟨rfl,_,World.drewN_drewN _ _ _⟩ | exact ⟨rfl,_,Eq.trans (World.drewN_drewN _ _ _) (congrArg (World.drewN _) (Nat.add_assoc _ _ _))⟩)))
      repeat (go_quiet (first |(go_at_call 78;(with_reducible refine (jU.calls k _ _ l0 a1 t122 _ ?side1 ?side2 A3.out).mono ?_);(case side1=>exact Y8);(case side2=>exact HC0.out);rintro e w' ⟨rfl,⟨nd,rfl⟩⟩;(try first | exact ⟨rfl,_,World.drewN_drewN _ _ _⟩ | exact ⟨rfl,_,Eq.trans (World.drewN_drewN _ _ _) (congrArg (World.drewN _) (Nat.add_assoc _ _ _))⟩)));try go_wp2_with (first |(go_at_call 78;(with_reducible refine (jU.calls k _ _ l0 a1 t122 _ ?side1 ?side2 A3.out).mono ?_);(case side1=>exact Y8);(case side2=>exact HC0.out);rintro e w' ⟨rfl,⟨nd,rfl⟩⟩;(try first | exact ⟨rfl,_,World.drewN_drewN _ _ _⟩ | exact ⟨rfl,_,Eq.trans (World.drewN_drewN _ _ _) (congrArg (World.drewN _) (Nat.add_assoc _ _ _))⟩))))
      go_ret
      exact ⟨sq,Y2⟩
     ·rw [if_neg c8] at H
      have c8b0:(((jb l0 t122).f0) == ((jb l0 a1).f0))=false:=beq_eq_false_iff_ne.mpr c8
      have c8b1:(((jb l0 t122).f0) != ((jb l0 a1).f0))=true:=bne_iff_ne.mpr c8
      obtain rfl:=Option.some.inj H
      go_enter Tryd.func72,Tryd.ntmps72
      have p123:0≤(t122:Int):=ozD (uq)
      have q123:t122<(l0.length:Int):=ozD (uq)
      obtain ⟨ad123,e123,hx123_0,hx123_1,hx123_2,hx123_3⟩:=jla HR0.out t122 p123 q123
      cases e123
      replace p123:=ezT p123
      replace q123:=ezT q123
      have p124:0≤(a1:Int):=ozD (uq)
      have q124:a1<(l0.length:Int):=ozD (uq)
      obtain ⟨ad124,e124,hx124_0,hx124_1,hx124_2,hx124_3⟩:=jla HR0.out a1 p124 q124
      obtain rfl:ad123=ad124:=(by injection e124)
      replace p124:=ezT p124
      replace q124:=ezT q124
      go_wp2_with (first |(go_at_call 78;(with_reducible refine (jU.calls k _ _ l0 a1 t122 _ ?side1 ?side2 A3.out).mono ?_);(case side1=>exact Y8);(case side2=>exact HC0.out);rintro e w' ⟨rfl,⟨nd,rfl⟩⟩;(try first | exact ⟨rfl,_,World.drewN_drewN _ _ _⟩ | exact ⟨rfl,_,Eq.trans (World.drewN_drewN _ _ _) (congrArg (World.drewN _) (Nat.add_assoc _ _ _))⟩)))
      repeat (go_quiet (first |(go_at_call 78;(with_reducible refine (jU.calls k _ _ l0 a1 t122 _ ?side1 ?side2 A3.out).mono ?_);(case side1=>exact Y8);(case side2=>exact HC0.out);rintro e w' ⟨rfl,⟨nd,rfl⟩⟩;(try first | exact ⟨rfl,_,World.drewN_drewN _ _ _⟩ | exact ⟨rfl,_,Eq.trans (World.drewN_drewN _ _ _) (congrArg (World.drewN _) (Nat.add_assoc _ _ _))⟩)));try go_wp2_with (first |(go_at_call 78;(with_reducible refine (jU.calls k _ _ l0 a1 t122 _ ?side1 ?side2 A3.out).mono ?_);(case side1=>exact Y8);(case side2=>exact HC0.out);rintro e w' ⟨rfl,⟨nd,rfl⟩⟩;(try first | exact ⟨rfl,_,World.drewN_drewN _ _ _⟩ | exact ⟨rfl,_,Eq.trans (World.drewN_drewN _ _ _) (congrArg (World.drewN _) (Nat.add_assoc _ _ _))⟩))))
      go_ret
      exact ⟨sq,Y2⟩
    ·rw [if_neg c7] at H
     exact absurd H (by simp)
   ·rw [if_neg c6] at H
    exact absurd H (by simp)
  ·rw [if_neg c5] at H
   exact absurd H (by simp)
 ·rw [if_neg c4] at H
  have c4b0:decide (t122<(l0.length:Int))=false:=dzF c4
  clear c4
  obtain rfl:=Option.some.inj H
  go_enter Tryd.func72,Tryd.ntmps72
  go_wp2_with (first |(go_at_call 78;(with_reducible refine (jU.calls k _ _ l0 a1 t122 _ ?side1 ?side2 A3.out).mono ?_);(case side1=>exact Y8);(case side2=>exact HC0.out);rintro e w' ⟨rfl,⟨nd,rfl⟩⟩;(try first | exact ⟨rfl,_,World.drewN_drewN _ _ _⟩ | exact ⟨rfl,_,Eq.trans (World.drewN_drewN _ _ _) (congrArg (World.drewN _) (Nat.add_assoc _ _ _))⟩)))
  repeat (go_quiet (first |(go_at_call 78;(with_reducible refine (jU.calls k _ _ l0 a1 t122 _ ?side1 ?side2 A3.out).mono ?_);(case side1=>exact Y8);(case side2=>exact HC0.out);rintro e w' ⟨rfl,⟨nd,rfl⟩⟩;(try first | exact ⟨rfl,_,World.drewN_drewN _ _ _⟩ | exact ⟨rfl,_,Eq.trans (World.drewN_drewN _ _ _) (congrArg (World.drewN _) (Nat.add_assoc _ _ _))⟩)));try go_wp2_with (first |(go_at_call 78;(with_reducible refine (jU.calls k _ _ l0 a1 t122 _ ?side1 ?side2 A3.out).mono ?_);(case side1=>exact Y8);(case side2=>exact HC0.out);rintro e w' ⟨rfl,⟨nd,rfl⟩⟩;(try first | exact ⟨rfl,_,World.drewN_drewN _ _ _⟩ | exact ⟨rfl,_,Eq.trans (World.drewN_drewN _ _ _) (congrArg (World.drewN _) (Nat.add_assoc _ _ _))⟩))))
  go_ret
  exact ⟨sq,Y2⟩
def jfa.l0 : Nat → List (S42) → List Int → Int → Option (List Int)
 | 0,_,_,_=>none
 | k+1,x0,x5,x6=>if x6<(x0.length:Int) then (if 0≤x6 then ((jNa.f ((jb x0 x6).f1)).bind fun t130=>(if t130=true then (if x5.length<17592186044416 then ((jBa.f k x0 x6).bind fun t134=>(jfa.l0 k x0 (x5 ++ [x6]) t134)) else (none)) else (some x5))) else (none)) else (some x5)
def jfa.f (k : Nat) (l0 : List (S42)) (a1 : Int) : Option (List Int) := (jBa.f k l0 a1).bind fun t128 => (jfa.l0 k l0 (([a1] : List Int)) t128)
set_option maxHeartbeats 8000000 in
set_option maxRecDepth 100000 in
theorem jfa.calls (k : Nat) (A0 : Option Addr) (c0 : Nat) (l0 : List (S42)) (a1 : Int) (r : List Int) (w : World) (hr0 : Kd.C k42 w A0 l0.length l0) (hc0 : l0.length ≤ c0) (h : jfa.f k l0 a1 = some r) :
  Calls Tryd.prog 64 #[.slice A0 l0.length c0, .int .i64 a1] w fun e w'=>∃ v0_:Value,e=.returned (v0_)∧Kd.R (Kd.int .i64) 3 w' w.heap.size (fun _=>True) v0_ r∧Below w.heap.size w w':=by
 have HR0:=am hr0
 have HC0:=am hc0
 clear hr0 hc0
 have HB:=am (Below.refl w.heap.size w)
 have H:((jBa.f k l0 a1).bind fun t128=>(jfa.l0 k l0 (([a1]:List Int)) t128))=some r:=h
 clear h
 obtain ⟨y125,hy125⟩:∃ y_:List Int,y_=(([a1]:List Int)):=⟨_,rfl⟩
 replace H:((jBa.f k l0 a1).bind fun t128=>(jfa.l0 k l0 y125 t128))=some r:=by first |(rw [hy125];with_reducible exact H) |(have H2_:=(Option.bind_some _ _).symm.trans H;rw [hy125];with_reducible exact H2_) |(have H2_:=(Option.bind_some _ _).symm.trans H;with_reducible exact H2_) | with_reducible exact H |(rw [hy125];exact H) | exact H
 have Ny125:=am hy125
 clear hy125
 replace H:=bzS H
 obtain ⟨t128,A30,H⟩:=H
 replace H:(jfa.l0 k l0 y125 t128)=some r:=H
 have A3:=am A30
 clear A30
 have H':=am H
 clear H
 go_enter Tryd.func64,Tryd.ntmps64
 go_wp2_with (first |((with_reducible refine jN (N:=8) rfl ?_);refine Kd.R_lit (Kd.int .i64) _ 3 ?hg (N:=8) ?hd (xs:=([a1]:List Int)) (inner:=[.int .i64 a1]) (ok:=fun _=>True) (okp:=fun _=>True) ?hr ?hp (fun _ hk=>hk) trivial (Below.refl _ _) (Nat.le_refl _) (by simp) ?_;(case hd=>rfl);(case hg=>rfl);(case hr=>exact Y11);(case hp=>exact (Reps.one (show Kd.M (Kd.int .i64) _ _ _ a1 [.int .i64 a1] from rfl) (Reps.none _ _)));intro v126 w4 ho5 hb hg_ hnew_;clear hg_ hnew_;(first | rw [← Ny125.out] at ho5 |(simp only [Int.reduceToNat] at ho5;rw [← Ny125.out] at ho5));have HO127:=am (Kd.jRa ho5 (jP (bq)));replace HB:=am (jc (bq) hb);clear hb ho5) |((with_reducible refine jf (f:=72) rfl ?_);refine gL (some 11) Tryd.func72 #[.slice A0 l0.length c0, .int .i64 a1] ?_;(with_reducible refine (jBa.calls k _ _ l0 a1 t128 _ ?side1 ?side2 A3.out).mono ?_);(case side1=>exact cq (Kd.jH HR0.out HB.out));(case side2=>exact HC0.out);rintro e w' ⟨rfl,⟨nd,rfl⟩⟩;refine ⟨_,rfl,?_⟩))
 go_loopg [5,6] k (fun kq v5 v6 w'=>∃ (x5_1:List Int) (x6_1:Int),v6=.int .i64 x6_1∧jD (jfa.l0 kq l0 x5_1 x6_1=some r)∧jD (kq≤k)∧jD (Kd.R (Kd.int .i64) 3 w' w.heap.size (fun _=>True) v5 x5_1)∧jD (Below w.heap.size w w'))
 case atStart=>exact ⟨(y125),(t128),(sq),H',⟨Nat.le_refl _⟩,⟨rq HO127.out⟩,⟨bq⟩⟩
 case round =>
  clear H'
  try clear p2
  obtain ⟨x5_1,x6_1,rfl,HA,HK1,HO_5,HB⟩:=hrel
  cases gk with
  | zero=>exact absurd HA.out (by simp [jfa.l0])
  | succ k1 =>
   have H:=HA.out
   clear HA
   simp only [jfa.l0] at H
   by_cases c6:x6_1<(l0.length:Int)
   ·rw [if_pos c6] at H
    have c6b0:decide (x6_1<(l0.length:Int))=true:=dzT c6
    clear c6
    by_cases c7:0≤x6_1
    ·rw [if_pos c7] at H
     have c7b0:decide (0≤x6_1)=true:=dzT c7
     clear c7
     replace H:=bzS H
     obtain ⟨t130,A80,H⟩:=H
     replace H:(if t130=true then (if x5_1.length<17592186044416 then ((jBa.f k1 l0 x6_1).bind fun t134=>(jfa.l0 k1 l0 (x5_1 ++ [x6_1]) t134)) else (none)) else (some x5_1))=some r:=H
     have A8:=am A80
     clear A80
     by_cases c9:t130=true
     ·subst c9
      have H1:(if x5_1.length<17592186044416 then ((jBa.f k1 l0 x6_1).bind fun t134=>(jfa.l0 k1 l0 (x5_1 ++ [x6_1]) t134)) else (none))=some r:=by rw [if_pos rfl] at H;exact H
      clear H
      have H:=H1
      clear H1
      by_cases c10:x5_1.length<17592186044416
      ·rw [if_pos c10] at H
       have LMc10:=am c10
       clear c10
       obtain ⟨y131,hy131⟩:∃ y_:List Int,y_=(x5_1 ++ [x6_1]):=⟨_,rfl⟩
       replace H:((jBa.f k1 l0 x6_1).bind fun t134=>(jfa.l0 k1 l0 y131 t134))=some r:=by first |(rw [hy131];with_reducible exact H) |(have H2_:=(Option.bind_some _ _).symm.trans H;rw [hy131];with_reducible exact H2_) |(have H2_:=(Option.bind_some _ _).symm.trans H;with_reducible exact H2_) | with_reducible exact H |(rw [hy131];exact H) | exact H
       have Ny131:=am hy131
       clear hy131
       replace H:=bzS H
       obtain ⟨t134,A110,H⟩:=H
       replace H:(jfa.l0 k1 l0 y131 t134)=some r:=H
       have A11:=am A110
       clear A110
       have H':=am H
       clear H
       have p129:0≤(x6_1:Int):=ozD (uq)
       have q129:x6_1<(l0.length:Int):=ozD (uq)
       obtain ⟨ad129,e129,hx129_0,hx129_1,hx129_2,hx129_3⟩:=jla HR0.out x6_1 p129 q129
       cases e129
       replace hx129_0:=cb HB.out hx129_0
       replace hx129_1:=cb HB.out hx129_1
       replace hx129_2:=cb HB.out hx129_2
       replace hx129_3:=cb HB.out hx129_3
       replace p129:=ezT p129
       replace q129:=ezT q129
       go_wp2_with (first |(go_at_call 43;(with_reducible refine (jNa.calls ((jb l0 x6_1).f1) true _ A8.out).mono ?_);rintro e w' ⟨rfl,⟨nd,rfl⟩⟩) |((with_reducible refine jub (b:=.append) (xs:=#[.tmp 27, .tmp 29]) rfl ?_);at_builtin;refine Kd.R_append (Kd.int .i64) (w0:=w) w.heap.size rfl (.tmp 27) (.tmp 29) 81 3 (.int .i64 0) 8 rfl Tryd.underlying81 info3 rfl (by decide) (by omega) u5 x5_1 x6_1 [.int .i64 x6_1] (fun _=>True) (fun _=>False) rfl rfl ?aP (fun _ hk=>hk.elim) ?aF ?aO ?aB ?aS ?aL ?_;(case aP=>exact rfl);(case aB=>exact (bq));(case aF=>exact (fun _ _=>trivial));(case aO=>exact (rq HO_5.out));(case aS=>exact (jP (bq)));(case aL=>have:=LMc10.out;omega);intro v132 w12 ho hb hg hat;rw [← Ny131.out] at ho;have n0_:=am (hb);have n1_:=am (ho);clear HB HO_5;have HB:=n0_;have HO133:=n1_;clear n0_ n1_ ho hb hg hat) |((with_reducible refine jf (f:=72) rfl ?_);refine gL (some 26) Tryd.func72 #[.slice (some ad129) l0.length c0, .int .i64 x6_1] ?_;(with_reducible refine (jBa.calls k1 _ _ l0 x6_1 t134 _ ?side1 ?side2 A11.out).mono ?_);(case side1=>exact cq (Kd.jH HR0.out HB.out));(case side2=>exact HC0.out);rintro e w' ⟨rfl,⟨nd,rfl⟩⟩;refine ⟨_,rfl,?_⟩))
       go_roundg k1
       case measure=>have:=HK1.out;omega
       case rel=>exact ⟨(y131),(t134),(sq),H',⟨by have:=HK1.out;omega⟩,⟨rq HO133.out⟩,⟨bq⟩⟩
      ·rw [if_neg c10] at H
       exact absurd H (by simp)
     ·replace c9:=Bool.eq_false_iff.mpr c9
      subst c9
      have H1:(some x5_1)=some r:=by rw [if_neg (show ¬ (false=true) by decide)] at H;exact H
      clear H
      have H:=H1
      clear H1
      obtain rfl:=Option.some.inj H
      have p129:0≤(x6_1:Int):=ozD (uq)
      have q129:x6_1<(l0.length:Int):=ozD (uq)
      obtain ⟨ad129,e129,hx129_0,hx129_1,hx129_2,hx129_3⟩:=jla HR0.out x6_1 p129 q129
      cases e129
      replace hx129_0:=cb HB.out hx129_0
      replace hx129_1:=cb HB.out hx129_1
      replace hx129_2:=cb HB.out hx129_2
      replace hx129_3:=cb HB.out hx129_3
      replace p129:=ezT p129
      replace q129:=ezT q129
      go_wp2_with (first |(go_at_call 43;(with_reducible refine (jNa.calls ((jb l0 x6_1).f1) false _ A8.out).mono ?_);rintro e w' ⟨rfl,⟨nd,rfl⟩⟩))
      go_ret
      exact ⟨_,Y0,rq HO_5.out,bq⟩
    ·rw [if_neg c7] at H
     exact absurd H (by simp)
   ·rw [if_neg c6] at H
    have c6b0:decide (x6_1<(l0.length:Int))=false:=dzF c6
    clear c6
    obtain rfl:=Option.some.inj H
    go_wp2
    go_ret
    exact ⟨_,Y0,rq HO_5.out,bq⟩
mutual
def jm.l0 : Nat → List (S42) → List Int → Int → Int → Option (Bool)
 | 0,_,_,_,_=>none
 | k+1,x0,x5,x6,x7=>if x7<(x5.length:Int) then (if 0≤x7 then (if 0≤(rd x5 x7) then (if (rd x5 x7)<(x0.length:Int) then (if ((jb x0 (rd x5 x7)).f1)=8 then (jm.j1 k x0 x5 (wrap64 (x6+1)) x7 ((jb x0 (rd x5 x7)).f1)) else (jm.j1 k x0 x5 x6 x7 ((jb x0 (rd x5 x7)).f1))) else (none)) else (none)) else (none)) else (if (x5.length:Int) > 1 then (some (decide (x6≤6))) else (some false))
def jm.j1 : Nat → List (S42) → List Int → Int → Int → Int → Option (Bool)
 | 0,_,_,_,_,_=>none
 | k+1,x0,x5,x6,x7,x8=>if x7 > 1 then (if 0≤(wrap64 (x7 - 1)) then (if (wrap64 (x7 - 1))<(x5.length:Int) then (if 0≤(rd x5 (wrap64 (x7 - 1))) then (if (rd x5 (wrap64 (x7 - 1)))<(x0.length:Int) then (if x8<((jb x0 (rd x5 (wrap64 (x7 - 1)))).f1) then (jm.j2 k x0 x5 x6 x7 true) else (if x8=((jb x0 (rd x5 (wrap64 (x7 - 1)))).f1) then (if x8=8 then (if x8=9 then (jm.j2 k x0 x5 x6 x7 (x6 == 0)) else (jm.j2 k x0 x5 x6 x7 false)) else (jm.j2 k x0 x5 x6 x7 true)) else (if x8=9 then (jm.j2 k x0 x5 x6 x7 (x6 == 0)) else (jm.j2 k x0 x5 x6 x7 false)))) else (none)) else (none)) else (none)) else (none)) else (if x8=9 then (jm.j2 k x0 x5 x6 x7 (x6 == 0)) else (jm.j2 k x0 x5 x6 x7 false))
def jm.j2 : Nat → List (S42) → List Int → Int → Int → Bool → Option (Bool)
 | 0,_,_,_,_,_=>none
 | k+1,x0,x5,x6,x7,x69=>if x69=true then (some false) else (jm.l0 k x0 x5 x6 (wrap64 (x7+1)))
end
def jm.f (k : Nat) (l0 : List (S42)) (a1 : Int) : Option (Bool) := (jfa.f k l0 a1).bind fun t135 => (jm.l0 k l0 t135 0 1)
set_option maxHeartbeats 8000000 in
set_option maxRecDepth 100000 in
theorem jm.calls (k : Nat) (A0 : Option Addr) (c0 : Nat) (l0 : List (S42)) (a1 : Int) (r : Bool) (w : World) (hr0 : Kd.C k42 w A0 l0.length l0) (hc0 : l0.length ≤ c0) (h : jm.f k l0 a1 = some r) :
  Calls Tryd.prog 41 #[.slice A0 l0.length c0, .int .i64 a1] w fun e w'=>e=.returned (.bool r)∧Below w.heap.size w w':=by
 have HR0:=am hr0
 have HC0:=am hc0
 clear hr0 hc0
 have HB:=am (Below.refl w.heap.size w)
 have H:((jfa.f k l0 a1).bind fun t135=>(jm.l0 k l0 t135 0 1))=some r:=h
 clear h
 replace H:=bzS H
 obtain ⟨t135,A30,H⟩:=H
 replace H:(jm.l0 k l0 t135 0 1)=some r:=H
 have A3:=am A30
 clear A30
 have H':=am H
 clear H
 go_enter Tryd.func41,Tryd.ntmps41
 go_wp2_with (first |((with_reducible refine jf (f:=64) rfl ?_);refine gL (some 11) Tryd.func64 #[.slice A0 l0.length c0, .int .i64 a1] ?_;(with_reducible refine (jfa.calls k _ _ l0 a1 t135 _ ?side1 ?side2 A3.out).mono ?_);(case side1=>exact Y8);(case side2=>exact HC0.out);rintro e w4 ⟨v136,rfl,ho0,hb⟩;refine ⟨_,rfl,?_⟩;have HO137:=am (Kd.jRa ho0 (jP (bq)));replace HB:=am (jc (bq) hb);(try clear hb);(try clear hb2);(try clear hk);(try clear hi);(try clear ho0)))
 go_loopg [6,7] k (fun kq v6 v7 w'=>∃ (x6_1:Int) (x7_1:Int),v6=.int .i64 x6_1∧v7=.int .i64 x7_1∧jD (jm.l0 kq l0 t135 x6_1 x7_1=some r)∧jD (kq≤k)∧jD (Kd.R (Kd.int .i64) 3 w' w.heap.size (fun _=>True) v136 t135)∧jD (Below w.heap.size w w'))
 case atStart=>exact ⟨(0),(1),(sq),(sq),H',⟨Nat.le_refl _⟩,⟨rq HO137.out⟩,⟨bq⟩⟩
 case round =>
  clear H'
  try clear p2
  try clear c4
  obtain ⟨x6_1,x7_1,rfl,rfl,HA,HK1,HO_5,HB⟩:=hrel
  cases gk with
  | zero=>exact absurd HA.out (by simp [jm.l0])
  | succ k1 =>
   have H:=HA.out
   clear HA
   simp only [jm.l0] at H
   by_cases c5:x7_1<(t135.length:Int)
   ·rw [if_pos c5] at H
    have c5b0:decide (x7_1<(t135.length:Int))=true:=dzT c5
    clear c5
    by_cases c6:0≤x7_1
    ·rw [if_pos c6] at H
     have c6b0:decide (0≤x7_1)=true:=dzT c6
     clear c6
     by_cases c7:0≤(rd t135 x7_1)
     ·rw [if_pos c7] at H
      have c7b0:decide (0≤(rd t135 x7_1))=true:=dzT c7
      clear c7
      by_cases c8:(rd t135 x7_1)<(l0.length:Int)
      ·rw [if_pos c8] at H
       have c8b0:decide ((rd t135 x7_1)<(l0.length:Int))=true:=dzT c8
       clear c8
       have HC9:=am H
       clear H
       obtain ⟨Ao10,co10,eo10⟩:=Kd.jKa HO_5.out
       subst eo10
       have p138:0≤(x7_1:Int):=ozD (uq)
       have q138:x7_1<(t135.length:Int):=ozD (uq)
       obtain ⟨ad138,e138,hx138_0⟩:=Kd.jyb (Kd.jT HO_5.out).2.2 x7_1 p138 q138
       cases e138
       replace p138:=ezT p138
       replace q138:=ezT q138
       have p139:0≤((rd t135 x7_1):Int):=ozD (uq)
       have q139:(rd t135 x7_1)<(l0.length:Int):=ozD (uq)
       obtain ⟨ad139,e139,hx139_0,hx139_1,hx139_2,hx139_3⟩:=jla HR0.out (rd t135 x7_1) p139 q139
       cases e139
       replace hx139_0:=cb HB.out hx139_0
       replace hx139_1:=cb HB.out hx139_1
       replace hx139_2:=cb HB.out hx139_2
       replace hx139_3:=cb HB.out hx139_3
       replace p139:=ezT p139
       replace q139:=ezT q139
       go_upto_if 27 with (fail)
       go_cut [6] (fun v6 wc=>∃ (kq:Nat) (x6_8:Int),v6=.int .i64 x6_8∧jD (jm.j1 kq l0 t135 x6_8 x7_1 ((jb l0 (rd t135 x7_1)).f1)=some r)∧jD (kq≤k1)∧jD (Kd.R (Kd.int .i64) 3 wc w.heap.size (fun _=>True) (.slice (some ad138) t135.length co10) t135)∧jD (Below w.heap.size w wc))
       case first =>
        have H:=HC9.out
        clear HC9
        by_cases c11:((jb l0 (rd t135 x7_1)).f1)=8
        ·rw [if_pos c11] at H
         have c11b0:(((jb l0 (rd t135 x7_1)).f1) == 8)=true:=beq_iff_eq.mpr c11
         have c11b1:(((jb l0 (rd t135 x7_1)).f1) != 8)=false:=bne_eq_false_iff_eq.mpr c11
         clear c11
         (first | rw [c11b0] |(simp only [jlb,job];rw [c11b0]) | skip)
         have H':=am H
         clear H
         go_wp2
         go_meet
         case rel=>exact ⟨_,(wrap64 (x6_1+1)),(sq),H',⟨by have:=HK1.out;first | omega | exact Nat.le_refl _⟩,⟨rq HO_5.out⟩,⟨bq⟩⟩
        ·rw [if_neg c11] at H
         have c11b0:(((jb l0 (rd t135 x7_1)).f1) == 8)=false:=beq_eq_false_iff_ne.mpr c11
         have c11b1:(((jb l0 (rd t135 x7_1)).f1) != 8)=true:=bne_iff_ne.mpr c11
         (first | rw [c11b0] |(simp only [jlb,job];rw [c11b0]) | skip)
         have H':=am H
         clear H
         go_wp2
         go_meet
         case rel=>exact ⟨_,(x6_1),(sq),H',⟨by have:=HK1.out;first | omega | exact Nat.le_refl _⟩,⟨rq HO_5.out⟩,⟨bq⟩⟩
       case rest =>
        clear HC9
        try clear c1
        try clear p1
        try clear q1
        try clear hx1
        try clear p2
        try clear c4
        try clear c5
        try clear c5b0
        try clear c6
        try clear c6b0
        try clear p6
        try clear c7
        try clear c7b0
        try clear c8
        try clear c8b0
        try clear c11
        try clear c11b0
        try clear c11b1
        try clear hx138_0
        try clear hx139_0
        try clear hx139_1
        try clear hx139_2
        try clear hx139_3
        try clear p138
        try clear p139
        try clear p2
        try clear q138
        try clear q139
        obtain ⟨kq,x6_8,rfl,HA,HJ8,HO_5,HB⟩:=hcut
        cases kq with
        | zero=>exact absurd HA.out (by simp [jm.j1])
        | succ kj8 =>
         have H:=HA.out
         clear HA
         simp only [jm.j1] at H
         have HC12:=am H
         clear H
         go_upto_region 9 with (fail)
         go_cut [69] (fun v69 wc=>∃ (kq:Nat) (x69_11:Bool),v69=.bool x69_11∧jD (jm.j2 kq l0 t135 x6_8 x7_1 x69_11=some r)∧jD (kq≤kj8)∧jD (Kd.R (Kd.int .i64) 3 wc w.heap.size (fun _=>True) (.slice (some ad138) t135.length co10) t135)∧jD (Below w.heap.size w wc))
         case first =>
          have H:=HC12.out
          clear HC12
          by_cases c13:x7_1 > 1
          ·rw [if_pos c13] at H
           have c13b0:decide (1<x7_1)=true:=dzT c13
           clear c13
           (first | rw [c13b0] |(simp only [jlb,job];rw [c13b0]) | skip)
           obtain ⟨ji14,hji14⟩:∃ j_:Int,(wrap64 (x7_1 - 1))=j_:=⟨_,rfl⟩
           replace H:(if 0≤(ji14) then (if (ji14)<(t135.length:Int) then (if 0≤(rd t135 (ji14)) then (if (rd t135 (ji14))<(l0.length:Int) then (if ((jb l0 (rd t135 x7_1)).f1)<((jb l0 (rd t135 (ji14))).f1) then (jm.j2 kj8 l0 t135 x6_8 x7_1 true) else (if ((jb l0 (rd t135 x7_1)).f1)=((jb l0 (rd t135 (ji14))).f1) then (if ((jb l0 (rd t135 x7_1)).f1)=8 then (if ((jb l0 (rd t135 x7_1)).f1)=9 then (jm.j2 kj8 l0 t135 x6_8 x7_1 (x6_8 == 0)) else (jm.j2 kj8 l0 t135 x6_8 x7_1 false)) else (jm.j2 kj8 l0 t135 x6_8 x7_1 true)) else (if ((jb l0 (rd t135 x7_1)).f1)=9 then (jm.j2 kj8 l0 t135 x6_8 x7_1 (x6_8 == 0)) else (jm.j2 kj8 l0 t135 x6_8 x7_1 false)))) else (none)) else (none)) else (none)) else (none))=some r:=by first |(rw [hji14] at H;exact H) |(simp only [hji14] at H ⊢;exact H)
           have hji14w:(IntKind.i64.wrap (x7_1 - 1))=ji14:=(jlb _).trans hji14
           by_cases c15:0≤(ji14)
           ·rw [if_pos c15] at H
            have c15b0:decide (0≤(ji14))=true:=dzT c15
            clear c15
            by_cases c16:(ji14)<(t135.length:Int)
            ·rw [if_pos c16] at H
             have c16b0:decide ((ji14)<(t135.length:Int))=true:=dzT c16
             clear c16
             by_cases c17:0≤(rd t135 (ji14))
             ·rw [if_pos c17] at H
              have c17b0:decide (0≤(rd t135 (ji14)))=true:=dzT c17
              clear c17
              by_cases c18:(rd t135 (ji14))<(l0.length:Int)
              ·rw [if_pos c18] at H
               have c18b0:decide ((rd t135 (ji14))<(l0.length:Int))=true:=dzT c18
               clear c18
               by_cases c19:((jb l0 (rd t135 x7_1)).f1)<((jb l0 (rd t135 (ji14))).f1)
               ·rw [if_pos c19] at H
                have c19b0:decide (((jb l0 (rd t135 x7_1)).f1)<((jb l0 (rd t135 (ji14))).f1))=true:=dzT c19
                clear c19
                have H':=am H
                clear H
                have p140:0≤((ji14):Int):=ozD (uq)
                have q140:(ji14)<(t135.length:Int):=ozD (uq)
                obtain ⟨ad140,e140,hx140_0⟩:=Kd.jyb (Kd.jT HO_5.out).2.2 (ji14) p140 q140
                obtain rfl:ad138=ad140:=(by injection e140)
                replace p140:=ezT p140
                replace q140:=ezT q140
                have p141:0≤((rd t135 (ji14)):Int):=ozD (uq)
                have q141:(rd t135 (ji14))<(l0.length:Int):=ozD (uq)
                obtain ⟨ad141,e141,hx141_0,hx141_1,hx141_2,hx141_3⟩:=jla HR0.out (rd t135 (ji14)) p141 q141
                obtain rfl:ad139=ad141:=(by injection e141)
                replace hx141_0:=cb HB.out hx141_0
                replace hx141_1:=cb HB.out hx141_1
                replace hx141_2:=cb HB.out hx141_2
                replace hx141_3:=cb HB.out hx141_3
                replace p141:=ezT p141
                replace q141:=ezT q141
                go_wp2
                go_meet
                case rel=>exact ⟨_,(true),(sq),H',⟨by have:=HK1.out;have:=HJ8.out;first | omega | exact Nat.le_refl _⟩,⟨rq HO_5.out⟩,⟨bq⟩⟩
               ·rw [if_neg c19] at H
                have c19b0:decide (((jb l0 (rd t135 x7_1)).f1)<((jb l0 (rd t135 (ji14))).f1))=false:=dzF c19
                clear c19
                by_cases c20:((jb l0 (rd t135 x7_1)).f1)=((jb l0 (rd t135 (ji14))).f1)
                ·rw [if_pos c20] at H
                 have c20b0:(((jb l0 (rd t135 x7_1)).f1) == ((jb l0 (rd t135 (ji14))).f1))=true:=beq_iff_eq.mpr c20
                 have c20b1:(((jb l0 (rd t135 x7_1)).f1) != ((jb l0 (rd t135 (ji14))).f1))=false:=bne_eq_false_iff_eq.mpr c20
                 clear c20
                 by_cases c21:((jb l0 (rd t135 x7_1)).f1)=8
                 ·rw [if_pos c21] at H
                  have c21b0:(((jb l0 (rd t135 x7_1)).f1) == 8)=true:=beq_iff_eq.mpr c21
                  have c21b1:(((jb l0 (rd t135 x7_1)).f1) != 8)=false:=bne_eq_false_iff_eq.mpr c21
                  clear c21
                  by_cases c22:((jb l0 (rd t135 x7_1)).f1)=9
                  ·rw [if_pos c22] at H
                   have c22b0:(((jb l0 (rd t135 x7_1)).f1) == 9)=true:=beq_iff_eq.mpr c22
                   have c22b1:(((jb l0 (rd t135 x7_1)).f1) != 9)=false:=bne_eq_false_iff_eq.mpr c22
                   clear c22
                   have H':=am H
                   clear H
                   have p140:0≤((ji14):Int):=ozD (uq)
                   have q140:(ji14)<(t135.length:Int):=ozD (uq)
                   obtain ⟨ad140,e140,hx140_0⟩:=Kd.jyb (Kd.jT HO_5.out).2.2 (ji14) p140 q140
                   obtain rfl:ad138=ad140:=(by injection e140)
                   replace p140:=ezT p140
                   replace q140:=ezT q140
                   have p141:0≤((rd t135 (ji14)):Int):=ozD (uq)
                   have q141:(rd t135 (ji14))<(l0.length:Int):=ozD (uq)
                   obtain ⟨ad141,e141,hx141_0,hx141_1,hx141_2,hx141_3⟩:=jla HR0.out (rd t135 (ji14)) p141 q141
                   obtain rfl:ad139=ad141:=(by injection e141)
                   replace hx141_0:=cb HB.out hx141_0
                   replace hx141_1:=cb HB.out hx141_1
                   replace hx141_2:=cb HB.out hx141_2
                   replace hx141_3:=cb HB.out hx141_3
                   replace p141:=ezT p141
                   replace q141:=ezT q141
                   have p142:0≤((ji14):Int):=ozD (uq)
                   have q142:(ji14)<(t135.length:Int):=ozD (uq)
                   obtain ⟨ad142,e142,hx142_0⟩:=Kd.jyb (Kd.jT HO_5.out).2.2 (ji14) p142 q142
                   obtain rfl:ad138=ad142:=(by injection e142)
                   replace p142:=ezT p142
                   replace q142:=ezT q142
                   have p143:0≤((rd t135 (ji14)):Int):=ozD (uq)
                   have q143:(rd t135 (ji14))<(l0.length:Int):=ozD (uq)
                   obtain ⟨ad143,e143,hx143_0,hx143_1,hx143_2,hx143_3⟩:=jla HR0.out (rd t135 (ji14)) p143 q143
                   obtain rfl:ad139=ad143:=(by injection e143)
                   replace hx143_0:=cb HB.out hx143_0
                   replace hx143_1:=cb HB.out hx143_1
                   replace hx143_2:=cb HB.out hx143_2
                   replace hx143_3:=cb HB.out hx143_3
                   replace p143:=ezT p143
                   replace q143:=ezT q143
                   go_wp2
                   go_meet
                   case rel=>exact ⟨_,((x6_8 == 0)),(sq),H',⟨by have:=HK1.out;have:=HJ8.out;first | omega | exact Nat.le_refl _⟩,⟨rq HO_5.out⟩,⟨bq⟩⟩
                  ·rw [if_neg c22] at H
                   have c22b0:(((jb l0 (rd t135 x7_1)).f1) == 9)=false:=beq_eq_false_iff_ne.mpr c22
                   have c22b1:(((jb l0 (rd t135 x7_1)).f1) != 9)=true:=bne_iff_ne.mpr c22
                   have H':=am H
                   clear H
                   have p140:0≤((ji14):Int):=ozD (uq)
                   have q140:(ji14)<(t135.length:Int):=ozD (uq)
                   obtain ⟨ad140,e140,hx140_0⟩:=Kd.jyb (Kd.jT HO_5.out).2.2 (ji14) p140 q140
                   obtain rfl:ad138=ad140:=(by injection e140)
                   replace p140:=ezT p140
                   replace q140:=ezT q140
                   have p141:0≤((rd t135 (ji14)):Int):=ozD (uq)
                   have q141:(rd t135 (ji14))<(l0.length:Int):=ozD (uq)
                   obtain ⟨ad141,e141,hx141_0,hx141_1,hx141_2,hx141_3⟩:=jla HR0.out (rd t135 (ji14)) p141 q141
                   obtain rfl:ad139=ad141:=(by injection e141)
                   replace hx141_0:=cb HB.out hx141_0
                   replace hx141_1:=cb HB.out hx141_1
                   replace hx141_2:=cb HB.out hx141_2
                   replace hx141_3:=cb HB.out hx141_3
                   replace p141:=ezT p141
                   replace q141:=ezT q141
                   have p142:0≤((ji14):Int):=ozD (uq)
                   have q142:(ji14)<(t135.length:Int):=ozD (uq)
                   obtain ⟨ad142,e142,hx142_0⟩:=Kd.jyb (Kd.jT HO_5.out).2.2 (ji14) p142 q142
                   obtain rfl:ad138=ad142:=(by injection e142)
                   replace p142:=ezT p142
                   replace q142:=ezT q142
                   have p143:0≤((rd t135 (ji14)):Int):=ozD (uq)
                   have q143:(rd t135 (ji14))<(l0.length:Int):=ozD (uq)
                   obtain ⟨ad143,e143,hx143_0,hx143_1,hx143_2,hx143_3⟩:=jla HR0.out (rd t135 (ji14)) p143 q143
                   obtain rfl:ad139=ad143:=(by injection e143)
                   replace hx143_0:=cb HB.out hx143_0
                   replace hx143_1:=cb HB.out hx143_1
                   replace hx143_2:=cb HB.out hx143_2
                   replace hx143_3:=cb HB.out hx143_3
                   replace p143:=ezT p143
                   replace q143:=ezT q143
                   go_wp2
                   go_meet
                   case rel=>exact ⟨_,(false),(sq),H',⟨by have:=HK1.out;have:=HJ8.out;first | omega | exact Nat.le_refl _⟩,⟨rq HO_5.out⟩,⟨bq⟩⟩
                 ·rw [if_neg c21] at H
                  have c21b0:(((jb l0 (rd t135 x7_1)).f1) == 8)=false:=beq_eq_false_iff_ne.mpr c21
                  have c21b1:(((jb l0 (rd t135 x7_1)).f1) != 8)=true:=bne_iff_ne.mpr c21
                  have H':=am H
                  clear H
                  have p140:0≤((ji14):Int):=ozD (uq)
                  have q140:(ji14)<(t135.length:Int):=ozD (uq)
                  obtain ⟨ad140,e140,hx140_0⟩:=Kd.jyb (Kd.jT HO_5.out).2.2 (ji14) p140 q140
                  obtain rfl:ad138=ad140:=(by injection e140)
                  replace p140:=ezT p140
                  replace q140:=ezT q140
                  have p141:0≤((rd t135 (ji14)):Int):=ozD (uq)
                  have q141:(rd t135 (ji14))<(l0.length:Int):=ozD (uq)
                  obtain ⟨ad141,e141,hx141_0,hx141_1,hx141_2,hx141_3⟩:=jla HR0.out (rd t135 (ji14)) p141 q141
                  obtain rfl:ad139=ad141:=(by injection e141)
                  replace hx141_0:=cb HB.out hx141_0
                  replace hx141_1:=cb HB.out hx141_1
                  replace hx141_2:=cb HB.out hx141_2
                  replace hx141_3:=cb HB.out hx141_3
                  replace p141:=ezT p141
                  replace q141:=ezT q141
                  have p142:0≤((ji14):Int):=ozD (uq)
                  have q142:(ji14)<(t135.length:Int):=ozD (uq)
                  obtain ⟨ad142,e142,hx142_0⟩:=Kd.jyb (Kd.jT HO_5.out).2.2 (ji14) p142 q142
                  obtain rfl:ad138=ad142:=(by injection e142)
                  replace p142:=ezT p142
                  replace q142:=ezT q142
                  have p143:0≤((rd t135 (ji14)):Int):=ozD (uq)
                  have q143:(rd t135 (ji14))<(l0.length:Int):=ozD (uq)
                  obtain ⟨ad143,e143,hx143_0,hx143_1,hx143_2,hx143_3⟩:=jla HR0.out (rd t135 (ji14)) p143 q143
                  obtain rfl:ad139=ad143:=(by injection e143)
                  replace hx143_0:=cb HB.out hx143_0
                  replace hx143_1:=cb HB.out hx143_1
                  replace hx143_2:=cb HB.out hx143_2
                  replace hx143_3:=cb HB.out hx143_3
                  replace p143:=ezT p143
                  replace q143:=ezT q143
                  go_wp2
                  go_meet
                  case rel=>exact ⟨_,(true),(sq),H',⟨by have:=HK1.out;have:=HJ8.out;first | omega | exact Nat.le_refl _⟩,⟨rq HO_5.out⟩,⟨bq⟩⟩
                ·rw [if_neg c20] at H
                 have c20b0:(((jb l0 (rd t135 x7_1)).f1) == ((jb l0 (rd t135 (ji14))).f1))=false:=beq_eq_false_iff_ne.mpr c20
                 have c20b1:(((jb l0 (rd t135 x7_1)).f1) != ((jb l0 (rd t135 (ji14))).f1))=true:=bne_iff_ne.mpr c20
                 by_cases c23:((jb l0 (rd t135 x7_1)).f1)=9
                 ·rw [if_pos c23] at H
                  have c23b0:(((jb l0 (rd t135 x7_1)).f1) == 9)=true:=beq_iff_eq.mpr c23
                  have c23b1:(((jb l0 (rd t135 x7_1)).f1) != 9)=false:=bne_eq_false_iff_eq.mpr c23
                  clear c23
                  have H':=am H
                  clear H
                  have p140:0≤((ji14):Int):=ozD (uq)
                  have q140:(ji14)<(t135.length:Int):=ozD (uq)
                  obtain ⟨ad140,e140,hx140_0⟩:=Kd.jyb (Kd.jT HO_5.out).2.2 (ji14) p140 q140
                  obtain rfl:ad138=ad140:=(by injection e140)
                  replace p140:=ezT p140
                  replace q140:=ezT q140
                  have p141:0≤((rd t135 (ji14)):Int):=ozD (uq)
                  have q141:(rd t135 (ji14))<(l0.length:Int):=ozD (uq)
                  obtain ⟨ad141,e141,hx141_0,hx141_1,hx141_2,hx141_3⟩:=jla HR0.out (rd t135 (ji14)) p141 q141
                  obtain rfl:ad139=ad141:=(by injection e141)
                  replace hx141_0:=cb HB.out hx141_0
                  replace hx141_1:=cb HB.out hx141_1
                  replace hx141_2:=cb HB.out hx141_2
                  replace hx141_3:=cb HB.out hx141_3
                  replace p141:=ezT p141
                  replace q141:=ezT q141
                  have p142:0≤((ji14):Int):=ozD (uq)
                  have q142:(ji14)<(t135.length:Int):=ozD (uq)
                  obtain ⟨ad142,e142,hx142_0⟩:=Kd.jyb (Kd.jT HO_5.out).2.2 (ji14) p142 q142
                  obtain rfl:ad138=ad142:=(by injection e142)
                  replace p142:=ezT p142
                  replace q142:=ezT q142
                  have p143:0≤((rd t135 (ji14)):Int):=ozD (uq)
                  have q143:(rd t135 (ji14))<(l0.length:Int):=ozD (uq)
                  obtain ⟨ad143,e143,hx143_0,hx143_1,hx143_2,hx143_3⟩:=jla HR0.out (rd t135 (ji14)) p143 q143
                  obtain rfl:ad139=ad143:=(by injection e143)
                  replace hx143_0:=cb HB.out hx143_0
                  replace hx143_1:=cb HB.out hx143_1
                  replace hx143_2:=cb HB.out hx143_2
                  replace hx143_3:=cb HB.out hx143_3
                  replace p143:=ezT p143
                  replace q143:=ezT q143
                  go_wp2
                  go_meet
                  case rel=>exact ⟨_,((x6_8 == 0)),(sq),H',⟨by have:=HK1.out;have:=HJ8.out;first | omega | exact Nat.le_refl _⟩,⟨rq HO_5.out⟩,⟨bq⟩⟩
                 ·rw [if_neg c23] at H
                  have c23b0:(((jb l0 (rd t135 x7_1)).f1) == 9)=false:=beq_eq_false_iff_ne.mpr c23
                  have c23b1:(((jb l0 (rd t135 x7_1)).f1) != 9)=true:=bne_iff_ne.mpr c23
                  have H':=am H
                  clear H
                  have p140:0≤((ji14):Int):=ozD (uq)
                  have q140:(ji14)<(t135.length:Int):=ozD (uq)
                  obtain ⟨ad140,e140,hx140_0⟩:=Kd.jyb (Kd.jT HO_5.out).2.2 (ji14) p140 q140
                  obtain rfl:ad138=ad140:=(by injection e140)
                  replace p140:=ezT p140
                  replace q140:=ezT q140
                  have p141:0≤((rd t135 (ji14)):Int):=ozD (uq)
                  have q141:(rd t135 (ji14))<(l0.length:Int):=ozD (uq)
                  obtain ⟨ad141,e141,hx141_0,hx141_1,hx141_2,hx141_3⟩:=jla HR0.out (rd t135 (ji14)) p141 q141
                  obtain rfl:ad139=ad141:=(by injection e141)
                  replace hx141_0:=cb HB.out hx141_0
                  replace hx141_1:=cb HB.out hx141_1
                  replace hx141_2:=cb HB.out hx141_2
                  replace hx141_3:=cb HB.out hx141_3
                  replace p141:=ezT p141
                  replace q141:=ezT q141
                  have p142:0≤((ji14):Int):=ozD (uq)
                  have q142:(ji14)<(t135.length:Int):=ozD (uq)
                  obtain ⟨ad142,e142,hx142_0⟩:=Kd.jyb (Kd.jT HO_5.out).2.2 (ji14) p142 q142
                  obtain rfl:ad138=ad142:=(by injection e142)
                  replace p142:=ezT p142
                  replace q142:=ezT q142
                  have p143:0≤((rd t135 (ji14)):Int):=ozD (uq)
                  have q143:(rd t135 (ji14))<(l0.length:Int):=ozD (uq)
                  obtain ⟨ad143,e143,hx143_0,hx143_1,hx143_2,hx143_3⟩:=jla HR0.out (rd t135 (ji14)) p143 q143
                  obtain rfl:ad139=ad143:=(by injection e143)
                  replace hx143_0:=cb HB.out hx143_0
                  replace hx143_1:=cb HB.out hx143_1
                  replace hx143_2:=cb HB.out hx143_2
                  replace hx143_3:=cb HB.out hx143_3
                  replace p143:=ezT p143
                  replace q143:=ezT q143
                  go_wp2
                  go_meet
                  case rel=>exact ⟨_,(false),(sq),H',⟨by have:=HK1.out;have:=HJ8.out;first | omega | exact Nat.le_refl _⟩,⟨rq HO_5.out⟩,⟨bq⟩⟩
              ·rw [if_neg c18] at H
               exact absurd H (by simp)
             ·rw [if_neg c17] at H
              exact absurd H (by simp)
            ·rw [if_neg c16] at H
             exact absurd H (by simp)
           ·rw [if_neg c15] at H
            exact absurd H (by simp)
          ·rw [if_neg c13] at H
           have c13b0:decide (1<x7_1)=false:=dzF c13
           clear c13
           (first | rw [c13b0] |(simp only [jlb,job];rw [c13b0]) | skip)
           by_cases c24:((jb l0 (rd t135 x7_1)).f1)=9
           ·rw [if_pos c24] at H
            have c24b0:(((jb l0 (rd t135 x7_1)).f1) == 9)=true:=beq_iff_eq.mpr c24
            have c24b1:(((jb l0 (rd t135 x7_1)).f1) != 9)=false:=bne_eq_false_iff_eq.mpr c24
            clear c24
            have H':=am H
            clear H
            go_wp2
            go_meet
            case rel=>exact ⟨_,((x6_8 == 0)),(sq),H',⟨by have:=HK1.out;have:=HJ8.out;first | omega | exact Nat.le_refl _⟩,⟨rq HO_5.out⟩,⟨bq⟩⟩
           ·rw [if_neg c24] at H
            have c24b0:(((jb l0 (rd t135 x7_1)).f1) == 9)=false:=beq_eq_false_iff_ne.mpr c24
            have c24b1:(((jb l0 (rd t135 x7_1)).f1) != 9)=true:=bne_iff_ne.mpr c24
            have H':=am H
            clear H
            go_wp2
            go_meet
            case rel=>exact ⟨_,(false),(sq),H',⟨by have:=HK1.out;have:=HJ8.out;first | omega | exact Nat.le_refl _⟩,⟨rq HO_5.out⟩,⟨bq⟩⟩
         case rest =>
          clear HC12
          try clear c1
          try clear p1
          try clear q1
          try clear hx1
          try clear c2
          try clear p2
          try clear c4
          try clear c5
          try clear c5b0
          try clear c6
          try clear c6b0
          try clear p6
          try clear c7
          try clear c7b0
          try clear c8
          try clear c8b0
          try clear c11
          try clear c11b0
          try clear c11b1
          try clear c13
          try clear c13b0
          try clear p13
          try clear q13
          try clear hx13
          try clear p14
          try clear q14
          try clear hx14
          try clear c15
          try clear c15b0
          try clear c16
          try clear c16b0
          try clear c17
          try clear c17b0
          try clear c18
          try clear c18b0
          try clear c19
          try clear c19b0
          try clear c20
          try clear c20b0
          try clear c20b1
          try clear c21
          try clear c21b0
          try clear c21b1
          try clear c22
          try clear c22b0
          try clear c22b1
          try clear c23
          try clear c23b0
          try clear c23b1
          try clear c24
          try clear c24b0
          try clear c24b1
          try clear hx138_0
          try clear hx139_0
          try clear hx139_1
          try clear hx139_2
          try clear hx139_3
          try clear hx140_0
          try clear hx141_0
          try clear hx141_1
          try clear hx141_2
          try clear hx141_3
          try clear hx142_0
          try clear hx143_0
          try clear hx143_1
          try clear hx143_2
          try clear hx143_3
          try clear p1
          try clear p138
          try clear p139
          try clear p140
          try clear p141
          try clear p142
          try clear p143
          try clear p2
          try clear p6
          try clear q1
          try clear q138
          try clear q139
          try clear q140
          try clear q141
          try clear q142
          try clear q143
          obtain ⟨kq,x69_11,rfl,HA,HJ11,HO_5,HB⟩:=hcut
          cases kq with
          | zero=>exact absurd HA.out (by simp [jm.j2])
          | succ kj11 =>
           have H:=HA.out
           clear HA
           simp only [jm.j2] at H
           by_cases c25:x69_11=true
           ·subst c25
            have H1:(some false)=some r:=by rw [if_pos rfl] at H;exact H
            clear H
            have H:=H1
            clear H1
            obtain rfl:=Option.some.inj H
            go_wp2
            go_ret
            exact ⟨Y0,bq⟩
           ·replace c25:=Bool.eq_false_iff.mpr c25
            subst c25
            have H1:(jm.l0 kj11 l0 t135 x6_8 (wrap64 (x7_1+1)))=some r:=by rw [if_neg (show ¬ (false=true) by decide)] at H;exact H
            clear H
            have H:=H1
            clear H1
            have H':=am H
            clear H
            go_wp2
            go_roundg kj11
            case measure=>have:=HK1.out;have:=HJ8.out;have:=HJ11.out;omega
            case rel=>exact ⟨(x6_8),(wrap64 (x7_1+1)),(sq),(sq),H',⟨by have:=HK1.out;have:=HJ8.out;have:=HJ11.out;omega⟩,⟨rq HO_5.out⟩,⟨bq⟩⟩
      ·rw [if_neg c8] at H
       exact absurd H (by simp)
     ·rw [if_neg c7] at H
      exact absurd H (by simp)
    ·rw [if_neg c6] at H
     exact absurd H (by simp)
   ·rw [if_neg c5] at H
    have c5b0:decide (x7_1<(t135.length:Int))=false:=dzF c5
    clear c5
    by_cases c26:(t135.length:Int) > 1
    ·rw [if_pos c26] at H
     have c26b0:decide (1<(t135.length:Int))=true:=dzT c26
     have c26b1:decide (1<t135.length)=true:=dzT (by omega)
     clear c26
     obtain rfl:=Option.some.inj H
     obtain ⟨Ao27,co27,eo27⟩:=Kd.jKa HO_5.out
     subst eo27
     go_wp2
     go_ret
     exact ⟨Y0,bq⟩
    ·rw [if_neg c26] at H
     have c26b0:decide (1<(t135.length:Int))=false:=dzF c26
     have c26b1:decide (1<t135.length)=false:=dzF (by omega)
     clear c26
     obtain rfl:=Option.some.inj H
     obtain ⟨Ao28,co28,eo28⟩:=Kd.jKa HO_5.out
     subst eo28
     go_wp2
     go_ret
     exact ⟨Y0,bq⟩
def jua.l0 : Nat → List (S42) → Int → Int → Option (Bool)
 | 0,_,_,_=>none
 | k+1,x0,x5,x6=>if x6≥0 then (if 0≤x6 then (if x6<(x0.length:Int) then (if ((jb x0 x6).f0)<x5 then (if ((jb x0 x6).f1)=12 then (some true) else (jua.l0 k x0 ((jb x0 x6).f0) (wrap64 (x6 - 1)))) else (jua.l0 k x0 x5 (wrap64 (x6 - 1)))) else (none)) else (none)) else (some false)
def jua.f (k : Nat) (l0 : List (S42)) (a1 : Int) : Option (Bool) := if 0 ≤ a1 then (if a1 < (l0.length : Int) then (jua.l0 k l0 ((jb l0 a1).f0) (wrap64 (a1 - 1))) else (none)) else (none)
set_option maxHeartbeats 8000000 in
set_option maxRecDepth 100000 in
theorem jua.calls (k : Nat) (A0 : Option Addr) (c0 : Nat) (l0 : List (S42)) (a1 : Int) (r : Bool) (w : World) (hr0 : Kd.C k42 w A0 l0.length l0) (hc0 : l0.length ≤ c0) (h : jua.f k l0 a1 = some r) :
  Calls Tryd.prog 42 #[.slice A0 l0.length c0, .int .i64 a1] w fun e w'=>e=.returned (.bool r)∧jAa w w':=by
 have HR0:=am hr0
 have HC0:=am hc0
 clear hr0 hc0
 have H:(if 0≤a1 then (if a1<(l0.length:Int) then (jua.l0 k l0 ((jb l0 a1).f0) (wrap64 (a1 - 1))) else (none)) else (none))=some r:=h
 clear h
 by_cases c3:0≤a1
 ·rw [if_pos c3] at H
  have c3b0:decide (0≤a1)=true:=dzT c3
  clear c3
  by_cases c4:a1<(l0.length:Int)
  ·rw [if_pos c4] at H
   have c4b0:decide (a1<(l0.length:Int))=true:=dzT c4
   clear c4
   have H':=am H
   clear H
   have p144:0≤(a1:Int):=ozD (uq)
   have q144:a1<(l0.length:Int):=ozD (uq)
   obtain ⟨ad144,e144,hx144_0,hx144_1,hx144_2,hx144_3⟩:=jla HR0.out a1 p144 q144
   cases e144
   replace p144:=ezT p144
   replace q144:=ezT q144
   go_enter Tryd.func42,Tryd.ntmps42
   go_wp2
   go_loopg [5,6] k (fun kq v5 v6 w'=>∃ (x5_1:Int) (x6_1:Int),v5=.int .i64 x5_1∧v6=.int .i64 x6_1∧jD (jua.l0 kq l0 x5_1 x6_1=some r)∧jD (kq≤k)∧jAa w w')
   case atStart=>exact ⟨((jb l0 a1).f0),(wrap64 (a1 - 1)),(sq),(sq),H',⟨Nat.le_refl _⟩,Y2⟩
   case round =>
    clear H'
    try clear p1
    try clear q1
    try clear hx1
    try clear p2
    try clear c3
    try clear c3b0
    try clear c4
    try clear c4b0
    try clear hx144_0
    try clear hx144_1
    try clear hx144_2
    try clear hx144_3
    try clear p144
    try clear q144
    obtain ⟨x5_1,x6_1,rfl,rfl,HA,HK1,⟨m1,rfl⟩⟩:=hrel
    cases gk with
    | zero=>exact absurd HA.out (by simp [jua.l0])
    | succ k1 =>
     have H:=HA.out
     clear HA
     simp only [jua.l0] at H
     by_cases c5:x6_1≥0
     ·rw [if_pos c5] at H
      have c5b0:decide (0≤x6_1)=true:=dzT c5
      clear c5
      by_cases c6:0≤x6_1
      ·rw [if_pos c6] at H
       have c6b0:decide (0≤x6_1)=true:=dzT c6
       clear c6
       by_cases c7:x6_1<(l0.length:Int)
       ·rw [if_pos c7] at H
        have c7b0:decide (x6_1<(l0.length:Int))=true:=dzT c7
        clear c7
        by_cases c8:((jb l0 x6_1).f0)<x5_1
        ·rw [if_pos c8] at H
         have c8b0:decide (((jb l0 x6_1).f0)<x5_1)=true:=dzT c8
         clear c8
         by_cases c9:((jb l0 x6_1).f1)=12
         ·rw [if_pos c9] at H
          have c9b0:(((jb l0 x6_1).f1) == 12)=true:=beq_iff_eq.mpr c9
          have c9b1:(((jb l0 x6_1).f1) != 12)=false:=bne_eq_false_iff_eq.mpr c9
          clear c9
          obtain rfl:=Option.some.inj H
          have p145:0≤(x6_1:Int):=ozD (uq)
          have q145:x6_1<(l0.length:Int):=ozD (uq)
          obtain ⟨ad145,e145,hx145_0,hx145_1,hx145_2,hx145_3⟩:=jla HR0.out x6_1 p145 q145
          obtain rfl:ad144=ad145:=(by injection e145)
          replace p145:=ezT p145
          replace q145:=ezT q145
          have p146:0≤(x6_1:Int):=ozD (uq)
          have q146:x6_1<(l0.length:Int):=ozD (uq)
          obtain ⟨ad146,e146,hx146_0,hx146_1,hx146_2,hx146_3⟩:=jla HR0.out x6_1 p146 q146
          obtain rfl:ad144=ad146:=(by injection e146)
          replace p146:=ezT p146
          replace q146:=ezT q146
          have p147:0≤(x6_1:Int):=ozD (uq)
          have q147:x6_1<(l0.length:Int):=ozD (uq)
          obtain ⟨ad147,e147,hx147_0,hx147_1,hx147_2,hx147_3⟩:=jla HR0.out x6_1 p147 q147
          obtain rfl:ad144=ad147:=(by injection e147)
          replace p147:=ezT p147
          replace q147:=ezT q147
          go_wp2
          go_ret
          exact ⟨sq,Y2⟩
         ·rw [if_neg c9] at H
          have c9b0:(((jb l0 x6_1).f1) == 12)=false:=beq_eq_false_iff_ne.mpr c9
          have c9b1:(((jb l0 x6_1).f1) != 12)=true:=bne_iff_ne.mpr c9
          have H':=am H
          clear H
          have p145:0≤(x6_1:Int):=ozD (uq)
          have q145:x6_1<(l0.length:Int):=ozD (uq)
          obtain ⟨ad145,e145,hx145_0,hx145_1,hx145_2,hx145_3⟩:=jla HR0.out x6_1 p145 q145
          obtain rfl:ad144=ad145:=(by injection e145)
          replace p145:=ezT p145
          replace q145:=ezT q145
          have p146:0≤(x6_1:Int):=ozD (uq)
          have q146:x6_1<(l0.length:Int):=ozD (uq)
          obtain ⟨ad146,e146,hx146_0,hx146_1,hx146_2,hx146_3⟩:=jla HR0.out x6_1 p146 q146
          obtain rfl:ad144=ad146:=(by injection e146)
          replace p146:=ezT p146
          replace q146:=ezT q146
          have p147:0≤(x6_1:Int):=ozD (uq)
          have q147:x6_1<(l0.length:Int):=ozD (uq)
          obtain ⟨ad147,e147,hx147_0,hx147_1,hx147_2,hx147_3⟩:=jla HR0.out x6_1 p147 q147
          obtain rfl:ad144=ad147:=(by injection e147)
          replace p147:=ezT p147
          replace q147:=ezT q147
          go_wp2
          go_roundg k1
          case measure=>have:=HK1.out;omega
          case rel=>exact ⟨((jb l0 x6_1).f0),(wrap64 (x6_1 - 1)),(sq),(sq),H',⟨by have:=HK1.out;omega⟩,Y2⟩
        ·rw [if_neg c8] at H
         have c8b0:decide (((jb l0 x6_1).f0)<x5_1)=false:=dzF c8
         clear c8
         have H':=am H
         clear H
         have p145:0≤(x6_1:Int):=ozD (uq)
         have q145:x6_1<(l0.length:Int):=ozD (uq)
         obtain ⟨ad145,e145,hx145_0,hx145_1,hx145_2,hx145_3⟩:=jla HR0.out x6_1 p145 q145
         obtain rfl:ad144=ad145:=(by injection e145)
         replace p145:=ezT p145
         replace q145:=ezT q145
         go_wp2
         go_roundg k1
         case measure=>have:=HK1.out;omega
         case rel=>exact ⟨(x5_1),(wrap64 (x6_1 - 1)),(sq),(sq),H',⟨by have:=HK1.out;omega⟩,Y2⟩
       ·rw [if_neg c7] at H
        exact absurd H (by simp)
      ·rw [if_neg c6] at H
       exact absurd H (by simp)
     ·rw [if_neg c5] at H
      have c5b0:decide (0≤x6_1)=false:=dzF c5
      clear c5
      obtain rfl:=Option.some.inj H
      go_wp2
      go_ret
      exact ⟨sq,Y2⟩
  ·rw [if_neg c4] at H
   exact absurd H (by simp)
 ·rw [if_neg c3] at H
  exact absurd H (by simp)
def jza.l0 : Nat → List (S42) → Int → Int → Option (Int)
 | 0,_,_,_=>none
 | k+1,x0,x1,x5=>if x5≥0 then (if 0≤x5 then (if x5<(x0.length:Int) then (if 0≤x1 then (if x1<(x0.length:Int) then (if ((jb x0 x5).f0)<((jb x0 x1).f0) then (some (-1)) else (if ((jb x0 x5).f0)=((jb x0 x1).f0) then (some x5) else (jza.l0 k x0 x1 (wrap64 (x5 - 1))))) else (none)) else (none)) else (none)) else (none)) else (some (-1))
def jza.f (k : Nat) (l0 : List (S42)) (a1 : Int) : Option (Int) := jza.l0 k l0 a1 (wrap64 (a1 - 1))
set_option maxHeartbeats 8000000 in
set_option maxRecDepth 100000 in
theorem jza.calls (k : Nat) (A0 : Option Addr) (c0 : Nat) (l0 : List (S42)) (a1 : Int) (r : Int) (w : World) (hr0 : Kd.C k42 w A0 l0.length l0) (hc0 : l0.length ≤ c0) (h : jza.f k l0 a1 = some r) :
  Calls Tryd.prog 44 #[.slice A0 l0.length c0, .int .i64 a1] w fun e w'=>e=.returned (.int .i64 r)∧jAa w w':=by
 have HR0:=am hr0
 have HC0:=am hc0
 clear hr0 hc0
 have H:(jza.l0 k l0 a1 (wrap64 (a1 - 1)))=some r:=h
 clear h
 have H':=am H
 clear H
 go_enter Tryd.func44,Tryd.ntmps44
 go_wp2
 repeat (go_quiet (fail);try go_wp2)
 go_loopg [5] k (fun kq v5 w'=>∃ (x5_1:Int),v5=.int .i64 x5_1∧jD (jza.l0 kq l0 a1 x5_1=some r)∧jD (kq≤k)∧jAa w w')
 case atStart=>exact ⟨(wrap64 (a1 - 1)),(sq),H',⟨Nat.le_refl _⟩,Y2⟩
 case round =>
  clear H'
  try clear p2
  obtain ⟨x5_1,rfl,HA,HK1,⟨m1,rfl⟩⟩:=hrel
  cases gk with
  | zero=>exact absurd HA.out (by simp [jza.l0])
  | succ k1 =>
   have H:=HA.out
   clear HA
   simp only [jza.l0] at H
   by_cases c3:x5_1≥0
   ·rw [if_pos c3] at H
    have c3b0:decide (0≤x5_1)=true:=dzT c3
    clear c3
    by_cases c4:0≤x5_1
    ·rw [if_pos c4] at H
     have c4b0:decide (0≤x5_1)=true:=dzT c4
     clear c4
     by_cases c5:x5_1<(l0.length:Int)
     ·rw [if_pos c5] at H
      have c5b0:decide (x5_1<(l0.length:Int))=true:=dzT c5
      clear c5
      by_cases c6:0≤a1
      ·rw [if_pos c6] at H
       have c6b0:decide (0≤a1)=true:=dzT c6
       clear c6
       by_cases c7:a1<(l0.length:Int)
       ·rw [if_pos c7] at H
        have c7b0:decide (a1<(l0.length:Int))=true:=dzT c7
        clear c7
        by_cases c8:((jb l0 x5_1).f0)<((jb l0 a1).f0)
        ·rw [if_pos c8] at H
         have c8b0:decide (((jb l0 x5_1).f0)<((jb l0 a1).f0))=true:=dzT c8
         clear c8
         obtain rfl:=Option.some.inj H
         have p148:0≤(x5_1:Int):=ozD (uq)
         have q148:x5_1<(l0.length:Int):=ozD (uq)
         obtain ⟨ad148,e148,hx148_0,hx148_1,hx148_2,hx148_3⟩:=jla HR0.out x5_1 p148 q148
         cases e148
         replace p148:=ezT p148
         replace q148:=ezT q148
         have p149:0≤(a1:Int):=ozD (uq)
         have q149:a1<(l0.length:Int):=ozD (uq)
         obtain ⟨ad149,e149,hx149_0,hx149_1,hx149_2,hx149_3⟩:=jla HR0.out a1 p149 q149
         obtain rfl:ad148=ad149:=(by injection e149)
         replace p149:=ezT p149
         replace q149:=ezT q149
         go_wp2
         repeat (go_quiet (fail);try go_wp2)
         go_ret
         exact ⟨sq,Y2⟩
        ·rw [if_neg c8] at H
         have c8b0:decide (((jb l0 x5_1).f0)<((jb l0 a1).f0))=false:=dzF c8
         clear c8
         by_cases c9:((jb l0 x5_1).f0)=((jb l0 a1).f0)
         ·rw [if_pos c9] at H
          have c9b0:(((jb l0 x5_1).f0) == ((jb l0 a1).f0))=true:=beq_iff_eq.mpr c9
          have c9b1:(((jb l0 x5_1).f0) != ((jb l0 a1).f0))=false:=bne_eq_false_iff_eq.mpr c9
          clear c9
          obtain rfl:=Option.some.inj H
          have p148:0≤(x5_1:Int):=ozD (uq)
          have q148:x5_1<(l0.length:Int):=ozD (uq)
          obtain ⟨ad148,e148,hx148_0,hx148_1,hx148_2,hx148_3⟩:=jla HR0.out x5_1 p148 q148
          cases e148
          replace p148:=ezT p148
          replace q148:=ezT q148
          have p149:0≤(a1:Int):=ozD (uq)
          have q149:a1<(l0.length:Int):=ozD (uq)
          obtain ⟨ad149,e149,hx149_0,hx149_1,hx149_2,hx149_3⟩:=jla HR0.out a1 p149 q149
          obtain rfl:ad148=ad149:=(by injection e149)
          replace p149:=ezT p149
          replace q149:=ezT q149
          have p150:0≤(x5_1:Int):=ozD (uq)
          have q150:x5_1<(l0.length:Int):=ozD (uq)
          obtain ⟨ad150,e150,hx150_0,hx150_1,hx150_2,hx150_3⟩:=jla HR0.out x5_1 p150 q150
          obtain rfl:ad148=ad150:=(by injection e150)
          replace p150:=ezT p150
          replace q150:=ezT q150
          have p151:0≤(a1:Int):=ozD (uq)
          have q151:a1<(l0.length:Int):=ozD (uq)
          obtain ⟨ad151,e151,hx151_0,hx151_1,hx151_2,hx151_3⟩:=jla HR0.out a1 p151 q151
          obtain rfl:ad148=ad151:=(by injection e151)
          replace p151:=ezT p151
          replace q151:=ezT q151
          go_wp2
          repeat (go_quiet (fail);try go_wp2)
          go_ret
          exact ⟨sq,Y2⟩
         ·rw [if_neg c9] at H
          have c9b0:(((jb l0 x5_1).f0) == ((jb l0 a1).f0))=false:=beq_eq_false_iff_ne.mpr c9
          have c9b1:(((jb l0 x5_1).f0) != ((jb l0 a1).f0))=true:=bne_iff_ne.mpr c9
          have H':=am H
          clear H
          have p148:0≤(x5_1:Int):=ozD (uq)
          have q148:x5_1<(l0.length:Int):=ozD (uq)
          obtain ⟨ad148,e148,hx148_0,hx148_1,hx148_2,hx148_3⟩:=jla HR0.out x5_1 p148 q148
          cases e148
          replace p148:=ezT p148
          replace q148:=ezT q148
          have p149:0≤(a1:Int):=ozD (uq)
          have q149:a1<(l0.length:Int):=ozD (uq)
          obtain ⟨ad149,e149,hx149_0,hx149_1,hx149_2,hx149_3⟩:=jla HR0.out a1 p149 q149
          obtain rfl:ad148=ad149:=(by injection e149)
          replace p149:=ezT p149
          replace q149:=ezT q149
          have p150:0≤(x5_1:Int):=ozD (uq)
          have q150:x5_1<(l0.length:Int):=ozD (uq)
          obtain ⟨ad150,e150,hx150_0,hx150_1,hx150_2,hx150_3⟩:=jla HR0.out x5_1 p150 q150
          obtain rfl:ad148=ad150:=(by injection e150)
          replace p150:=ezT p150
          replace q150:=ezT q150
          have p151:0≤(a1:Int):=ozD (uq)
          have q151:a1<(l0.length:Int):=ozD (uq)
          obtain ⟨ad151,e151,hx151_0,hx151_1,hx151_2,hx151_3⟩:=jla HR0.out a1 p151 q151
          obtain rfl:ad148=ad151:=(by injection e151)
          replace p151:=ezT p151
          replace q151:=ezT q151
          go_wp2
          repeat (go_quiet (fail);try go_wp2)
          go_roundg k1
          case measure=>have:=HK1.out;omega
          case rel=>exact ⟨(wrap64 (x5_1 - 1)),(sq),H',⟨by have:=HK1.out;omega⟩,Y2⟩
       ·rw [if_neg c7] at H
        exact absurd H (by simp)
      ·rw [if_neg c6] at H
       exact absurd H (by simp)
     ·rw [if_neg c5] at H
      exact absurd H (by simp)
    ·rw [if_neg c4] at H
     exact absurd H (by simp)
   ·rw [if_neg c3] at H
    have c3b0:decide (0≤x5_1)=false:=dzF c3
    clear c3
    obtain rfl:=Option.some.inj H
    go_wp2
    repeat (go_quiet (fail);try go_wp2)
    go_ret
    exact ⟨sq,Y2⟩
end Go.Proofs.YtegpknnlggkcpaaDoor.P
end
