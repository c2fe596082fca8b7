/- One part of the proofs on this program: functions of the program as plain functions, that the code comes to them, and facts on them. -/
import Derived.ArgAppend
import Derived.Below
import Derived.BigQuiet
import Derived.Deep.AppendLies
import Derived.Deep.CutBlock
import Derived.Deep.DeepCutAuto
import Derived.Deep.Draws
import Derived.Deep.LoopGhost
import Derived.Deep.OwnRows
import Derived.Deep.QuietTactic
import Derived.Deep.RegionHeld3
import Derived.KernelRfl
import Derived.Laws.BitsLemmas
import Derived.Laws.BytesArg
import Derived.Laws.IdiomCopy
import Derived.Laws.MakeOwn
import Derived.Laws.OwnMore
import Derived.Laws.Rows
import Derived.Laws.Slices
import Derived.Laws.StructEq
import Derived.Lib.AppendStr
import Derived.Lib.ConvBytes
import Derived.LoopTactic
import Derived.Maps.AppendAt
import Derived.OrdersHeld
import Derived.OwnWalk
import Derived.RowKit
import Derived.RowKit3
import Derived.Tactics
import Derived.WalkKit
import Derived.WideLaws
import Derived.Test.YtlkdlibbbekipaaDoorProg
import Derived.Test.YtlkdlibbbekipaaDoorYWApart
import Derived.Test.YtlkdlibbbekipaaDoorYWAuto
import Derived.Test.YtlkdlibbbekipaaDoorYWFoot
import Derived.Test.YtlkdlibbbekipaaDoorYWGuard
import Derived.Test.YtlkdlibbbekipaaDoorYWIdx
import Derived.Test.YtlkdlibbbekipaaDoorYWKept
import Derived.Test.YtlkdlibbbekipaaDoorYWLast
import Derived.Test.YtlkdlibbbekipaaDoorYWMore
import Derived.Test.YtlkdlibbbekipaaDoorYWN
import Derived.Test.YtlkdlibbbekipaaDoorYWRepsOne
import Derived.Test.YtlkdlibbbekipaaDoorYWShare
import Derived.Test.YtlkdlibbbekipaaDoorYWSome
import Derived.Test.YtlkdlibbbekipaaDoorYWTab
import Derived.Test.YtlkdlibbbekipaaDoorYWWords
section
namespace Go.Proofs.YtlkdlibbbekipaaDoor.P
open Go.RowKit Go.Proofs.YtlkdlibbbekipaaDoorW.PrintWords Go.Proofs.YtlkdlibbbekipaaDoorW.PrintLast Go.Proofs.YtlkdlibbbekipaaDoorW.PrintMore
attribute [local go_sem] jaa jY jka jja jR jQ jZ jX jf
set_option linter.unusedVariables false
set_option linter.unusedSimpArgs false
def errW : Option Int → Value
 | none=>.nilIface
 | some c=>.iface 0 (.int .i64 c)
theorem errW_none : errW none = .nilIface := rfl
theorem errW_some (c : Int) : errW (some c) = .iface 0 (.int .i64 c) := rfl
theorem info42 : (Tryd.prog.info? 42).map (fun i => (i.zero, i.size, i.bytes)) = some (some (.agg #[(.int .i64 0), (.int .i64 0), (.int .i64 0)]), 3, 24) := by kernel_rfl
theorem info63 : (Tryd.prog.info? 63).map (fun i => (i.zero, i.size, i.bytes)) = some (some (.agg #[(.string ⟨#[]⟩), (.int .i64 0)]), 2, 24) := by kernel_rfl
structure S59 where
 f0:ByteArray
 f1:Int
def z59 : S59 := ⟨(⟨#[]⟩ : ByteArray), (0 : Int)⟩
def k59 : Kd S59 := Kd.iso (Kd.pair Kd.string (Kd.int .i64)) (fun x : S59 => (x.f0, x.f1))
theorem k59_open {w : World} {x : S59} {cs : List Value} (h : k59.K w x cs) : cs = [.string x.f0, .int .i64 x.f1] := by
 obtain ⟨_,_,rfl,rfl,rfl⟩:=h
 exact rfl
theorem k59_mk (w : World) (x : S59)  : k59.K w x [.string x.f0, .int .i64 x.f1] := ⟨[.string x.f0], [.int .i64 x.f1], rfl, rfl, rfl⟩
def jya (xs : List S59) (i : Int) : S59 := xs.getD i.toNat z59
theorem at_T59 {w : World} {A : Option Addr} {n : Nat} {xs : List S59} (h : Kd.C k59 w A n xs) (i : Int) (h0 : 0 ≤ i) (h1 : i < n) : ∃ ad , A = some ad ∧ w.cell? (ad.add (i.toNat * 2)) = some (.string (jya xs i).f0) ∧ w.cell? ⟨(ad.add (i.toNat * 2)).block, (ad.add (i.toNat * 2)).off + 1, none⟩ = some (.int .i64 (jya xs i).f1) := by
 obtain ⟨ad,c,e,_,hK,hc0⟩:=Kd.C_get h z59 i h0 h1
 have hc:∀ j u,c[j]?=some u→w.cell? (ad.add (i.toNat * 2+j))=some u:=hc0
 obtain rfl:=k59_open hK
 exact ⟨ad,e,hc 0 _ rfl,by rw [← jTa _ _ 1 (by omega)];exact hc 1 _ rfl⟩
structure S44 where
 f0:Int
 f1:Int
 f2:Int
def z44 : S44 := ⟨(0 : Int), (0 : Int), (0 : Int)⟩
def k44 : Kd S44 := Kd.iso (Kd.pair (Kd.int .i64) (Kd.pair (Kd.int .i64) (Kd.int .i64))) (fun x : S44 => (x.f0, x.f1, x.f2))
theorem k44_open {w : World} {x : S44} {cs : List Value} (h : k44.K w x cs) : cs = [.int .i64 x.f0, .int .i64 x.f1, .int .i64 x.f2] := by
 obtain ⟨_,_,rfl,rfl,⟨_,_,rfl,rfl,rfl⟩⟩:=h
 exact rfl
theorem k44_mk (w : World) (x : S44)  : k44.K w x [.int .i64 x.f0, .int .i64 x.f1, .int .i64 x.f2] := ⟨[.int .i64 x.f0], [.int .i64 x.f1, .int .i64 x.f2], rfl, rfl, ⟨[.int .i64 x.f1], [.int .i64 x.f2], rfl, rfl, rfl⟩⟩
def jSa (xs : List S44) (i : Int) : S44 := xs.getD i.toNat z44
theorem at_T44 {w : World} {A : Option Addr} {n : Nat} {xs : List S44} (h : Kd.C k44 w A n xs) (i : Int) (h0 : 0 ≤ i) (h1 : i < n) : ∃ ad , A = some ad ∧ w.cell? (ad.add (i.toNat * 3)) = some (.int .i64 (jSa xs i).f0) ∧ w.cell? ⟨(ad.add (i.toNat * 3)).block, (ad.add (i.toNat * 3)).off + 1, none⟩ = some (.int .i64 (jSa xs i).f1) ∧ w.cell? ⟨(ad.add (i.toNat * 3)).block, (ad.add (i.toNat * 3)).off + 2, none⟩ = some (.int .i64 (jSa xs i).f2) := by
 obtain ⟨ad,c,e,_,hK,hc0⟩:=Kd.C_get h z44 i h0 h1
 have hc:∀ j u,c[j]?=some u→w.cell? (ad.add (i.toNat * 3+j))=some u:=hc0
 obtain rfl:=k44_open hK
 exact ⟨ad,e,hc 0 _ rfl,by rw [← jTa _ _ 1 (by omega)];exact hc 1 _ rfl,by rw [← jTa _ _ 2 (by omega)];exact hc 2 _ rfl⟩
structure S63 where
 f0:ByteArray
 f1:Int
def z63 : S63 := ⟨(⟨#[]⟩ : ByteArray), (0 : Int)⟩
def k63 : Kd S63 := Kd.iso (Kd.pair Kd.string (Kd.int .i64)) (fun x : S63 => (x.f0, x.f1))
theorem k63_open {w : World} {x : S63} {cs : List Value} (h : k63.K w x cs) : cs = [.string x.f0, .int .i64 x.f1] := by
 obtain ⟨_,_,rfl,rfl,rfl⟩:=h
 exact rfl
theorem k63_openM {w : World} {base : Nat} {ok : Nat → Prop} {x : S63} {cs : List Value} (h : k63.M w base ok x cs) : cs = [.string x.f0, .int .i64 x.f1] := by
 obtain ⟨_,_,rfl,rfl,rfl⟩:=h
 exact rfl
theorem k63_mkM (w : World) (base : Nat) (ok : Nat → Prop) (x : S63)  : k63.M w base ok x [.string x.f0, .int .i64 x.f1] := ⟨[.string x.f0], [.int .i64 x.f1], rfl, rfl, rfl⟩
def jg (xs : List S63) (i : Int) : S63 := xs.getD i.toNat z63
theorem jKa {w : World} {A : Option Addr} {n : Nat} {xs : List S63} (h : Kd.C k63 w A n xs) (i : Int) (h0 : 0 ≤ i) (h1 : i < n) : ∃ ad , A = some ad ∧ w.cell? (ad.add (i.toNat * 2)) = some (.string (jg xs i).f0) ∧ w.cell? ⟨(ad.add (i.toNat * 2)).block, (ad.add (i.toNat * 2)).off + 1, none⟩ = some (.int .i64 (jg xs i).f1) := by
 obtain ⟨ad,c,e,_,hK,hc0⟩:=Kd.C_get h z63 i h0 h1
 have hc:∀ j u,c[j]?=some u→w.cell? (ad.add (i.toNat * 2+j))=some u:=hc0
 obtain rfl:=k63_open hK
 exact ⟨ad,e,hc 0 _ rfl,by rw [← jTa _ _ 1 (by omega)];exact hc 1 _ rfl⟩
structure S42 where
 f0:Int
 f1:Int
 f2:Int
def z42 : S42 := ⟨(0 : Int), (0 : Int), (0 : Int)⟩
def k42 : Kd S42 := Kd.iso (Kd.pair (Kd.int .i64) (Kd.pair (Kd.int .i64) (Kd.int .i64))) (fun x : S42 => (x.f0, x.f1, x.f2))
theorem k42_open {w : World} {x : S42} {cs : List Value} (h : k42.K w x cs) : cs = [.int .i64 x.f0, .int .i64 x.f1, .int .i64 x.f2] := by
 obtain ⟨_,_,rfl,rfl,⟨_,_,rfl,rfl,rfl⟩⟩:=h
 exact rfl
theorem k42_openM {w : World} {base : Nat} {ok : Nat → Prop} {x : S42} {cs : List Value} (h : k42.M w base ok x cs) : cs = [.int .i64 x.f0, .int .i64 x.f1, .int .i64 x.f2] := by
 obtain ⟨_,_,rfl,rfl,⟨_,_,rfl,rfl,rfl⟩⟩:=h
 exact rfl
theorem k42_mkM (w : World) (base : Nat) (ok : Nat → Prop) (x : S42)  : k42.M w base ok x [.int .i64 x.f0, .int .i64 x.f1, .int .i64 x.f2] := ⟨[.int .i64 x.f0], [.int .i64 x.f1, .int .i64 x.f2], rfl, rfl, ⟨[.int .i64 x.f1], [.int .i64 x.f2], rfl, rfl, rfl⟩⟩
def jy (xs : List S42) (i : Int) : S42 := xs.getD i.toNat z42
theorem at_T42 {w : World} {A : Option Addr} {n : Nat} {xs : List S42} (h : Kd.C k42 w A n xs) (i : Int) (h0 : 0 ≤ i) (h1 : i < n) : ∃ ad , A = some ad ∧ w.cell? (ad.add (i.toNat * 3)) = some (.int .i64 (jy xs i).f0) ∧ w.cell? ⟨(ad.add (i.toNat * 3)).block, (ad.add (i.toNat * 3)).off + 1, none⟩ = some (.int .i64 (jy xs i).f1) ∧ w.cell? ⟨(ad.add (i.toNat * 3)).block, (ad.add (i.toNat * 3)).off + 2, none⟩ = some (.int .i64 (jy xs i).f2) := by
 obtain ⟨ad,c,e,_,hK,hc0⟩:=Kd.C_get h z42 i h0 h1
 have hc:∀ j u,c[j]?=some u→w.cell? (ad.add (i.toNat * 3+j))=some u:=hc0
 obtain rfl:=k42_open hK
 exact ⟨ad,e,hc 0 _ rfl,by rw [← jTa _ _ 1 (by omega)];exact hc 1 _ rfl,by rw [← jTa _ _ 2 (by omega)];exact hc 2 _ rfl⟩
def jua.f (a0_0 : ByteArray) (a0_1 : Int) (a1 : Int) : Option (Int) := if (wrap64 (a1 - (a0_0.size : Int))) < 0 then (some (-1)) else (some (wrap64 (a1 - (a0_0.size : Int))))
set_option maxHeartbeats 8000000 in
set_option maxRecDepth 100000 in
theorem jua.calls (a0_0 : ByteArray) (a0_1 : Int) (a1 : Int) (r : Int) (w : World) (h : jua.f a0_0 a0_1 a1 = some r) :
  Calls Tryd.prog 23 #[.agg #[.string a0_0, .int .i64 a0_1], .int .i64 a1] w fun e w'=>e=.returned (.int .i64 r)∧Below w.heap.size w w':=by
 have hu59:=Tryd.underlying59
 have HB:=am (Below.refl w.heap.size w)
 have H:(if (wrap64 (a1 - (a0_0.size:Int)))<0 then (some (-1)) else (some (wrap64 (a1 - (a0_0.size:Int)))))=some r:=h
 clear h
 by_cases c3:(wrap64 (a1 - (a0_0.size:Int)))<0
 ·rw [if_pos c3] at H
  have c3b0:decide ((wrap64 (a1 - (a0_0.size:Int)))<0)=true:=dzT c3
  clear c3
  obtain rfl:=Option.some.inj H
  go_enter Tryd.func23,Tryd.ntmps23
  go_wp2_with (first |((with_reducible refine jr (N:=2) rfl ?_);refine bE (N:=2) (cs:=#[.string a0_0, .int .i64 a0_1]) (t:=59) ?_;intro gb101 hg w4 hbox hb;have BK101:=am (hbox);have GW101:=am ((Y0:w.heap.size≤gb101));have GE101:=am ((Y0:w.heap.size≤gb101));replace HB:=am (jb (bq) hb);clear hb hbox hg;have hcz5_0:=bc0 BK101.out;have hcz5_1:=bc1 BK101.out;have hfz5_0:=ja BK101.out 0;have hfz5_1:=ja BK101.out 1))
  go_ret
  exact ⟨Y1,Y36⟩
 ·rw [if_neg c3] at H
  have c3b0:decide ((wrap64 (a1 - (a0_0.size:Int)))<0)=false:=dzF c3
  clear c3
  obtain rfl:=Option.some.inj H
  go_enter Tryd.func23,Tryd.ntmps23
  go_wp2_with (first |((with_reducible refine jr (N:=2) rfl ?_);refine bE (N:=2) (cs:=#[.string a0_0, .int .i64 a0_1]) (t:=59) ?_;intro gb101 hg w6 hbox hb;have BK101:=am (hbox);have GW101:=am ((Y0:w.heap.size≤gb101));have GE101:=am ((Y0:w.heap.size≤gb101));replace HB:=am (jb (bq) hb);clear hb hbox hg;have hcz7_0:=bc0 BK101.out;have hcz7_1:=bc1 BK101.out;have hfz7_0:=ja BK101.out 0;have hfz7_1:=ja BK101.out 1))
  go_ret
  exact ⟨Y1,Y36⟩
def jL.l0 : Nat → List (S59) → Int → Int → Option (Int)
 | 0,_,_,_=>none
 | k+1,x0,x1,x5=>if x5<(x0.length:Int) then (if 0≤x5 then ((jua.f ((jya x0 x5).f0) ((jya x0 x5).f1) x1).bind fun t103=>(if t103<0 then (some (-1)) else (jL.l0 k x0 t103 (wrap64 (x5+1))))) else (none)) else (some x1)
def jL.f (k : Nat) (l0 : List (S59)) (a1 : Int) : Option (Int) := if (wrap64 (a1 - (l0.length : Int))) < 0 then (some (-1)) else (jL.l0 k l0 (wrap64 (a1 - (l0.length : Int))) 0)
set_option maxHeartbeats 8000000 in
set_option maxRecDepth 100000 in
theorem jL.calls (k : Nat) (A0 : Option Addr) (c0 : Nat) (l0 : List (S59)) (a1 : Int) (r : Int) (w : World) (hr0 : Kd.C k59 w A0 l0.length l0) (hc0 : l0.length ≤ c0) (h : jL.f k l0 a1 = some r) :
  Calls Tryd.prog 12 #[.slice A0 l0.length c0, .int .i64 a1] w fun e w'=>e=.returned (.int .i64 r)∧Below w.heap.size w w':=by
 have hu59:=Tryd.underlying59
 have HR0:=am hr0
 have HC0:=am hc0
 clear hr0 hc0
 have HB:=am (Below.refl w.heap.size w)
 have H:(if (wrap64 (a1 - (l0.length:Int)))<0 then (some (-1)) else (jL.l0 k l0 (wrap64 (a1 - (l0.length:Int))) 0))=some r:=h
 clear h
 by_cases c3:(wrap64 (a1 - (l0.length:Int)))<0
 ·rw [if_pos c3] at H
  have c3b0:decide ((wrap64 (a1 - (l0.length:Int)))<0)=true:=dzT c3
  clear c3
  obtain rfl:=Option.some.inj H
  go_enter Tryd.func12,Tryd.ntmps12
  go_wp2
  go_ret
  exact ⟨Y1,bq⟩
 ·rw [if_neg c3] at H
  have c3b0:decide ((wrap64 (a1 - (l0.length:Int)))<0)=false:=dzF c3
  clear c3
  have H':=am H
  clear H
  go_enter Tryd.func12,Tryd.ntmps12
  go_wp2
  go_loopg [1,5] k (fun kq v1 v5 w'=>∃ (x1_1:Int) (x5_1:Int),v1=.int .i64 x1_1∧v5=.int .i64 x5_1∧jJ (jL.l0 kq l0 x1_1 x5_1=some r)∧jJ (kq≤k)∧jJ (Below w.heap.size w w'))
  case atStart=>exact ⟨(wrap64 (a1 - (l0.length:Int))),(0),(sq),(sq),H',⟨Nat.le_refl _⟩,⟨bq⟩⟩
  case round =>
   clear H'
   try clear c1
   try clear p2
   try clear c3
   try clear c3b0
   obtain ⟨x1_1,x5_1,rfl,rfl,HA,HK1,HB⟩:=hrel
   cases gk with
   | zero=>exact absurd HA.out (by simp [jL.l0])
   | succ k1 =>
    have H:=HA.out
    clear HA
    simp only [jL.l0] at H
    by_cases c4:x5_1<(l0.length:Int)
    ·rw [if_pos c4] at H
     have c4b0:decide (x5_1<(l0.length:Int))=true:=dzT c4
     clear c4
     by_cases c5:0≤x5_1
     ·rw [if_pos c5] at H
      have c5b0:decide (0≤x5_1)=true:=dzT c5
      clear c5
      replace H:=bzS H
      obtain ⟨t103,A60,H⟩:=H
      replace H:(if t103<0 then (some (-1)) else (jL.l0 k1 l0 t103 (wrap64 (x5_1+1))))=some r:=H
      have A6:=am A60
      clear A60
      by_cases c7:t103<0
      ·rw [if_pos c7] at H
       have c7b0:decide (t103<0)=true:=dzT c7
       clear c7
       obtain rfl:=Option.some.inj H
       have p102:0≤(x5_1:Int):=ozD (uq)
       have q102:x5_1<(l0.length:Int):=ozD (uq)
       obtain ⟨ad102,e102,hx102_0,hx102_1⟩:=at_T59 HR0.out x5_1 p102 q102
       cases e102
       replace hx102_0:=cb HB.out hx102_0
       replace hx102_1:=cb HB.out hx102_1
       replace p102:=ezT p102
       replace q102:=ezT q102
       go_wp2_with (first |((with_reducible refine jl (f:=23) rfl ?_);refine gL (some 23) Tryd.func23 #[.agg #[.string ((jya l0 x5_1).f0), .int .i64 ((jya l0 x5_1).f1)], .int .i64 x1_1] ?_;(with_reducible refine (jua.calls ((jya l0 x5_1).f0) ((jya l0 x5_1).f1) x1_1 t103 _ A6.out).mono ?_);rintro e w8 ⟨rfl,hb⟩;refine ⟨_,rfl,?_⟩;replace HB:=am (jb (bq) hb);(try clear hb);(try clear hb2);(try clear hk);(try clear hi)))
       go_ret
       exact ⟨Y1,bq⟩
      ·rw [if_neg c7] at H
       have c7b0:decide (t103<0)=false:=dzF c7
       clear c7
       have H':=am H
       clear H
       have p102:0≤(x5_1:Int):=ozD (uq)
       have q102:x5_1<(l0.length:Int):=ozD (uq)
       obtain ⟨ad102,e102,hx102_0,hx102_1⟩:=at_T59 HR0.out x5_1 p102 q102
       cases e102
       replace hx102_0:=cb HB.out hx102_0
       replace hx102_1:=cb HB.out hx102_1
       replace p102:=ezT p102
       replace q102:=ezT q102
       go_wp2_with (first |((with_reducible refine jl (f:=23) rfl ?_);refine gL (some 23) Tryd.func23 #[.agg #[.string ((jya l0 x5_1).f0), .int .i64 ((jya l0 x5_1).f1)], .int .i64 x1_1] ?_;(with_reducible refine (jua.calls ((jya l0 x5_1).f0) ((jya l0 x5_1).f1) x1_1 t103 _ A6.out).mono ?_);rintro e w9 ⟨rfl,hb⟩;refine ⟨_,rfl,?_⟩;replace HB:=am (jb (bq) hb);(try clear hb);(try clear hb2);(try clear hk);(try clear hi)))
       go_roundg k1
       case measure=>have:=HK1.out;omega
       case rel=>exact ⟨(t103),(wrap64 (x5_1+1)),(sq),(sq),H',⟨by have:=HK1.out;omega⟩,⟨bq⟩⟩
     ·rw [if_neg c5] at H
      exact absurd H (by simp)
    ·rw [if_neg c4] at H
     have c4b0:decide (x5_1<(l0.length:Int))=false:=dzF c4
     clear c4
     obtain rfl:=Option.some.inj H
     go_wp2
     go_ret
     exact ⟨Y1,bq⟩
def jsa.f (k : Nat) (l0_0 : List (S59)) (a1 : Int) : Option (Int) := (jL.f k l0_0 a1).bind fun t105 => (if t105 < 0 then (some (-1)) else (some t105))
set_option maxHeartbeats 8000000 in
set_option maxRecDepth 100000 in
theorem jsa.calls (k : Nat) (A0_0 : Option Addr) (c0_0 : Nat) (l0_0 : List (S59)) (a1 : Int) (r : Int) (w : World) (hr0_0 : Kd.C k59 w A0_0 l0_0.length l0_0) (hc0_0 : l0_0.length ≤ c0_0) (h : jsa.f k l0_0 a1 = some r) :
  Calls Tryd.prog 4 #[.agg #[.slice A0_0 l0_0.length c0_0], .int .i64 a1] w fun e w'=>e=.returned (.int .i64 r)∧Below w.heap.size w w':=by
 have hu24:=Tryd.underlying24
 have HR0_0:=am hr0_0
 have HC0_0:=am hc0_0
 clear hr0_0 hc0_0
 have HB:=am (Below.refl w.heap.size w)
 have H:((jL.f k l0_0 a1).bind fun t105=>(if t105<0 then (some (-1)) else (some t105)))=some r:=h
 clear h
 replace H:=bzS H
 obtain ⟨t105,A30,H⟩:=H
 replace H:(if t105<0 then (some (-1)) else (some t105))=some r:=H
 have A3:=am A30
 clear A30
 by_cases c4:t105<0
 ·rw [if_pos c4] at H
  have c4b0:decide (t105<0)=true:=dzT c4
  clear c4
  obtain rfl:=Option.some.inj H
  go_enter Tryd.func4,Tryd.ntmps4
  go_wp2_with (first |((with_reducible refine jr (N:=2) rfl ?_);refine bE (N:=2) (cs:=#[.slice A0_0 l0_0.length c0_0]) (t:=24) ?_;intro gb104 hg w5 hbox hb;have BK104:=am (hbox);have GW104:=am ((Y0:w.heap.size≤gb104));have GE104:=am ((Y0:w.heap.size≤gb104));replace HB:=am (jb (bq) hb);clear hb hbox hg;have hcz6_0:=bc0 BK104.out;have hfz6_0:=ja BK104.out 0) |((with_reducible refine jl (f:=12) rfl ?_);refine gL (some 8) Tryd.func12 #[.slice A0_0 l0_0.length c0_0, .int .i64 a1] ?_;(with_reducible refine (jL.calls k _ _ l0_0 a1 t105 _ ?side1 ?side2 A3.out).mono ?_);(case side1=>exact cq (Kd.jD HR0_0.out HB.out));(case side2=>exact HC0_0.out);rintro e w7 ⟨rfl,hb⟩;refine ⟨_,rfl,?_⟩;replace BK104:=am (jc (g:=gb104) (o:=.cells #[.slice A0_0 l0_0.length c0_0] 24 (0,0)) (kq BK104.out) hb);replace HB:=am (jb (Y18) hb);(try clear hb);(try clear hb2);(try clear hk);(try clear hi)))
  go_ret
  exact ⟨Y1,Y18⟩
 ·rw [if_neg c4] at H
  have c4b0:decide (t105<0)=false:=dzF c4
  clear c4
  obtain rfl:=Option.some.inj H
  go_enter Tryd.func4,Tryd.ntmps4
  go_wp2_with (first |((with_reducible refine jr (N:=2) rfl ?_);refine bE (N:=2) (cs:=#[.slice A0_0 l0_0.length c0_0]) (t:=24) ?_;intro gb104 hg w8 hbox hb;have BK104:=am (hbox);have GW104:=am ((Y0:w.heap.size≤gb104));have GE104:=am ((Y0:w.heap.size≤gb104));replace HB:=am (jb (bq) hb);clear hb hbox hg;have hcz9_0:=bc0 BK104.out;have hfz9_0:=ja BK104.out 0) |((with_reducible refine jl (f:=12) rfl ?_);refine gL (some 8) Tryd.func12 #[.slice A0_0 l0_0.length c0_0, .int .i64 a1] ?_;(with_reducible refine (jL.calls k _ _ l0_0 a1 t105 _ ?side1 ?side2 A3.out).mono ?_);(case side1=>exact cq (Kd.jD HR0_0.out HB.out));(case side2=>exact HC0_0.out);rintro e w10 ⟨rfl,hb⟩;refine ⟨_,rfl,?_⟩;replace BK104:=am (jc (g:=gb104) (o:=.cells #[.slice A0_0 l0_0.length c0_0] 24 (0,0)) (kq BK104.out) hb);replace HB:=am (jb (Y18) hb);(try clear hb);(try clear hb2);(try clear hk);(try clear hi)))
  go_ret
  exact ⟨Y1,Y18⟩
def jqa.f (l0 : List (S44)) (a1 : Int) : Option (Int) := if (wrap64 (a1 - (l0.length : Int))) < 0 then (some (-1)) else (some (wrap64 (a1 - (l0.length : Int))))
set_option maxHeartbeats 8000000 in
set_option maxRecDepth 100000 in
theorem jqa.calls (A0 : Option Addr) (c0 : Nat) (l0 : List (S44)) (a1 : Int) (r : Int) (w : World) (hr0 : Kd.C k44 w A0 l0.length l0) (hc0 : l0.length ≤ c0) (h : jqa.f l0 a1 = some r) :
  Calls Tryd.prog 5 #[.slice A0 l0.length c0, .int .i64 a1] w fun e w'=>e=.returned (.int .i64 r)∧jza w w':=by
 have HR0:=am hr0
 have HC0:=am hc0
 clear hr0 hc0
 have H:(if (wrap64 (a1 - (l0.length:Int)))<0 then (some (-1)) else (some (wrap64 (a1 - (l0.length:Int)))))=some r:=h
 clear h
 by_cases c3:(wrap64 (a1 - (l0.length:Int)))<0
 ·rw [if_pos c3] at H
  have c3b0:decide ((wrap64 (a1 - (l0.length:Int)))<0)=true:=dzT c3
  clear c3
  obtain rfl:=Option.some.inj H
  go_enter Tryd.func5,Tryd.ntmps5
  go_wp2
  go_ret
  exact ⟨sq,Y3⟩
 ·rw [if_neg c3] at H
  have c3b0:decide ((wrap64 (a1 - (l0.length:Int)))<0)=false:=dzF c3
  clear c3
  obtain rfl:=Option.some.inj H
  go_enter Tryd.func5,Tryd.ntmps5
  go_wp2
  go_ret
  exact ⟨sq,Y3⟩
def jE.f (a0 : Int) (a1 : Int) (a2 : Int) : Option (Bool) := if a1 ≤ a0 then (some (decide (a0 ≤ a2))) else (some false)
set_option maxHeartbeats 8000000 in
set_option maxRecDepth 100000 in
theorem jE.calls (a0 : Int) (a1 : Int) (a2 : Int) (r : Bool) (w : World) (h : jE.f a0 a1 a2 = some r) :
  Calls Tryd.prog 36 #[.int .i64 a0, .int .i64 a1, .int .i64 a2] w fun e w'=>e=.returned (.bool r)∧jza w w':=by
 have H:(if a1≤a0 then (some (decide (a0≤a2))) else (some false))=some r:=h
 clear h
 by_cases c4:a1≤a0
 ·rw [if_pos c4] at H
  have c4b0:decide (a1≤a0)=true:=dzT c4
  clear c4
  obtain rfl:=Option.some.inj H
  go_enter Tryd.func36,Tryd.ntmps36
  go_wp2
  go_ret
  exact ⟨sq,Y3⟩
 ·rw [if_neg c4] at H
  have c4b0:decide (a1≤a0)=false:=dzF c4
  clear c4
  obtain rfl:=Option.some.inj H
  go_enter Tryd.func36,Tryd.ntmps36
  go_wp2
  go_ret
  exact ⟨sq,Y3⟩
def jga.f (l0_0 : List (S63)) (a1 : Int) : Option (Bool) := (jE.f a1 0 (wrap64 ((l0_0.length : Int) - 1))).bind fun t107 => (some t107)
set_option maxHeartbeats 8000000 in
set_option maxRecDepth 100000 in
theorem jga.calls (A0_0 : Option Addr) (c0_0 : Nat) (l0_0 : List (S63)) (a1 : Int) (r : Bool) (w : World) (hr0_0 : Kd.C k63 w A0_0 l0_0.length l0_0) (hc0_0 : l0_0.length ≤ c0_0) (h : jga.f l0_0 a1 = some r) :
  Calls Tryd.prog 37 #[.agg #[.slice A0_0 l0_0.length c0_0], .int .i64 a1] w fun e w'=>e=.returned (.bool r)∧Below w.heap.size w w':=by
 have hu31:=Tryd.underlying31
 have HR0_0:=am hr0_0
 have HC0_0:=am hc0_0
 clear hr0_0 hc0_0
 have HB:=am (Below.refl w.heap.size w)
 have H:((jE.f a1 0 (wrap64 ((l0_0.length:Int) - 1))).bind fun t107=>(some t107))=some r:=h
 clear h
 replace H:=bzS H
 obtain ⟨t107,A30,H⟩:=H
 replace H:(some t107)=some r:=H
 have A3:=am A30
 clear A30
 obtain rfl:=Option.some.inj H
 go_enter Tryd.func37,Tryd.ntmps37
 go_wp2_with (first |((with_reducible refine jr (N:=2) rfl ?_);refine bE (N:=2) (cs:=#[.slice A0_0 l0_0.length c0_0]) (t:=31) ?_;intro gb106 hg w4 hbox hb;have BK106:=am (hbox);have GW106:=am ((Y0:w.heap.size≤gb106));have GE106:=am ((Y0:w.heap.size≤gb106));replace HB:=am (jb (bq) hb);clear hb hbox hg;have hcz5_0:=bc0 BK106.out;have hfz5_0:=ja BK106.out 0) |((with_reducible refine jl (f:=36) rfl ?_);refine gL (some 10) Tryd.func36 #[.int .i64 a1, .int .i64 0, .int .i64 (wrap64 ((l0_0.length:Int) - 1))] ?_;(with_reducible refine (jE.calls a1 0 (wrap64 ((l0_0.length:Int) - 1)) t107 _ A3.out).mono ?_);rintro e w' ⟨rfl,⟨nd,rfl⟩⟩;refine ⟨_,rfl,?_⟩))
 go_ret
 exact ⟨Y1,by repeat (first |(with_reducible first | exact HB.out | apply ji | apply jd | apply jh | refine jk ?_ GE106.out) | exact HB.out)⟩
def jM.j0 : Nat → Int → Bool → List (S63) → Int → Int → Int → Option (Bool)
 | 0,_,_,_,_,_,_=>none
 | k+1,x6,x7,x109000,x110000,x110001,x110002=>if x7=true then ((jE.f x110001 0 99).bind fun t110=>(if t110=true then (some (x110002 == 0)) else (some false))) else (if x6=2 then ((jga.f x109000 x110001).bind fun t111=>(if t111=true then (some (x110002 == 0)) else (some false))) else (if x6=3 then ((jga.f x109000 x110001).bind fun t112=>(if t112=true then ((jE.f x110002 0 99).bind fun t113=>(some t113)) else (some false))) else (some false)))
def jM.f (k : Nat) (l0_0 : List (S63)) (a1_0 : Int) (a1_1 : Int) (a1_2 : Int) : Option (Bool) := if a1_0 = 0 then (jM.j0 k a1_0 (a1_0 == 0) l0_0 a1_0 a1_1 a1_2) else (jM.j0 k a1_0 (a1_0 == 1) l0_0 a1_0 a1_1 a1_2)
set_option maxHeartbeats 8000000 in
set_option maxRecDepth 100000 in
theorem jM.calls (k : Nat) (A0_0 : Option Addr) (c0_0 : Nat) (l0_0 : List (S63)) (a1_0 : Int) (a1_1 : Int) (a1_2 : Int) (r : Bool) (w : World) (hr0_0 : Kd.C k63 w A0_0 l0_0.length l0_0) (hc0_0 : l0_0.length ≤ c0_0) (h : jM.f k l0_0 a1_0 a1_1 a1_2 = some r) :
  Calls Tryd.prog 24 #[.agg #[.slice A0_0 l0_0.length c0_0], .agg #[.int .i64 a1_0, .int .i64 a1_1, .int .i64 a1_2]] w fun e w'=>e=.returned (.bool r)∧Below w.heap.size w w':=by
 have hu31:=Tryd.underlying31
 have hu42:=Tryd.underlying42
 have HR0_0:=am hr0_0
 have HC0_0:=am hc0_0
 clear hr0_0 hc0_0
 have HB:=am (Below.refl w.heap.size w)
 have H:(if a1_0=0 then (jM.j0 k a1_0 (a1_0 == 0) l0_0 a1_0 a1_1 a1_2) else (jM.j0 k a1_0 (a1_0 == 1) l0_0 a1_0 a1_1 a1_2))=some r:=h
 clear h
 have HC3:=am H
 clear H
 go_enter Tryd.func24,Tryd.ntmps24
 go_upto_if 7 with (first |((with_reducible refine jr (N:=2) rfl ?_);refine bE (N:=2) (cs:=#[.slice A0_0 l0_0.length c0_0]) (t:=31) ?_;intro gb108 hg w4 hbox hb;have BK108:=am (hbox);have GW108:=am ((Y0:w.heap.size≤gb108));have GE108:=am ((Y0:w.heap.size≤gb108));replace HB:=am (jb (bq) hb);clear hb hbox hg) |((with_reducible refine jr (N:=3) rfl ?_);refine bE (N:=3) (cs:=#[.int .i64 a1_0, .int .i64 a1_1, .int .i64 a1_2]) (t:=42) ?_;intro gb109 hg w5 hbox hb;have BK109:=am (hbox);have GW109:=am ((Y37:w.heap.size≤gb109));have GE109:=am ((Y37:w.heap.size≤gb109));have NB108_109:=am ((by rw [hg];exact Nat.ne_of_lt (jma (g:=gb108) (o:=.cells #[.slice A0_0 l0_0.length c0_0] 31 (0,0)) (kq BK108.out)):gb108≠gb109));have NB109_108:=am ((by rw [hg];exact Nat.ne_of_gt (jma (g:=gb108) (o:=.cells #[.slice A0_0 l0_0.length c0_0] 31 (0,0)) (kq BK108.out)):gb109≠gb108));replace BK108:=am (jc (g:=gb108) (o:=.cells #[.slice A0_0 l0_0.length c0_0] 31 (0,0)) (kq BK108.out) hb);replace HB:=am (jb (by repeat (first |(with_reducible first | exact HB.out | apply ji | apply jd | apply jh | refine jk ?_ GE108.out) | exact HB.out)) hb);clear hb hbox hg;have hnb6:=NB109_108.out;have hnc6:=NB108_109.out;have hcz7_0:=bc0 BK109.out;have hcz7_1:=bc1 BK109.out;have hcz7_2:=bc2 BK109.out;have hfz7_0:=ja BK109.out 0;have hfz7_1:=ja BK109.out 1;have hfz7_2:=ja BK109.out 2))
 (try simp only [Act.put,List.setIfInBounds_toArray,List.set_cons_zero,List.set_cons_succ])
 go_cut [7] (fun v7 wc=>∃ (kq:Nat) (x7_2:Bool),v7=.bool x7_2∧jJ (jM.j0 kq a1_0 x7_2 l0_0 a1_0 a1_1 a1_2=some r)∧jJ (kq≤k)∧jJ (wc.heap[gb108]?=some (.cells #[(.slice A0_0 l0_0.length c0_0)] 31 (0,0)))∧jJ (wc.heap[gb109]?=some (.cells #[.int .i64 a1_0, .int .i64 a1_1, .int .i64 a1_2] 42 (0,0)))∧jJ (Below w.heap.size w wc))
 case first =>
  have H:=HC3.out
  clear HC3
  by_cases c8:a1_0=0
  ·rw [if_pos c8] at H
   have c8b0:(a1_0 == 0)=true:=beq_iff_eq.mpr c8
   have c8b1:(a1_0 != 0)=false:=bne_eq_false_iff_eq.mpr c8
   clear c8
   (first | rw [c8b0] |(simp only [i64_w,i32_w];rw [c8b0]) | skip)
   have H':=am H
   clear H
   go_wp2
   go_meet
   case rel=>exact ⟨_,((a1_0 == 0)),(sq),H',⟨by first | omega | exact Nat.le_refl _⟩,⟨kq BK108.out⟩,⟨kq BK109.out⟩,⟨Y6⟩⟩
  ·rw [if_neg c8] at H
   have c8b0:(a1_0 == 0)=false:=beq_eq_false_iff_ne.mpr c8
   have c8b1:(a1_0 != 0)=true:=bne_iff_ne.mpr c8
   (first | rw [c8b0] |(simp only [i64_w,i32_w];rw [c8b0]) | skip)
   have H':=am H
   clear H
   go_wp2
   go_meet
   case rel=>exact ⟨_,((a1_0 == 1)),(sq),H',⟨by first | omega | exact Nat.le_refl _⟩,⟨kq BK108.out⟩,⟨kq BK109.out⟩,⟨Y6⟩⟩
 case rest =>
  clear HC3
  try clear c2
  try clear p2
  try clear c6
  try clear c8
  try clear c8b0
  try clear c8b1
  try clear hcz7_0
  try clear hcz7_1
  try clear hcz7_2
  try clear hfz7_0
  try clear hfz7_1
  try clear hfz7_2
  obtain ⟨kq,x7_2,rfl,HA,HJ2,BK108,BK109,HB⟩:=hcut
  cases kq with
  | zero=>exact absurd HA.out (by simp [jM.j0])
  | succ kj2 =>
   have H:=HA.out
   clear HA
   simp only [jM.j0] at H
   by_cases c9:x7_2=true
   ·subst c9
    have H1:((jE.f a1_1 0 99).bind fun t110=>(if t110=true then (some (a1_2 == 0)) else (some false)))=some r:=by rw [if_pos rfl] at H;exact H
    clear H
    have H:=H1
    clear H1
    replace H:=bzS H
    obtain ⟨t110,A100,H⟩:=H
    replace H:(if t110=true then (some (a1_2 == 0)) else (some false))=some r:=H
    have A10:=am A100
    clear A100
    by_cases c11:t110=true
    ·subst c11
     have H1:(some (a1_2 == 0))=some r:=by rw [if_pos rfl] at H;exact H
     clear H
     have H:=H1
     clear H1
     obtain rfl:=Option.some.inj H
     have hnb12:=NB109_108.out
     have hnc12:=NB108_109.out
     have hcz13_0:=bc0 BK109.out
     have hcz13_1:=bc1 BK109.out
     have hcz13_2:=bc2 BK109.out
     have hfz13_0:=ja BK109.out 0
     have hfz13_1:=ja BK109.out 1
     have hfz13_2:=ja BK109.out 2
     go_wp2_with (first |((with_reducible refine jl (f:=36) rfl ?_);refine gL (some 12) Tryd.func36 #[.int .i64 a1_1, .int .i64 0, .int .i64 99] ?_;(with_reducible refine (jE.calls a1_1 0 99 true _ A10.out).mono ?_);rintro e w' ⟨rfl,⟨nd,rfl⟩⟩;refine ⟨_,rfl,?_⟩))
     go_ret
     exact ⟨Y1,Y6⟩
    ·replace c11:=Bool.eq_false_iff.mpr c11
     subst c11
     have H1:(some false)=some r:=by rw [if_neg (show ¬ (false=true) by decide)] at H;exact H
     clear H
     have H:=H1
     clear H1
     obtain rfl:=Option.some.inj H
     have hnb14:=NB109_108.out
     have hnc14:=NB108_109.out
     have hcz15_0:=bc0 BK109.out
     have hcz15_1:=bc1 BK109.out
     have hcz15_2:=bc2 BK109.out
     have hfz15_0:=ja BK109.out 0
     have hfz15_1:=ja BK109.out 1
     have hfz15_2:=ja BK109.out 2
     go_wp2_with (first |((with_reducible refine jl (f:=36) rfl ?_);refine gL (some 12) Tryd.func36 #[.int .i64 a1_1, .int .i64 0, .int .i64 99] ?_;(with_reducible refine (jE.calls a1_1 0 99 false _ A10.out).mono ?_);rintro e w' ⟨rfl,⟨nd,rfl⟩⟩;refine ⟨_,rfl,?_⟩))
     go_ret
     exact ⟨Y1,Y6⟩
   ·replace c9:=Bool.eq_false_iff.mpr c9
    subst c9
    have H1:(if a1_0=2 then ((jga.f l0_0 a1_1).bind fun t111=>(if t111=true then (some (a1_2 == 0)) else (some false))) else (if a1_0=3 then ((jga.f l0_0 a1_1).bind fun t112=>(if t112=true then ((jE.f a1_2 0 99).bind fun t113=>(some t113)) else (some false))) else (some false)))=some r:=by rw [if_neg (show ¬ (false=true) by decide)] at H;exact H
    clear H
    have H:=H1
    clear H1
    by_cases c16:a1_0=2
    ·rw [if_pos c16] at H
     have c16b0:(a1_0 == 2)=true:=beq_iff_eq.mpr c16
     have c16b1:(a1_0 != 2)=false:=bne_eq_false_iff_eq.mpr c16
     clear c16
     replace H:=bzS H
     obtain ⟨t111,A170,H⟩:=H
     replace H:(if t111=true then (some (a1_2 == 0)) else (some false))=some r:=H
     have A17:=am A170
     clear A170
     by_cases c18:t111=true
     ·subst c18
      have H1:(some (a1_2 == 0))=some r:=by rw [if_pos rfl] at H;exact H
      clear H
      have H:=H1
      clear H1
      obtain rfl:=Option.some.inj H
      have hnb19:=NB108_109.out
      have hnc19:=NB109_108.out
      have hcz20_0:=bc0 BK108.out
      have hfz20_0:=ja BK108.out 0
      have hcz21_0:=bc0 BK109.out
      have hcz21_1:=bc1 BK109.out
      have hcz21_2:=bc2 BK109.out
      have hfz21_0:=ja BK109.out 0
      have hfz21_1:=ja BK109.out 1
      have hfz21_2:=ja BK109.out 2
      go_wp2_with (first |((with_reducible refine jl (f:=37) rfl ?_);refine gL (some 23) Tryd.func37 #[.agg #[.slice A0_0 l0_0.length c0_0], .int .i64 a1_1] ?_;(with_reducible refine (jga.calls _ _ l0_0 a1_1 true _ ?side1 ?side2 A17.out).mono ?_);(case side1=>exact cq (Kd.jD HR0_0.out HB.out));(case side2=>exact HC0_0.out);rintro e w22 ⟨rfl,hb⟩;refine ⟨_,rfl,?_⟩;replace BK108:=am (jc (g:=gb108) (o:=.cells #[.slice A0_0 l0_0.length c0_0] 31 (0,0)) (kq BK108.out) hb);replace BK109:=am (jc (g:=gb109) (o:=.cells #[.int .i64 a1_0, .int .i64 a1_1, .int .i64 a1_2] 42 (0,0)) (kq BK109.out) hb);replace HB:=am (jb (Y6) hb);(try clear hb);(try clear hb2);(try clear hk);(try clear hi);have hcz23_0:=bc0 BK109.out;have hcz23_1:=bc1 BK109.out;have hcz23_2:=bc2 BK109.out;have hfz23_0:=ja BK109.out 0;have hfz23_1:=ja BK109.out 1;have hfz23_2:=ja BK109.out 2))
      go_ret
      exact ⟨Y1,Y6⟩
     ·replace c18:=Bool.eq_false_iff.mpr c18
      subst c18
      have H1:(some false)=some r:=by rw [if_neg (show ¬ (false=true) by decide)] at H;exact H
      clear H
      have H:=H1
      clear H1
      obtain rfl:=Option.some.inj H
      have hnb24:=NB108_109.out
      have hnc24:=NB109_108.out
      have hcz25_0:=bc0 BK108.out
      have hfz25_0:=ja BK108.out 0
      have hcz26_0:=bc0 BK109.out
      have hcz26_1:=bc1 BK109.out
      have hcz26_2:=bc2 BK109.out
      have hfz26_0:=ja BK109.out 0
      have hfz26_1:=ja BK109.out 1
      have hfz26_2:=ja BK109.out 2
      go_wp2_with (first |((with_reducible refine jl (f:=37) rfl ?_);refine gL (some 23) Tryd.func37 #[.agg #[.slice A0_0 l0_0.length c0_0], .int .i64 a1_1] ?_;(with_reducible refine (jga.calls _ _ l0_0 a1_1 false _ ?side1 ?side2 A17.out).mono ?_);(case side1=>exact cq (Kd.jD HR0_0.out HB.out));(case side2=>exact HC0_0.out);rintro e w27 ⟨rfl,hb⟩;refine ⟨_,rfl,?_⟩;replace BK108:=am (jc (g:=gb108) (o:=.cells #[.slice A0_0 l0_0.length c0_0] 31 (0,0)) (kq BK108.out) hb);replace BK109:=am (jc (g:=gb109) (o:=.cells #[.int .i64 a1_0, .int .i64 a1_1, .int .i64 a1_2] 42 (0,0)) (kq BK109.out) hb);replace HB:=am (jb (Y6) hb);(try clear hb);(try clear hb2);(try clear hk);(try clear hi)))
      go_ret
      exact ⟨Y1,Y6⟩
    ·rw [if_neg c16] at H
     have c16b0:(a1_0 == 2)=false:=beq_eq_false_iff_ne.mpr c16
     have c16b1:(a1_0 != 2)=true:=bne_iff_ne.mpr c16
     by_cases c28:a1_0=3
     ·rw [if_pos c28] at H
      have c28b0:(a1_0 == 3)=true:=beq_iff_eq.mpr c28
      have c28b1:(a1_0 != 3)=false:=bne_eq_false_iff_eq.mpr c28
      clear c28
      replace H:=bzS H
      obtain ⟨t112,A290,H⟩:=H
      replace H:(if t112=true then ((jE.f a1_2 0 99).bind fun t113=>(some t113)) else (some false))=some r:=H
      have A29:=am A290
      clear A290
      by_cases c30:t112=true
      ·subst c30
       have H1:((jE.f a1_2 0 99).bind fun t113=>(some t113))=some r:=by rw [if_pos rfl] at H;exact H
       clear H
       have H:=H1
       clear H1
       replace H:=bzS H
       obtain ⟨t113,A310,H⟩:=H
       replace H:(some t113)=some r:=H
       have A31:=am A310
       clear A310
       obtain rfl:=Option.some.inj H
       have hnb32:=NB108_109.out
       have hnc32:=NB109_108.out
       have hcz33_0:=bc0 BK108.out
       have hfz33_0:=ja BK108.out 0
       have hcz34_0:=bc0 BK109.out
       have hcz34_1:=bc1 BK109.out
       have hcz34_2:=bc2 BK109.out
       have hfz34_0:=ja BK109.out 0
       have hfz34_1:=ja BK109.out 1
       have hfz34_2:=ja BK109.out 2
       go_wp2_with (first |((with_reducible refine jl (f:=37) rfl ?_);refine gL (some 34) Tryd.func37 #[.agg #[.slice A0_0 l0_0.length c0_0], .int .i64 a1_1] ?_;(with_reducible refine (jga.calls _ _ l0_0 a1_1 true _ ?side1 ?side2 A29.out).mono ?_);(case side1=>exact cq (Kd.jD HR0_0.out HB.out));(case side2=>exact HC0_0.out);rintro e w35 ⟨rfl,hb⟩;refine ⟨_,rfl,?_⟩;replace BK108:=am (jc (g:=gb108) (o:=.cells #[.slice A0_0 l0_0.length c0_0] 31 (0,0)) (kq BK108.out) hb);replace BK109:=am (jc (g:=gb109) (o:=.cells #[.int .i64 a1_0, .int .i64 a1_1, .int .i64 a1_2] 42 (0,0)) (kq BK109.out) hb);replace HB:=am (jb (Y6) hb);(try clear hb);(try clear hb2);(try clear hk);(try clear hi);have hcz36_0:=bc0 BK109.out;have hcz36_1:=bc1 BK109.out;have hcz36_2:=bc2 BK109.out;have hfz36_0:=ja BK109.out 0;have hfz36_1:=ja BK109.out 1;have hfz36_2:=ja BK109.out 2) |(go_at_call 36;(with_reducible refine (jE.calls a1_2 0 99 t113 _ A31.out).mono ?_);rintro e w' ⟨rfl,⟨nd,rfl⟩⟩))
       go_ret
       exact ⟨Y1,Y6⟩
      ·replace c30:=Bool.eq_false_iff.mpr c30
       subst c30
       have H1:(some false)=some r:=by rw [if_neg (show ¬ (false=true) by decide)] at H;exact H
       clear H
       have H:=H1
       clear H1
       obtain rfl:=Option.some.inj H
       have hnb37:=NB108_109.out
       have hnc37:=NB109_108.out
       have hcz38_0:=bc0 BK108.out
       have hfz38_0:=ja BK108.out 0
       have hcz39_0:=bc0 BK109.out
       have hcz39_1:=bc1 BK109.out
       have hcz39_2:=bc2 BK109.out
       have hfz39_0:=ja BK109.out 0
       have hfz39_1:=ja BK109.out 1
       have hfz39_2:=ja BK109.out 2
       go_wp2_with (first |((with_reducible refine jl (f:=37) rfl ?_);refine gL (some 34) Tryd.func37 #[.agg #[.slice A0_0 l0_0.length c0_0], .int .i64 a1_1] ?_;(with_reducible refine (jga.calls _ _ l0_0 a1_1 false _ ?side1 ?side2 A29.out).mono ?_);(case side1=>exact cq (Kd.jD HR0_0.out HB.out));(case side2=>exact HC0_0.out);rintro e w40 ⟨rfl,hb⟩;refine ⟨_,rfl,?_⟩;replace BK108:=am (jc (g:=gb108) (o:=.cells #[.slice A0_0 l0_0.length c0_0] 31 (0,0)) (kq BK108.out) hb);replace BK109:=am (jc (g:=gb109) (o:=.cells #[.int .i64 a1_0, .int .i64 a1_1, .int .i64 a1_2] 42 (0,0)) (kq BK109.out) hb);replace HB:=am (jb (Y6) hb);(try clear hb);(try clear hb2);(try clear hk);(try clear hi)))
       go_ret
       exact ⟨Y1,Y6⟩
     ·rw [if_neg c28] at H
      have c28b0:(a1_0 == 3)=false:=beq_eq_false_iff_ne.mpr c28
      have c28b1:(a1_0 != 3)=true:=bne_iff_ne.mpr c28
      obtain rfl:=Option.some.inj H
      go_wp2
      go_ret
      exact ⟨Y1,Y6⟩
def jT.l0 : Nat → ByteArray → Int → Option (Bool)
 | 0,_,_=>none
 | k+1,x0,x3=>if x3<(x0.size:Int) then (if 0≤x3 then (if (bt x0 x3)<97 then (some false) else (if (bt x0 x3) > 122 then (some false) else (jT.l0 k x0 (wrap64 (x3+1))))) else (none)) else ((jE.f (x0.size:Int) 1 6).bind fun t114=>(some t114))
def jT.f (k : Nat) (a0 : ByteArray) : Option (Bool) := jT.l0 k a0 0
set_option maxHeartbeats 8000000 in
set_option maxRecDepth 100000 in
theorem jT.calls (k : Nat) (a0 : ByteArray) (r : Bool) (w : World) (h : jT.f k a0 = some r) :
  Calls Tryd.prog 38 #[.string a0] w fun e w'=>e=.returned (.bool r)∧jza w w':=by
 have H:(jT.l0 k a0 0)=some r:=h
 clear h
 have H':=am H
 clear H
 go_enter Tryd.func38,Tryd.ntmps38
 go_wp2
 go_loopg [3] k (fun kq v3 w'=>∃ (x3_1:Int),v3=.int .i64 x3_1∧jJ (jT.l0 kq a0 x3_1=some r)∧jJ (kq≤k)∧jza w w')
 case atStart=>exact ⟨(0),(sq),H',⟨Nat.le_refl _⟩,Y3⟩
 case round =>
  clear H'
  obtain ⟨x3_1,rfl,HA,HK1,⟨m1,rfl⟩⟩:=hrel
  cases gk with
  | zero=>exact absurd HA.out (by simp [jT.l0])
  | succ k1 =>
   have H:=HA.out
   clear HA
   simp only [jT.l0] at H
   by_cases c2:x3_1<(a0.size:Int)
   ·rw [if_pos c2] at H
    have c2b0:decide (x3_1<(a0.size:Int))=true:=dzT c2
    clear c2
    by_cases c3:0≤x3_1
    ·rw [if_pos c3] at H
     have c3b0:decide (0≤x3_1)=true:=dzT c3
     clear c3
     by_cases c5:(bt a0 x3_1)<97
     ·rw [if_pos c5] at H
      have c5b0:decide ((bt a0 x3_1)<97)=true:=dzT c5
      clear c5
      obtain rfl:=Option.some.inj H
      have p4:0≤(x3_1:Int):=ozD (uq)
      have q4:x3_1<(a0.size:Int):=ozD (uq)
      have hx4:=bt_at a0 x3_1
      replace p4:=ezT p4
      replace q4:=ezT q4
      go_wp2
      go_ret
      exact ⟨sq,Y3⟩
     ·rw [if_neg c5] at H
      have c5b0:decide ((bt a0 x3_1)<97)=false:=dzF c5
      clear c5
      by_cases c7:(bt a0 x3_1) > 122
      ·rw [if_pos c7] at H
       have c7b0:decide (122<(bt a0 x3_1))=true:=dzT c7
       clear c7
       obtain rfl:=Option.some.inj H
       have p4:0≤(x3_1:Int):=ozD (uq)
       have q4:x3_1<(a0.size:Int):=ozD (uq)
       have hx4:=bt_at a0 x3_1
       replace p4:=ezT p4
       replace q4:=ezT q4
       have p6:0≤(x3_1:Int):=ozD (uq)
       have q6:x3_1<(a0.size:Int):=ozD (uq)
       have hx6:=bt_at a0 x3_1
       replace p6:=ezT p6
       replace q6:=ezT q6
       go_wp2
       go_ret
       exact ⟨sq,Y3⟩
      ·rw [if_neg c7] at H
       have c7b0:decide (122<(bt a0 x3_1))=false:=dzF c7
       clear c7
       have H':=am H
       clear H
       have p4:0≤(x3_1:Int):=ozD (uq)
       have q4:x3_1<(a0.size:Int):=ozD (uq)
       have hx4:=bt_at a0 x3_1
       replace p4:=ezT p4
       replace q4:=ezT q4
       have p6:0≤(x3_1:Int):=ozD (uq)
       have q6:x3_1<(a0.size:Int):=ozD (uq)
       have hx6:=bt_at a0 x3_1
       replace p6:=ezT p6
       replace q6:=ezT q6
       go_wp2
       go_roundg k1
       case measure=>have:=HK1.out;omega
       case rel=>exact ⟨(wrap64 (x3_1+1)),(sq),H',⟨by have:=HK1.out;omega⟩,Y3⟩
    ·rw [if_neg c3] at H
     exact absurd H (by simp)
   ·rw [if_neg c2] at H
    have c2b0:decide (x3_1<(a0.size:Int))=false:=dzF c2
    clear c2
    replace H:=bzS H
    obtain ⟨t114,A80,H⟩:=H
    replace H:(some t114)=some r:=H
    have A8:=am A80
    clear A80
    obtain rfl:=Option.some.inj H
    go_wp2_with (first |((with_reducible refine jl (f:=36) rfl ?_);refine gL (some 22) Tryd.func36 #[.int .i64 (a0.size:Int), .int .i64 1, .int .i64 6] ?_;(with_reducible refine (jE.calls (a0.size:Int) 1 6 t114 _ A8.out).mono ?_);rintro e w' ⟨rfl,⟨nd,rfl⟩⟩;refine ⟨_,rfl,?_⟩))
    go_ret
    exact ⟨sq,Y3⟩
def jO.l0 : Nat → List (S63) → ByteArray → Int → Option (Int)
 | 0,_,_,_=>none
 | k+1,x0,x1,x5=>if x5<(x0.length:Int) then (if 0≤x5 then (if ((jg x0 x5).f0).toList=x1.toList then (some x5) else (jO.l0 k x0 x1 (wrap64 (x5+1)))) else (none)) else (some (-1))
def jO.f (k : Nat) (l0 : List (S63)) (a1 : ByteArray) : Option (Int) := jO.l0 k l0 a1 0
set_option maxHeartbeats 8000000 in
set_option maxRecDepth 100000 in
theorem jO.calls (k : Nat) (A0 : Option Addr) (c0 : Nat) (l0 : List (S63)) (a1 : ByteArray) (r : Int) (w : World) (hr0 : Kd.C k63 w A0 l0.length l0) (hc0 : l0.length ≤ c0) (h : jO.f k l0 a1 = some r) :
  Calls Tryd.prog 39 #[.slice A0 l0.length c0, .string a1] w fun e w'=>e=.returned (.int .i64 r)∧jza w w':=by
 have HR0:=am hr0
 have HC0:=am hc0
 clear hr0 hc0
 have H:(jO.l0 k l0 a1 0)=some r:=h
 clear h
 have H':=am H
 clear H
 go_enter Tryd.func39,Tryd.ntmps39
 go_wp2
 go_loopg [5] k (fun kq v5 w'=>∃ (x5_1:Int),v5=.int .i64 x5_1∧jJ (jO.l0 kq l0 a1 x5_1=some r)∧jJ (kq≤k)∧jza w w')
 case atStart=>exact ⟨(0),(sq),H',⟨Nat.le_refl _⟩,Y3⟩
 case round =>
  clear H'
  try clear p2
  obtain ⟨x5_1,rfl,HA,HK1,⟨m1,rfl⟩⟩:=hrel
  cases gk with
  | zero=>exact absurd HA.out (by simp [jO.l0])
  | succ k1 =>
   have H:=HA.out
   clear HA
   simp only [jO.l0] at H
   by_cases c3:x5_1<(l0.length:Int)
   ·rw [if_pos c3] at H
    have c3b0:decide (x5_1<(l0.length:Int))=true:=dzT c3
    clear c3
    by_cases c4:0≤x5_1
    ·rw [if_pos c4] at H
     have c4b0:decide (0≤x5_1)=true:=dzT c4
     clear c4
     by_cases c5:((jg l0 x5_1).f0).toList=a1.toList
     ·rw [if_pos c5] at H
      have c5b0:(((jg l0 x5_1).f0).toList == a1.toList)=true:=beq_iff_eq.mpr c5
      have c5b1:(((jg l0 x5_1).f0).toList != a1.toList)=false:=bne_eq_false_iff_eq.mpr c5
      clear c5
      obtain rfl:=Option.some.inj H
      have p115:0≤(x5_1:Int):=ozD (uq)
      have q115:x5_1<(l0.length:Int):=ozD (uq)
      obtain ⟨ad115,e115,hx115_0,hx115_1⟩:=jKa HR0.out x5_1 p115 q115
      cases e115
      replace p115:=ezT p115
      replace q115:=ezT q115
      go_wp2
      go_ret
      exact ⟨sq,Y3⟩
     ·rw [if_neg c5] at H
      have c5b0:(((jg l0 x5_1).f0).toList == a1.toList)=false:=beq_eq_false_iff_ne.mpr c5
      have c5b1:(((jg l0 x5_1).f0).toList != a1.toList)=true:=bne_iff_ne.mpr c5
      have H':=am H
      clear H
      have p115:0≤(x5_1:Int):=ozD (uq)
      have q115:x5_1<(l0.length:Int):=ozD (uq)
      obtain ⟨ad115,e115,hx115_0,hx115_1⟩:=jKa HR0.out x5_1 p115 q115
      cases e115
      replace p115:=ezT p115
      replace q115:=ezT q115
      go_wp2
      go_roundg k1
      case measure=>have:=HK1.out;omega
      case rel=>exact ⟨(wrap64 (x5_1+1)),(sq),H',⟨by have:=HK1.out;omega⟩,Y3⟩
    ·rw [if_neg c4] at H
     exact absurd H (by simp)
   ·rw [if_neg c3] at H
    have c3b0:decide (x5_1<(l0.length:Int))=false:=dzF c3
    clear c3
    obtain rfl:=Option.some.inj H
    go_wp2
    go_ret
    exact ⟨sq,Y3⟩
mutual
def jo.l0 : Nat → Int → List (S63) → Option (Bool)
 | 0,_,_=>none
 | k+1,x3,x155000=>if x3<(x155000.length:Int) then (if 0≤x3 then ((jT.f k ((jg x155000 x3).f0)).bind fun t158=>(if t158=true then (if x3≤(x155000.length:Int) then ((jO.f k (x155000.take (x3:Int).toNat) ((jg x155000 x3).f0)).bind fun t163=>(if t163≥0 then (jo.j1 k x3 true x155000) else (if x3=0 then (if ((jg x155000 x3).f1)=(-1) then (if x3 > 0 then ((jE.f ((jg x155000 x3).f1) 0 (wrap64 (x3 - 1))).bind fun t164=>(jo.j1 k x3 (!t164) x155000)) else (jo.j1 k x3 false x155000)) else (jo.j1 k x3 true x155000)) else (if x3 > 0 then ((jE.f ((jg x155000 x3).f1) 0 (wrap64 (x3 - 1))).bind fun t165=>(jo.j1 k x3 (!t165) x155000)) else (jo.j1 k x3 false x155000))))) else (none)) else (jo.j1 k x3 true x155000))) else (none)) else ((jE.f (x155000.length:Int) 1 8).bind fun t155=>(some t155))
def jo.j1 : Nat → Int → Bool → List (S63) → Option (Bool)
 | 0,_,_,_=>none
 | k+1,x3,x51,x155000=>if x51=true then (some false) else (jo.l0 k (wrap64 (x3+1)) x155000)
end
def jo.f (k : Nat) (l0_0 : List (S63)) : Option (Bool) := jo.l0 k 0 l0_0
set_option maxHeartbeats 8000000 in
set_option maxRecDepth 100000 in
theorem jo.calls (k : Nat) (A0_0 : Option Addr) (c0_0 : Nat) (l0_0 : List (S63)) (r : Bool) (w : World) (hr0_0 : Kd.C k63 w A0_0 l0_0.length l0_0) (hc0_0 : l0_0.length ≤ c0_0) (h : jo.f k l0_0 = some r) :
  Calls Tryd.prog 25 #[.agg #[.slice A0_0 l0_0.length c0_0]] w fun e w'=>e=.returned (.bool r)∧Below w.heap.size w w':=by
 have hu31:=Tryd.underlying31
 have hu63:=Tryd.underlying63
 have HR0_0:=am hr0_0
 have HC0_0:=am hc0_0
 clear hr0_0 hc0_0
 have HB:=am (Below.refl w.heap.size w)
 have H:(jo.l0 k 0 l0_0)=some r:=h
 clear h
 have H':=am H
 clear H
 go_enter Tryd.func25,Tryd.ntmps25
 go_wp2_with (first |((with_reducible refine jr (N:=1) rfl ?_);refine bE (N:=1) (cs:=#[.slice A0_0 l0_0.length c0_0]) (t:=31) ?_;intro gb154 hg w2 hbox hb;have BK154:=am (hbox);have GW154:=am ((Y0:w.heap.size≤gb154));have GE154:=am ((Y0:w.heap.size≤gb154));replace HB:=am (jb (bq) hb);clear hb hbox hg))
 go_loopg [3] k (fun kq v3 w'=>∃ (x3_1:Int),v3=.int .i64 x3_1∧jJ (jo.l0 kq x3_1 l0_0=some r)∧jJ (kq≤k)∧jJ (w'.heap[gb154]?=some (.cells #[(.slice A0_0 l0_0.length c0_0)] 31 (0,0)))∧jJ (Below w.heap.size w w'))
 case atStart=>exact ⟨(0),(sq),H',⟨Nat.le_refl _⟩,⟨kq BK154.out⟩,⟨Y28⟩⟩
 case round =>
  clear H'
  try clear c1
  try clear p2
  obtain ⟨x3_1,rfl,HA,HK1,BK154,HB⟩:=hrel
  cases gk with
  | zero=>exact absurd HA.out (by simp [jo.l0])
  | succ k1 =>
   have H:=HA.out
   clear HA
   simp only [jo.l0] at H
   by_cases c3:x3_1<(l0_0.length:Int)
   ·rw [if_pos c3] at H
    have c3b0:decide (x3_1<(l0_0.length:Int))=true:=dzT c3
    clear c3
    by_cases c4:0≤x3_1
    ·rw [if_pos c4] at H
     have c4b0:decide (0≤x3_1)=true:=dzT c4
     clear c4
     have HC5:=am H
     clear H
     have hcz6_0:=bc0 BK154.out
     have hfz6_0:=ja BK154.out 0
     have p156:0≤(x3_1:Int):=ozD (uq)
     have q156:x3_1<(l0_0.length:Int):=ozD (uq)
     obtain ⟨ad156,e156,hx156_0,hx156_1⟩:=jKa HR0_0.out x3_1 p156 q156
     cases e156
     replace hx156_0:=cb HB.out hx156_0
     replace hx156_1:=cb HB.out hx156_1
     replace p156:=ezT p156
     replace q156:=ezT q156
     go_upto_region 5 with (first |((with_reducible refine jr (N:=4) rfl ?_);refine bE (N:=4) (cs:=#[.string (⟨#[]⟩:ByteArray), .int .i64 0]) (t:=63) ?_;intro gb157 hg w7 hbox hb;have BK157:=am (hbox);have GW157:=am ((Y38:w.heap.size≤gb157));have GE157:=am ((Y38:w.heap.size≤gb157));have NB154_157:=am ((by rw [hg];exact Nat.ne_of_lt (jma (g:=gb154) (o:=.cells #[.slice (some ad156) l0_0.length c0_0] 31 (0,0)) (kq BK154.out)):gb154≠gb157));have NB157_154:=am ((by rw [hg];exact Nat.ne_of_gt (jma (g:=gb154) (o:=.cells #[.slice (some ad156) l0_0.length c0_0] 31 (0,0)) (kq BK154.out)):gb157≠gb154));replace BK154:=am (jc (g:=gb154) (o:=.cells #[.slice (some ad156) l0_0.length c0_0] 31 (0,0)) (kq BK154.out) hb);replace HB:=am (jb (Y28) hb);clear hb hbox hg;have hnb8:=NB157_154.out;have hnc8:=NB154_157.out;have hcz9_0:=bc0 BK157.out;have hcz9_1:=bc1 BK157.out;have hfz9_0:=ja BK157.out 0;have hfz9_1:=ja BK157.out 1))
     (try simp only [Act.put,List.setIfInBounds_toArray,List.set_cons_zero,List.set_cons_succ])
     go_cut [51] (fun v51 wc=>∃ (kq:Nat) (x51_4:Bool),v51=.bool x51_4∧jJ (jo.j1 kq x3_1 x51_4 l0_0=some r)∧jJ (kq≤k1)∧jJ (wc.heap[gb154]?=some (.cells #[(.slice (some ad156) l0_0.length c0_0)] 31 (0,0)))∧jJ (wc.heap[gb157]?=some (.cells #[.string ((jg l0_0 x3_1).f0), .int .i64 ((jg l0_0 x3_1).f1)] 63 (0,0)))∧jJ (Below w.heap.size w wc))
     case first =>
      have n0_:jJ (((w7.setCell ⟨gb157,0,none⟩ (.string ((jg l0_0 x3_1).f0))).setCell ⟨gb157,1,none⟩ (.int .i64 ((jg l0_0 x3_1).f1))).heap[gb154]?=some (.cells #[.slice (some ad156) l0_0.length c0_0] 31 (0,0))):=⟨by (with_reducible repeat (first | refine jA ?_ _ | refine jC ?_ | refine jB ?_ _));refine jEa ?_ NB154_157.out _;(with_reducible repeat (first | refine jA ?_ _ | refine jC ?_ | refine jB ?_ _));refine jEa ?_ NB154_157.out _;(with_reducible repeat (first | refine jA ?_ _ | refine jC ?_ | refine jB ?_ _));exact BK154.out⟩
      have n1_:jJ (((w7.setCell ⟨gb157,0,none⟩ (.string ((jg l0_0 x3_1).f0))).setCell ⟨gb157,1,none⟩ (.int .i64 ((jg l0_0 x3_1).f1))).heap[gb157]?=some (.cells #[.string ((jg l0_0 x3_1).f0), .int .i64 ((jg l0_0 x3_1).f1)] 63 (0,0))):=⟨by (with_reducible repeat (first | refine jA ?_ _ | refine jC ?_ | refine jB ?_ _));refine jDa (cs:=#[.string ((jg l0_0 x3_1).f0), .int .i64 0]) ?_ 1 _ rfl;(with_reducible repeat (first | refine jA ?_ _ | refine jC ?_ | refine jB ?_ _));refine jDa (cs:=#[.string (⟨#[]⟩:ByteArray), .int .i64 0]) ?_ 0 _ rfl;(with_reducible repeat (first | refine jA ?_ _ | refine jC ?_ | refine jB ?_ _));exact BK157.out⟩
      have n2_:jJ (Below w.heap.size w ((w7.setCell ⟨gb157,0,none⟩ (.string ((jg l0_0 x3_1).f0))).setCell ⟨gb157,1,none⟩ (.int .i64 ((jg l0_0 x3_1).f1)))):=⟨Y29⟩
      clear BK154 BK157 HB hcz9_0 hcz9_1 hfz9_0 hfz9_1
      generalize ((w7.setCell ⟨gb157,0,none⟩ (.string ((jg l0_0 x3_1).f0))).setCell ⟨gb157,1,none⟩ (.int .i64 ((jg l0_0 x3_1).f1)))=w16 at n0_ n1_ n2_ ⊢
      have BK154:=n0_
      have BK157:=n1_
      have HB:=n2_
      clear n0_ n1_ n2_
      have HRW:=am (Kd.jD HR0_0.out HB.out)
      have e0:w16.cell? ⟨gb157,0,none⟩=some (.string ((jg l0_0 x3_1).f0)):=(joa BK157.out 0).trans rfl
      have e1:w16.cell? ⟨gb157,1,none⟩=some (.int .i64 ((jg l0_0 x3_1).f1)):=(joa BK157.out 1).trans rfl
      have e2:w16.cell? ⟨gb154,0,none⟩=some (.slice (some ad156) l0_0.length c0_0):=(joa BK154.out 0).trans rfl
      have H:=HC5.out
      clear HC5
      obtain ⟨v,hv,H⟩:=bzS H
      have HN:=am (fun W=>(jT.calls k1 _ v W hv).mono fun e w' h=>(⟨h.1,h.2.out⟩:e=.returned (.bool v)∧∃ m,w'=W.drewN m))
      clear hv hx156_0 hx156_1
      generalize hgx:jg l0_0 x3_1=x at H e0 e1 HN BK157
      have HGX:=am hgx
      clear hgx
      cases v with
      | false =>
       have H':=am (show jo.j1 k1 x3_1 true l0_0=some r from H)
       clear H
       go_big_quiet ((go_at_call 38;exact Calls.quiet_of (HN.out _)))
       go_wp2
       go_meet
       case rel=>exact ⟨_,_,rfl,H',⟨by have:=HK1.out;omega⟩,⟨jA BK154.out _⟩,⟨by rw [HGX.out];exact jA BK157.out _⟩,⟨jd HB.out _⟩⟩
      | true =>
       replace H:(if x3_1≤(l0_0.length:Int) then ((jO.f k1 (l0_0.take (x3_1:Int).toNat) x.f0).bind fun t163=>(if t163≥0 then (jo.j1 k1 x3_1 true l0_0) else (if x3_1=0 then (if x.f1=(-1) then (if x3_1 > 0 then ((jE.f x.f1 0 (wrap64 (x3_1 - 1))).bind fun t164=>(jo.j1 k1 x3_1 (!t164) l0_0)) else (jo.j1 k1 x3_1 false l0_0)) else (jo.j1 k1 x3_1 true l0_0)) else (if x3_1 > 0 then ((jE.f x.f1 0 (wrap64 (x3_1 - 1))).bind fun t165=>(jo.j1 k1 x3_1 (!t165) l0_0)) else (jo.j1 k1 x3_1 false l0_0))))) else (none))=some r:=H
       have hle:x3_1≤(l0_0.length:Int):=by have:=ozD c3b0;omega
       have h0:0≤x3_1:=ozD c4b0
       rw [if_pos hle] at H
       obtain ⟨c,hc,H⟩:=bzS H
       obtain ⟨i0,hi0,_,_,_⟩:=info_parts info63
       have hcut:=cut_to (P:=Tryd.prog) 29 63 .i64 Tryd.underlying29 hi0 (some ad156) l0_0.length c0_0 x3_1 h0 hle HC0_0.out
       have hr18:=Kd.C_take (m:=(x3_1:Int).toNat) HRW.out (by omega)
       obtain ⟨y,hy⟩:∃ y:List S63,y=l0_0.take (x3_1:Int).toNat:=⟨_,rfl⟩
       have hyl:y.length=(x3_1:Int).toNat:=by rw [hy,List.length_take];omega
       have hyc:y.length≤c0_0:=by have:=HC0_0.out;omega
       rw [← hy] at hr18
       rw [← hyl] at hcut
       rw [← hy] at hc
       have HCN:=am (fun m=>(jO.calls k1 _ _ y x.f0 c (w16.drewN m) (Kd.C_drewN hr18 m) hyc hc).mono fun e w' h=>(⟨h.1,h.2.out⟩:e=.returned (.int .i64 c)∧∃ m',w'=(w16.drewN m).drewN m'))
       clear hr18 hc hy hyl hyc
       have b0:=ezT h0
       have b1:=ezT hle
       by_cases hc0:c≥0
       ·rw [if_pos hc0] at H
        have b2:decide (0≤c)=true:=dzT hc0
        have H':=am H
        clear H hc0 h0 hle
        go_big_quiet (first |(go_at_call 38;exact Calls.quiet_of (HN.out _)) |(go_at_call 39;exact Calls.quiet_of (HCN.out _)))
        go_wp2
        go_meet
        case rel=>exact ⟨_,_,rfl,H',⟨by have:=HK1.out;omega⟩,⟨jA BK154.out _⟩,⟨by rw [HGX.out];exact jA BK157.out _⟩,⟨jd HB.out _⟩⟩
       ·rw [if_neg hc0] at H
        have b2:decide (0≤c)=false:=dzF hc0
        clear hc0
        by_cases hz:x3_1=0
        ·rw [if_pos hz] at H
         have b3:(x3_1 == 0)=true:=beq_iff_eq.2 hz
         have b4:decide (0<x3_1)=false:=dzF (by omega)
         by_cases hf:x.f1 = -1
         ·rw [if_pos hf,if_neg (by omega)] at H
          have b5:(x.f1 != -1)=false:=by simpa using hf
          have H':=am H
          clear H hf h0 hle hz
          go_big_quiet (first |(go_at_call 38;exact Calls.quiet_of (HN.out _)) |(go_at_call 39;exact Calls.quiet_of (HCN.out _)))
          go_wp2
          go_meet
          case rel=>exact ⟨_,_,rfl,H',⟨by have:=HK1.out;omega⟩,⟨jA BK154.out _⟩,⟨by rw [HGX.out];exact jA BK157.out _⟩,⟨jd HB.out _⟩⟩
         ·rw [if_neg hf] at H
          have b5:(x.f1 != -1)=true:=by simpa using hf
          have H':=am H
          clear H hf h0 hle hz
          go_big_quiet (first |(go_at_call 38;exact Calls.quiet_of (HN.out _)) |(go_at_call 39;exact Calls.quiet_of (HCN.out _)))
          go_wp2
          go_meet
          case rel=>exact ⟨_,_,rfl,H',⟨by have:=HK1.out;omega⟩,⟨jA BK154.out _⟩,⟨by rw [HGX.out];exact jA BK157.out _⟩,⟨jd HB.out _⟩⟩
        ·rw [if_neg hz,if_pos (by omega)] at H
         have b3:(x3_1 == 0)=false:=beq_eq_false_iff_ne.2 hz
         have b4:decide (0<x3_1)=true:=dzT (by omega)
         obtain ⟨t,ht,H⟩:=bzS H
         have H':=am H
         have HI:=am (fun W=>(jE.calls _ _ _ t W ht).mono fun e w' h=>(⟨h.1,h.2.out⟩:e=.returned (.bool t)∧∃ m,w'=W.drewN m))
         clear H ht h0 hle hz
         go_big_quiet (first |(go_at_call 38;exact Calls.quiet_of (HN.out _)) |(go_at_call 39;exact Calls.quiet_of (HCN.out _)) |(go_at_call 36;exact Calls.quiet_of (HI.out _)))
         go_wp2
         go_meet
         case rel=>exact ⟨_,_,rfl,H',⟨by have:=HK1.out;omega⟩,⟨jA BK154.out _⟩,⟨by rw [HGX.out];exact jA BK157.out _⟩,⟨jd HB.out _⟩⟩
     case rest =>
      clear HC5
      try clear c1
      try clear c2
      try clear p2
      try clear c3
      try clear q3
      try clear p6
      try clear c11
      try clear c12
      try clear c13
      try clear c21
      try clear c32
      try clear c32b0
      try clear q39
      try clear q39
      obtain ⟨kq,x51_4,rfl,HA,HJ4,BK154,BK157,HB⟩:=hcut
      cases kq with
      | zero=>exact absurd HA.out (by simp [jo.j1])
      | succ kj4 =>
       have H:=HA.out
       clear HA
       simp only [jo.j1] at H
       by_cases c42:x51_4=true
       ·subst c42
        have H1:(some false)=some r:=by rw [if_pos rfl] at H;exact H
        clear H
        have H:=H1
        clear H1
        obtain rfl:=Option.some.inj H
        go_wp2
        go_ret
        exact ⟨Y1,Y29⟩
       ·replace c42:=Bool.eq_false_iff.mpr c42
        subst c42
        have H1:(jo.l0 kj4 (wrap64 (x3_1+1)) l0_0)=some r:=by rw [if_neg (show ¬ (false=true) by decide)] at H;exact H
        clear H
        have H:=H1
        clear H1
        have H':=am H
        clear H
        go_wp2
        go_roundg kj4
        case measure=>have:=HK1.out;have:=HJ4.out;omega
        case rel=>exact ⟨(wrap64 (x3_1+1)),(sq),H',⟨by have:=HK1.out;have:=HJ4.out;omega⟩,⟨kq BK154.out⟩,⟨Y29⟩⟩
    ·rw [if_neg c4] at H
     exact absurd H (by simp)
   ·rw [if_neg c3] at H
    have c3b0:decide (x3_1<(l0_0.length:Int))=false:=dzF c3
    clear c3
    replace H:=bzS H
    obtain ⟨t155,A430,H⟩:=H
    replace H:(some t155)=some r:=H
    have A43:=am A430
    clear A430
    obtain rfl:=Option.some.inj H
    have hcz44_0:=bc0 BK154.out
    have hfz44_0:=ja BK154.out 0
    go_wp2_with (first |((with_reducible refine jl (f:=36) rfl ?_);refine gL (some 55) Tryd.func36 #[.int .i64 (l0_0.length:Int), .int .i64 1, .int .i64 8] ?_;(with_reducible refine (jE.calls (l0_0.length:Int) 1 8 t155 _ A43.out).mono ?_);rintro e w' ⟨rfl,⟨nd,rfl⟩⟩;refine ⟨_,rfl,?_⟩))
    go_ret
    exact ⟨Y1,Y28⟩
def jF.l0 : Nat → List (S42) → Int → List (S63) → Option (Bool)
 | 0,_,_,_=>none
 | k+1,x1,x5,x117000=>if x5<(x1.length:Int) then (if 0≤x5 then ((jM.f k x117000 ((jy x1 x5).f0) ((jy x1 x5).f1) ((jy x1 x5).f2)).bind fun t119=>(if t119=true then (jF.l0 k x1 (wrap64 (x5+1)) x117000) else (some false))) else (none)) else ((jo.f k x117000).bind fun t117=>(if t117=true then (some (decide ((x1.length:Int)≤8))) else (some false)))
def jF.f (k : Nat) (l0_0 : List (S63)) (l1 : List (S42)) : Option (Bool) := jF.l0 k l1 0 l0_0
set_option maxHeartbeats 8000000 in
set_option maxRecDepth 100000 in
theorem jF.calls (k : Nat) (A0_0 : Option Addr) (c0_0 : Nat) (l0_0 : List (S63)) (A1 : Option Addr) (c1 : Nat) (l1 : List (S42)) (r : Bool) (w : World) (hr0_0 : Kd.C k63 w A0_0 l0_0.length l0_0) (hc0_0 : l0_0.length ≤ c0_0) (hr1 : Kd.C k42 w A1 l1.length l1) (hc1 : l1.length ≤ c1) (h : jF.f k l0_0 l1 = some r) :
  Calls Tryd.prog 13 #[.agg #[.slice A0_0 l0_0.length c0_0], .slice A1 l1.length c1] w fun e w'=>e=.returned (.bool r)∧Below w.heap.size w w':=by
 have hu31:=Tryd.underlying31
 have hu42:=Tryd.underlying42
 have HR0_0:=am hr0_0
 have HC0_0:=am hc0_0
 clear hr0_0 hc0_0
 have HR1:=am hr1
 have HC1:=am hc1
 clear hr1 hc1
 have HB:=am (Below.refl w.heap.size w)
 have H:(jF.l0 k l1 0 l0_0)=some r:=h
 clear h
 have H':=am H
 clear H
 go_enter Tryd.func13,Tryd.ntmps13
 go_wp2_with (first |((with_reducible refine jr (N:=2) rfl ?_);(try (refine gate_guard (by rfl) ?_;dsimp only));refine box_event ?hg (N:=2) ?hd (cs:=#[.slice A0_0 l0_0.length c0_0]) (t:=31) ?hr ?_;(case hd=>rfl);(case hg=>rfl);(case hr=>first |(go_simp;done) |(go_simp;rfl));intro gb116 hg w3 hbox hb;have BK116:=am (hbox);have GW116:=am ((Y0:w.heap.size≤gb116));have GE116:=am ((Y0:w.heap.size≤gb116));replace HB:=am (jb (bq) hb);clear hb hbox hg))
 go_loopg [5] k (fun kq v5 w'=>∃ (x5_1:Int),v5=.int .i64 x5_1∧jJ (jF.l0 kq l1 x5_1 l0_0=some r)∧jJ (kq≤k)∧jJ (w'.heap[gb116]?=some (.cells #[(.slice A0_0 l0_0.length c0_0)] 31 (0,0)))∧jJ (Below w.heap.size w w'))
 case atStart=>exact ⟨(0),(sq),H',⟨Nat.le_refl _⟩,⟨kq BK116.out⟩,⟨Y12⟩⟩
 case round =>
  clear H'
  try clear c1
  try clear p2
  obtain ⟨x5_1,rfl,HA,HK1,BK116,HB⟩:=hrel
  cases gk with
  | zero=>exact absurd HA.out (by simp [jF.l0])
  | succ k1 =>
   have H:=HA.out
   clear HA
   simp only [jF.l0] at H
   by_cases c4:x5_1<(l1.length:Int)
   ·rw [if_pos c4] at H
    have c4b0:decide (x5_1<(l1.length:Int))=true:=dzT c4
    clear c4
    by_cases c5:0≤x5_1
    ·rw [if_pos c5] at H
     have c5b0:decide (0≤x5_1)=true:=dzT c5
     clear c5
     replace H:=bzS H
     obtain ⟨t119,A60,H⟩:=H
     replace H:(if t119=true then (jF.l0 k1 l1 (wrap64 (x5_1+1)) l0_0) else (some false))=some r:=H
     have A6:=am A60
     clear A60
     by_cases c7:t119=true
     ·subst c7
      have H1:(jF.l0 k1 l1 (wrap64 (x5_1+1)) l0_0)=some r:=by rw [if_pos rfl] at H;exact H
      clear H
      have H:=H1
      clear H1
      have H':=am H
      clear H
      try go_wp2
      replace BK116:=am (jC BK116.out)
      replace HB:=am (jh HB.out)
      have p118:0≤(x5_1:Int):=ozD (uq)
      have q118:x5_1<(l1.length:Int):=ozD (uq)
      obtain ⟨ad118,e118,hx118_0,hx118_1,hx118_2⟩:=at_T42 HR1.out x5_1 p118 q118
      have hw118_2:=hx118_2
      have hw118_1:=hx118_1
      have hw118_0:=hx118_0
      cases e118
      replace hx118_0:=cb HB.out hx118_0
      replace hx118_1:=cb HB.out hx118_1
      replace hx118_2:=cb HB.out hx118_2
      replace p118:=ezT p118
      replace q118:=ezT q118
      refine start_ (n:=7) (S:=fun w'=>w'.cell? ⟨gb116,0,none⟩=some (.slice A0_0 l0_0.length c0_0)∧w'.cell? (ad118.add ((x5_1).toNat * 3))=some (.int .i64 ((jy l1 x5_1).f0))∧w'.cell? ⟨(ad118.add ((x5_1).toNat * 3)).block,(ad118.add ((x5_1).toNat * 3)).off+1,none⟩=some (.int .i64 ((jy l1 x5_1).f1))∧w'.cell? ⟨(ad118.add ((x5_1).toNat * 3)).block,(ad118.add ((x5_1).toNat * 3)).off+2,none⟩=some (.int .i64 ((jy l1 x5_1).f2))) (ds:=[]) #[false,false,false,false,false,false,false] (by kernel_rfl) rfl rfl ⟨(joa BK116.out 0).trans rfl,((HB.out.cell (World.block_lt_of_cell? w _ hw118_0)).trans hw118_0),((HB.out.cell (World.block_lt_of_cell? w _ hw118_1)).trans hw118_1),((HB.out.cell (World.block_lt_of_cell? w _ hw118_2)).trans hw118_2)⟩ (fun hHeld=>?_)
      generalize wr.drew=w8 at BK116 HB hx118_0 hx118_1 hx118_2 hHeld ⊢
      refine pure_ (i:=1) (N:=some 13) (v:=?_) (a':=?_) #[false,true,false,false,false,false,false] rfl rfl (by kernel_rfl) (fun _ _ _ h=>h) (Or.inl ⟨by rfl,?_⟩) ?_ ?_
      rotate_left
      ·exact sb
      rotate_left
      ·exact sa
      refine pure_ (i:=2) (N:=some 14) (v:=?_) (a':=?_) #[false,true,true,false,false,false,false] rfl rfl (by kernel_rfl) (fun _ _ _ h=>h) (Or.inl ⟨by rfl,?_⟩) ?_ ?_
      rotate_left
      ·exact sb
      rotate_left
      ·exact sa
      refine pure_ (i:=3) (N:=some 15) (v:=?_) (a':=?_) #[false,true,true,true,false,false,false] rfl rfl (by kernel_rfl) (fun _ _ _ h=>h) (Or.inl ⟨by rfl,?_⟩) ?_ ?_
      rotate_left
      ·exact sb
      rotate_left
      ·exact sa
      refine take_ (i:=0) (N:=some 12) (v:=?_) (a':=?_) #[true,true,true,true,false,false,false] rfl rfl (by kernel_rfl) (fun _ _ _ h=>h) (Or.inl ⟨by rfl,?_⟩) hHeld ?_ ?_
      rotate_left
      ·rintro w' ⟨s0,s1,s2,s3⟩
       go_simp
       with_reducible rfl
      rotate_left
      ·exact sa
      refine take_ (i:=4) (N:=some 16) (v:=?_) (a':=?_) #[true,true,true,true,true,false,false] rfl rfl (by kernel_rfl) (fun _ _ _ h=>h) (Or.inl ⟨by rfl,?_⟩) hHeld ?_ ?_
      rotate_left
      ·rintro w' ⟨s0,s1,s2,s3⟩
       go_simp
       with_reducible rfl
      rotate_left
      ·exact sa
      refine one_ (i:=5) (N:=some 17) #[true,true,true,true,true,true,false] rfl rfl (by kernel_rfl) (by decide) (fun K hK=>?_)
      refine goes_ Tryd.func24 (by kernel_rfl) rfl #[.agg #[.slice A0_0 l0_0.length c0_0], .agg #[.int .i64 ((jy l1 x5_1).f0), .int .i64 ((jy l1 x5_1).f1), .int .i64 ((jy l1 x5_1).f2)]] (by rfl) rfl rfl (aq) ?_
      with_reducible refine (jM.calls k1 _ _ l0_0 ((jy l1 x5_1).f0) ((jy l1 x5_1).f1) ((jy l1 x5_1).f2) true _ ?side1 ?side2 A6.out).mono ?_
      (case side1=>exact cq (Kd.jD HR0_0.out HB.out))
      (case side2=>exact HC0_0.out)
      rintro e w9 ⟨rfl,hb⟩
      refine ⟨_,rfl,?_⟩
      replace BK116:=am (jc (g:=gb116) (o:=.cells #[.slice A0_0 l0_0.length c0_0] 31 (0,0)) (kq BK116.out) hb)
      replace HB:=am (jb (Y12) hb)
      (try clear hb)
      (try clear hb2)
      (try clear hk)
      (try clear hi)
      refine hK.out _ _ ⟨(joa BK116.out 0).trans rfl,((HB.out.cell (World.block_lt_of_cell? w _ hw118_0)).trans hw118_0),((HB.out.cell (World.block_lt_of_cell? w _ hw118_1)).trans hw118_1),((HB.out.cell (World.block_lt_of_cell? w _ hw118_2)).trans hw118_2)⟩ (fun hHeld=>?_)
      clear hK K
      refine norm_ (a':=?_) ?_ ?_
      rotate_left
      ·show Act.put _ (some 17) _=_
       simp only [Act.put,List.setIfInBounds_toArray,List.set_cons_zero,List.set_cons_succ,i64_w,i32_w]
       rfl
      refine pure_ (i:=6) (N:=some 18) (v:=?_) (a':=?_) #[true,true,true,true,true,true,true] rfl rfl (by kernel_rfl) (fun _ _ _ h=>h) (Or.inl ⟨by rfl,?_⟩) ?_ ?_
      rotate_left
      ·exact sb
      rotate_left
      ·exact sa
      refine done_ (by kernel_rfl) ?_
      try go_wp2
      go_roundg k1
      case measure=>have:=HK1.out;omega
      case rel=>exact ⟨(wrap64 (x5_1+1)),(sq),H',⟨by have:=HK1.out;omega⟩,⟨kq BK116.out⟩,⟨Y12⟩⟩
     ·replace c7:=Bool.eq_false_iff.mpr c7
      subst c7
      have H1:(some false)=some r:=by rw [if_neg (show ¬ (false=true) by decide)] at H;exact H
      clear H
      have H:=H1
      clear H1
      obtain rfl:=Option.some.inj H
      try go_wp2
      replace BK116:=am (jC BK116.out)
      replace HB:=am (jh HB.out)
      have p118:0≤(x5_1:Int):=ozD (uq)
      have q118:x5_1<(l1.length:Int):=ozD (uq)
      obtain ⟨ad118,e118,hx118_0,hx118_1,hx118_2⟩:=at_T42 HR1.out x5_1 p118 q118
      have hw118_2:=hx118_2
      have hw118_1:=hx118_1
      have hw118_0:=hx118_0
      cases e118
      replace hx118_0:=cb HB.out hx118_0
      replace hx118_1:=cb HB.out hx118_1
      replace hx118_2:=cb HB.out hx118_2
      replace p118:=ezT p118
      replace q118:=ezT q118
      refine start_ (n:=7) (S:=fun w'=>w'.cell? ⟨gb116,0,none⟩=some (.slice A0_0 l0_0.length c0_0)∧w'.cell? (ad118.add ((x5_1).toNat * 3))=some (.int .i64 ((jy l1 x5_1).f0))∧w'.cell? ⟨(ad118.add ((x5_1).toNat * 3)).block,(ad118.add ((x5_1).toNat * 3)).off+1,none⟩=some (.int .i64 ((jy l1 x5_1).f1))∧w'.cell? ⟨(ad118.add ((x5_1).toNat * 3)).block,(ad118.add ((x5_1).toNat * 3)).off+2,none⟩=some (.int .i64 ((jy l1 x5_1).f2))) (ds:=[]) #[false,false,false,false,false,false,false] (by kernel_rfl) rfl rfl ⟨(joa BK116.out 0).trans rfl,((HB.out.cell (World.block_lt_of_cell? w _ hw118_0)).trans hw118_0),((HB.out.cell (World.block_lt_of_cell? w _ hw118_1)).trans hw118_1),((HB.out.cell (World.block_lt_of_cell? w _ hw118_2)).trans hw118_2)⟩ (fun hHeld=>?_)
      generalize wr.drew=w10 at BK116 HB hx118_0 hx118_1 hx118_2 hHeld ⊢
      refine pure_ (i:=1) (N:=some 13) (v:=?_) (a':=?_) #[false,true,false,false,false,false,false] rfl rfl (by kernel_rfl) (fun _ _ _ h=>h) (Or.inl ⟨by rfl,?_⟩) ?_ ?_
      rotate_left
      ·exact sb
      rotate_left
      ·exact sa
      refine pure_ (i:=2) (N:=some 14) (v:=?_) (a':=?_) #[false,true,true,false,false,false,false] rfl rfl (by kernel_rfl) (fun _ _ _ h=>h) (Or.inl ⟨by rfl,?_⟩) ?_ ?_
      rotate_left
      ·exact sb
      rotate_left
      ·exact sa
      refine pure_ (i:=3) (N:=some 15) (v:=?_) (a':=?_) #[false,true,true,true,false,false,false] rfl rfl (by kernel_rfl) (fun _ _ _ h=>h) (Or.inl ⟨by rfl,?_⟩) ?_ ?_
      rotate_left
      ·exact sb
      rotate_left
      ·exact sa
      refine take_ (i:=0) (N:=some 12) (v:=?_) (a':=?_) #[true,true,true,true,false,false,false] rfl rfl (by kernel_rfl) (fun _ _ _ h=>h) (Or.inl ⟨by rfl,?_⟩) hHeld ?_ ?_
      rotate_left
      ·rintro w' ⟨s0,s1,s2,s3⟩
       go_simp
       with_reducible rfl
      rotate_left
      ·exact sa
      refine take_ (i:=4) (N:=some 16) (v:=?_) (a':=?_) #[true,true,true,true,true,false,false] rfl rfl (by kernel_rfl) (fun _ _ _ h=>h) (Or.inl ⟨by rfl,?_⟩) hHeld ?_ ?_
      rotate_left
      ·rintro w' ⟨s0,s1,s2,s3⟩
       go_simp
       with_reducible rfl
      rotate_left
      ·exact sa
      refine one_ (i:=5) (N:=some 17) #[true,true,true,true,true,true,false] rfl rfl (by kernel_rfl) (by decide) (fun K hK=>?_)
      refine goes_ Tryd.func24 (by kernel_rfl) rfl #[.agg #[.slice A0_0 l0_0.length c0_0], .agg #[.int .i64 ((jy l1 x5_1).f0), .int .i64 ((jy l1 x5_1).f1), .int .i64 ((jy l1 x5_1).f2)]] (by rfl) rfl rfl (aq) ?_
      with_reducible refine (jM.calls k1 _ _ l0_0 ((jy l1 x5_1).f0) ((jy l1 x5_1).f1) ((jy l1 x5_1).f2) false _ ?side1 ?side2 A6.out).mono ?_
      (case side1=>exact cq (Kd.jD HR0_0.out HB.out))
      (case side2=>exact HC0_0.out)
      rintro e w11 ⟨rfl,hb⟩
      refine ⟨_,rfl,?_⟩
      replace BK116:=am (jc (g:=gb116) (o:=.cells #[.slice A0_0 l0_0.length c0_0] 31 (0,0)) (kq BK116.out) hb)
      replace HB:=am (jb (Y12) hb)
      (try clear hb)
      (try clear hb2)
      (try clear hk)
      (try clear hi)
      refine hK.out _ _ ⟨(joa BK116.out 0).trans rfl,((HB.out.cell (World.block_lt_of_cell? w _ hw118_0)).trans hw118_0),((HB.out.cell (World.block_lt_of_cell? w _ hw118_1)).trans hw118_1),((HB.out.cell (World.block_lt_of_cell? w _ hw118_2)).trans hw118_2)⟩ (fun hHeld=>?_)
      clear hK K
      refine norm_ (a':=?_) ?_ ?_
      rotate_left
      ·show Act.put _ (some 17) _=_
       simp only [Act.put,List.setIfInBounds_toArray,List.set_cons_zero,List.set_cons_succ,i64_w,i32_w]
       rfl
      refine pure_ (i:=6) (N:=some 18) (v:=?_) (a':=?_) #[true,true,true,true,true,true,true] rfl rfl (by kernel_rfl) (fun _ _ _ h=>h) (Or.inl ⟨by rfl,?_⟩) ?_ ?_
      rotate_left
      ·exact sb
      rotate_left
      ·exact sa
      refine done_ (by kernel_rfl) ?_
      try go_wp2
      go_ret
      exact ⟨Y1,Y12⟩
    ·rw [if_neg c5] at H
     exact absurd H (by simp)
   ·rw [if_neg c4] at H
    have c4b0:decide (x5_1<(l1.length:Int))=false:=dzF c4
    clear c4
    replace H:=bzS H
    obtain ⟨t117,A120,H⟩:=H
    replace H:(if t117=true then (some (decide ((l1.length:Int)≤8))) else (some false))=some r:=H
    have A12:=am A120
    clear A120
    by_cases c13:t117=true
    ·subst c13
     have H1:(some (decide ((l1.length:Int)≤8)))=some r:=by rw [if_pos rfl] at H;exact H
     clear H
     have H:=H1
     clear H1
     obtain rfl:=Option.some.inj H
     have hcz14_0:=bc0 BK116.out
     have hfz14_0:=ja BK116.out 0
     go_wp2_with (first |((with_reducible refine jl (f:=25) rfl ?_);refine gL (some 20) Tryd.func25 #[.agg #[.slice A0_0 l0_0.length c0_0]] ?_;(with_reducible refine (jo.calls k1 _ _ l0_0 true _ ?side1 ?side2 A12.out).mono ?_);(case side1=>exact cq (Kd.jD HR0_0.out HB.out));(case side2=>exact HC0_0.out);rintro e w15 ⟨rfl,hb⟩;refine ⟨_,rfl,?_⟩;replace BK116:=am (jc (g:=gb116) (o:=.cells #[.slice A0_0 l0_0.length c0_0] 31 (0,0)) (kq BK116.out) hb);replace HB:=am (jb (Y12) hb);(try clear hb);(try clear hb2);(try clear hk);(try clear hi)))
     go_ret
     exact ⟨Y1,Y12⟩
    ·replace c13:=Bool.eq_false_iff.mpr c13
     subst c13
     have H1:(some false)=some r:=by rw [if_neg (show ¬ (false=true) by decide)] at H;exact H
     clear H
     have H:=H1
     clear H1
     obtain rfl:=Option.some.inj H
     have hcz16_0:=bc0 BK116.out
     have hfz16_0:=ja BK116.out 0
     go_wp2_with (first |((with_reducible refine jl (f:=25) rfl ?_);refine gL (some 20) Tryd.func25 #[.agg #[.slice A0_0 l0_0.length c0_0]] ?_;(with_reducible refine (jo.calls k1 _ _ l0_0 false _ ?side1 ?side2 A12.out).mono ?_);(case side1=>exact cq (Kd.jD HR0_0.out HB.out));(case side2=>exact HC0_0.out);rintro e w17 ⟨rfl,hb⟩;refine ⟨_,rfl,?_⟩;replace BK116:=am (jc (g:=gb116) (o:=.cells #[.slice A0_0 l0_0.length c0_0] 31 (0,0)) (kq BK116.out) hb);replace HB:=am (jb (Y12) hb);(try clear hb);(try clear hb2);(try clear hk);(try clear hi)))
     go_ret
     exact ⟨Y1,Y12⟩
def jI.f : Nat → Int → Option (ByteArray)
 | 0,_=>none
 | k+1,a0=>if a0<10 then (if 0≤a0 then (if a0≤(wrap64 (a0+1)) then (if (wrap64 (a0+1))≤10 then (some ((⟨#[48,49,50,51,52,53,54,55,56,57]⟩:ByteArray).extract (a0:Int).toNat ((wrap64 (a0+1)):Int).toNat)) else (none)) else (none)) else (none)) else ((jI.f k (wrap64 (Int.tdiv a0 10))).bind fun t120=>((jI.f k (Int.tmod a0 10)).bind fun t121=>(if t120.size+t121.size≤9223372036854775807 then (some (t120 ++ t121)) else (none))))
set_option maxHeartbeats 8000000 in
set_option maxRecDepth 100000 in
theorem jI.calls (k : Nat) : ∀ (a0 : Int) (r : ByteArray) (w : World) (h : jI.f k a0 = some r),
  Calls Tryd.prog 40 #[.int .i64 a0] w fun e w'=>e=.returned (.string r)∧jza w w':=by
 induction k using Nat.strongRecOn with
 | _ k ih =>
 intro a0 r w h
 cases k with
 | zero=>exact absurd h (by simp [jI.f])
 | succ k =>
 simp only [jI.f] at h
 have H:(if a0<10 then (if 0≤a0 then (if a0≤(wrap64 (a0+1)) then (if (wrap64 (a0+1))≤10 then (some ((⟨#[48,49,50,51,52,53,54,55,56,57]⟩:ByteArray).extract (a0:Int).toNat ((wrap64 (a0+1)):Int).toNat)) else (none)) else (none)) else (none)) else ((jI.f k (wrap64 (Int.tdiv a0 10))).bind fun t120=>((jI.f k (Int.tmod a0 10)).bind fun t121=>(if t120.size+t121.size≤9223372036854775807 then (some (t120 ++ t121)) else (none)))))=some r:=h
 clear h
 by_cases c2:a0<10
 ·rw [if_pos c2] at H
  have c2b0:decide (a0<10)=true:=dzT c2
  clear c2
  by_cases c3:0≤a0
  ·rw [if_pos c3] at H
   have c3b0:=ezT c3
   have c3b1:decide (0≤a0)=true:=dzT c3
   clear c3
   by_cases c4:a0≤(wrap64 (a0+1))
   ·rw [if_pos c4] at H
    have c4b0:=ezT c4
    have c4b1:decide (a0≤(wrap64 (a0+1)))=true:=dzT c4
    by_cases c5:(wrap64 (a0+1))≤10
    ·rw [if_pos c5] at H
     have c5b0:=ezT c5
     have c5b1:decide ((wrap64 (a0+1))≤10)=true:=dzT c5
     obtain rfl:=Option.some.inj H
     go_enter Tryd.func40,Tryd.ntmps40
     go_wp2
     go_ret
     exact ⟨sq,Y3⟩
    ·rw [if_neg c5] at H
     exact absurd H (by simp)
   ·rw [if_neg c4] at H
    exact absurd H (by simp)
  ·rw [if_neg c3] at H
   exact absurd H (by simp)
 ·rw [if_neg c2] at H
  have c2b0:decide (a0<10)=false:=dzF c2
  clear c2
  replace H:=bzS H
  obtain ⟨t120,A60,H⟩:=H
  replace H:((jI.f k (Int.tmod a0 10)).bind fun t121=>(if t120.size+t121.size≤9223372036854775807 then (some (t120 ++ t121)) else (none)))=some r:=H
  have A6:=am A60
  clear A60
  replace H:=bzS H
  obtain ⟨t121,A70,H⟩:=H
  replace H:(if t120.size+t121.size≤9223372036854775807 then (some (t120 ++ t121)) else (none))=some r:=H
  have A7:=am A70
  clear A70
  by_cases c8:t120.size+t121.size≤9223372036854775807
  ·rw [if_pos c8] at H
   have c8b0:=ezT c8
   have c8b1:decide (t120.size+t121.size≤9223372036854775807)=true:=dzT c8
   try have c8b2:(9223372036854775807<t120.size+t121.size)=False:=eq_false (Nat.not_lt.2 c8)
   obtain rfl:=Option.some.inj H
   go_enter Tryd.func40,Tryd.ntmps40
   go_wp2_with (first |((with_reducible refine jl (f:=40) rfl ?_);refine gL (some 11) Tryd.func40 #[.int .i64 (wrap64 (Int.tdiv a0 10))] ?_;(with_reducible refine (ih k (by omega) (wrap64 (Int.tdiv a0 10)) t120 _ A6.out).mono ?_);rintro e w' ⟨rfl,⟨nd,rfl⟩⟩;refine ⟨_,rfl,?_⟩) |((with_reducible refine jl (f:=40) rfl ?_);refine gL (some 14) Tryd.func40 #[.int .i64 (Int.tmod a0 10)] ?_;(with_reducible refine (ih k (by omega) (Int.tmod a0 10) t121 _ A7.out).mono ?_);rintro e w' ⟨rfl,⟨nd,rfl⟩⟩;refine ⟨_,rfl,?_⟩))
   go_ret
   exact ⟨sq,Y3⟩
  ·rw [if_neg c8] at H
   exact absurd H (by simp)
def jwa.f (k : Nat) (l0_0 : List (S63)) (a1_0 : Int) (a1_1 : Int) (a1_2 : Int) : Option (ByteArray) := if a1_0 = 2 then (if 0 ≤ a1_1 then (if a1_1 < (l0_0.length : Int) then (if 6 + ((jg l0_0 a1_1).f0).size ≤ 9223372036854775807 then (some ((⟨#[99, 97, 116, 99, 104, 32]⟩ : ByteArray) ++ ((jg l0_0 a1_1).f0))) else (none)) else (none)) else (none)) else (if a1_0 = 3 then (if 0 ≤ a1_1 then (if a1_1 < (l0_0.length : Int) then (if 6 + ((jg l0_0 a1_1).f0).size ≤ 9223372036854775807 then (if ((⟨#[114, 97, 105, 115, 101, 32]⟩ : ByteArray) ++ ((jg l0_0 a1_1).f0)).size + 1 ≤ 9223372036854775807 then ((jI.f k a1_2).bind fun t126 => (if (((⟨#[114, 97, 105, 115, 101, 32]⟩ : ByteArray) ++ ((jg l0_0 a1_1).f0)) ++ (⟨#[32]⟩ : ByteArray)).size + t126.size ≤ 9223372036854775807 then (some ((((⟨#[114, 97, 105, 115, 101, 32]⟩ : ByteArray) ++ ((jg l0_0 a1_1).f0)) ++ (⟨#[32]⟩ : ByteArray)) ++ t126)) else (none))) else (none)) else (none)) else (none)) else (none)) else (if a1_0 = 1 then ((jI.f k a1_1).bind fun t127 => (if 5 + t127.size ≤ 9223372036854775807 then (some ((⟨#[116, 101, 108, 108, 32]⟩ : ByteArray) ++ t127)) else (none))) else ((jI.f k a1_1).bind fun t128 => (if 5 + t128.size ≤ 9223372036854775807 then (some ((⟨#[99, 97, 108, 108, 32]⟩ : ByteArray) ++ t128)) else (none)))))
set_option maxHeartbeats 8000000 in
set_option maxRecDepth 100000 in
theorem jwa.calls (k : Nat) (A0_0 : Option Addr) (c0_0 : Nat) (l0_0 : List (S63)) (a1_0 : Int) (a1_1 : Int) (a1_2 : Int) (r : ByteArray) (w : World) (hr0_0 : Kd.C k63 w A0_0 l0_0.length l0_0) (hc0_0 : l0_0.length ≤ c0_0) (h : jwa.f k l0_0 a1_0 a1_1 a1_2 = some r) :
  Calls Tryd.prog 26 #[.agg #[.slice A0_0 l0_0.length c0_0], .agg #[.int .i64 a1_0, .int .i64 a1_1, .int .i64 a1_2]] w fun e w'=>e=.returned (.string r)∧Below w.heap.size w w':=by
 have hu31:=Tryd.underlying31
 have hu42:=Tryd.underlying42
 have HR0_0:=am hr0_0
 have HC0_0:=am hc0_0
 clear hr0_0 hc0_0
 have HB:=am (Below.refl w.heap.size w)
 have H:(if a1_0=2 then (if 0≤a1_1 then (if a1_1<(l0_0.length:Int) then (if 6+((jg l0_0 a1_1).f0).size≤9223372036854775807 then (some ((⟨#[99,97,116,99,104,32]⟩:ByteArray) ++ ((jg l0_0 a1_1).f0))) else (none)) else (none)) else (none)) else (if a1_0=3 then (if 0≤a1_1 then (if a1_1<(l0_0.length:Int) then (if 6+((jg l0_0 a1_1).f0).size≤9223372036854775807 then (if ((⟨#[114,97,105,115,101,32]⟩:ByteArray) ++ ((jg l0_0 a1_1).f0)).size+1≤9223372036854775807 then ((jI.f k a1_2).bind fun t126=>(if (((⟨#[114,97,105,115,101,32]⟩:ByteArray) ++ ((jg l0_0 a1_1).f0)) ++ (⟨#[32]⟩:ByteArray)).size+t126.size≤9223372036854775807 then (some ((((⟨#[114,97,105,115,101,32]⟩:ByteArray) ++ ((jg l0_0 a1_1).f0)) ++ (⟨#[32]⟩:ByteArray)) ++ t126)) else (none))) else (none)) else (none)) else (none)) else (none)) else (if a1_0=1 then ((jI.f k a1_1).bind fun t127=>(if 5+t127.size≤9223372036854775807 then (some ((⟨#[116,101,108,108,32]⟩:ByteArray) ++ t127)) else (none))) else ((jI.f k a1_1).bind fun t128=>(if 5+t128.size≤9223372036854775807 then (some ((⟨#[99,97,108,108,32]⟩:ByteArray) ++ t128)) else (none))))))=some r:=h
 clear h
 by_cases c3:a1_0=2
 ·rw [if_pos c3] at H
  have c3b0:(a1_0 == 2)=true:=beq_iff_eq.mpr c3
  have c3b1:(a1_0 != 2)=false:=bne_eq_false_iff_eq.mpr c3
  clear c3
  by_cases c4:0≤a1_1
  ·rw [if_pos c4] at H
   have c4b0:decide (0≤a1_1)=true:=dzT c4
   clear c4
   by_cases c5:a1_1<(l0_0.length:Int)
   ·rw [if_pos c5] at H
    have c5b0:decide (a1_1<(l0_0.length:Int))=true:=dzT c5
    clear c5
    by_cases c6:6+((jg l0_0 a1_1).f0).size≤9223372036854775807
    ·rw [if_pos c6] at H
     have c6b0:=ezT c6
     have c6b1:decide (6+((jg l0_0 a1_1).f0).size≤9223372036854775807)=true:=dzT c6
     try have c6b2:(9223372036854775807<6+((jg l0_0 a1_1).f0).size)=False:=eq_false (Nat.not_lt.2 c6)
     obtain rfl:=Option.some.inj H
     go_enter Tryd.func26,Tryd.ntmps26
     go_wp2_with (first |((with_reducible refine jr (N:=2) rfl ?_);refine bE (N:=2) (cs:=#[.slice A0_0 l0_0.length c0_0]) (t:=31) ?_;intro gb122 hg w7 hbox hb;have BK122:=am (hbox);have GW122:=am ((Y0:w.heap.size≤gb122));have GE122:=am ((Y0:w.heap.size≤gb122));replace HB:=am (jb (bq) hb);clear hb hbox hg) |((with_reducible refine jr (N:=3) rfl ?_);refine bE (N:=3) (cs:=#[.int .i64 a1_0, .int .i64 a1_1, .int .i64 a1_2]) (t:=42) ?_;intro gb123 hg w8 hbox hb;have BK123:=am (hbox);have GW123:=am ((Y2:w.heap.size≤gb123));have GE123:=am ((Y2:w.heap.size≤gb123));have NB122_123:=am ((Y8:gb122≠gb123));have NB123_122:=am ((Y9:gb123≠gb122));replace BK122:=am (jc (g:=gb122) (o:=.cells #[.slice A0_0 l0_0.length c0_0] 31 (0,0)) (kq BK122.out) hb);replace HB:=am (jb (Y10) hb);clear hb hbox hg;have hnb9:=NB123_122.out;have hnc9:=NB122_123.out;have hcz10_0:=bc0 BK123.out;have hcz10_1:=bc1 BK123.out;have hcz10_2:=bc2 BK123.out;have hfz10_0:=ja BK123.out 0;have hfz10_1:=ja BK123.out 1;have hfz10_2:=ja BK123.out 2;have hcz11_0:=bc0 BK122.out;have hfz11_0:=ja BK122.out 0;have p124:0≤(a1_1:Int):=ozD (uq);have q124:a1_1<(l0_0.length:Int):=ozD (uq);obtain ⟨ad124,e124,hx124_0,hx124_1⟩:=jKa HR0_0.out a1_1 p124 q124;cases e124;replace hx124_0:=cb HB.out hx124_0;replace hx124_1:=cb HB.out hx124_1;replace p124:=ezT p124;replace q124:=ezT q124))
     repeat (go_quiet (first |((with_reducible refine jr (N:=2) rfl ?_);refine bE (N:=2) (cs:=#[.slice A0_0 l0_0.length c0_0]) (t:=31) ?_;intro gb122 hg w7 hbox hb;have BK122:=am (hbox);have GW122:=am ((Y0:w.heap.size≤gb122));have GE122:=am ((Y0:w.heap.size≤gb122));replace HB:=am (jb (bq) hb);clear hb hbox hg) |((with_reducible refine jr (N:=3) rfl ?_);refine bE (N:=3) (cs:=#[.int .i64 a1_0, .int .i64 a1_1, .int .i64 a1_2]) (t:=42) ?_;intro gb123 hg w8 hbox hb;have BK123:=am (hbox);have GW123:=am ((Y2:w.heap.size≤gb123));have GE123:=am ((Y2:w.heap.size≤gb123));have NB122_123:=am ((Y8:gb122≠gb123));have NB123_122:=am ((Y9:gb123≠gb122));replace BK122:=am (jc (g:=gb122) (o:=.cells #[.slice A0_0 l0_0.length c0_0] 31 (0,0)) (kq BK122.out) hb);replace HB:=am (jb (Y10) hb);clear hb hbox hg;have hnb9:=NB123_122.out;have hnc9:=NB122_123.out;have hcz10_0:=bc0 BK123.out;have hcz10_1:=bc1 BK123.out;have hcz10_2:=bc2 BK123.out;have hfz10_0:=ja BK123.out 0;have hfz10_1:=ja BK123.out 1;have hfz10_2:=ja BK123.out 2;have hcz11_0:=bc0 BK122.out;have hfz11_0:=ja BK122.out 0;have p124:0≤(a1_1:Int):=ozD (uq);have q124:a1_1<(l0_0.length:Int):=ozD (uq);obtain ⟨ad124,e124,hx124_0,hx124_1⟩:=jKa HR0_0.out a1_1 p124 q124;cases e124;replace hx124_0:=cb HB.out hx124_0;replace hx124_1:=cb HB.out hx124_1;replace p124:=ezT p124;replace q124:=ezT q124));try go_wp2_with (first |((with_reducible refine jr (N:=2) rfl ?_);refine bE (N:=2) (cs:=#[.slice A0_0 l0_0.length c0_0]) (t:=31) ?_;intro gb122 hg w7 hbox hb;have BK122:=am (hbox);have GW122:=am ((Y0:w.heap.size≤gb122));have GE122:=am ((Y0:w.heap.size≤gb122));replace HB:=am (jb (bq) hb);clear hb hbox hg) |((with_reducible refine jr (N:=3) rfl ?_);refine bE (N:=3) (cs:=#[.int .i64 a1_0, .int .i64 a1_1, .int .i64 a1_2]) (t:=42) ?_;intro gb123 hg w8 hbox hb;have BK123:=am (hbox);have GW123:=am ((Y2:w.heap.size≤gb123));have GE123:=am ((Y2:w.heap.size≤gb123));have NB122_123:=am ((Y8:gb122≠gb123));have NB123_122:=am ((Y9:gb123≠gb122));replace BK122:=am (jc (g:=gb122) (o:=.cells #[.slice A0_0 l0_0.length c0_0] 31 (0,0)) (kq BK122.out) hb);replace HB:=am (jb (Y10) hb);clear hb hbox hg;have hnb9:=NB123_122.out;have hnc9:=NB122_123.out;have hcz10_0:=bc0 BK123.out;have hcz10_1:=bc1 BK123.out;have hcz10_2:=bc2 BK123.out;have hfz10_0:=ja BK123.out 0;have hfz10_1:=ja BK123.out 1;have hfz10_2:=ja BK123.out 2;have hcz11_0:=bc0 BK122.out;have hfz11_0:=ja BK122.out 0;have p124:0≤(a1_1:Int):=ozD (uq);have q124:a1_1<(l0_0.length:Int):=ozD (uq);obtain ⟨ad124,e124,hx124_0,hx124_1⟩:=jKa HR0_0.out a1_1 p124 q124;cases e124;replace hx124_0:=cb HB.out hx124_0;replace hx124_1:=cb HB.out hx124_1;replace p124:=ezT p124;replace q124:=ezT q124)))
     go_ret
     exact ⟨Y1,Y19⟩
    ·rw [if_neg c6] at H
     exact absurd H (by simp)
   ·rw [if_neg c5] at H
    exact absurd H (by simp)
  ·rw [if_neg c4] at H
   exact absurd H (by simp)
 ·rw [if_neg c3] at H
  have c3b0:(a1_0 == 2)=false:=beq_eq_false_iff_ne.mpr c3
  have c3b1:(a1_0 != 2)=true:=bne_iff_ne.mpr c3
  by_cases c12:a1_0=3
  ·rw [if_pos c12] at H
   have c12b0:(a1_0 == 3)=true:=beq_iff_eq.mpr c12
   have c12b1:(a1_0 != 3)=false:=bne_eq_false_iff_eq.mpr c12
   clear c12
   by_cases c13:0≤a1_1
   ·rw [if_pos c13] at H
    have c13b0:decide (0≤a1_1)=true:=dzT c13
    clear c13
    by_cases c14:a1_1<(l0_0.length:Int)
    ·rw [if_pos c14] at H
     have c14b0:decide (a1_1<(l0_0.length:Int))=true:=dzT c14
     clear c14
     by_cases c15:6+((jg l0_0 a1_1).f0).size≤9223372036854775807
     ·rw [if_pos c15] at H
      have c15b0:=ezT c15
      have c15b1:decide (6+((jg l0_0 a1_1).f0).size≤9223372036854775807)=true:=dzT c15
      try have c15b2:(9223372036854775807<6+((jg l0_0 a1_1).f0).size)=False:=eq_false (Nat.not_lt.2 c15)
      by_cases c16:((⟨#[114,97,105,115,101,32]⟩:ByteArray) ++ ((jg l0_0 a1_1).f0)).size+1≤9223372036854775807
      ·rw [if_pos c16] at H
       have c16b0:=ezT c16
       have c16b1:decide (((⟨#[114,97,105,115,101,32]⟩:ByteArray) ++ ((jg l0_0 a1_1).f0)).size+1≤9223372036854775807)=true:=dzT c16
       try have c16b2:(9223372036854775807<((⟨#[114,97,105,115,101,32]⟩:ByteArray) ++ ((jg l0_0 a1_1).f0)).size+1)=False:=eq_false (Nat.not_lt.2 c16)
       try have c16s:(9223372036854775807<6+((jg l0_0 a1_1).f0).size+1)=False:=eq_false (Nat.not_lt.2 (by have h_:=c16;simp only [ByteArray.size_append] at h_;exact h_))
       replace H:=bzS H
       obtain ⟨t126,A170,H⟩:=H
       replace H:(if (((⟨#[114,97,105,115,101,32]⟩:ByteArray) ++ ((jg l0_0 a1_1).f0)) ++ (⟨#[32]⟩:ByteArray)).size+t126.size≤9223372036854775807 then (some ((((⟨#[114,97,105,115,101,32]⟩:ByteArray) ++ ((jg l0_0 a1_1).f0)) ++ (⟨#[32]⟩:ByteArray)) ++ t126)) else (none))=some r:=H
       have A17:=am A170
       clear A170
       by_cases c18:(((⟨#[114,97,105,115,101,32]⟩:ByteArray) ++ ((jg l0_0 a1_1).f0)) ++ (⟨#[32]⟩:ByteArray)).size+t126.size≤9223372036854775807
       ·rw [if_pos c18] at H
        have c18b0:=ezT c18
        have c18b1:decide ((((⟨#[114,97,105,115,101,32]⟩:ByteArray) ++ ((jg l0_0 a1_1).f0)) ++ (⟨#[32]⟩:ByteArray)).size+t126.size≤9223372036854775807)=true:=dzT c18
        try have c18b2:(9223372036854775807<(((⟨#[114,97,105,115,101,32]⟩:ByteArray) ++ ((jg l0_0 a1_1).f0)) ++ (⟨#[32]⟩:ByteArray)).size+t126.size)=False:=eq_false (Nat.not_lt.2 c18)
        try have c18s:(9223372036854775807<6+((jg l0_0 a1_1).f0).size+1+t126.size)=False:=eq_false (Nat.not_lt.2 (by have h_:=c18;simp only [ByteArray.size_append] at h_;exact h_))
        obtain rfl:=Option.some.inj H
        go_enter Tryd.func26,Tryd.ntmps26
        go_wp2_with (first |((with_reducible refine jr (N:=2) rfl ?_);refine bE (N:=2) (cs:=#[.slice A0_0 l0_0.length c0_0]) (t:=31) ?_;intro gb122 hg w19 hbox hb;have BK122:=am (hbox);have GW122:=am ((Y0:w.heap.size≤gb122));have GE122:=am ((Y0:w.heap.size≤gb122));replace HB:=am (jb (bq) hb);clear hb hbox hg) |((with_reducible refine jr (N:=3) rfl ?_);refine bE (N:=3) (cs:=#[.int .i64 a1_0, .int .i64 a1_1, .int .i64 a1_2]) (t:=42) ?_;intro gb123 hg w20 hbox hb;have BK123:=am (hbox);have GW123:=am ((Y2:w.heap.size≤gb123));have GE123:=am ((Y2:w.heap.size≤gb123));have NB122_123:=am ((Y8:gb122≠gb123));have NB123_122:=am ((Y9:gb123≠gb122));replace BK122:=am (jc (g:=gb122) (o:=.cells #[.slice A0_0 l0_0.length c0_0] 31 (0,0)) (kq BK122.out) hb);replace HB:=am (jb (Y10) hb);clear hb hbox hg;have hnb21:=NB123_122.out;have hnc21:=NB122_123.out;have hcz22_0:=bc0 BK123.out;have hcz22_1:=bc1 BK123.out;have hcz22_2:=bc2 BK123.out;have hfz22_0:=ja BK123.out 0;have hfz22_1:=ja BK123.out 1;have hfz22_2:=ja BK123.out 2;have hcz23_0:=bc0 BK122.out;have hfz23_0:=ja BK122.out 0;have p125:0≤(a1_1:Int):=ozD (uq);have q125:a1_1<(l0_0.length:Int):=ozD (uq);obtain ⟨ad125,e125,hx125_0,hx125_1⟩:=jKa HR0_0.out a1_1 p125 q125;cases e125;replace hx125_0:=cb HB.out hx125_0;replace hx125_1:=cb HB.out hx125_1;replace p125:=ezT p125;replace q125:=ezT q125) |(go_at_call 40;(with_reducible refine (jI.calls k a1_2 t126 _ A17.out).mono ?_);rintro e w' ⟨rfl,⟨nd,rfl⟩⟩;(try first | exact ⟨rfl,_,World.drewN_drewN _ _ _⟩ | exact ⟨rfl,_,Eq.trans (World.drewN_drewN _ _ _) (congrArg (World.drewN _) (Nat.add_assoc _ _ _))⟩)))
        repeat (go_quiet (first |((with_reducible refine jr (N:=2) rfl ?_);refine bE (N:=2) (cs:=#[.slice A0_0 l0_0.length c0_0]) (t:=31) ?_;intro gb122 hg w19 hbox hb;have BK122:=am (hbox);have GW122:=am ((Y0:w.heap.size≤gb122));have GE122:=am ((Y0:w.heap.size≤gb122));replace HB:=am (jb (bq) hb);clear hb hbox hg) |((with_reducible refine jr (N:=3) rfl ?_);refine bE (N:=3) (cs:=#[.int .i64 a1_0, .int .i64 a1_1, .int .i64 a1_2]) (t:=42) ?_;intro gb123 hg w20 hbox hb;have BK123:=am (hbox);have GW123:=am ((Y2:w.heap.size≤gb123));have GE123:=am ((Y2:w.heap.size≤gb123));have NB122_123:=am ((Y8:gb122≠gb123));have NB123_122:=am ((Y9:gb123≠gb122));replace BK122:=am (jc (g:=gb122) (o:=.cells #[.slice A0_0 l0_0.length c0_0] 31 (0,0)) (kq BK122.out) hb);replace HB:=am (jb (Y10) hb);clear hb hbox hg;have hnb21:=NB123_122.out;have hnc21:=NB122_123.out;have hcz22_0:=bc0 BK123.out;have hcz22_1:=bc1 BK123.out;have hcz22_2:=bc2 BK123.out;have hfz22_0:=ja BK123.out 0;have hfz22_1:=ja BK123.out 1;have hfz22_2:=ja BK123.out 2;have hcz23_0:=bc0 BK122.out;have hfz23_0:=ja BK122.out 0;have p125:0≤(a1_1:Int):=ozD (uq);have q125:a1_1<(l0_0.length:Int):=ozD (uq);obtain ⟨ad125,e125,hx125_0,hx125_1⟩:=jKa HR0_0.out a1_1 p125 q125;cases e125;replace hx125_0:=cb HB.out hx125_0;replace hx125_1:=cb HB.out hx125_1;replace p125:=ezT p125;replace q125:=ezT q125) |(go_at_call 40;(with_reducible refine (jI.calls k a1_2 t126 _ A17.out).mono ?_);rintro e w' ⟨rfl,⟨nd,rfl⟩⟩;(try first | exact ⟨rfl,_,World.drewN_drewN _ _ _⟩ | exact ⟨rfl,_,Eq.trans (World.drewN_drewN _ _ _) (congrArg (World.drewN _) (Nat.add_assoc _ _ _))⟩)));try go_wp2_with (first |((with_reducible refine jr (N:=2) rfl ?_);refine bE (N:=2) (cs:=#[.slice A0_0 l0_0.length c0_0]) (t:=31) ?_;intro gb122 hg w19 hbox hb;have BK122:=am (hbox);have GW122:=am ((Y0:w.heap.size≤gb122));have GE122:=am ((Y0:w.heap.size≤gb122));replace HB:=am (jb (bq) hb);clear hb hbox hg) |((with_reducible refine jr (N:=3) rfl ?_);refine bE (N:=3) (cs:=#[.int .i64 a1_0, .int .i64 a1_1, .int .i64 a1_2]) (t:=42) ?_;intro gb123 hg w20 hbox hb;have BK123:=am (hbox);have GW123:=am ((Y2:w.heap.size≤gb123));have GE123:=am ((Y2:w.heap.size≤gb123));have NB122_123:=am ((Y8:gb122≠gb123));have NB123_122:=am ((Y9:gb123≠gb122));replace BK122:=am (jc (g:=gb122) (o:=.cells #[.slice A0_0 l0_0.length c0_0] 31 (0,0)) (kq BK122.out) hb);replace HB:=am (jb (Y10) hb);clear hb hbox hg;have hnb21:=NB123_122.out;have hnc21:=NB122_123.out;have hcz22_0:=bc0 BK123.out;have hcz22_1:=bc1 BK123.out;have hcz22_2:=bc2 BK123.out;have hfz22_0:=ja BK123.out 0;have hfz22_1:=ja BK123.out 1;have hfz22_2:=ja BK123.out 2;have hcz23_0:=bc0 BK122.out;have hfz23_0:=ja BK122.out 0;have p125:0≤(a1_1:Int):=ozD (uq);have q125:a1_1<(l0_0.length:Int):=ozD (uq);obtain ⟨ad125,e125,hx125_0,hx125_1⟩:=jKa HR0_0.out a1_1 p125 q125;cases e125;replace hx125_0:=cb HB.out hx125_0;replace hx125_1:=cb HB.out hx125_1;replace p125:=ezT p125;replace q125:=ezT q125) |(go_at_call 40;(with_reducible refine (jI.calls k a1_2 t126 _ A17.out).mono ?_);rintro e w' ⟨rfl,⟨nd,rfl⟩⟩;(try first | exact ⟨rfl,_,World.drewN_drewN _ _ _⟩ | exact ⟨rfl,_,Eq.trans (World.drewN_drewN _ _ _) (congrArg (World.drewN _) (Nat.add_assoc _ _ _))⟩))))
        go_ret
        exact ⟨Y1,Y19⟩
       ·rw [if_neg c18] at H
        exact absurd H (by simp)
      ·rw [if_neg c16] at H
       exact absurd H (by simp)
     ·rw [if_neg c15] at H
      exact absurd H (by simp)
    ·rw [if_neg c14] at H
     exact absurd H (by simp)
   ·rw [if_neg c13] at H
    exact absurd H (by simp)
  ·rw [if_neg c12] at H
   have c12b0:(a1_0 == 3)=false:=beq_eq_false_iff_ne.mpr c12
   have c12b1:(a1_0 != 3)=true:=bne_iff_ne.mpr c12
   by_cases c24:a1_0=1
   ·rw [if_pos c24] at H
    have c24b0:(a1_0 == 1)=true:=beq_iff_eq.mpr c24
    have c24b1:(a1_0 != 1)=false:=bne_eq_false_iff_eq.mpr c24
    clear c24
    replace H:=bzS H
    obtain ⟨t127,A250,H⟩:=H
    replace H:(if 5+t127.size≤9223372036854775807 then (some ((⟨#[116,101,108,108,32]⟩:ByteArray) ++ t127)) else (none))=some r:=H
    have A25:=am A250
    clear A250
    by_cases c26:5+t127.size≤9223372036854775807
    ·rw [if_pos c26] at H
     have c26b0:=ezT c26
     have c26b1:decide (5+t127.size≤9223372036854775807)=true:=dzT c26
     try have c26b2:(9223372036854775807<5+t127.size)=False:=eq_false (Nat.not_lt.2 c26)
     obtain rfl:=Option.some.inj H
     go_enter Tryd.func26,Tryd.ntmps26
     go_wp2_with (first |((with_reducible refine jr (N:=2) rfl ?_);refine bE (N:=2) (cs:=#[.slice A0_0 l0_0.length c0_0]) (t:=31) ?_;intro gb122 hg w27 hbox hb;have BK122:=am (hbox);have GW122:=am ((Y0:w.heap.size≤gb122));have GE122:=am ((Y0:w.heap.size≤gb122));replace HB:=am (jb (bq) hb);clear hb hbox hg) |((with_reducible refine jr (N:=3) rfl ?_);refine bE (N:=3) (cs:=#[.int .i64 a1_0, .int .i64 a1_1, .int .i64 a1_2]) (t:=42) ?_;intro gb123 hg w28 hbox hb;have BK123:=am (hbox);have GW123:=am ((Y2:w.heap.size≤gb123));have GE123:=am ((Y2:w.heap.size≤gb123));have NB122_123:=am ((Y8:gb122≠gb123));have NB123_122:=am ((Y9:gb123≠gb122));replace BK122:=am (jc (g:=gb122) (o:=.cells #[.slice A0_0 l0_0.length c0_0] 31 (0,0)) (kq BK122.out) hb);replace HB:=am (jb (Y10) hb);clear hb hbox hg;have hnb29:=NB123_122.out;have hnc29:=NB122_123.out;have hcz30_0:=bc0 BK123.out;have hcz30_1:=bc1 BK123.out;have hcz30_2:=bc2 BK123.out;have hfz30_0:=ja BK123.out 0;have hfz30_1:=ja BK123.out 1;have hfz30_2:=ja BK123.out 2) |(go_at_call 40;(with_reducible refine (jI.calls k a1_1 t127 _ A25.out).mono ?_);rintro e w' ⟨rfl,⟨nd,rfl⟩⟩;(try first | exact ⟨rfl,_,World.drewN_drewN _ _ _⟩ | exact ⟨rfl,_,Eq.trans (World.drewN_drewN _ _ _) (congrArg (World.drewN _) (Nat.add_assoc _ _ _))⟩)))
     repeat (go_quiet (first |((with_reducible refine jr (N:=2) rfl ?_);refine bE (N:=2) (cs:=#[.slice A0_0 l0_0.length c0_0]) (t:=31) ?_;intro gb122 hg w27 hbox hb;have BK122:=am (hbox);have GW122:=am ((Y0:w.heap.size≤gb122));have GE122:=am ((Y0:w.heap.size≤gb122));replace HB:=am (jb (bq) hb);clear hb hbox hg) |((with_reducible refine jr (N:=3) rfl ?_);refine bE (N:=3) (cs:=#[.int .i64 a1_0, .int .i64 a1_1, .int .i64 a1_2]) (t:=42) ?_;intro gb123 hg w28 hbox hb;have BK123:=am (hbox);have GW123:=am ((Y2:w.heap.size≤gb123));have GE123:=am ((Y2:w.heap.size≤gb123));have NB122_123:=am ((Y8:gb122≠gb123));have NB123_122:=am ((Y9:gb123≠gb122));replace BK122:=am (jc (g:=gb122) (o:=.cells #[.slice A0_0 l0_0.length c0_0] 31 (0,0)) (kq BK122.out) hb);replace HB:=am (jb (Y10) hb);clear hb hbox hg;have hnb29:=NB123_122.out;have hnc29:=NB122_123.out;have hcz30_0:=bc0 BK123.out;have hcz30_1:=bc1 BK123.out;have hcz30_2:=bc2 BK123.out;have hfz30_0:=ja BK123.out 0;have hfz30_1:=ja BK123.out 1;have hfz30_2:=ja BK123.out 2) |(go_at_call 40;(with_reducible refine (jI.calls k a1_1 t127 _ A25.out).mono ?_);rintro e w' ⟨rfl,⟨nd,rfl⟩⟩;(try first | exact ⟨rfl,_,World.drewN_drewN _ _ _⟩ | exact ⟨rfl,_,Eq.trans (World.drewN_drewN _ _ _) (congrArg (World.drewN _) (Nat.add_assoc _ _ _))⟩)));try go_wp2_with (first |((with_reducible refine jr (N:=2) rfl ?_);refine bE (N:=2) (cs:=#[.slice A0_0 l0_0.length c0_0]) (t:=31) ?_;intro gb122 hg w27 hbox hb;have BK122:=am (hbox);have GW122:=am ((Y0:w.heap.size≤gb122));have GE122:=am ((Y0:w.heap.size≤gb122));replace HB:=am (jb (bq) hb);clear hb hbox hg) |((with_reducible refine jr (N:=3) rfl ?_);refine bE (N:=3) (cs:=#[.int .i64 a1_0, .int .i64 a1_1, .int .i64 a1_2]) (t:=42) ?_;intro gb123 hg w28 hbox hb;have BK123:=am (hbox);have GW123:=am ((Y2:w.heap.size≤gb123));have GE123:=am ((Y2:w.heap.size≤gb123));have NB122_123:=am ((Y8:gb122≠gb123));have NB123_122:=am ((Y9:gb123≠gb122));replace BK122:=am (jc (g:=gb122) (o:=.cells #[.slice A0_0 l0_0.length c0_0] 31 (0,0)) (kq BK122.out) hb);replace HB:=am (jb (Y10) hb);clear hb hbox hg;have hnb29:=NB123_122.out;have hnc29:=NB122_123.out;have hcz30_0:=bc0 BK123.out;have hcz30_1:=bc1 BK123.out;have hcz30_2:=bc2 BK123.out;have hfz30_0:=ja BK123.out 0;have hfz30_1:=ja BK123.out 1;have hfz30_2:=ja BK123.out 2) |(go_at_call 40;(with_reducible refine (jI.calls k a1_1 t127 _ A25.out).mono ?_);rintro e w' ⟨rfl,⟨nd,rfl⟩⟩;(try first | exact ⟨rfl,_,World.drewN_drewN _ _ _⟩ | exact ⟨rfl,_,Eq.trans (World.drewN_drewN _ _ _) (congrArg (World.drewN _) (Nat.add_assoc _ _ _))⟩))))
     go_ret
     exact ⟨Y1,Y19⟩
    ·rw [if_neg c26] at H
     exact absurd H (by simp)
   ·rw [if_neg c24] at H
    have c24b0:(a1_0 == 1)=false:=beq_eq_false_iff_ne.mpr c24
    have c24b1:(a1_0 != 1)=true:=bne_iff_ne.mpr c24
    replace H:=bzS H
    obtain ⟨t128,A310,H⟩:=H
    replace H:(if 5+t128.size≤9223372036854775807 then (some ((⟨#[99,97,108,108,32]⟩:ByteArray) ++ t128)) else (none))=some r:=H
    have A31:=am A310
    clear A310
    by_cases c32:5+t128.size≤9223372036854775807
    ·rw [if_pos c32] at H
     have c32b0:=ezT c32
     have c32b1:decide (5+t128.size≤9223372036854775807)=true:=dzT c32
     try have c32b2:(9223372036854775807<5+t128.size)=False:=eq_false (Nat.not_lt.2 c32)
     obtain rfl:=Option.some.inj H
     go_enter Tryd.func26,Tryd.ntmps26
     go_wp2_with (first |((with_reducible refine jr (N:=2) rfl ?_);refine bE (N:=2) (cs:=#[.slice A0_0 l0_0.length c0_0]) (t:=31) ?_;intro gb122 hg w33 hbox hb;have BK122:=am (hbox);have GW122:=am ((Y0:w.heap.size≤gb122));have GE122:=am ((Y0:w.heap.size≤gb122));replace HB:=am (jb (bq) hb);clear hb hbox hg) |((with_reducible refine jr (N:=3) rfl ?_);refine bE (N:=3) (cs:=#[.int .i64 a1_0, .int .i64 a1_1, .int .i64 a1_2]) (t:=42) ?_;intro gb123 hg w34 hbox hb;have BK123:=am (hbox);have GW123:=am ((Y2:w.heap.size≤gb123));have GE123:=am ((Y2:w.heap.size≤gb123));have NB122_123:=am ((Y8:gb122≠gb123));have NB123_122:=am ((Y9:gb123≠gb122));replace BK122:=am (jc (g:=gb122) (o:=.cells #[.slice A0_0 l0_0.length c0_0] 31 (0,0)) (kq BK122.out) hb);replace HB:=am (jb (Y10) hb);clear hb hbox hg;have hnb35:=NB123_122.out;have hnc35:=NB122_123.out;have hcz36_0:=bc0 BK123.out;have hcz36_1:=bc1 BK123.out;have hcz36_2:=bc2 BK123.out;have hfz36_0:=ja BK123.out 0;have hfz36_1:=ja BK123.out 1;have hfz36_2:=ja BK123.out 2) |(go_at_call 40;(with_reducible refine (jI.calls k a1_1 t128 _ A31.out).mono ?_);rintro e w' ⟨rfl,⟨nd,rfl⟩⟩;(try first | exact ⟨rfl,_,World.drewN_drewN _ _ _⟩ | exact ⟨rfl,_,Eq.trans (World.drewN_drewN _ _ _) (congrArg (World.drewN _) (Nat.add_assoc _ _ _))⟩)))
     repeat (go_quiet (first |((with_reducible refine jr (N:=2) rfl ?_);refine bE (N:=2) (cs:=#[.slice A0_0 l0_0.length c0_0]) (t:=31) ?_;intro gb122 hg w33 hbox hb;have BK122:=am (hbox);have GW122:=am ((Y0:w.heap.size≤gb122));have GE122:=am ((Y0:w.heap.size≤gb122));replace HB:=am (jb (bq) hb);clear hb hbox hg) |((with_reducible refine jr (N:=3) rfl ?_);refine bE (N:=3) (cs:=#[.int .i64 a1_0, .int .i64 a1_1, .int .i64 a1_2]) (t:=42) ?_;intro gb123 hg w34 hbox hb;have BK123:=am (hbox);have GW123:=am ((Y2:w.heap.size≤gb123));have GE123:=am ((Y2:w.heap.size≤gb123));have NB122_123:=am ((Y8:gb122≠gb123));have NB123_122:=am ((Y9:gb123≠gb122));replace BK122:=am (jc (g:=gb122) (o:=.cells #[.slice A0_0 l0_0.length c0_0] 31 (0,0)) (kq BK122.out) hb);replace HB:=am (jb (Y10) hb);clear hb hbox hg;have hnb35:=NB123_122.out;have hnc35:=NB122_123.out;have hcz36_0:=bc0 BK123.out;have hcz36_1:=bc1 BK123.out;have hcz36_2:=bc2 BK123.out;have hfz36_0:=ja BK123.out 0;have hfz36_1:=ja BK123.out 1;have hfz36_2:=ja BK123.out 2) |(go_at_call 40;(with_reducible refine (jI.calls k a1_1 t128 _ A31.out).mono ?_);rintro e w' ⟨rfl,⟨nd,rfl⟩⟩;(try first | exact ⟨rfl,_,World.drewN_drewN _ _ _⟩ | exact ⟨rfl,_,Eq.trans (World.drewN_drewN _ _ _) (congrArg (World.drewN _) (Nat.add_assoc _ _ _))⟩)));try go_wp2_with (first |((with_reducible refine jr (N:=2) rfl ?_);refine bE (N:=2) (cs:=#[.slice A0_0 l0_0.length c0_0]) (t:=31) ?_;intro gb122 hg w33 hbox hb;have BK122:=am (hbox);have GW122:=am ((Y0:w.heap.size≤gb122));have GE122:=am ((Y0:w.heap.size≤gb122));replace HB:=am (jb (bq) hb);clear hb hbox hg) |((with_reducible refine jr (N:=3) rfl ?_);refine bE (N:=3) (cs:=#[.int .i64 a1_0, .int .i64 a1_1, .int .i64 a1_2]) (t:=42) ?_;intro gb123 hg w34 hbox hb;have BK123:=am (hbox);have GW123:=am ((Y2:w.heap.size≤gb123));have GE123:=am ((Y2:w.heap.size≤gb123));have NB122_123:=am ((Y8:gb122≠gb123));have NB123_122:=am ((Y9:gb123≠gb122));replace BK122:=am (jc (g:=gb122) (o:=.cells #[.slice A0_0 l0_0.length c0_0] 31 (0,0)) (kq BK122.out) hb);replace HB:=am (jb (Y10) hb);clear hb hbox hg;have hnb35:=NB123_122.out;have hnc35:=NB122_123.out;have hcz36_0:=bc0 BK123.out;have hcz36_1:=bc1 BK123.out;have hcz36_2:=bc2 BK123.out;have hfz36_0:=ja BK123.out 0;have hfz36_1:=ja BK123.out 1;have hfz36_2:=ja BK123.out 2) |(go_at_call 40;(with_reducible refine (jI.calls k a1_1 t128 _ A31.out).mono ?_);rintro e w' ⟨rfl,⟨nd,rfl⟩⟩;(try first | exact ⟨rfl,_,World.drewN_drewN _ _ _⟩ | exact ⟨rfl,_,Eq.trans (World.drewN_drewN _ _ _) (congrArg (World.drewN _) (Nat.add_assoc _ _ _))⟩))))
     go_ret
     exact ⟨Y1,Y19⟩
    ·rw [if_neg c32] at H
     exact absurd H (by simp)
def jv.l0 : Nat → List (S42) → ByteArray → Int → List (S63) → Option (ByteArray)
 | 0,_,_,_,_=>none
 | k+1,x1,x5,x6,x130000=>if x6<(x1.length:Int) then (if 0≤x6 then ((jwa.f k x130000 ((jy x1 x6).f0) ((jy x1 x6).f1) ((jy x1 x6).f2)).bind fun t131=>(if x5.size+t131.size≤9223372036854775807 then (if (x5 ++ t131).size+1≤9223372036854775807 then (jv.l0 k x1 ((x5 ++ t131) ++ (⟨#[10]⟩:ByteArray)) (wrap64 (x6+1)) x130000) else (none)) else (none))) else (none)) else (some x5)
def jv.f (k : Nat) (l0_0 : List (S63)) (l1 : List (S42)) : Option (ByteArray) := jv.l0 k l1 (⟨#[]⟩ : ByteArray) 0 l0_0
def jv.T5 : Bool × List (List Nat × List Nat) := (true, [([], []), ([], []), ([], []), ([], []), ([2, 3], [2, 3]), ([4], [4]), ([1, 5], [1, 5]), ([0, 6], [0, 6]), ([7], [7]), ([8, 6, 0, 1, 2, 3, 4, 5, 6, 7, 8], [0, 8])])
def jv.B5 : List Nat := [0, 0, 0, 0, 12, 28, 62, 127, 255, 511]
theorem jv.tab5 : rtab .any (opsOf Tryd.f14 5) = jv.T5 := by kernel_rfl
theorem jv.bits5 : waitsOk jv.T5.2 jv.B5 = true := by kernel_rfl
set_option maxHeartbeats 8000000 in
set_option maxRecDepth 100000 in
theorem jv.calls (k : Nat) (A0_0 : Option Addr) (c0_0 : Nat) (l0_0 : List (S63)) (A1 : Option Addr) (c1 : Nat) (l1 : List (S42)) (r : ByteArray) (w : World) (hr0_0 : Kd.C k63 w A0_0 l0_0.length l0_0) (hc0_0 : l0_0.length ≤ c0_0) (hr1 : Kd.C k42 w A1 l1.length l1) (hc1 : l1.length ≤ c1) (h : jv.f k l0_0 l1 = some r) :
  Calls Tryd.prog 14 #[.agg #[.slice A0_0 l0_0.length c0_0], .slice A1 l1.length c1] w fun e w'=>e=.returned (.string r)∧Below w.heap.size w w':=by
 have hu31:=Tryd.underlying31
 have hu42:=Tryd.underlying42
 have HR0_0:=am hr0_0
 have HC0_0:=am hc0_0
 clear hr0_0 hc0_0
 have HR1:=am hr1
 have HC1:=am hc1
 clear hr1 hc1
 have HB:=am (Below.refl w.heap.size w)
 have H:(jv.l0 k l1 (⟨#[]⟩:ByteArray) 0 l0_0)=some r:=h
 clear h
 have H':=am H
 clear H
 go_enter Tryd.func14,Tryd.ntmps14
 go_wp2_with (first |((with_reducible refine jr (N:=2) rfl ?_);refine bE (N:=2) (cs:=#[.slice A0_0 l0_0.length c0_0]) (t:=31) ?_;intro gb129 hg w3 hbox hb;have BK129:=am (hbox);have GW129:=am ((Y0:w.heap.size≤gb129));have GE129:=am ((Y0:w.heap.size≤gb129));replace HB:=am (jb (bq) hb);clear hb hbox hg))
 go_loopg [5,6] k (fun kq v5 v6 w'=>∃ (x5_1:ByteArray) (x6_1:Int),v5=.string x5_1∧v6=.int .i64 x6_1∧jJ (jv.l0 kq l1 x5_1 x6_1 l0_0=some r)∧jJ (kq≤k)∧jJ (w'.heap[gb129]?=some (.cells #[(.slice A0_0 l0_0.length c0_0)] 31 (0,0)))∧jJ (Below w.heap.size w w'))
 case atStart=>exact ⟨((⟨#[]⟩:ByteArray)),(0),(sq),(sq),H',⟨Nat.le_refl _⟩,⟨kq BK129.out⟩,⟨Y20⟩⟩
 case round =>
  clear H'
  try clear c1
  try clear p2
  obtain ⟨x5_1,x6_1,rfl,rfl,HA,HK1,BK129,HB⟩:=hrel
  cases gk with
  | zero=>exact absurd HA.out (by simp [jv.l0])
  | succ k1 =>
   have H:=HA.out
   clear HA
   simp only [jv.l0] at H
   by_cases c4:x6_1<(l1.length:Int)
   ·rw [if_pos c4] at H
    have c4b0:decide (x6_1<(l1.length:Int))=true:=dzT c4
    clear c4
    by_cases c5:0≤x6_1
    ·rw [if_pos c5] at H
     have c5b0:decide (0≤x6_1)=true:=dzT c5
     clear c5
     replace H:=bzS H
     obtain ⟨t131,A60,H⟩:=H
     replace H:(if x5_1.size+t131.size≤9223372036854775807 then (if (x5_1 ++ t131).size+1≤9223372036854775807 then (jv.l0 k1 l1 ((x5_1 ++ t131) ++ (⟨#[10]⟩:ByteArray)) (wrap64 (x6_1+1)) l0_0) else (none)) else (none))=some r:=H
     have A6:=am A60
     clear A60
     by_cases c7:x5_1.size+t131.size≤9223372036854775807
     ·rw [if_pos c7] at H
      have c7b0:=ezT c7
      have c7b1:decide (x5_1.size+t131.size≤9223372036854775807)=true:=dzT c7
      try have c7b2:(9223372036854775807<x5_1.size+t131.size)=False:=eq_false (Nat.not_lt.2 c7)
      by_cases c8:(x5_1 ++ t131).size+1≤9223372036854775807
      ·rw [if_pos c8] at H
       have c8b0:=ezT c8
       have c8b1:decide ((x5_1 ++ t131).size+1≤9223372036854775807)=true:=dzT c8
       try have c8b2:(9223372036854775807<(x5_1 ++ t131).size+1)=False:=eq_false (Nat.not_lt.2 c8)
       try have c8s:(9223372036854775807<x5_1.size+t131.size+1)=False:=eq_false (Nat.not_lt.2 (by have h_:=c8;simp only [ByteArray.size_append] at h_;exact h_))
       have H':=am H
       clear H
       try go_wp2
       replace BK129:=am (jC BK129.out)
       replace HB:=am (jh HB.out)
       have p130:0≤(x6_1:Int):=ozD (uq)
       have q130:x6_1<(l1.length:Int):=ozD (uq)
       obtain ⟨ad130,e130,hx130_0,hx130_1,hx130_2⟩:=at_T42 HR1.out x6_1 p130 q130
       have hw130_2:=hx130_2
       have hw130_1:=hx130_1
       have hw130_0:=hx130_0
       cases e130
       replace hx130_0:=cb HB.out hx130_0
       replace hx130_1:=cb HB.out hx130_1
       replace hx130_2:=cb HB.out hx130_2
       replace p130:=ezT p130
       replace q130:=ezT q130
       refine start_ (n:=10) (S:=fun w'=>w'.cell? ⟨gb129,0,none⟩=some (.slice A0_0 l0_0.length c0_0)∧w'.cell? (ad130.add ((x6_1).toNat * 3))=some (.int .i64 ((jy l1 x6_1).f0))∧w'.cell? ⟨(ad130.add ((x6_1).toNat * 3)).block,(ad130.add ((x6_1).toNat * 3)).off+1,none⟩=some (.int .i64 ((jy l1 x6_1).f1))∧w'.cell? ⟨(ad130.add ((x6_1).toNat * 3)).block,(ad130.add ((x6_1).toNat * 3)).off+2,none⟩=some (.int .i64 ((jy l1 x6_1).f2))) (ds:=[]) #[false,false,false,false,false,false,false,false,false,false] (by kernel_rfl) rfl rfl ⟨(joa BK129.out 0).trans rfl,((HB.out.cell (World.block_lt_of_cell? w _ hw130_0)).trans hw130_0),((HB.out.cell (World.block_lt_of_cell? w _ hw130_1)).trans hw130_1),((HB.out.cell (World.block_lt_of_cell? w _ hw130_2)).trans hw130_2)⟩ (fun hHeld=>?_);refine with_tabW jv.tab5 jv.bits5 (fun HT_ HW_=>?_)
       generalize wr.drew=w9 at BK129 HB hx130_0 hx130_1 hx130_2 hHeld ⊢
       refine pq (i:=0) (N:=some 13) #[true,false,false,false,false,false,false,false,false,false] ?_
       refine pq (i:=2) (N:=some 15) #[true,false,true,false,false,false,false,false,false,false] ?_
       refine pq (i:=3) (N:=some 16) #[true,false,true,true,false,false,false,false,false,false] ?_
       refine pq (i:=4) (N:=some 17) #[true,false,true,true,true,false,false,false,false,false] ?_
       refine take_ (i:=1) (N:=some 14) (v:=?_) (a':=?_) #[true,true,true,true,true,false,false,false,false,false] rfl rfl (jGa HT_.out HW_.out (by kernel_rfl)) (fun _ _ _ h=>h) (Or.inl ⟨by rfl,?_⟩) hHeld ?_ ?_
       rotate_left
       ·rintro w' ⟨s0,s1,s2,s3⟩
        go_simp
        with_reducible rfl
       rotate_left
       ·exact sa
       refine take_ (i:=5) (N:=some 18) (v:=?_) (a':=?_) #[true,true,true,true,true,true,false,false,false,false] rfl rfl (jGa HT_.out HW_.out (by kernel_rfl)) (fun _ _ _ h=>h) (Or.inl ⟨by rfl,?_⟩) hHeld ?_ ?_
       rotate_left
       ·rintro w' ⟨s0,s1,s2,s3⟩
        go_simp
        with_reducible rfl
       rotate_left
       ·exact sa
       refine one_ (i:=6) (N:=some 19) #[true,true,true,true,true,true,true,false,false,false] rfl rfl (one_of HT_.out (by kernel_rfl)) (by decide) (fun K hK=>?_)
       refine goes_ Tryd.func26 (by kernel_rfl) rfl #[.agg #[.slice A0_0 l0_0.length c0_0], .agg #[.int .i64 ((jy l1 x6_1).f0), .int .i64 ((jy l1 x6_1).f1), .int .i64 ((jy l1 x6_1).f2)]] (by rfl) rfl rfl (aq) ?_
       with_reducible refine (jwa.calls k1 _ _ l0_0 ((jy l1 x6_1).f0) ((jy l1 x6_1).f1) ((jy l1 x6_1).f2) t131 _ ?side1 ?side2 A6.out).mono ?_
       (case side1=>exact cq (Kd.jD HR0_0.out HB.out))
       (case side2=>exact HC0_0.out)
       rintro e w10 ⟨rfl,hb⟩
       refine ⟨_,rfl,?_⟩
       replace BK129:=am (jc (g:=gb129) (o:=.cells #[.slice A0_0 l0_0.length c0_0] 31 (0,0)) (kq BK129.out) hb)
       replace HB:=am (jb (Y20) hb)
       (try clear hb)
       (try clear hb2)
       (try clear hk)
       (try clear hi)
       refine hK.out _ _ ⟨(joa BK129.out 0).trans rfl,((HB.out.cell (World.block_lt_of_cell? w _ hw130_0)).trans hw130_0),((HB.out.cell (World.block_lt_of_cell? w _ hw130_1)).trans hw130_1),((HB.out.cell (World.block_lt_of_cell? w _ hw130_2)).trans hw130_2)⟩ (fun hHeld=>?_)
       clear hK K
       refine norm_ (a':=?_) ?_ ?_
       rotate_left
       ·show Act.put _ (some 19) _=_
        simp only [Act.put,List.setIfInBounds_toArray,List.set_cons_zero,List.set_cons_succ,i64_w,i32_w]
        rfl
       refine pq (i:=7) (N:=some 20) #[true,true,true,true,true,true,true,true,false,false] ?_
       refine pq (i:=8) (N:=some 21) #[true,true,true,true,true,true,true,true,true,false] ?_
       refine pq (i:=9) (N:=some 5) #[true,true,true,true,true,true,true,true,true,true] ?_
       refine done_ (done_of HT_.out (by kernel_rfl)) ?_
       try go_wp2
       go_roundg k1
       case measure=>have:=HK1.out;omega
       case rel=>exact ⟨((x5_1 ++ t131) ++ (⟨#[10]⟩:ByteArray)),(wrap64 (x6_1+1)),(sq),(sq),H',⟨by have:=HK1.out;omega⟩,⟨kq BK129.out⟩,⟨Y20⟩⟩
      ·rw [if_neg c8] at H
       exact absurd H (by simp)
     ·rw [if_neg c7] at H
      exact absurd H (by simp)
    ·rw [if_neg c5] at H
     exact absurd H (by simp)
   ·rw [if_neg c4] at H
    have c4b0:decide (x6_1<(l1.length:Int))=false:=dzF c4
    clear c4
    obtain rfl:=Option.some.inj H
    go_wp2
    go_ret
    exact ⟨Y1,Y20⟩
def jfa.f (k : Nat) (l0_0 : List (S63)) (l1 : List (S42)) : Option (ByteArray) := (jF.f k l0_0 l1).bind fun t133 => (if t133 = true then ((jv.f k l0_0 l1).bind fun t134 => (some t134)) else (some (⟨#[]⟩ : ByteArray)))
set_option maxHeartbeats 8000000 in
set_option maxRecDepth 100000 in
theorem jfa.calls (k : Nat) (A0_0 : Option Addr) (c0_0 : Nat) (l0_0 : List (S63)) (A1 : Option Addr) (c1 : Nat) (l1 : List (S42)) (r : ByteArray) (w : World) (hr0_0 : Kd.C k63 w A0_0 l0_0.length l0_0) (hc0_0 : l0_0.length ≤ c0_0) (hr1 : Kd.C k42 w A1 l1.length l1) (hc1 : l1.length ≤ c1) (h : jfa.f k l0_0 l1 = some r) :
  Calls Tryd.prog 6 #[.agg #[.slice A0_0 l0_0.length c0_0], .slice A1 l1.length c1] w fun e w'=>e=.returned (.string r)∧Below w.heap.size w w':=by
 have hu31:=Tryd.underlying31
 have HR0_0:=am hr0_0
 have HC0_0:=am hc0_0
 clear hr0_0 hc0_0
 have HR1:=am hr1
 have HC1:=am hc1
 clear hr1 hc1
 have HB:=am (Below.refl w.heap.size w)
 have H:((jF.f k l0_0 l1).bind fun t133=>(if t133=true then ((jv.f k l0_0 l1).bind fun t134=>(some t134)) else (some (⟨#[]⟩:ByteArray))))=some r:=h
 clear h
 replace H:=bzS H
 obtain ⟨t133,A30,H⟩:=H
 replace H:(if t133=true then ((jv.f k l0_0 l1).bind fun t134=>(some t134)) else (some (⟨#[]⟩:ByteArray)))=some r:=H
 have A3:=am A30
 clear A30
 by_cases c4:t133=true
 ·subst c4
  have H1:((jv.f k l0_0 l1).bind fun t134=>(some t134))=some r:=by rw [if_pos rfl] at H;exact H
  clear H
  have H:=H1
  clear H1
  replace H:=bzS H
  obtain ⟨t134,A50,H⟩:=H
  replace H:(some t134)=some r:=H
  have A5:=am A50
  clear A50
  obtain rfl:=Option.some.inj H
  go_enter Tryd.func6,Tryd.ntmps6
  go_wp2_with (first |((with_reducible refine jr (N:=2) rfl ?_);refine bE (N:=2) (cs:=#[.slice A0_0 l0_0.length c0_0]) (t:=31) ?_;intro gb132 hg w6 hbox hb;have BK132:=am (hbox);have GW132:=am ((Y0:w.heap.size≤gb132));have GE132:=am ((Y0:w.heap.size≤gb132));replace HB:=am (jb (bq) hb);clear hb hbox hg;have hcz7_0:=bc0 BK132.out;have hfz7_0:=ja BK132.out 0) |((with_reducible refine jl (f:=13) rfl ?_);refine gL (some 7) Tryd.func13 #[.agg #[.slice A0_0 l0_0.length c0_0], .slice A1 l1.length c1] ?_;(with_reducible refine (jF.calls k _ _ l0_0 _ _ l1 true _ ?side1 ?side2 ?side3 ?side4 A3.out).mono ?_);(case side1=>exact cq (Kd.jD HR0_0.out HB.out));(case side2=>exact HC0_0.out);(case side3=>exact cq (Kd.jD HR1.out HB.out));(case side4=>exact HC1.out);rintro e w8 ⟨rfl,hb⟩;refine ⟨_,rfl,?_⟩;replace BK132:=am (jc (g:=gb132) (o:=.cells #[.slice A0_0 l0_0.length c0_0] 31 (0,0)) (kq BK132.out) hb);replace HB:=am (jb (Y17) hb);(try clear hb);(try clear hb2);(try clear hk);(try clear hi);have hcz9_0:=bc0 BK132.out;have hfz9_0:=ja BK132.out 0) |((with_reducible refine jl (f:=14) rfl ?_);refine gL (some 11) Tryd.func14 #[.agg #[.slice A0_0 l0_0.length c0_0], .slice A1 l1.length c1] ?_;(with_reducible refine (jv.calls k _ _ l0_0 _ _ l1 t134 _ ?side1 ?side2 ?side3 ?side4 A5.out).mono ?_);(case side1=>exact cq (Kd.jD HR0_0.out HB.out));(case side2=>exact HC0_0.out);(case side3=>exact cq (Kd.jD HR1.out HB.out));(case side4=>exact HC1.out);rintro e w10 ⟨rfl,hb⟩;refine ⟨_,rfl,?_⟩;replace BK132:=am (jc (g:=gb132) (o:=.cells #[.slice A0_0 l0_0.length c0_0] 31 (0,0)) (kq BK132.out) hb);replace HB:=am (jb (Y17) hb);(try clear hb);(try clear hb2);(try clear hk);(try clear hi)))
  go_ret
  exact ⟨Y1,Y17⟩
 ·replace c4:=Bool.eq_false_iff.mpr c4
  subst c4
  have H1:(some (⟨#[]⟩:ByteArray))=some r:=by rw [if_neg (show ¬ (false=true) by decide)] at H;exact H
  clear H
  have H:=H1
  clear H1
  obtain rfl:=Option.some.inj H
  go_enter Tryd.func6,Tryd.ntmps6
  go_wp2_with (first |((with_reducible refine jr (N:=2) rfl ?_);refine bE (N:=2) (cs:=#[.slice A0_0 l0_0.length c0_0]) (t:=31) ?_;intro gb132 hg w11 hbox hb;have BK132:=am (hbox);have GW132:=am ((Y0:w.heap.size≤gb132));have GE132:=am ((Y0:w.heap.size≤gb132));replace HB:=am (jb (bq) hb);clear hb hbox hg;have hcz12_0:=bc0 BK132.out;have hfz12_0:=ja BK132.out 0) |((with_reducible refine jl (f:=13) rfl ?_);refine gL (some 7) Tryd.func13 #[.agg #[.slice A0_0 l0_0.length c0_0], .slice A1 l1.length c1] ?_;(with_reducible refine (jF.calls k _ _ l0_0 _ _ l1 false _ ?side1 ?side2 ?side3 ?side4 A3.out).mono ?_);(case side1=>exact cq (Kd.jD HR0_0.out HB.out));(case side2=>exact HC0_0.out);(case side3=>exact cq (Kd.jD HR1.out HB.out));(case side4=>exact HC1.out);rintro e w13 ⟨rfl,hb⟩;refine ⟨_,rfl,?_⟩;replace BK132:=am (jc (g:=gb132) (o:=.cells #[.slice A0_0 l0_0.length c0_0] 31 (0,0)) (kq BK132.out) hb);replace HB:=am (jb (Y17) hb);(try clear hb);(try clear hb2);(try clear hk);(try clear hi)))
  go_ret
  exact ⟨Y1,Y17⟩
def jJa.f (a0_0 : ByteArray) (a0_1 : Int) : Option (ByteArray × Int) := some (a0_0, a0_1)
set_option maxHeartbeats 8000000 in
set_option maxRecDepth 100000 in
theorem jJa.calls (a0_0 : ByteArray) (a0_1 : Int) (r1 : ByteArray) (r2 : Int) (w : World) (h : jJa.f a0_0 a0_1 = some (r1, r2)) :
  Calls Tryd.prog 27 #[.agg #[.string a0_0, .int .i64 a0_1]] w fun e w'=>e=.returned (.agg #[.string r1, .int .i64 r2])∧Below w.heap.size w w':=by
 have hu59:=Tryd.underlying59
 have hu63:=Tryd.underlying63
 have HB:=am (Below.refl w.heap.size w)
 have H:(some (a0_0,a0_1))=some (r1,r2):=h
 clear h
 simp only [Option.some.injEq,Prod.mk.injEq] at H
 obtain ⟨rfl,rfl⟩:=H
 go_enter Tryd.func27,Tryd.ntmps27
 go_wp2_with (first |((with_reducible refine jr (N:=1) rfl ?_);refine bE (N:=1) (cs:=#[.string a0_0, .int .i64 a0_1]) (t:=59) ?_;intro gb135 hg w2 hbox hb;have BK135:=am (hbox);have GW135:=am ((Y0:w.heap.size≤gb135));have GE135:=am ((Y0:w.heap.size≤gb135));replace HB:=am (jb (bq) hb);clear hb hbox hg) |((with_reducible refine jr (N:=2) rfl ?_);refine bE (N:=2) (cs:=#[.string (⟨#[]⟩:ByteArray), .int .i64 0]) (t:=63) ?_;intro gb136 hg w3 hbox hb;have BK136:=am (hbox);have GW136:=am ((Y39:w.heap.size≤gb136));have GE136:=am ((Y39:w.heap.size≤gb136));have NB135_136:=am ((by rw [hg];exact Nat.ne_of_lt (jma (g:=gb135) (o:=.cells #[.string a0_0, .int .i64 a0_1] 59 (0,0)) (kq BK135.out)):gb135≠gb136));have NB136_135:=am ((by rw [hg];exact Nat.ne_of_gt (jma (g:=gb135) (o:=.cells #[.string a0_0, .int .i64 a0_1] 59 (0,0)) (kq BK135.out)):gb136≠gb135));replace BK135:=am (jc (g:=gb135) (o:=.cells #[.string a0_0, .int .i64 a0_1] 59 (0,0)) (kq BK135.out) hb);replace HB:=am (jb (by repeat (first |(with_reducible first | exact HB.out | apply ji | apply jd | apply jh | refine jk ?_ GE135.out) | exact HB.out)) hb);clear hb hbox hg) |((with_reducible refine jr (N:=3) rfl ?_);refine bE (N:=3) (cs:=#[.string (⟨#[]⟩:ByteArray), .int .i64 0]) (t:=63) ?_;intro gb137 hg w4 hbox hb;have BK137:=am (hbox);have GW137:=am ((Y40:w.heap.size≤gb137));have GE137:=am ((Y40:w.heap.size≤gb137));have NB135_137:=am ((by rw [hg];exact Nat.ne_of_lt (jma (g:=gb135) (o:=.cells #[.string a0_0, .int .i64 a0_1] 59 (0,0)) (kq BK135.out)):gb135≠gb137));have NB137_135:=am ((by rw [hg];exact Nat.ne_of_gt (jma (g:=gb135) (o:=.cells #[.string a0_0, .int .i64 a0_1] 59 (0,0)) (kq BK135.out)):gb137≠gb135));have NB136_137:=am ((by rw [hg];exact Nat.ne_of_lt (jma (g:=gb136) (o:=.cells #[.string (⟨#[]⟩:ByteArray), .int .i64 0] 63 (0,0)) (kq BK136.out)):gb136≠gb137));have NB137_136:=am ((by rw [hg];exact Nat.ne_of_gt (jma (g:=gb136) (o:=.cells #[.string (⟨#[]⟩:ByteArray), .int .i64 0] 63 (0,0)) (kq BK136.out)):gb137≠gb136));replace BK135:=am (jc (g:=gb135) (o:=.cells #[.string a0_0, .int .i64 a0_1] 59 (0,0)) (kq BK135.out) hb);replace BK136:=am (jc (g:=gb136) (o:=.cells #[.string (⟨#[]⟩:ByteArray), .int .i64 0] 63 (0,0)) (kq BK136.out) hb);replace HB:=am (jb (by repeat (first |(with_reducible first | exact HB.out | apply ji | apply jd | apply jh | refine jk ?_ GE135.out | refine jk ?_ GE136.out) | exact HB.out)) hb);clear hb hbox hg;have hnb5:=NB135_136.out;have hnc5:=NB136_135.out;have hnb6:=NB135_137.out;have hnc6:=NB137_135.out;have hcz7_0:=bc0 BK135.out;have hcz7_1:=bc1 BK135.out;have hfz7_0:=ja BK135.out 0;have hfz7_1:=ja BK135.out 1;have hnb8:=NB137_136.out;have hnc8:=NB136_137.out;have hcz9_0:=bc0 BK137.out;have hcz9_1:=bc1 BK137.out;have hfz9_0:=ja BK137.out 0;have hfz9_1:=ja BK137.out 1;have hcz10_0:=bc0 BK136.out;have hcz10_1:=bc1 BK136.out;have hfz10_0:=ja BK136.out 0;have hfz10_1:=ja BK136.out 1))
 refine bodyPost_ret (results_cell_row rfl _ _ gb136 63 #[.string a0_0, .int .i64 a0_1] (0,0) _ rfl (by (with_reducible repeat (first | refine jA ?_ _ | refine jC ?_ | refine jB ?_ _));refine jDa (cs:=#[.string a0_0, .int .i64 0]) ?_ 1 _ rfl;(with_reducible repeat (first | refine jA ?_ _ | refine jC ?_ | refine jB ?_ _));refine jDa (cs:=#[.string (⟨#[]⟩:ByteArray), .int .i64 0]) ?_ 0 _ rfl;(with_reducible repeat (first | refine jA ?_ _ | refine jC ?_ | refine jB ?_ _));refine jEa ?_ NB136_137.out _;(with_reducible repeat (first | refine jA ?_ _ | refine jC ?_ | refine jB ?_ _));refine jEa ?_ NB136_137.out _;(with_reducible repeat (first | refine jA ?_ _ | refine jC ?_ | refine jB ?_ _));exact BK136.out) Tryd.underlying63 rfl (by kernel_rfl)) rfl ?_
 exact ⟨Y1,by repeat (first |(with_reducible first | exact HB.out | apply ji | apply jd | apply jh | refine jk ?_ GE135.out | refine jk ?_ GE136.out | refine jk ?_ GE137.out) | exact HB.out)⟩
def jK.l0 : Nat → List (S59) → List (S63) → Int → Option ((List (S63)))
 | 0,_,_,_=>none
 | k+1,x0,x3,x4=>if x4<(x0.length:Int) then (if 0≤x4 then ((jJa.f ((jya x0 x4).f0) ((jya x0 x4).f1)).bind fun bt142=>(if x4<(x3.length:Int) then (jK.l0 k x0 (x3.set (x4:Int).toNat (⟨bt142.1,bt142.2⟩:S63)) (wrap64 (x4+1))) else (none))) else (none)) else (some x3)
def jK.f (k : Nat) (l0 : List (S59)) : Option ((List (S63))) := if 0 ≤ (l0.length : Int) then (if ((l0.length : Int) : Int).toNat ≤ 11728124029610 then (jK.l0 k l0 (List.replicate ((l0.length : Int) : Int).toNat z63) 0) else (none)) else (none)
set_option maxHeartbeats 8000000 in
set_option maxRecDepth 100000 in
theorem jK.calls (k : Nat) (A0 : Option Addr) (c0 : Nat) (l0 : List (S59)) (r : List (S63)) (w : World) (hr0 : Kd.C k59 w A0 l0.length l0) (hc0 : l0.length ≤ c0) (h : jK.f k l0 = some r) :
  Calls Tryd.prog 15 #[.slice A0 l0.length c0] w fun e w'=>∃ v0_:Value,e=.returned (v0_)∧Kd.R k63 63 w' w.heap.size (fun _=>True) v0_ r∧Below w.heap.size w w':=by
 have hu59:=Tryd.underlying59
 have hu63:=Tryd.underlying63
 have HR0:=am hr0
 have HC0:=am hc0
 clear hr0 hc0
 have HB:=am (Below.refl w.heap.size w)
 have H:(if 0≤(l0.length:Int) then (if ((l0.length:Int):Int).toNat≤11728124029610 then (jK.l0 k l0 (List.replicate ((l0.length:Int):Int).toNat z63) 0) else (none)) else (none))=some r:=h
 clear h
 by_cases c2:0≤(l0.length:Int)
 ·rw [if_pos c2] at H
  have c2b0:=ezT c2
  have c2b1:decide (0≤(l0.length:Int))=true:=dzT c2
  clear c2
  by_cases c3:((l0.length:Int):Int).toNat≤11728124029610
  ·rw [if_pos c3] at H
   have c3b0:=ezT c3
   have c3b1:decide (((l0.length:Int):Int).toNat≤11728124029610)=true:=dzT c3
   clear c3
   obtain ⟨y138,hy138⟩:∃ y_:List (S63),y_=(List.replicate ((l0.length:Int):Int).toNat z63):=⟨_,rfl⟩
   replace H:(jK.l0 k l0 y138 0)=some r:=by first |(rw [hy138];with_reducible exact H) |(have H2_:=(Option.bind_some _ _).symm.trans H;rw [hy138];with_reducible exact H2_) |(have H2_:=(Option.bind_some _ _).symm.trans H;with_reducible exact H2_) | with_reducible exact H |(rw [hy138];exact H) | exact H
   have Ny138:=am hy138
   clear hy138
   have H':=am H
   clear H
   go_enter Tryd.func15,Tryd.ntmps15
   go_wp2_with (first |((with_reducible refine jr (N:=7) rfl ?_);refine Kd.R_make k63 _ 63 rfl (N:=7) rfl 29 _ _ rfl (l0.length:Int) rfl rfl Tryd.underlying29 (.agg #[(.string ⟨#[]⟩),(.int .i64 0)]) 24 info63 rfl (by decide) (by omega) z63 (ok:=fun _=>True) (okp:=fun _=>True) (k63_mkM _ _ _ z63 ) (fun _ hk=>hk) trivial (ozD (uq)) (Nat.le_trans (Nat.mul_le_mul_right _ (ozD (uq):(l0.length:Int).toNat≤11728124029610)) (by omega)) (Below.refl _ _) (Nat.le_refl _) ?_;intro v139 w4 ho5 hb hg_ hnew_;clear hg_ hnew_;(first | rw [← Ny138.out] at ho5 |(simp only [Int.reduceToNat] at ho5;rw [← Ny138.out] at ho5));have HO140:=am (Kd.jRa ho5 (jP (bq)));replace HB:=am (jb (bq) hb);clear hb ho5))
   go_loopg [4] k (fun kq v4 w'=>∃ (x3_1:List (S63)) (x4_1:Int),v4=.int .i64 x4_1∧jJ (jK.l0 kq l0 x3_1 x4_1=some r)∧jJ (kq≤k)∧jJ (Kd.R k63 63 w' w.heap.size (fun _=>True) v139 x3_1)∧jJ (Below w.heap.size w w'))
   case atStart=>exact ⟨(y138),(0),(sq),H',⟨Nat.le_refl _⟩,⟨rq HO140.out⟩,⟨bq⟩⟩
   case round =>
    clear H'
    try clear c1
    try clear c2
    try clear c2b0
    try clear c2b1
    try clear p2
    try clear c3
    try clear c3b0
    try clear c3b1
    obtain ⟨x3_1,x4_1,rfl,HA,HK1,HO_3,HB⟩:=hrel
    cases gk with
    | zero=>exact absurd HA.out (by simp [jK.l0])
    | succ k1 =>
     have H:=HA.out
     clear HA
     simp only [jK.l0] at H
     by_cases c6:x4_1<(l0.length:Int)
     ·rw [if_pos c6] at H
      have c6b0:decide (x4_1<(l0.length:Int))=true:=dzT c6
      clear c6
      by_cases c7:0≤x4_1
      ·rw [if_pos c7] at H
       have c7b0:decide (0≤x4_1)=true:=dzT c7
       clear c7
       replace H:=bzS H
       obtain ⟨⟨t142,t143⟩,A80,H⟩:=H
       replace H:(if x4_1<(x3_1.length:Int) then (jK.l0 k1 l0 (x3_1.set (x4_1:Int).toNat (⟨t142,t143⟩:S63)) (wrap64 (x4_1+1))) else (none))=some r:=H
       have A8:=am A80
       clear A80
       by_cases c9:x4_1<(x3_1.length:Int)
       ·rw [if_pos c9] at H
        have c9b0:decide (x4_1<(x3_1.length:Int))=true:=dzT c9
        clear c9
        obtain ⟨y144,hy144⟩:∃ y_:List (S63),y_=(x3_1.set (x4_1:Int).toNat (⟨t142,t143⟩:S63)):=⟨_,rfl⟩
        replace H:(jK.l0 k1 l0 y144 (wrap64 (x4_1+1)))=some r:=by first |(rw [hy144];with_reducible exact H) |(have H2_:=(Option.bind_some _ _).symm.trans H;rw [hy144];with_reducible exact H2_) |(have H2_:=(Option.bind_some _ _).symm.trans H;with_reducible exact H2_) | with_reducible exact H |(rw [hy144];exact H) | exact H
        have Ny144:=am hy144
        clear hy144
        have H':=am H
        clear H
        have p141:0≤(x4_1:Int):=ozD (uq)
        have q141:x4_1<(l0.length:Int):=ozD (uq)
        obtain ⟨ad141,e141,hx141_0,hx141_1⟩:=at_T59 HR0.out x4_1 p141 q141
        cases e141
        replace hx141_0:=cb HB.out hx141_0
        replace hx141_1:=cb HB.out hx141_1
        replace p141:=ezT p141
        replace q141:=ezT q141
        go_wp2_with (first |((with_reducible refine jl (f:=27) rfl ?_);refine gL (some 20) Tryd.func27 #[.agg #[.string ((jya l0 x4_1).f0), .int .i64 ((jya l0 x4_1).f1)]] ?_;(with_reducible refine (jJa.calls ((jya l0 x4_1).f0) ((jya l0 x4_1).f1) t142 t143 _ A8.out).mono ?_);rintro e w11 ⟨rfl,hb⟩;refine ⟨_,rfl,?_⟩;replace HO_3:=am (Kd.jca (rq HO_3.out) hb);replace HB:=am (jb (bq) hb);(try clear hb);(try clear hb2);(try clear hk);(try clear hi);have p10:0≤(x4_1:Int):=ozD (uq);have q10:(x4_1:Int)<((x3_1.length:Int):Int):=ozD (uq);obtain ⟨go10,co10,eo10,gb10,gl10,cl10,HG10⟩:=Kd.R_form HO_3.out (by omega);(first | cases eo10 |(injection eo10 with ea_ en_ ec_;(first | subst ea_ |(injection ea_ with ea_;subst ea_));subst ec_;clear en_));have GB10:=am gb10;have GG10:=am HG10;clear gb10 gl10 HG10;obtain ⟨ce10,hcl10,hM10,hcc10,hfr10⟩:=Kd.R_elem HO_3.out z63 (x4_1:Int) p10 q10;obtain rfl:=k63_openM hM10;have hx10_0:w11.cell? ⟨go10,(x4_1:Int).toNat * 2,none⟩=some (.string ((jg x3_1 x4_1).f0)):=hcc10 0 _ rfl;have hx10_1:w11.cell? ⟨go10,(x4_1:Int).toNat * 2+1,none⟩=some (.int .i64 ((jg x3_1 x4_1).f1)):=hcc10 1 _ rfl;have hf10_0:w11.frozen? ⟨go10,(x4_1:Int).toNat * 2,none⟩=false:=hfr10 0;have hf10_1:w11.frozen? ⟨go10,(x4_1:Int).toNat * 2+1,none⟩=false:=hfr10 1;clear hcl10 hcc10 hfr10 hM10;replace p10:=ezT p10;replace q10:=ezT q10;have HX12:=am (show Kd.R k63 63 w11 w.heap.size (fun _=>True) (.slice (some ⟨go10,0,none⟩) x3_1.length co10) x3_1 from (rq HO_3.out));obtain ⟨ce12,hcl12,hM12,hcc12,hfr12⟩:=Kd.R_elem HX12.out z63 (x4_1:Int) (ozD (uq)) (by have h_:(x4_1:Int)<((x3_1.length:Int):Int):=ozD (uq);first | exact h_ |(have e_:=(Kd.jea HO_3.out).1;omega) | simpa using h_);obtain rfl:=k63_openM hM12;have HP12:=Kd.R_seg HX12.out (x4_1:Int) (ozD (uq)) (by have h_:(x4_1:Int)<((x3_1.length:Int):Int):=ozD (uq);first | exact h_ |(have e_:=(Kd.jea HO_3.out).1;omega) | simpa using h_) (seg:=[.string t142, .int .i64 t143]) (j:=0) hcl12 hcc12 (show 2≤2 from by decide) (x':=(⟨t142,t143⟩:S63)) (k63_mkM _ _ _ (⟨t142,t143⟩:S63) ) (fun _ hk=>hk);have hx12_0:=hcc12 0 _ rfl;(try simp only [show (k63).sz=2 from rfl,Nat.mul_one,Nat.add_zero] at hx12_0);have hf12_0:=hfr12 0;(try simp only [show (k63).sz=2 from rfl,Nat.mul_one,Nat.add_zero] at hf12_0);have hx12_1:=hcc12 1 _ rfl;(try simp only [show (k63).sz=2 from rfl,Nat.mul_one,Nat.add_zero] at hx12_1);have hf12_1:=hfr12 1;(try simp only [show (k63).sz=2 from rfl,Nat.mul_one,Nat.add_zero] at hf12_1);clear hcl12 hcc12 hfr12 hM12) |((with_reducible refine gate_store (t:=63) (p:=21) rfl ?_);refine store_event (t:=63) (p:=21) (v:=?vo_w13) (w1:=((w11.setCell ⟨go10,(x4_1:Int).toNat * 2,none⟩ (.string t142)).setCell ⟨go10,(x4_1:Int).toNat * 2+1,none⟩ (.int .i64 t143))) ?hg ?ho ?hn ?hr ?_;(case ho=>rfl);(case hg=>rfl);(case hn=>rfl);(case hr=>first |(go_simp;done) |(go_simp;rfl));intro w13 hw;have hg:w11.grownBy w13 (some go10):=(by rw [hw];exact HP12.2);have hp_:Kd.R k63 63 w13 w.heap.size (fun _=>True) (.slice (some ⟨go10,0,none⟩) x3_1.length co10) y144:=(by rw [hw,Ny144.out];exact HP12.1);clear HP12;replace HO_3:=am (hp_);replace HB:=am ((by rw [hw];exact jk (jk (HB.out) GB10.out) GB10.out:Below w.heap.size w w13));clear hg hw hp_))
        go_roundg k1
        case measure=>have:=HK1.out;omega
        case rel=>exact ⟨(y144),(wrap64 (x4_1+1)),(sq),H',⟨by have:=HK1.out;omega⟩,⟨rq HO_3.out⟩,⟨bq⟩⟩
       ·rw [if_neg c9] at H
        exact absurd H (by simp)
      ·rw [if_neg c7] at H
       exact absurd H (by simp)
     ·rw [if_neg c6] at H
      have c6b0:decide (x4_1<(l0.length:Int))=false:=dzF c6
      clear c6
      obtain rfl:=Option.some.inj H
      go_wp2
      go_ret
      exact ⟨_,Y1,rq HO_3.out,bq⟩
  ·rw [if_neg c3] at H
   exact absurd H (by simp)
 ·rw [if_neg c2] at H
  exact absurd H (by simp)
end Go.Proofs.YtlkdlibbbekipaaDoor.P
end
