/- One part of the proofs on this program: functions of the program as plain functions, that the code comes to them, and facts on them. -/
import Derived.ArgAppend
import Derived.Below
import Derived.BigQuiet
import Derived.Deep.AppendLies
import Derived.Deep.CutBlock
import Derived.Deep.DeepCutAuto
import Derived.Deep.Draws
import Derived.Deep.LoopGhost
import Derived.Deep.OwnRows
import Derived.Deep.QuietTactic
import Derived.Deep.RegionHeld3
import Derived.KernelRfl
import Derived.Laws.BitsLemmas
import Derived.Laws.BytesArg
import Derived.Laws.IdiomCopy
import Derived.Laws.MakeOwn
import Derived.Laws.OwnMore
import Derived.Laws.Rows
import Derived.Laws.Slices
import Derived.Lib.AppendStr
import Derived.Lib.ConvBytes
import Derived.LoopTactic
import Derived.Maps.AppendAt
import Derived.OrdersHeld
import Derived.OwnWalk
import Derived.RowKit
import Derived.RowKit3
import Derived.Tactics
import Derived.WalkKit
import Derived.WideLaws
import Derived.Test.YtdmafmebllhlkaaDoorProg
import Derived.Test.YtdmafmebllhlkaaDoorYWApart
import Derived.Test.YtdmafmebllhlkaaDoorYWAt
import Derived.Test.YtdmafmebllhlkaaDoorYWAuto
import Derived.Test.YtdmafmebllhlkaaDoorYWClip
import Derived.Test.YtdmafmebllhlkaaDoorYWEqStruct
import Derived.Test.YtdmafmebllhlkaaDoorYWFoot
import Derived.Test.YtdmafmebllhlkaaDoorYWGuard
import Derived.Test.YtdmafmebllhlkaaDoorYWIdx
import Derived.Test.YtdmafmebllhlkaaDoorYWKept
import Derived.Test.YtdmafmebllhlkaaDoorYWLast
import Derived.Test.YtdmafmebllhlkaaDoorYWMore
import Derived.Test.YtdmafmebllhlkaaDoorYWN
import Derived.Test.YtdmafmebllhlkaaDoorYWRepsOne
import Derived.Test.YtdmafmebllhlkaaDoorYWShare
import Derived.Test.YtdmafmebllhlkaaDoorYWSome
import Derived.Test.YtdmafmebllhlkaaDoorYWTab
import Derived.Test.YtdmafmebllhlkaaDoorYWWords
section
namespace Go.Proofs.YtdmafmebllhlkaaDoor.P
open Go.RowKit Go.Proofs.YtdmafmebllhlkaaDoorW.PrintWords Go.Proofs.YtdmafmebllhlkaaDoorW.PrintLast Go.Proofs.YtdmafmebllhlkaaDoorW.PrintMore
attribute [local go_sem] jX jV jha jga jO jN jW jU jh
set_option linter.unusedVariables false
set_option linter.unusedSimpArgs false
def errW : Option Int → Value
 | none=>.nilIface
 | some c=>.iface 0 (.int .i64 c)
theorem jJa : errW none = .nilIface := rfl
theorem jIa (c : Int) : errW (some c) = .iface 0 (.int .i64 c) := rfl
theorem info5 : (Tryd.prog.info? 5).map (fun i => (i.zero, i.size, i.bytes)) = some (some (.int .u8 0), 1, 1) := by kernel_rfl
theorem info9 : (Tryd.prog.info? 9).map (fun i => (i.zero, i.size, i.bytes)) = some (some (.string ⟨#[]⟩), 1, 16) := by kernel_rfl
theorem info38 : (Tryd.prog.info? 38).map (fun i => (i.zero, i.size, i.bytes)) = some (some (.agg #[(.string ⟨#[]⟩), (.int .i64 0)]), 2, 24) := by kernel_rfl
theorem jUa : (Tryd.prog.info? 42).map (fun i => (i.zero, i.size, i.bytes)) = some (some (.agg #[(.string ⟨#[]⟩), (.int .i64 0), (.int .i64 0)]), 3, 32) := by kernel_rfl
structure S37 where
 f0:ByteArray
 f1:Int
def z37 : S37 := ⟨(⟨#[]⟩ : ByteArray), (0 : Int)⟩
structure S38 where
 f0:ByteArray
 f1:Int
def z38 : S38 := ⟨(⟨#[]⟩ : ByteArray), (0 : Int)⟩
def k38 : Kd S38 := Kd.iso (Kd.pair Kd.string (Kd.int .i64)) (fun x : S38 => (x.f0, x.f1))
theorem k38_open {w : World} {x : S38} {cs : List Value} (h : k38.K w x cs) : cs = [.string x.f0, .int .i64 x.f1] := by
 obtain ⟨_,_,rfl,rfl,rfl⟩:=h
 exact rfl
theorem k38_openM {w : World} {base : Nat} {ok : Nat → Prop} {x : S38} {cs : List Value} (h : k38.M w base ok x cs) : cs = [.string x.f0, .int .i64 x.f1] := by
 obtain ⟨_,_,rfl,rfl,rfl⟩:=h
 exact rfl
theorem k38_mkM (w : World) (base : Nat) (ok : Nat → Prop) (x : S38)  : k38.M w base ok x [.string x.f0, .int .i64 x.f1] := ⟨[.string x.f0], [.int .i64 x.f1], rfl, rfl, rfl⟩
def jb (xs : List S38) (i : Int) : S38 := xs.getD i.toNat z38
theorem jNa {w : World} {A : Option Addr} {n : Nat} {xs : List S38} (h : Kd.C k38 w A n xs) (i : Int) (h0 : 0 ≤ i) (h1 : i < n) : ∃ ad , A = some ad ∧ w.cell? (ad.add (i.toNat * 2)) = some (.string (jb xs i).f0) ∧ w.cell? ⟨(ad.add (i.toNat * 2)).block, (ad.add (i.toNat * 2)).off + 1, none⟩ = some (.int .i64 (jb xs i).f1) := by
 obtain ⟨ad,c,e,_,hK,hc0⟩:=Kd.C_get h z38 i h0 h1
 have hc:∀ j u,c[j]?=some u→w.cell? (ad.add (i.toNat * 2+j))=some u:=hc0
 obtain rfl:=k38_open hK
 exact ⟨ad,e,hc 0 _ rfl,by rw [← add_field _ _ 1 (by omega)];exact hc 1 _ rfl⟩
structure S42 where
 f0:S38
 f1:Int
def z42 : S42 := ⟨z38, (0 : Int)⟩
def k42 : Kd S42 := Kd.iso (Kd.pair k38 (Kd.int .i64)) (fun x : S42 => (x.f0, x.f1))
theorem k42_open {w : World} {x : S42} {cs : List Value} (h : k42.K w x cs) : cs = [.string x.f0.f0, .int .i64 x.f0.f1, .int .i64 x.f1] := by
 obtain ⟨_,_,rfl,s0,rfl⟩:=h
 obtain rfl:=k38_open s0
 exact rfl
theorem jna {w : World} {base : Nat} {ok : Nat → Prop} {x : S42} {cs : List Value} (h : k42.M w base ok x cs) : cs = [.string x.f0.f0, .int .i64 x.f0.f1, .int .i64 x.f1] := by
 obtain ⟨_,_,rfl,s0,rfl⟩:=h
 obtain rfl:=k38_openM s0
 exact rfl
theorem jla (w : World) (base : Nat) (ok : Nat → Prop) (x : S42)  : k42.M w base ok x [.string x.f0.f0, .int .i64 x.f0.f1, .int .i64 x.f1] := ⟨[.string x.f0.f0, .int .i64 x.f0.f1], [.int .i64 x.f1], rfl, (k38_mkM w base ok x.f0 ), rfl⟩
def ja (xs : List S42) (i : Int) : S42 := xs.getD i.toNat z42
theorem jRa {w : World} {A : Option Addr} {n : Nat} {xs : List S42} (h : Kd.C k42 w A n xs) (i : Int) (h0 : 0 ≤ i) (h1 : i < n) : ∃ ad , A = some ad ∧ w.cell? (ad.add (i.toNat * 3)) = some (.string (ja xs i).f0.f0) ∧ w.cell? ⟨(ad.add (i.toNat * 3)).block, (ad.add (i.toNat * 3)).off + 1, none⟩ = some (.int .i64 (ja xs i).f0.f1) ∧ w.cell? ⟨(ad.add (i.toNat * 3)).block, (ad.add (i.toNat * 3)).off + 2, none⟩ = some (.int .i64 (ja xs i).f1) := by
 obtain ⟨ad,c,e,_,hK,hc0⟩:=Kd.C_get h z42 i h0 h1
 have hc:∀ j u,c[j]?=some u→w.cell? (ad.add (i.toNat * 3+j))=some u:=hc0
 obtain rfl:=k42_open hK
 exact ⟨ad,e,hc 0 _ rfl,by rw [← add_field _ _ 1 (by omega)];exact hc 1 _ rfl,by rw [← add_field _ _ 2 (by omega)];exact hc 2 _ rfl⟩
def jZ.f (a0 : Int) (a1 : Int) (a2 : Int) : Option (Bool) := if a1 ≤ a0 then (some (decide (a0 ≤ a2))) else (some false)
set_option maxHeartbeats 8000000 in
set_option maxRecDepth 100000 in
theorem jZ.calls (a0 : Int) (a1 : Int) (a2 : Int) (r : Bool) (w : World) (h : jZ.f a0 a1 a2 = some r) :
  Calls Tryd.prog 41 #[.int .i64 a0, .int .i64 a1, .int .i64 a2] w fun e w'=>e=.returned (.bool r)∧jDa w w':=by
 have H:(if a1≤a0 then (some (decide (a0≤a2))) else (some false))=some r:=h
 clear h
 by_cases c4:a1≤a0
 ·rw [if_pos c4] at H
  have c4b0:decide (a1≤a0)=true:=dzT c4
  clear c4
  obtain rfl:=Option.some.inj H
  go_enter Tryd.func41,Tryd.ntmps41
  go_wp2
  go_ret
  exact ⟨sq,Y7⟩
 ·rw [if_neg c4] at H
  have c4b0:decide (a1≤a0)=false:=dzF c4
  clear c4
  obtain rfl:=Option.some.inj H
  go_enter Tryd.func41,Tryd.ntmps41
  go_wp2
  go_ret
  exact ⟨sq,Y7⟩
def jE.l0 : Nat → ByteArray → Int → Option (Bool)
 | 0,_,_=>none
 | k+1,x0,x3=>if x3<(x0.size:Int) then (if 0≤x3 then (if (bt x0 x3)<97 then (some false) else (if (bt x0 x3) > 122 then (some false) else (jE.l0 k x0 (wrap64 (x3+1))))) else (none)) else ((jZ.f (x0.size:Int) 1 6).bind fun t104=>(some t104))
def jE.f (k : Nat) (a0 : ByteArray) : Option (Bool) := jE.l0 k a0 0
set_option maxHeartbeats 8000000 in
set_option maxRecDepth 100000 in
theorem jE.calls (k : Nat) (a0 : ByteArray) (r : Bool) (w : World) (h : jE.f k a0 = some r) :
  Calls Tryd.prog 40 #[.string a0] w fun e w'=>e=.returned (.bool r)∧jDa w w':=by
 have H:(jE.l0 k a0 0)=some r:=h
 clear h
 have H':=am H
 clear H
 go_enter Tryd.func40,Tryd.ntmps40
 go_wp2
 go_loopg [3] k (fun kq v3 w'=>∃ (x3_1:Int),v3=.int .i64 x3_1∧jy (jE.l0 kq a0 x3_1=some r)∧jy (kq≤k)∧jDa w w')
 case atStart=>exact ⟨(0),(sq),H',⟨Nat.le_refl _⟩,Y7⟩
 case round =>
  clear H'
  obtain ⟨x3_1,rfl,HA,HK1,⟨m1,rfl⟩⟩:=hrel
  cases gk with
  | zero=>exact absurd HA.out (by simp [jE.l0])
  | succ k1 =>
   have H:=HA.out
   clear HA
   simp only [jE.l0] at H
   by_cases c2:x3_1<(a0.size:Int)
   ·rw [if_pos c2] at H
    have c2b0:decide (x3_1<(a0.size:Int))=true:=dzT c2
    clear c2
    by_cases c3:0≤x3_1
    ·rw [if_pos c3] at H
     have c3b0:decide (0≤x3_1)=true:=dzT c3
     clear c3
     by_cases c5:(bt a0 x3_1)<97
     ·rw [if_pos c5] at H
      have c5b0:decide ((bt a0 x3_1)<97)=true:=dzT c5
      clear c5
      obtain rfl:=Option.some.inj H
      have p4:0≤(x3_1:Int):=ozD (uq)
      have q4:x3_1<(a0.size:Int):=ozD (uq)
      have hx4:=bt_at a0 x3_1
      replace p4:=ezT p4
      replace q4:=ezT q4
      go_wp2
      go_ret
      exact ⟨sq,Y7⟩
     ·rw [if_neg c5] at H
      have c5b0:decide ((bt a0 x3_1)<97)=false:=dzF c5
      clear c5
      by_cases c7:(bt a0 x3_1) > 122
      ·rw [if_pos c7] at H
       have c7b0:decide (122<(bt a0 x3_1))=true:=dzT c7
       clear c7
       obtain rfl:=Option.some.inj H
       have p4:0≤(x3_1:Int):=ozD (uq)
       have q4:x3_1<(a0.size:Int):=ozD (uq)
       have hx4:=bt_at a0 x3_1
       replace p4:=ezT p4
       replace q4:=ezT q4
       have p6:0≤(x3_1:Int):=ozD (uq)
       have q6:x3_1<(a0.size:Int):=ozD (uq)
       have hx6:=bt_at a0 x3_1
       replace p6:=ezT p6
       replace q6:=ezT q6
       go_wp2
       go_ret
       exact ⟨sq,Y7⟩
      ·rw [if_neg c7] at H
       have c7b0:decide (122<(bt a0 x3_1))=false:=dzF c7
       clear c7
       have H':=am H
       clear H
       have p4:0≤(x3_1:Int):=ozD (uq)
       have q4:x3_1<(a0.size:Int):=ozD (uq)
       have hx4:=bt_at a0 x3_1
       replace p4:=ezT p4
       replace q4:=ezT q4
       have p6:0≤(x3_1:Int):=ozD (uq)
       have q6:x3_1<(a0.size:Int):=ozD (uq)
       have hx6:=bt_at a0 x3_1
       replace p6:=ezT p6
       replace q6:=ezT q6
       go_wp2
       go_roundg k1
       case measure=>have:=HK1.out;omega
       case rel=>exact ⟨(wrap64 (x3_1+1)),(sq),H',⟨by have:=HK1.out;omega⟩,Y7⟩
    ·rw [if_neg c3] at H
     exact absurd H (by simp)
   ·rw [if_neg c2] at H
    have c2b0:decide (x3_1<(a0.size:Int))=false:=dzF c2
    clear c2
    replace H:=bzS H
    obtain ⟨t104,A80,H⟩:=H
    replace H:(some t104)=some r:=H
    have A8:=am A80
    clear A80
    obtain rfl:=Option.some.inj H
    go_wp2_with (first |((with_reducible refine jk (f:=41) rfl ?_);refine gL (some 22) Tryd.func41 #[.int .i64 (a0.size:Int), .int .i64 1, .int .i64 6] ?_;(with_reducible refine (jZ.calls (a0.size:Int) 1 6 t104 _ A8.out).mono ?_);rintro e w' ⟨rfl,⟨nd,rfl⟩⟩;refine ⟨_,rfl,?_⟩))
    go_ret
    exact ⟨sq,Y7⟩
def jka.f (k : Nat) (a0_0 : ByteArray) (a0_1 : Int) : Option (Bool) := (jE.f k a0_0).bind fun t106 => (if t106 = true then ((jZ.f a0_1 1 999).bind fun t107 => (some t107)) else (some false))
set_option maxHeartbeats 8000000 in
set_option maxRecDepth 100000 in
theorem jka.calls (k : Nat) (a0_0 : ByteArray) (a0_1 : Int) (r : Bool) (w : World) (h : jka.f k a0_0 a0_1 = some r) :
  Calls Tryd.prog 27 #[.agg #[.string a0_0, .int .i64 a0_1]] w fun e w'=>e=.returned (.bool r)∧Below w.heap.size w w':=by
 have hu38:=Tryd.underlying38
 have HB:=am (Below.refl w.heap.size w)
 have H:((jE.f k a0_0).bind fun t106=>(if t106=true then ((jZ.f a0_1 1 999).bind fun t107=>(some t107)) else (some false)))=some r:=h
 clear h
 replace H:=bzS H
 obtain ⟨t106,A20,H⟩:=H
 replace H:(if t106=true then ((jZ.f a0_1 1 999).bind fun t107=>(some t107)) else (some false))=some r:=H
 have A2:=am A20
 clear A20
 by_cases c3:t106=true
 ·subst c3
  have H1:((jZ.f a0_1 1 999).bind fun t107=>(some t107))=some r:=by rw [if_pos rfl] at H;exact H
  clear H
  have H:=H1
  clear H1
  replace H:=bzS H
  obtain ⟨t107,A40,H⟩:=H
  replace H:(some t107)=some r:=H
  have A4:=am A40
  clear A40
  obtain rfl:=Option.some.inj H
  go_enter Tryd.func27,Tryd.ntmps27
  go_wp2_with (first |((with_reducible refine jK (N:=1) rfl ?_);refine bE (N:=1) (cs:=#[.string a0_0, .int .i64 a0_1]) (t:=38) ?_;intro gb105 hg w5 hbox hb;have BK105:=am (hbox);have GW105:=am ((Y5:w.heap.size≤gb105));have GE105:=am ((Y5:w.heap.size≤gb105));replace HB:=am (jg (bq) hb);clear hb hbox hg;have hcz6_0:=bc0 BK105.out;have hcz6_1:=bc1 BK105.out;have hfz6_0:=jl BK105.out 0;have hfz6_1:=jl BK105.out 1) |((with_reducible refine jk (f:=40) rfl ?_);refine gL (some 5) Tryd.func40 #[.string a0_0] ?_;(with_reducible refine (jE.calls k a0_0 true _ A2.out).mono ?_);rintro e w' ⟨rfl,⟨nd,rfl⟩⟩;refine ⟨_,rfl,?_⟩) |(go_at_call 41;(with_reducible refine (jZ.calls a0_1 1 999 t107 _ A4.out).mono ?_);rintro e w' ⟨rfl,⟨nd,rfl⟩⟩))
  go_ret
  exact ⟨Y4,Y24⟩
 ·replace c3:=Bool.eq_false_iff.mpr c3
  subst c3
  have H1:(some false)=some r:=by rw [if_neg (show ¬ (false=true) by decide)] at H;exact H
  clear H
  have H:=H1
  clear H1
  obtain rfl:=Option.some.inj H
  go_enter Tryd.func27,Tryd.ntmps27
  go_wp2_with (first |((with_reducible refine jK (N:=1) rfl ?_);refine bE (N:=1) (cs:=#[.string a0_0, .int .i64 a0_1]) (t:=38) ?_;intro gb105 hg w7 hbox hb;have BK105:=am (hbox);have GW105:=am ((Y5:w.heap.size≤gb105));have GE105:=am ((Y5:w.heap.size≤gb105));replace HB:=am (jg (bq) hb);clear hb hbox hg;have hcz8_0:=bc0 BK105.out;have hcz8_1:=bc1 BK105.out;have hfz8_0:=jl BK105.out 0;have hfz8_1:=jl BK105.out 1) |((with_reducible refine jk (f:=40) rfl ?_);refine gL (some 5) Tryd.func40 #[.string a0_0] ?_;(with_reducible refine (jE.calls k a0_0 false _ A2.out).mono ?_);rintro e w' ⟨rfl,⟨nd,rfl⟩⟩;refine ⟨_,rfl,?_⟩))
  go_ret
  exact ⟨Y4,Y24⟩
def jv.l0 : Nat → List (S38) → Int → Option (Bool)
 | 0,_,_=>none
 | k+1,x0,x3=>if x3<(x0.length:Int) then (if 0≤x3 then ((jka.f k ((jb x0 x3).f0) ((jb x0 x3).f1)).bind fun t109=>(if t109=true then (jv.l0 k x0 (wrap64 (x3+1))) else (some false))) else (none)) else (some (decide ((x0.length:Int)≤12)))
def jv.f (k : Nat) (l0 : List (S38)) : Option (Bool) := jv.l0 k l0 0
set_option maxHeartbeats 8000000 in
set_option maxRecDepth 100000 in
theorem jv.calls (k : Nat) (A0 : Option Addr) (c0 : Nat) (l0 : List (S38)) (r : Bool) (w : World) (hr0 : Kd.C k38 w A0 l0.length l0) (hc0 : l0.length ≤ c0) (h : jv.f k l0 = some r) :
  Calls Tryd.prog 14 #[.slice A0 l0.length c0] w fun e w'=>e=.returned (.bool r)∧Below w.heap.size w w':=by
 have hu38:=Tryd.underlying38
 have HR0:=am hr0
 have HC0:=am hc0
 clear hr0 hc0
 have HB:=am (Below.refl w.heap.size w)
 have H:(jv.l0 k l0 0)=some r:=h
 clear h
 have H':=am H
 clear H
 go_enter Tryd.func14,Tryd.ntmps14
 go_wp2
 go_loopg [3] k (fun kq v3 w'=>∃ (x3_1:Int),v3=.int .i64 x3_1∧jy (jv.l0 kq l0 x3_1=some r)∧jy (kq≤k)∧jy (Below w.heap.size w w'))
 case atStart=>exact ⟨(0),(sq),H',⟨Nat.le_refl _⟩,⟨bq⟩⟩
 case round =>
  clear H'
  try clear c1
  obtain ⟨x3_1,rfl,HA,HK1,HB⟩:=hrel
  cases gk with
  | zero=>exact absurd HA.out (by simp [jv.l0])
  | succ k1 =>
   have H:=HA.out
   clear HA
   simp only [jv.l0] at H
   by_cases c2:x3_1<(l0.length:Int)
   ·rw [if_pos c2] at H
    have c2b0:decide (x3_1<(l0.length:Int))=true:=dzT c2
    clear c2
    by_cases c3:0≤x3_1
    ·rw [if_pos c3] at H
     have c3b0:decide (0≤x3_1)=true:=dzT c3
     clear c3
     replace H:=bzS H
     obtain ⟨t109,A40,H⟩:=H
     replace H:(if t109=true then (jv.l0 k1 l0 (wrap64 (x3_1+1))) else (some false))=some r:=H
     have A4:=am A40
     clear A40
     by_cases c5:t109=true
     ·subst c5
      have H1:(jv.l0 k1 l0 (wrap64 (x3_1+1)))=some r:=by rw [if_pos rfl] at H;exact H
      clear H
      have H:=H1
      clear H1
      have H':=am H
      clear H
      have p108:0≤(x3_1:Int):=ozD (uq)
      have q108:x3_1<(l0.length:Int):=ozD (uq)
      obtain ⟨ad108,e108,hx108_0,hx108_1⟩:=jNa HR0.out x3_1 p108 q108
      cases e108
      replace hx108_0:=cb HB.out hx108_0
      replace hx108_1:=cb HB.out hx108_1
      replace p108:=ezT p108
      replace q108:=ezT q108
      go_wp2_with (first |((with_reducible refine jk (f:=27) rfl ?_);refine gL (some 14) Tryd.func27 #[.agg #[.string ((jb l0 x3_1).f0), .int .i64 ((jb l0 x3_1).f1)]] ?_;(with_reducible refine (jka.calls k1 ((jb l0 x3_1).f0) ((jb l0 x3_1).f1) true _ A4.out).mono ?_);rintro e w6 ⟨rfl,hb⟩;refine ⟨_,rfl,?_⟩;replace HB:=am (jg (bq) hb);(try clear hb);(try clear hb2);(try clear hk);(try clear hi)))
      go_roundg k1
      case measure=>have:=HK1.out;omega
      case rel=>exact ⟨(wrap64 (x3_1+1)),(sq),H',⟨by have:=HK1.out;omega⟩,⟨bq⟩⟩
     ·replace c5:=Bool.eq_false_iff.mpr c5
      subst c5
      have H1:(some false)=some r:=by rw [if_neg (show ¬ (false=true) by decide)] at H;exact H
      clear H
      have H:=H1
      clear H1
      obtain rfl:=Option.some.inj H
      have p108:0≤(x3_1:Int):=ozD (uq)
      have q108:x3_1<(l0.length:Int):=ozD (uq)
      obtain ⟨ad108,e108,hx108_0,hx108_1⟩:=jNa HR0.out x3_1 p108 q108
      cases e108
      replace hx108_0:=cb HB.out hx108_0
      replace hx108_1:=cb HB.out hx108_1
      replace p108:=ezT p108
      replace q108:=ezT q108
      go_wp2_with (first |((with_reducible refine jk (f:=27) rfl ?_);refine gL (some 14) Tryd.func27 #[.agg #[.string ((jb l0 x3_1).f0), .int .i64 ((jb l0 x3_1).f1)]] ?_;(with_reducible refine (jka.calls k1 ((jb l0 x3_1).f0) ((jb l0 x3_1).f1) false _ A4.out).mono ?_);rintro e w7 ⟨rfl,hb⟩;refine ⟨_,rfl,?_⟩;replace HB:=am (jg (bq) hb);(try clear hb);(try clear hb2);(try clear hk);(try clear hi)))
      go_ret
      exact ⟨Y4,bq⟩
    ·rw [if_neg c3] at H
     exact absurd H (by simp)
   ·rw [if_neg c2] at H
    have c2b0:decide (x3_1<(l0.length:Int))=false:=dzF c2
    clear c2
    obtain rfl:=Option.some.inj H
    go_wp2
    go_ret
    exact ⟨Y4,bq⟩
theorem eqA38 (d : Nat) (w : World) (x0 y0 : ByteArray) (x1 y1 : Int) :
  (Op.equalIn (d+2) 38 (.agg #[.string x0, .int .i64 x1]) (.agg #[.string y0, .int .i64 y1])).run Tryd.prog w=.ok (x0.toList == y0.toList && (x1 == y1)) w:=by
 refine eqA_of Tryd.underlying38 (by kernel_rfl) ?_
 refine eqf_cons (by rfl) (by go_simp;rfl) (by go_simp;rfl) (by go_simp) ?_
 exact eqf_last (by rfl) (by go_simp;rfl) (by go_simp;rfl) (by go_simp)
attribute [local go_sem high] eqA38
def jI.l0 : Nat → List (S38) → List (S42) → Int → Option ((List (S42)))
 | 0,_,_,_=>none
 | k+1,x0,x3,x4=>if x4<(x0.length:Int) then (if (wrap64 ((x3.length:Int) - 1))≥0 then (if 0≤(wrap64 ((x3.length:Int) - 1)) then (if (wrap64 ((x3.length:Int) - 1))<(x3.length:Int) then (if 0≤x4 then (if ((((ja x3 (wrap64 ((x3.length:Int) - 1))).f0.f0).toList) == (((jb x0 x4).f0).toList) && (((ja x3 (wrap64 ((x3.length:Int) - 1))).f0.f1) == ((jb x0 x4).f1)))=true then (jI.l0 k x0 (x3.set ((wrap64 ((x3.length:Int) - 1)):Int).toNat (⟨(⟨(ja x3 (wrap64 ((x3.length:Int) - 1))).f0.f0,(ja x3 (wrap64 ((x3.length:Int) - 1))).f0.f1⟩:S38),wrap64 (((ja x3 (wrap64 ((x3.length:Int) - 1))).f1)+1)⟩:S42)) (wrap64 (x4+1))) else (if x3.length<4398046511104 then (jI.l0 k x0 (x3 ++ [(⟨(⟨(jb x0 x4).f0,(jb x0 x4).f1⟩:S38),1⟩:S42)]) (wrap64 (x4+1))) else (none))) else (none)) else (none)) else (none)) else (if 0≤x4 then (if x3.length<4398046511104 then (jI.l0 k x0 (x3 ++ [(⟨(⟨(jb x0 x4).f0,(jb x0 x4).f1⟩:S38),1⟩:S42)]) (wrap64 (x4+1))) else (none)) else (none))) else (some x3)
def jI.f (k : Nat) (l0 : List (S38)) : Option ((List (S42))) := jI.l0 k l0 (([] : List (S42))) 0
set_option maxHeartbeats 8000000 in
set_option maxRecDepth 100000 in
theorem jI.calls (k : Nat) (A0 : Option Addr) (c0 : Nat) (l0 : List (S38)) (r : List (S42)) (w : World) (hr0 : Kd.C k38 w A0 l0.length l0) (hc0 : l0.length ≤ c0) (h : jI.f k l0 = some r) :
  Calls Tryd.prog 28 #[.slice A0 l0.length c0] w fun e w'=>∃ v0_:Value,e=.returned (v0_)∧Kd.R k42 42 w' w.heap.size (fun _=>True) v0_ r∧Below w.heap.size w w':=by
 have hu38:=Tryd.underlying38
 have hu42:=Tryd.underlying42
 have HR0:=am hr0
 have HC0:=am hc0
 clear hr0 hc0
 have HB:=am (Below.refl w.heap.size w)
 have H:(jI.l0 k l0 (([]:List (S42))) 0)=some r:=h
 clear h
 obtain ⟨y110,hy110⟩:∃ y_:List (S42),y_=(([]:List (S42))):=⟨_,rfl⟩
 replace H:(jI.l0 k l0 y110 0)=some r:=by first |(rw [hy110];with_reducible exact H) |(have H2_:=(Option.bind_some _ _).symm.trans H;rw [hy110];with_reducible exact H2_) |(have H2_:=(Option.bind_some _ _).symm.trans H;with_reducible exact H2_) | with_reducible exact H |(rw [hy110];exact H) | exact H
 have Ny110:=am hy110
 clear hy110
 have H':=am H
 clear H
 go_enter Tryd.func28,Tryd.ntmps28
 go_wp2_with (first |((with_reducible refine jK (N:=6) rfl ?_);refine Kd.R_lit k42 _ 42 ?hg (N:=6) ?hd (xs:=([]:List (S42))) (inner:=[]) (ok:=fun _=>True) (okp:=fun _=>True) ?hr ?hp (fun _ hk=>hk) trivial (Below.refl _ _) (Nat.le_refl _) (by simp) ?_;(case hd=>rfl);(case hg=>rfl);(case hr=>exact Y3);(case hp=>exact (Reps.none _ _));intro v111 w2 ho3 hb hg_ hnew_;clear hg_ hnew_;(first | rw [← Ny110.out] at ho3 |(simp only [Int.reduceToNat] at ho3;rw [← Ny110.out] at ho3));have HO112:=am (Kd.jca ho3 (jA (bq)));replace HB:=am (jg (bq) hb);clear hb ho3))
 repeat (go_quiet (first |((with_reducible refine jK (N:=6) rfl ?_);refine Kd.R_lit k42 _ 42 ?hg (N:=6) ?hd (xs:=([]:List (S42))) (inner:=[]) (ok:=fun _=>True) (okp:=fun _=>True) ?hr ?hp (fun _ hk=>hk) trivial (Below.refl _ _) (Nat.le_refl _) (by simp) ?_;(case hd=>rfl);(case hg=>rfl);(case hr=>exact Y3);(case hp=>exact (Reps.none _ _));intro v111 w2 ho3 hb hg_ hnew_;clear hg_ hnew_;(first | rw [← Ny110.out] at ho3 |(simp only [Int.reduceToNat] at ho3;rw [← Ny110.out] at ho3));have HO112:=am (Kd.jca ho3 (jA (bq)));replace HB:=am (jg (bq) hb);clear hb ho3));try go_wp2_with (first |((with_reducible refine jK (N:=6) rfl ?_);refine Kd.R_lit k42 _ 42 ?hg (N:=6) ?hd (xs:=([]:List (S42))) (inner:=[]) (ok:=fun _=>True) (okp:=fun _=>True) ?hr ?hp (fun _ hk=>hk) trivial (Below.refl _ _) (Nat.le_refl _) (by simp) ?_;(case hd=>rfl);(case hg=>rfl);(case hr=>exact Y3);(case hp=>exact (Reps.none _ _));intro v111 w2 ho3 hb hg_ hnew_;clear hg_ hnew_;(first | rw [← Ny110.out] at ho3 |(simp only [Int.reduceToNat] at ho3;rw [← Ny110.out] at ho3));have HO112:=am (Kd.jca ho3 (jA (bq)));replace HB:=am (jg (bq) hb);clear hb ho3)))
 go_loopg [3,4] k (fun kq v3 v4 w'=>∃ (x3_1:List (S42)) (x4_1:Int),v4=.int .i64 x4_1∧jy (jI.l0 kq l0 x3_1 x4_1=some r)∧jy (kq≤k)∧jy (Kd.R k42 42 w' w.heap.size (fun _=>True) v3 x3_1)∧jy (Below w.heap.size w w'))
 case atStart=>exact ⟨(y110),(0),(sq),H',⟨Nat.le_refl _⟩,⟨rq HO112.out⟩,⟨bq⟩⟩
 case round =>
  clear H'
  try clear c2
  try clear p2
  obtain ⟨x3_1,x4_1,rfl,HA,HK1,HO_3,HB⟩:=hrel
  cases gk with
  | zero=>exact absurd HA.out (by simp [jI.l0])
  | succ k1 =>
   have H:=HA.out
   clear HA
   simp only [jI.l0] at H
   by_cases c4:x4_1<(l0.length:Int)
   ·rw [if_pos c4] at H
    have c4b0:decide (x4_1<(l0.length:Int))=true:=dzT c4
    clear c4
    by_cases c5:(wrap64 ((x3_1.length:Int) - 1))≥0
    ·rw [if_pos c5] at H
     have c5b0:decide (0≤(wrap64 ((x3_1.length:Int) - 1)))=true:=dzT c5
     clear c5
     obtain ⟨ji6,hji6⟩:∃ j_:Int,(wrap64 ((x3_1.length:Int) - 1))=j_:=⟨_,rfl⟩
     replace H:(if 0≤(ji6) then (if (ji6)<(x3_1.length:Int) then (if 0≤x4_1 then (if ((((ja x3_1 (ji6)).f0.f0).toList) == (((jb l0 x4_1).f0).toList) && (((ja x3_1 (ji6)).f0.f1) == ((jb l0 x4_1).f1)))=true then (jI.l0 k1 l0 (x3_1.set ((ji6):Int).toNat (⟨(⟨(ja x3_1 (ji6)).f0.f0,(ja x3_1 (ji6)).f0.f1⟩:S38),wrap64 (((ja x3_1 (ji6)).f1)+1)⟩:S42)) (wrap64 (x4_1+1))) else (if x3_1.length<4398046511104 then (jI.l0 k1 l0 (x3_1 ++ [(⟨(⟨(jb l0 x4_1).f0,(jb l0 x4_1).f1⟩:S38),1⟩:S42)]) (wrap64 (x4_1+1))) else (none))) else (none)) else (none)) else (none))=some r:=by first |(rw [hji6] at H;exact H) |(simp only [hji6] at H ⊢;exact H)
     (try rw [hji6] at c5b0)
     have hji6w:(IntKind.i64.wrap ((x3_1.length:Int) - 1))=ji6:=(i64_w _).trans hji6
     by_cases c7:0≤(ji6)
     ·rw [if_pos c7] at H
      have c7b0:decide (0≤(ji6))=true:=dzT c7
      clear c7
      by_cases c8:(ji6)<(x3_1.length:Int)
      ·rw [if_pos c8] at H
       have c8b0:decide ((ji6)<(x3_1.length:Int))=true:=dzT c8
       clear c8
       by_cases c9:0≤x4_1
       ·rw [if_pos c9] at H
        have c9b0:decide (0≤x4_1)=true:=dzT c9
        clear c9
        by_cases c10:((((ja x3_1 (ji6)).f0.f0).toList) == (((jb l0 x4_1).f0).toList) && (((ja x3_1 (ji6)).f0.f1) == ((jb l0 x4_1).f1)))=true
        ·rw [if_pos c10] at H
         have c10b0:((((ja x3_1 (ji6)).f0.f0).toList) == (((jb l0 x4_1).f0).toList) && (((ja x3_1 (ji6)).f0.f1) == ((jb l0 x4_1).f1)))=true:=c10
         (try (have c10b1:decide ((((ja x3_1 (ji6)).f0.f0).toList)=(((jb l0 x4_1).f0).toList) && (((ja x3_1 (ji6)).f0.f1) == ((jb l0 x4_1).f1)))=true:=by simpa using c10))
         (try (have c10b2:((((ja x3_1 (ji6)).f0.f0).toList) == (((jb l0 x4_1).f0).toList) && (((ja x3_1 (ji6)).f0.f1) == ((jb l0 x4_1).f1)))=true:=by simpa using c10))
         clear c10
         obtain ⟨y116,hy116⟩:∃ y_:List (S42),y_=(x3_1.set ((ji6):Int).toNat (⟨(⟨(ja x3_1 (ji6)).f0.f0,(ja x3_1 (ji6)).f0.f1⟩:S38),wrap64 (((ja x3_1 (ji6)).f1)+1)⟩:S42)):=⟨_,rfl⟩
         replace H:(jI.l0 k1 l0 y116 (wrap64 (x4_1+1)))=some r:=by first |(rw [hy116];with_reducible exact H) |(have H2_:=(Option.bind_some _ _).symm.trans H;rw [hy116];with_reducible exact H2_) |(have H2_:=(Option.bind_some _ _).symm.trans H;with_reducible exact H2_) | with_reducible exact H |(rw [hy116];exact H) | exact H
         have Ny116:=am hy116
         clear hy116
         have H':=am H
         clear H
         obtain ⟨Ao12,co12,eo12⟩:=Kd.jda HO_3.out
         subst eo12
         have p113:0≤((ji6):Int):=ozD (uq)
         have q113:(ji6)<(x3_1.length:Int):=ozD (uq)
         obtain ⟨ad113,e113,hx113_0,hx113_1,hx113_2⟩:=jRa (Kd.jo HO_3.out).2.2 (ji6) p113 q113
         cases e113
         replace p113:=ezT p113
         replace q113:=ezT q113
         have p114:0≤(x4_1:Int):=ozD (uq)
         have q114:x4_1<(l0.length:Int):=ozD (uq)
         obtain ⟨ad114,e114,hx114_0,hx114_1⟩:=jNa HR0.out x4_1 p114 q114
         cases e114
         replace hx114_0:=cb HB.out hx114_0
         replace hx114_1:=cb HB.out hx114_1
         replace p114:=ezT p114
         replace q114:=ezT q114
         have p115:0≤((ji6):Int):=ozD (uq)
         have q115:(ji6)<(x3_1.length:Int):=ozD (uq)
         obtain ⟨ad115,e115,hx115_0,hx115_1,hx115_2⟩:=jRa (Kd.jo HO_3.out).2.2 (ji6) p115 q115
         obtain rfl:ad113=ad115:=(by injection e115)
         replace p115:=ezT p115
         replace q115:=ezT q115
         have p11:0≤((ji6):Int):=ozD (uq)
         have q11:((ji6):Int)<((x3_1.length:Int):Int):=ozD (uq)
         obtain ⟨go11,co11,eo11,gb11,gl11,cl11,HG11⟩:=Kd.R_form HO_3.out (by omega)
         (first | cases eo11 |(injection eo11 with ea_ en_ ec_;(first | subst ea_ |(injection ea_ with ea_;subst ea_));subst ec_;clear en_))
         have GB11:=am gb11
         have GG11:=am HG11
         clear gb11 gl11 HG11
         (first | simp only [add_plain] at hx113_0 | skip)
         (first | simp only [add_plain] at hx113_1 | skip)
         (first | simp only [add_plain] at hx113_2 | skip)
         (first | simp only [add_plain] at hx115_0 | skip)
         (first | simp only [add_plain] at hx115_1 | skip)
         (first | simp only [add_plain] at hx115_2 | skip)
         obtain ⟨ce11,hcl11,hM11,hcc11,hfr11⟩:=Kd.jCa HO_3.out z42 ((ji6):Int) p11 q11
         obtain rfl:=jna hM11
         have hx11_0:wr.cell? ⟨go11,((ji6):Int).toNat * 3,none⟩=some (.string ((ja x3_1 (ji6)).f0.f0)):=hcc11 0 _ rfl
         have hx11_1:wr.cell? ⟨go11,((ji6):Int).toNat * 3+1,none⟩=some (.int .i64 ((ja x3_1 (ji6)).f0.f1)):=hcc11 1 _ rfl
         have hx11_2:wr.cell? ⟨go11,((ji6):Int).toNat * 3+2,none⟩=some (.int .i64 ((ja x3_1 (ji6)).f1)):=hcc11 2 _ rfl
         have hf11_0:wr.frozen? ⟨go11,((ji6):Int).toNat * 3,none⟩=false:=hfr11 0
         have hf11_1:wr.frozen? ⟨go11,((ji6):Int).toNat * 3+1,none⟩=false:=hfr11 1
         have hf11_2:wr.frozen? ⟨go11,((ji6):Int).toNat * 3+2,none⟩=false:=hfr11 2
         clear hcl11 hcc11 hfr11 hM11
         replace p11:=ezT p11
         replace q11:=ezT q11
         have HX13:=am (show Kd.R k42 42 wr w.heap.size (fun _=>True) (.slice (some ⟨go11,0,none⟩) x3_1.length co12) x3_1 from (rq HO_3.out))
         obtain ⟨ce13,hcl13,hM13,hcc13,hfr13⟩:=Kd.jCa HX13.out z42 ((ji6):Int) (ozD (uq)) (by have h_:((ji6):Int)<((x3_1.length:Int):Int):=ozD (uq);first | exact h_ |(have e_:=(Kd.jo HO_3.out).1;omega) | simpa using h_)
         obtain rfl:=jna hM13
         have HP13:=Kd.R_seg HX13.out ((ji6):Int) (ozD (uq)) (by have h_:((ji6):Int)<((x3_1.length:Int):Int):=ozD (uq);first | exact h_ |(have e_:=(Kd.jo HO_3.out).1;omega) | simpa using h_) (seg:=[.int .i64 (wrap64 (((ja x3_1 (ji6)).f1)+1))]) (j:=2) hcl13 hcc13 (show 3≤3 from by decide) (x':=(⟨(⟨(ja x3_1 (ji6)).f0.f0,(ja x3_1 (ji6)).f0.f1⟩:S38),wrap64 (((ja x3_1 (ji6)).f1)+1)⟩:S42)) (jla _ _ _ (⟨(⟨(ja x3_1 (ji6)).f0.f0,(ja x3_1 (ji6)).f0.f1⟩:S38),wrap64 (((ja x3_1 (ji6)).f1)+1)⟩:S42) ) (fun _ hk=>hk)
         have hx13_2:=hcc13 2 _ rfl
         (try simp only [show (k42).sz=3 from rfl,Nat.mul_one,Nat.add_zero] at hx13_2)
         have hf13_2:=hfr13 2
         (try simp only [show (k42).sz=3 from rfl,Nat.mul_one,Nat.add_zero] at hf13_2)
         clear hcl13 hcc13 hfr13 hM13
         go_wp2_with (first |((with_reducible refine jqa (t:=3) (p:=39) rfl ?_);(try (rw [jya wr];generalize hq_:World.drewN wr _=wr;have n0_:=am (Kd.R_at hq_ HO_3.out);have n1_:=am (jPa hq_ HB.out);clear hq_ HO_3 HB;have HO_3:=n0_;have HB:=n1_;clear n0_ n1_;(try (have HX13:=am (show Kd.R k42 42 wr w.heap.size (fun _=>True) (.slice (some ⟨go11,0,none⟩) x3_1.length co12) x3_1 from (rq HO_3.out))));(try (obtain ⟨ce13,hcl13,hM13,hcc13,hfr13⟩:=Kd.jCa HX13.out z42 ((ji6):Int) (ozD (uq)) (by have h_:((ji6):Int)<((x3_1.length:Int):Int):=ozD (uq);first | exact h_ |(have e_:=(Kd.jo HO_3.out).1;omega) | simpa using h_)));(try (obtain rfl:=jna hM13));(try (have HP13:=Kd.R_seg HX13.out ((ji6):Int) (ozD (uq)) (by have h_:((ji6):Int)<((x3_1.length:Int):Int):=ozD (uq);first | exact h_ |(have e_:=(Kd.jo HO_3.out).1;omega) | simpa using h_) (seg:=[.int .i64 (wrap64 (((ja x3_1 (ji6)).f1)+1))]) (j:=2) hcl13 hcc13 (show 3≤3 from by decide) (x':=(⟨(⟨(ja x3_1 (ji6)).f0.f0,(ja x3_1 (ji6)).f0.f1⟩:S38),wrap64 (((ja x3_1 (ji6)).f1)+1)⟩:S42)) (jla _ _ _ (⟨(⟨(ja x3_1 (ji6)).f0.f0,(ja x3_1 (ji6)).f0.f1⟩:S38),wrap64 (((ja x3_1 (ji6)).f1)+1)⟩:S42) ) (fun _ hk=>hk)));(try (have hx13_2:=hcc13 2 _ rfl));(try (try simp only [show (k42).sz=3 from rfl,Nat.mul_one,Nat.add_zero] at hx13_2));(try (have hf13_2:=hfr13 2));(try (try simp only [show (k42).sz=3 from rfl,Nat.mul_one,Nat.add_zero] at hf13_2));(try (clear hcl13 hcc13 hfr13 hM13))));refine jja (t:=3) (p:=39) (v:=?vo_w14) (w1:=(wr.setCell ⟨go11,((ji6):Int).toNat * 3+2,none⟩ (.int .i64 (wrap64 (((ja x3_1 (ji6)).f1)+1))))) ?hg ?ho ?hn ?hr ?_;(case ho=>rfl);(case hg=>rfl);(case hn=>rfl);(case hr=>exact Y3);intro w14 hw;have hg:wr.grownBy w14 (some go11):=(by rw [hw];exact HP13.2);have hp_:Kd.R k42 42 w14 w.heap.size (fun _=>True) (.slice (some ⟨go11,0,none⟩) x3_1.length co12) y116:=(by rw [hw,Ny116.out];exact HP13.1);clear HP13;replace HO_3:=am (hp_);replace HB:=am ((by rw [hw];exact jR (HB.out) GB11.out:Below w.heap.size w w14));clear hg hw hp_))
         repeat (go_quiet (first |((with_reducible refine jqa (t:=3) (p:=39) rfl ?_);(try (rw [jya wr];generalize hq_:World.drewN wr _=wr;have n0_:=am (Kd.R_at hq_ HO_3.out);have n1_:=am (jPa hq_ HB.out);clear hq_ HO_3 HB;have HO_3:=n0_;have HB:=n1_;clear n0_ n1_;(try (have HX13:=am (show Kd.R k42 42 wr w.heap.size (fun _=>True) (.slice (some ⟨go11,0,none⟩) x3_1.length co12) x3_1 from (rq HO_3.out))));(try (obtain ⟨ce13,hcl13,hM13,hcc13,hfr13⟩:=Kd.jCa HX13.out z42 ((ji6):Int) (ozD (uq)) (by have h_:((ji6):Int)<((x3_1.length:Int):Int):=ozD (uq);first | exact h_ |(have e_:=(Kd.jo HO_3.out).1;omega) | simpa using h_)));(try (obtain rfl:=jna hM13));(try (have HP13:=Kd.R_seg HX13.out ((ji6):Int) (ozD (uq)) (by have h_:((ji6):Int)<((x3_1.length:Int):Int):=ozD (uq);first | exact h_ |(have e_:=(Kd.jo HO_3.out).1;omega) | simpa using h_) (seg:=[.int .i64 (wrap64 (((ja x3_1 (ji6)).f1)+1))]) (j:=2) hcl13 hcc13 (show 3≤3 from by decide) (x':=(⟨(⟨(ja x3_1 (ji6)).f0.f0,(ja x3_1 (ji6)).f0.f1⟩:S38),wrap64 (((ja x3_1 (ji6)).f1)+1)⟩:S42)) (jla _ _ _ (⟨(⟨(ja x3_1 (ji6)).f0.f0,(ja x3_1 (ji6)).f0.f1⟩:S38),wrap64 (((ja x3_1 (ji6)).f1)+1)⟩:S42) ) (fun _ hk=>hk)));(try (have hx13_2:=hcc13 2 _ rfl));(try (try simp only [show (k42).sz=3 from rfl,Nat.mul_one,Nat.add_zero] at hx13_2));(try (have hf13_2:=hfr13 2));(try (try simp only [show (k42).sz=3 from rfl,Nat.mul_one,Nat.add_zero] at hf13_2));(try (clear hcl13 hcc13 hfr13 hM13))));refine jja (t:=3) (p:=39) (v:=?vo_w14) (w1:=(wr.setCell ⟨go11,((ji6):Int).toNat * 3+2,none⟩ (.int .i64 (wrap64 (((ja x3_1 (ji6)).f1)+1))))) ?hg ?ho ?hn ?hr ?_;(case ho=>rfl);(case hg=>rfl);(case hn=>rfl);(case hr=>exact Y3);intro w14 hw;have hg:wr.grownBy w14 (some go11):=(by rw [hw];exact HP13.2);have hp_:Kd.R k42 42 w14 w.heap.size (fun _=>True) (.slice (some ⟨go11,0,none⟩) x3_1.length co12) y116:=(by rw [hw,Ny116.out];exact HP13.1);clear HP13;replace HO_3:=am (hp_);replace HB:=am ((by rw [hw];exact jR (HB.out) GB11.out:Below w.heap.size w w14));clear hg hw hp_));try go_wp2_with (first |((with_reducible refine jqa (t:=3) (p:=39) rfl ?_);(try (rw [jya wr];generalize hq_:World.drewN wr _=wr;have n0_:=am (Kd.R_at hq_ HO_3.out);have n1_:=am (jPa hq_ HB.out);clear hq_ HO_3 HB;have HO_3:=n0_;have HB:=n1_;clear n0_ n1_;(try (have HX13:=am (show Kd.R k42 42 wr w.heap.size (fun _=>True) (.slice (some ⟨go11,0,none⟩) x3_1.length co12) x3_1 from (rq HO_3.out))));(try (obtain ⟨ce13,hcl13,hM13,hcc13,hfr13⟩:=Kd.jCa HX13.out z42 ((ji6):Int) (ozD (uq)) (by have h_:((ji6):Int)<((x3_1.length:Int):Int):=ozD (uq);first | exact h_ |(have e_:=(Kd.jo HO_3.out).1;omega) | simpa using h_)));(try (obtain rfl:=jna hM13));(try (have HP13:=Kd.R_seg HX13.out ((ji6):Int) (ozD (uq)) (by have h_:((ji6):Int)<((x3_1.length:Int):Int):=ozD (uq);first | exact h_ |(have e_:=(Kd.jo HO_3.out).1;omega) | simpa using h_) (seg:=[.int .i64 (wrap64 (((ja x3_1 (ji6)).f1)+1))]) (j:=2) hcl13 hcc13 (show 3≤3 from by decide) (x':=(⟨(⟨(ja x3_1 (ji6)).f0.f0,(ja x3_1 (ji6)).f0.f1⟩:S38),wrap64 (((ja x3_1 (ji6)).f1)+1)⟩:S42)) (jla _ _ _ (⟨(⟨(ja x3_1 (ji6)).f0.f0,(ja x3_1 (ji6)).f0.f1⟩:S38),wrap64 (((ja x3_1 (ji6)).f1)+1)⟩:S42) ) (fun _ hk=>hk)));(try (have hx13_2:=hcc13 2 _ rfl));(try (try simp only [show (k42).sz=3 from rfl,Nat.mul_one,Nat.add_zero] at hx13_2));(try (have hf13_2:=hfr13 2));(try (try simp only [show (k42).sz=3 from rfl,Nat.mul_one,Nat.add_zero] at hf13_2));(try (clear hcl13 hcc13 hfr13 hM13))));refine jja (t:=3) (p:=39) (v:=?vo_w14) (w1:=(wr.setCell ⟨go11,((ji6):Int).toNat * 3+2,none⟩ (.int .i64 (wrap64 (((ja x3_1 (ji6)).f1)+1))))) ?hg ?ho ?hn ?hr ?_;(case ho=>rfl);(case hg=>rfl);(case hn=>rfl);(case hr=>exact Y3);intro w14 hw;have hg:wr.grownBy w14 (some go11):=(by rw [hw];exact HP13.2);have hp_:Kd.R k42 42 w14 w.heap.size (fun _=>True) (.slice (some ⟨go11,0,none⟩) x3_1.length co12) y116:=(by rw [hw,Ny116.out];exact HP13.1);clear HP13;replace HO_3:=am (hp_);replace HB:=am ((by rw [hw];exact jR (HB.out) GB11.out:Below w.heap.size w w14));clear hg hw hp_)))
         go_roundg k1
         case measure=>have:=HK1.out;omega
         case rel=>exact ⟨(y116),(wrap64 (x4_1+1)),(sq),H',⟨by have:=HK1.out;omega⟩,⟨rq HO_3.out⟩,⟨bq⟩⟩
        ·rw [if_neg c10] at H
         have c10b0:((((ja x3_1 (ji6)).f0.f0).toList) == (((jb l0 x4_1).f0).toList) && (((ja x3_1 (ji6)).f0.f1) == ((jb l0 x4_1).f1)))=false:=by simpa using c10
         (try (have c10b1:decide ((((ja x3_1 (ji6)).f0.f0).toList)=(((jb l0 x4_1).f0).toList) && (((ja x3_1 (ji6)).f0.f1) == ((jb l0 x4_1).f1)))=false:=by simpa using c10))
         (try (have c10b2:((((ja x3_1 (ji6)).f0.f0).toList) == (((jb l0 x4_1).f0).toList) && (((ja x3_1 (ji6)).f0.f1) == ((jb l0 x4_1).f1)))=false:=by simpa using c10))
         (try (have c10b3:¬ ((((ja x3_1 (ji6)).f0.f0).toList)=(((jb l0 x4_1).f0).toList) && (((ja x3_1 (ji6)).f0.f1) == ((jb l0 x4_1).f1))):=by simpa using c10))
         clear c10
         by_cases c15:x3_1.length<4398046511104
         ·rw [if_pos c15] at H
          have LMc15:=am c15
          clear c15
          obtain ⟨y118,hy118⟩:∃ y_:List (S42),y_=(x3_1 ++ [(⟨(⟨(jb l0 x4_1).f0,(jb l0 x4_1).f1⟩:S38),1⟩:S42)]):=⟨_,rfl⟩
          replace H:(jI.l0 k1 l0 y118 (wrap64 (x4_1+1)))=some r:=by first |(rw [hy118];with_reducible exact H) |(have H2_:=(Option.bind_some _ _).symm.trans H;rw [hy118];with_reducible exact H2_) |(have H2_:=(Option.bind_some _ _).symm.trans H;with_reducible exact H2_) | with_reducible exact H |(rw [hy118];exact H) | exact H
          have Ny118:=am hy118
          clear hy118
          have H':=am H
          clear H
          obtain ⟨Ao16,co16,eo16⟩:=Kd.jda HO_3.out
          subst eo16
          have p113:0≤((ji6):Int):=ozD (uq)
          have q113:(ji6)<(x3_1.length:Int):=ozD (uq)
          obtain ⟨ad113,e113,hx113_0,hx113_1,hx113_2⟩:=jRa (Kd.jo HO_3.out).2.2 (ji6) p113 q113
          cases e113
          replace p113:=ezT p113
          replace q113:=ezT q113
          have p114:0≤(x4_1:Int):=ozD (uq)
          have q114:x4_1<(l0.length:Int):=ozD (uq)
          obtain ⟨ad114,e114,hx114_0,hx114_1⟩:=jNa HR0.out x4_1 p114 q114
          cases e114
          replace hx114_0:=cb HB.out hx114_0
          replace hx114_1:=cb HB.out hx114_1
          replace p114:=ezT p114
          replace q114:=ezT q114
          have p117:0≤(x4_1:Int):=ozD (uq)
          have q117:x4_1<(l0.length:Int):=ozD (uq)
          obtain ⟨ad117,e117,hx117_0,hx117_1⟩:=jNa HR0.out x4_1 p117 q117
          obtain rfl:ad114=ad117:=(by injection e117)
          replace hx117_0:=cb HB.out hx117_0
          replace hx117_1:=cb HB.out hx117_1
          replace p117:=ezT p117
          replace q117:=ezT q117
          go_wp2_with (first |((with_reducible refine jP (b:=.append) (xs:=#[.tmp 40, .tmp 46]) rfl ?_);at_builtin;refine Kd.jua k42 (w0:=w) w.heap.size rfl (.tmp 40) (.tmp 46) 32 42 (.agg #[(.string ⟨#[]⟩),(.int .i64 0),(.int .i64 0)]) 32 rfl Tryd.underlying32 jUa rfl (by decide) (by omega) (.slice (some ad113) x3_1.length co16) x3_1 (⟨(⟨(jb l0 x4_1).f0,(jb l0 x4_1).f1⟩:S38),1⟩:S42) [.string ((jb l0 x4_1).f0), .int .i64 ((jb l0 x4_1).f1), .int .i64 1] (fun _=>True) (fun _=>False) rfl rfl ?aP (fun _ hk=>hk.elim) ?aF ?aO ?aB ?aS ?aL ?_;(case aP=>exact jla _ _ _ (⟨(⟨(jb l0 x4_1).f0,(jb l0 x4_1).f1⟩:S38),1⟩:S42));(case aB=>exact (bq));(case aF=>exact (fun _ _=>trivial));(case aO=>exact (rq HO_3.out));(case aS=>exact (jA (bq)));(case aL=>have:=LMc15.out;omega);intro v119 w17 ho hb hg hat;rw [← Ny118.out] at ho;have n0_:=am (hb);have n1_:=am (ho);clear HB HO_3;have HB:=n0_;have HO120:=n1_;clear n0_ n1_ ho hb hg hat))
          repeat (go_quiet (first |((with_reducible refine jP (b:=.append) (xs:=#[.tmp 40, .tmp 46]) rfl ?_);at_builtin;refine Kd.jua k42 (w0:=w) w.heap.size rfl (.tmp 40) (.tmp 46) 32 42 (.agg #[(.string ⟨#[]⟩),(.int .i64 0),(.int .i64 0)]) 32 rfl Tryd.underlying32 jUa rfl (by decide) (by omega) (.slice (some ad113) x3_1.length co16) x3_1 (⟨(⟨(jb l0 x4_1).f0,(jb l0 x4_1).f1⟩:S38),1⟩:S42) [.string ((jb l0 x4_1).f0), .int .i64 ((jb l0 x4_1).f1), .int .i64 1] (fun _=>True) (fun _=>False) rfl rfl ?aP (fun _ hk=>hk.elim) ?aF ?aO ?aB ?aS ?aL ?_;(case aP=>exact jla _ _ _ (⟨(⟨(jb l0 x4_1).f0,(jb l0 x4_1).f1⟩:S38),1⟩:S42));(case aB=>exact (bq));(case aF=>exact (fun _ _=>trivial));(case aO=>exact (rq HO_3.out));(case aS=>exact (jA (bq)));(case aL=>have:=LMc15.out;omega);intro v119 w17 ho hb hg hat;rw [← Ny118.out] at ho;have n0_:=am (hb);have n1_:=am (ho);clear HB HO_3;have HB:=n0_;have HO120:=n1_;clear n0_ n1_ ho hb hg hat));try go_wp2_with (first |((with_reducible refine jP (b:=.append) (xs:=#[.tmp 40, .tmp 46]) rfl ?_);at_builtin;refine Kd.jua k42 (w0:=w) w.heap.size rfl (.tmp 40) (.tmp 46) 32 42 (.agg #[(.string ⟨#[]⟩),(.int .i64 0),(.int .i64 0)]) 32 rfl Tryd.underlying32 jUa rfl (by decide) (by omega) (.slice (some ad113) x3_1.length co16) x3_1 (⟨(⟨(jb l0 x4_1).f0,(jb l0 x4_1).f1⟩:S38),1⟩:S42) [.string ((jb l0 x4_1).f0), .int .i64 ((jb l0 x4_1).f1), .int .i64 1] (fun _=>True) (fun _=>False) rfl rfl ?aP (fun _ hk=>hk.elim) ?aF ?aO ?aB ?aS ?aL ?_;(case aP=>exact jla _ _ _ (⟨(⟨(jb l0 x4_1).f0,(jb l0 x4_1).f1⟩:S38),1⟩:S42));(case aB=>exact (bq));(case aF=>exact (fun _ _=>trivial));(case aO=>exact (rq HO_3.out));(case aS=>exact (jA (bq)));(case aL=>have:=LMc15.out;omega);intro v119 w17 ho hb hg hat;rw [← Ny118.out] at ho;have n0_:=am (hb);have n1_:=am (ho);clear HB HO_3;have HB:=n0_;have HO120:=n1_;clear n0_ n1_ ho hb hg hat)))
          go_roundg k1
          case measure=>have:=HK1.out;omega
          case rel=>exact ⟨(y118),(wrap64 (x4_1+1)),(sq),H',⟨by have:=HK1.out;omega⟩,⟨rq HO120.out⟩,⟨bq⟩⟩
         ·rw [if_neg c15] at H
          exact absurd H (by simp)
       ·rw [if_neg c9] at H
        exact absurd H (by simp)
      ·rw [if_neg c8] at H
       exact absurd H (by simp)
     ·rw [if_neg c7] at H
      exact absurd H (by simp)
    ·rw [if_neg c5] at H
     have c5b0:decide (0≤(wrap64 ((x3_1.length:Int) - 1)))=false:=dzF c5
     clear c5
     by_cases c18:0≤x4_1
     ·rw [if_pos c18] at H
      have c18b0:decide (0≤x4_1)=true:=dzT c18
      clear c18
      by_cases c19:x3_1.length<4398046511104
      ·rw [if_pos c19] at H
       have LMc19:=am c19
       clear c19
       obtain ⟨y122,hy122⟩:∃ y_:List (S42),y_=(x3_1 ++ [(⟨(⟨(jb l0 x4_1).f0,(jb l0 x4_1).f1⟩:S38),1⟩:S42)]):=⟨_,rfl⟩
       replace H:(jI.l0 k1 l0 y122 (wrap64 (x4_1+1)))=some r:=by first |(rw [hy122];with_reducible exact H) |(have H2_:=(Option.bind_some _ _).symm.trans H;rw [hy122];with_reducible exact H2_) |(have H2_:=(Option.bind_some _ _).symm.trans H;with_reducible exact H2_) | with_reducible exact H |(rw [hy122];exact H) | exact H
       have Ny122:=am hy122
       clear hy122
       have H':=am H
       clear H
       obtain ⟨Ao20,co20,eo20⟩:=Kd.jda HO_3.out
       subst eo20
       have p121:0≤(x4_1:Int):=ozD (uq)
       have q121:x4_1<(l0.length:Int):=ozD (uq)
       obtain ⟨ad121,e121,hx121_0,hx121_1⟩:=jNa HR0.out x4_1 p121 q121
       cases e121
       replace hx121_0:=cb HB.out hx121_0
       replace hx121_1:=cb HB.out hx121_1
       replace p121:=ezT p121
       replace q121:=ezT q121
       go_wp2_with (first |((with_reducible refine jP (b:=.append) (xs:=#[.tmp 40, .tmp 46]) rfl ?_);at_builtin;refine Kd.jua k42 (w0:=w) w.heap.size rfl (.tmp 40) (.tmp 46) 32 42 (.agg #[(.string ⟨#[]⟩),(.int .i64 0),(.int .i64 0)]) 32 rfl Tryd.underlying32 jUa rfl (by decide) (by omega) (.slice Ao20 x3_1.length co20) x3_1 (⟨(⟨(jb l0 x4_1).f0,(jb l0 x4_1).f1⟩:S38),1⟩:S42) [.string ((jb l0 x4_1).f0), .int .i64 ((jb l0 x4_1).f1), .int .i64 1] (fun _=>True) (fun _=>False) rfl rfl ?aP (fun _ hk=>hk.elim) ?aF ?aO ?aB ?aS ?aL ?_;(case aP=>exact jla _ _ _ (⟨(⟨(jb l0 x4_1).f0,(jb l0 x4_1).f1⟩:S38),1⟩:S42));(case aB=>exact (bq));(case aF=>exact (fun _ _=>trivial));(case aO=>exact (rq HO_3.out));(case aS=>exact (jA (bq)));(case aL=>have:=LMc19.out;omega);intro v123 w21 ho hb hg hat;rw [← Ny122.out] at ho;have n0_:=am (hb);have n1_:=am (ho);clear HB HO_3;have HB:=n0_;have HO124:=n1_;clear n0_ n1_ ho hb hg hat))
       repeat (go_quiet (first |((with_reducible refine jP (b:=.append) (xs:=#[.tmp 40, .tmp 46]) rfl ?_);at_builtin;refine Kd.jua k42 (w0:=w) w.heap.size rfl (.tmp 40) (.tmp 46) 32 42 (.agg #[(.string ⟨#[]⟩),(.int .i64 0),(.int .i64 0)]) 32 rfl Tryd.underlying32 jUa rfl (by decide) (by omega) (.slice Ao20 x3_1.length co20) x3_1 (⟨(⟨(jb l0 x4_1).f0,(jb l0 x4_1).f1⟩:S38),1⟩:S42) [.string ((jb l0 x4_1).f0), .int .i64 ((jb l0 x4_1).f1), .int .i64 1] (fun _=>True) (fun _=>False) rfl rfl ?aP (fun _ hk=>hk.elim) ?aF ?aO ?aB ?aS ?aL ?_;(case aP=>exact jla _ _ _ (⟨(⟨(jb l0 x4_1).f0,(jb l0 x4_1).f1⟩:S38),1⟩:S42));(case aB=>exact (bq));(case aF=>exact (fun _ _=>trivial));(case aO=>exact (rq HO_3.out));(case aS=>exact (jA (bq)));(case aL=>have:=LMc19.out;omega);intro v123 w21 ho hb hg hat;rw [← Ny122.out] at ho;have n0_:=am (hb);have n1_:=am (ho);clear HB HO_3;have HB:=n0_;have HO124:=n1_;clear n0_ n1_ ho hb hg hat));try go_wp2_with (first |((with_reducible refine jP (b:=.append) (xs:=#[.tmp 40, .tmp 46]) rfl ?_);at_builtin;refine Kd.jua k42 (w0:=w) w.heap.size rfl (.tmp 40) (.tmp 46) 32 42 (.agg #[(.string ⟨#[]⟩),(.int .i64 0),(.int .i64 0)]) 32 rfl Tryd.underlying32 jUa rfl (by decide) (by omega) (.slice Ao20 x3_1.length co20) x3_1 (⟨(⟨(jb l0 x4_1).f0,(jb l0 x4_1).f1⟩:S38),1⟩:S42) [.string ((jb l0 x4_1).f0), .int .i64 ((jb l0 x4_1).f1), .int .i64 1] (fun _=>True) (fun _=>False) rfl rfl ?aP (fun _ hk=>hk.elim) ?aF ?aO ?aB ?aS ?aL ?_;(case aP=>exact jla _ _ _ (⟨(⟨(jb l0 x4_1).f0,(jb l0 x4_1).f1⟩:S38),1⟩:S42));(case aB=>exact (bq));(case aF=>exact (fun _ _=>trivial));(case aO=>exact (rq HO_3.out));(case aS=>exact (jA (bq)));(case aL=>have:=LMc19.out;omega);intro v123 w21 ho hb hg hat;rw [← Ny122.out] at ho;have n0_:=am (hb);have n1_:=am (ho);clear HB HO_3;have HB:=n0_;have HO124:=n1_;clear n0_ n1_ ho hb hg hat)))
       go_roundg k1
       case measure=>have:=HK1.out;omega
       case rel=>exact ⟨(y122),(wrap64 (x4_1+1)),(sq),H',⟨by have:=HK1.out;omega⟩,⟨rq HO124.out⟩,⟨bq⟩⟩
      ·rw [if_neg c19] at H
       exact absurd H (by simp)
     ·rw [if_neg c18] at H
      exact absurd H (by simp)
   ·rw [if_neg c4] at H
    have c4b0:decide (x4_1<(l0.length:Int))=false:=dzF c4
    clear c4
    obtain rfl:=Option.some.inj H
    go_wp2
    repeat (go_quiet (fail);try go_wp2)
    go_ret
    exact ⟨_,Y4,rq HO_3.out,bq⟩
def jF.f : Nat → Int → Option (ByteArray)
 | 0,_=>none
 | k+1,a0=>if a0<10 then (if 0≤a0 then (if a0≤(wrap64 (a0+1)) then (if (wrap64 (a0+1))≤10 then (some ((⟨#[48,49,50,51,52,53,54,55,56,57]⟩:ByteArray).extract (a0:Int).toNat ((wrap64 (a0+1)):Int).toNat)) else (none)) else (none)) else (none)) else ((jF.f k (wrap64 (Int.tdiv a0 10))).bind fun t125=>((jF.f k (Int.tmod a0 10)).bind fun t126=>(if t125.size+t126.size≤9223372036854775807 then (some (t125 ++ t126)) else (none))))
set_option maxHeartbeats 8000000 in
set_option maxRecDepth 100000 in
theorem jF.calls (k : Nat) : ∀ (a0 : Int) (r : ByteArray) (w : World) (h : jF.f k a0 = some r),
  Calls Tryd.prog 29 #[.int .i64 a0] w fun e w'=>e=.returned (.string r)∧jDa w w':=by
 induction k using Nat.strongRecOn with
 | _ k ih =>
 intro a0 r w h
 cases k with
 | zero=>exact absurd h (by simp [jF.f])
 | succ k =>
 simp only [jF.f] at h
 have H:(if a0<10 then (if 0≤a0 then (if a0≤(wrap64 (a0+1)) then (if (wrap64 (a0+1))≤10 then (some ((⟨#[48,49,50,51,52,53,54,55,56,57]⟩:ByteArray).extract (a0:Int).toNat ((wrap64 (a0+1)):Int).toNat)) else (none)) else (none)) else (none)) else ((jF.f k (wrap64 (Int.tdiv a0 10))).bind fun t125=>((jF.f k (Int.tmod a0 10)).bind fun t126=>(if t125.size+t126.size≤9223372036854775807 then (some (t125 ++ t126)) else (none)))))=some r:=h
 clear h
 by_cases c2:a0<10
 ·rw [if_pos c2] at H
  have c2b0:decide (a0<10)=true:=dzT c2
  clear c2
  by_cases c3:0≤a0
  ·rw [if_pos c3] at H
   have c3b0:=ezT c3
   have c3b1:decide (0≤a0)=true:=dzT c3
   clear c3
   by_cases c4:a0≤(wrap64 (a0+1))
   ·rw [if_pos c4] at H
    have c4b0:=ezT c4
    have c4b1:decide (a0≤(wrap64 (a0+1)))=true:=dzT c4
    by_cases c5:(wrap64 (a0+1))≤10
    ·rw [if_pos c5] at H
     have c5b0:=ezT c5
     have c5b1:decide ((wrap64 (a0+1))≤10)=true:=dzT c5
     obtain rfl:=Option.some.inj H
     go_enter Tryd.func29,Tryd.ntmps29
     go_wp2
     go_ret
     exact ⟨sq,Y7⟩
    ·rw [if_neg c5] at H
     exact absurd H (by simp)
   ·rw [if_neg c4] at H
    exact absurd H (by simp)
  ·rw [if_neg c3] at H
   exact absurd H (by simp)
 ·rw [if_neg c2] at H
  have c2b0:decide (a0<10)=false:=dzF c2
  clear c2
  replace H:=bzS H
  obtain ⟨t125,A60,H⟩:=H
  replace H:((jF.f k (Int.tmod a0 10)).bind fun t126=>(if t125.size+t126.size≤9223372036854775807 then (some (t125 ++ t126)) else (none)))=some r:=H
  have A6:=am A60
  clear A60
  replace H:=bzS H
  obtain ⟨t126,A70,H⟩:=H
  replace H:(if t125.size+t126.size≤9223372036854775807 then (some (t125 ++ t126)) else (none))=some r:=H
  have A7:=am A70
  clear A70
  by_cases c8:t125.size+t126.size≤9223372036854775807
  ·rw [if_pos c8] at H
   have c8b0:=ezT c8
   have c8b1:decide (t125.size+t126.size≤9223372036854775807)=true:=dzT c8
   try have c8b2:(9223372036854775807<t125.size+t126.size)=False:=eq_false (Nat.not_lt.2 c8)
   obtain rfl:=Option.some.inj H
   go_enter Tryd.func29,Tryd.ntmps29
   go_wp2_with (first |((with_reducible refine jk (f:=29) rfl ?_);refine gL (some 11) Tryd.func29 #[.int .i64 (wrap64 (Int.tdiv a0 10))] ?_;(with_reducible refine (ih k (by omega) (wrap64 (Int.tdiv a0 10)) t125 _ A6.out).mono ?_);rintro e w' ⟨rfl,⟨nd,rfl⟩⟩;refine ⟨_,rfl,?_⟩) |((with_reducible refine jk (f:=29) rfl ?_);refine gL (some 14) Tryd.func29 #[.int .i64 (Int.tmod a0 10)] ?_;(with_reducible refine (ih k (by omega) (Int.tmod a0 10) t126 _ A7.out).mono ?_);rintro e w' ⟨rfl,⟨nd,rfl⟩⟩;refine ⟨_,rfl,?_⟩))
   go_ret
   exact ⟨sq,Y7⟩
  ·rw [if_neg c8] at H
   exact absurd H (by simp)
mutual
def jm.l0 : Nat → ByteArray → List (S42) → Int → Option (ByteArray)
 | 0,_,_,_=>none
 | k+1,x3,x4,x5=>if x5<(x4.length:Int) then (if x5 > 0 then (if x3.size+1≤9223372036854775807 then (jm.j1 k (x3 ++ (⟨#[32]⟩:ByteArray)) x4 x5) else (none)) else (jm.j1 k x3 x4 x5)) else (some x3)
def jm.j1 : Nat → ByteArray → List (S42) → Int → Option (ByteArray)
 | 0,_,_,_=>none
 | k+1,x3,x4,x5=>if 0≤x5 then (if x5<(x4.length:Int) then (if x3.size+((ja x4 x5).f0.f0).size≤9223372036854775807 then (if (x3 ++ ((ja x4 x5).f0.f0)).size+1≤9223372036854775807 then ((jF.f k ((ja x4 x5).f0.f1)).bind fun t132=>(if ((x3 ++ ((ja x4 x5).f0.f0)) ++ (⟨#[58]⟩:ByteArray)).size+t132.size≤9223372036854775807 then (if ((ja x4 x5).f1) > 1 then (if (((x3 ++ ((ja x4 x5).f0.f0)) ++ (⟨#[58]⟩:ByteArray)) ++ t132).size+1≤9223372036854775807 then ((jF.f k ((ja x4 x5).f1)).bind fun t135=>(if ((((x3 ++ ((ja x4 x5).f0.f0)) ++ (⟨#[58]⟩:ByteArray)) ++ t132) ++ (⟨#[42]⟩:ByteArray)).size+t135.size≤9223372036854775807 then (jm.l0 k (((((x3 ++ ((ja x4 x5).f0.f0)) ++ (⟨#[58]⟩:ByteArray)) ++ t132) ++ (⟨#[42]⟩:ByteArray)) ++ t135) x4 (wrap64 (x5+1))) else (none))) else (none)) else (jm.l0 k (((x3 ++ ((ja x4 x5).f0.f0)) ++ (⟨#[58]⟩:ByteArray)) ++ t132) x4 (wrap64 (x5+1)))) else (none))) else (none)) else (none)) else (none)) else (none)
end
def jm.f (k : Nat) (l0 : List (S38)) : Option (ByteArray) := (jI.f k l0).bind fun t127 => (jm.l0 k (⟨#[]⟩ : ByteArray) t127 0)
set_option maxHeartbeats 8000000 in
set_option maxRecDepth 100000 in
theorem jm.calls (k : Nat) (A0 : Option Addr) (c0 : Nat) (l0 : List (S38)) (r : ByteArray) (w : World) (hr0 : Kd.C k38 w A0 l0.length l0) (hc0 : l0.length ≤ c0) (h : jm.f k l0 = some r) :
  Calls Tryd.prog 15 #[.slice A0 l0.length c0] w fun e w'=>e=.returned (.string r)∧Below w.heap.size w w':=by
 have HR0:=am hr0
 have HC0:=am hc0
 clear hr0 hc0
 have HB:=am (Below.refl w.heap.size w)
 have H:((jI.f k l0).bind fun t127=>(jm.l0 k (⟨#[]⟩:ByteArray) t127 0))=some r:=h
 clear h
 replace H:=bzS H
 obtain ⟨t127,A20,H⟩:=H
 replace H:(jm.l0 k (⟨#[]⟩:ByteArray) t127 0)=some r:=H
 have A2:=am A20
 clear A20
 have H':=am H
 clear H
 go_enter Tryd.func15,Tryd.ntmps15
 go_wp2_with (first |(go_at_call 28;(with_reducible refine (jI.calls k _ _ l0 t127 _ ?side1 ?side2 A2.out).mono ?_);(case side1=>exact Y9);(case side2=>exact HC0.out);rintro e w3 ⟨v128,rfl,ho0,hb⟩;have HO129:=am (Kd.jca ho0 (jA (bq)));replace HB:=am (jg (bq) hb);(try clear hb);(try clear hb2);(try clear hk);(try clear hi);(try clear ho0)))
 repeat (go_quiet (first |(go_at_call 28;(with_reducible refine (jI.calls k _ _ l0 t127 _ ?side1 ?side2 A2.out).mono ?_);(case side1=>exact Y9);(case side2=>exact HC0.out);rintro e w3 ⟨v128,rfl,ho0,hb⟩;have HO129:=am (Kd.jca ho0 (jA (bq)));replace HB:=am (jg (bq) hb);(try clear hb);(try clear hb2);(try clear hk);(try clear hi);(try clear ho0)));try go_wp2_with (first |(go_at_call 28;(with_reducible refine (jI.calls k _ _ l0 t127 _ ?side1 ?side2 A2.out).mono ?_);(case side1=>exact Y9);(case side2=>exact HC0.out);rintro e w3 ⟨v128,rfl,ho0,hb⟩;have HO129:=am (Kd.jca ho0 (jA (bq)));replace HB:=am (jg (bq) hb);(try clear hb);(try clear hb2);(try clear hk);(try clear hi);(try clear ho0))))
 go_loopg [3,5] k (fun kq v3 v5 w'=>∃ (x3_1:ByteArray) (x5_1:Int),v3=.string x3_1∧v5=.int .i64 x5_1∧jy (jm.l0 kq x3_1 t127 x5_1=some r)∧jy (kq≤k)∧jy (Kd.R k42 42 w' w.heap.size (fun _=>True) v128 t127)∧jy (Below w.heap.size w w'))
 case atStart=>exact ⟨((⟨#[]⟩:ByteArray)),(0),(sq),(sq),H',⟨Nat.le_refl _⟩,⟨rq HO129.out⟩,⟨bq⟩⟩
 case round =>
  clear H'
  try clear c1
  try clear p2
  obtain ⟨x3_1,x5_1,rfl,rfl,HA,HK1,HO_4,HB⟩:=hrel
  cases gk with
  | zero=>exact absurd HA.out (by simp [jm.l0])
  | succ k1 =>
   have H:=HA.out
   clear HA
   simp only [jm.l0] at H
   by_cases c4:x5_1<(t127.length:Int)
   ·rw [if_pos c4] at H
    have c4b0:decide (x5_1<(t127.length:Int))=true:=dzT c4
    clear c4
    have HC5:=am H
    clear H
    obtain ⟨Ao6,co6,eo6⟩:=Kd.jda HO_4.out
    subst eo6
    go_upto_if 15 with (fail)
    repeat (go_quiet (fail);go_upto_if 15 with (fail))
    go_cut [3] (fun v3 wc=>∃ (kq:Nat) (x3_4:ByteArray),v3=.string x3_4∧jy (jm.j1 kq x3_4 t127 x5_1=some r)∧jy (kq≤k1)∧jy (Kd.R k42 42 wc w.heap.size (fun _=>True) (.slice Ao6 t127.length co6) t127)∧jy (Below w.heap.size w wc))
    case first =>
     have H:=HC5.out
     clear HC5
     by_cases c7:x5_1 > 0
     ·rw [if_pos c7] at H
      have c7b0:decide (0<x5_1)=true:=dzT c7
      clear c7
      (first | rw [c7b0] |(simp only [i64_w,i32_w];rw [c7b0]) | skip)
      by_cases c8:x3_1.size+1≤9223372036854775807
      ·rw [if_pos c8] at H
       have c8b0:=ezT c8
       have c8b1:decide (x3_1.size+1≤9223372036854775807)=true:=dzT c8
       try have c8b2:(9223372036854775807<x3_1.size+1)=False:=eq_false (Nat.not_lt.2 c8)
       have H':=am H
       clear H
       go_wp2
       repeat (go_quiet (fail);try go_wp2)
       go_meet
       case rel=>exact ⟨_,(x3_1 ++ (⟨#[32]⟩:ByteArray)),(sq),H',⟨by have:=HK1.out;first | omega | exact Nat.le_refl _⟩,⟨rq HO_4.out⟩,⟨bq⟩⟩
      ·rw [if_neg c8] at H
       exact absurd H (by simp)
     ·rw [if_neg c7] at H
      have c7b0:decide (0<x5_1)=false:=dzF c7
      clear c7
      (first | rw [c7b0] |(simp only [i64_w,i32_w];rw [c7b0]) | skip)
      have H':=am H
      clear H
      go_wp2
      repeat (go_quiet (fail);try go_wp2)
      go_meet
      case rel=>exact ⟨_,(x3_1),(sq),H',⟨by have:=HK1.out;first | omega | exact Nat.le_refl _⟩,⟨rq HO_4.out⟩,⟨bq⟩⟩
    case rest =>
     clear HC5
     try clear c1
     try clear p2
     try clear c4
     try clear c4b0
     try clear c7
     try clear c7b0
     try clear c8
     try clear c8b0
     try clear c8b1
     try clear c8b2
     try clear p2
     obtain ⟨kq,x3_4,rfl,HA,HJ4,HO_4,HB⟩:=hcut
     cases kq with
     | zero=>exact absurd HA.out (by simp [jm.j1])
     | succ kj4 =>
      have H:=HA.out
      clear HA
      simp only [jm.j1] at H
      by_cases c9:0≤x5_1
      ·rw [if_pos c9] at H
       have c9b0:decide (0≤x5_1)=true:=dzT c9
       clear c9
       by_cases c10:x5_1<(t127.length:Int)
       ·rw [if_pos c10] at H
        have c10b0:decide (x5_1<(t127.length:Int))=true:=dzT c10
        clear c10
        by_cases c11:x3_4.size+((ja t127 x5_1).f0.f0).size≤9223372036854775807
        ·rw [if_pos c11] at H
         have c11b0:=ezT c11
         have c11b1:decide (x3_4.size+((ja t127 x5_1).f0.f0).size≤9223372036854775807)=true:=dzT c11
         try have c11b2:(9223372036854775807<x3_4.size+((ja t127 x5_1).f0.f0).size)=False:=eq_false (Nat.not_lt.2 c11)
         by_cases c12:(x3_4 ++ ((ja t127 x5_1).f0.f0)).size+1≤9223372036854775807
         ·rw [if_pos c12] at H
          have c12b0:=ezT c12
          have c12b1:decide ((x3_4 ++ ((ja t127 x5_1).f0.f0)).size+1≤9223372036854775807)=true:=dzT c12
          try have c12b2:(9223372036854775807<(x3_4 ++ ((ja t127 x5_1).f0.f0)).size+1)=False:=eq_false (Nat.not_lt.2 c12)
          try have c12s:(9223372036854775807<x3_4.size+((ja t127 x5_1).f0.f0).size+1)=False:=eq_false (Nat.not_lt.2 (by have h_:=c12;simp only [ByteArray.size_append] at h_;exact h_))
          replace H:=bzS H
          obtain ⟨t132,A130,H⟩:=H
          replace H:(if ((x3_4 ++ ((ja t127 x5_1).f0.f0)) ++ (⟨#[58]⟩:ByteArray)).size+t132.size≤9223372036854775807 then (if ((ja t127 x5_1).f1) > 1 then (if (((x3_4 ++ ((ja t127 x5_1).f0.f0)) ++ (⟨#[58]⟩:ByteArray)) ++ t132).size+1≤9223372036854775807 then ((jF.f kj4 ((ja t127 x5_1).f1)).bind fun t135=>(if ((((x3_4 ++ ((ja t127 x5_1).f0.f0)) ++ (⟨#[58]⟩:ByteArray)) ++ t132) ++ (⟨#[42]⟩:ByteArray)).size+t135.size≤9223372036854775807 then (jm.l0 kj4 (((((x3_4 ++ ((ja t127 x5_1).f0.f0)) ++ (⟨#[58]⟩:ByteArray)) ++ t132) ++ (⟨#[42]⟩:ByteArray)) ++ t135) t127 (wrap64 (x5_1+1))) else (none))) else (none)) else (jm.l0 kj4 (((x3_4 ++ ((ja t127 x5_1).f0.f0)) ++ (⟨#[58]⟩:ByteArray)) ++ t132) t127 (wrap64 (x5_1+1)))) else (none))=some r:=H
          have A13:=am A130
          clear A130
          by_cases c14:((x3_4 ++ ((ja t127 x5_1).f0.f0)) ++ (⟨#[58]⟩:ByteArray)).size+t132.size≤9223372036854775807
          ·rw [if_pos c14] at H
           have c14b0:=ezT c14
           have c14b1:decide (((x3_4 ++ ((ja t127 x5_1).f0.f0)) ++ (⟨#[58]⟩:ByteArray)).size+t132.size≤9223372036854775807)=true:=dzT c14
           try have c14b2:(9223372036854775807<((x3_4 ++ ((ja t127 x5_1).f0.f0)) ++ (⟨#[58]⟩:ByteArray)).size+t132.size)=False:=eq_false (Nat.not_lt.2 c14)
           try have c14s:(9223372036854775807<x3_4.size+((ja t127 x5_1).f0.f0).size+1+t132.size)=False:=eq_false (Nat.not_lt.2 (by have h_:=c14;simp only [ByteArray.size_append] at h_;exact h_))
           by_cases c15:((ja t127 x5_1).f1) > 1
           ·rw [if_pos c15] at H
            have c15b0:decide (1<((ja t127 x5_1).f1))=true:=dzT c15
            clear c15
            by_cases c16:(((x3_4 ++ ((ja t127 x5_1).f0.f0)) ++ (⟨#[58]⟩:ByteArray)) ++ t132).size+1≤9223372036854775807
            ·rw [if_pos c16] at H
             have c16b0:=ezT c16
             have c16b1:decide ((((x3_4 ++ ((ja t127 x5_1).f0.f0)) ++ (⟨#[58]⟩:ByteArray)) ++ t132).size+1≤9223372036854775807)=true:=dzT c16
             try have c16b2:(9223372036854775807<(((x3_4 ++ ((ja t127 x5_1).f0.f0)) ++ (⟨#[58]⟩:ByteArray)) ++ t132).size+1)=False:=eq_false (Nat.not_lt.2 c16)
             try have c16s:(9223372036854775807<x3_4.size+((ja t127 x5_1).f0.f0).size+1+t132.size+1)=False:=eq_false (Nat.not_lt.2 (by have h_:=c16;simp only [ByteArray.size_append] at h_;exact h_))
             replace H:=bzS H
             obtain ⟨t135,A170,H⟩:=H
             replace H:(if ((((x3_4 ++ ((ja t127 x5_1).f0.f0)) ++ (⟨#[58]⟩:ByteArray)) ++ t132) ++ (⟨#[42]⟩:ByteArray)).size+t135.size≤9223372036854775807 then (jm.l0 kj4 (((((x3_4 ++ ((ja t127 x5_1).f0.f0)) ++ (⟨#[58]⟩:ByteArray)) ++ t132) ++ (⟨#[42]⟩:ByteArray)) ++ t135) t127 (wrap64 (x5_1+1))) else (none))=some r:=H
             have A17:=am A170
             clear A170
             by_cases c18:((((x3_4 ++ ((ja t127 x5_1).f0.f0)) ++ (⟨#[58]⟩:ByteArray)) ++ t132) ++ (⟨#[42]⟩:ByteArray)).size+t135.size≤9223372036854775807
             ·rw [if_pos c18] at H
              have c18b0:=ezT c18
              have c18b1:decide (((((x3_4 ++ ((ja t127 x5_1).f0.f0)) ++ (⟨#[58]⟩:ByteArray)) ++ t132) ++ (⟨#[42]⟩:ByteArray)).size+t135.size≤9223372036854775807)=true:=dzT c18
              try have c18b2:(9223372036854775807<((((x3_4 ++ ((ja t127 x5_1).f0.f0)) ++ (⟨#[58]⟩:ByteArray)) ++ t132) ++ (⟨#[42]⟩:ByteArray)).size+t135.size)=False:=eq_false (Nat.not_lt.2 c18)
              try have c18s:(9223372036854775807<x3_4.size+((ja t127 x5_1).f0.f0).size+1+t132.size+1+t135.size)=False:=eq_false (Nat.not_lt.2 (by have h_:=c18;simp only [ByteArray.size_append] at h_;exact h_))
              have H':=am H
              clear H
              have p130:0≤(x5_1:Int):=ozD (uq)
              have q130:x5_1<(t127.length:Int):=ozD (uq)
              obtain ⟨ad130,e130,hx130_0,hx130_1,hx130_2⟩:=jRa (Kd.jo HO_4.out).2.2 x5_1 p130 q130
              cases e130
              replace p130:=ezT p130
              replace q130:=ezT q130
              have p131:0≤(x5_1:Int):=ozD (uq)
              have q131:x5_1<(t127.length:Int):=ozD (uq)
              obtain ⟨ad131,e131,hx131_0,hx131_1,hx131_2⟩:=jRa (Kd.jo HO_4.out).2.2 x5_1 p131 q131
              obtain rfl:ad130=ad131:=(by injection e131)
              replace p131:=ezT p131
              replace q131:=ezT q131
              have p133:0≤(x5_1:Int):=ozD (uq)
              have q133:x5_1<(t127.length:Int):=ozD (uq)
              obtain ⟨ad133,e133,hx133_0,hx133_1,hx133_2⟩:=jRa (Kd.jo HO_4.out).2.2 x5_1 p133 q133
              obtain rfl:ad130=ad133:=(by injection e133)
              replace p133:=ezT p133
              replace q133:=ezT q133
              have p134:0≤(x5_1:Int):=ozD (uq)
              have q134:x5_1<(t127.length:Int):=ozD (uq)
              obtain ⟨ad134,e134,hx134_0,hx134_1,hx134_2⟩:=jRa (Kd.jo HO_4.out).2.2 x5_1 p134 q134
              obtain rfl:ad130=ad134:=(by injection e134)
              replace p134:=ezT p134
              replace q134:=ezT q134
              go_wp2_with (first |(go_at_call 29;(with_reducible refine (jF.calls kj4 ((ja t127 x5_1).f0.f1) t132 _ A13.out).mono ?_);rintro e w' ⟨rfl,⟨nd,rfl⟩⟩;(try first | exact ⟨rfl,_,World.drewN_drewN _ _ _⟩ | exact ⟨rfl,_,Eq.trans (World.drewN_drewN _ _ _) (congrArg (World.drewN _) (Nat.add_assoc _ _ _))⟩)) |(go_at_call 29;(with_reducible refine (jF.calls kj4 ((ja t127 x5_1).f1) t135 _ A17.out).mono ?_);rintro e w' ⟨rfl,⟨nd,rfl⟩⟩;(try first | exact ⟨rfl,_,World.drewN_drewN _ _ _⟩ | exact ⟨rfl,_,Eq.trans (World.drewN_drewN _ _ _) (congrArg (World.drewN _) (Nat.add_assoc _ _ _))⟩)))
              repeat (go_quiet (first |(go_at_call 29;(with_reducible refine (jF.calls kj4 ((ja t127 x5_1).f0.f1) t132 _ A13.out).mono ?_);rintro e w' ⟨rfl,⟨nd,rfl⟩⟩;(try first | exact ⟨rfl,_,World.drewN_drewN _ _ _⟩ | exact ⟨rfl,_,Eq.trans (World.drewN_drewN _ _ _) (congrArg (World.drewN _) (Nat.add_assoc _ _ _))⟩)) |(go_at_call 29;(with_reducible refine (jF.calls kj4 ((ja t127 x5_1).f1) t135 _ A17.out).mono ?_);rintro e w' ⟨rfl,⟨nd,rfl⟩⟩;(try first | exact ⟨rfl,_,World.drewN_drewN _ _ _⟩ | exact ⟨rfl,_,Eq.trans (World.drewN_drewN _ _ _) (congrArg (World.drewN _) (Nat.add_assoc _ _ _))⟩)));try go_wp2_with (first |(go_at_call 29;(with_reducible refine (jF.calls kj4 ((ja t127 x5_1).f0.f1) t132 _ A13.out).mono ?_);rintro e w' ⟨rfl,⟨nd,rfl⟩⟩;(try first | exact ⟨rfl,_,World.drewN_drewN _ _ _⟩ | exact ⟨rfl,_,Eq.trans (World.drewN_drewN _ _ _) (congrArg (World.drewN _) (Nat.add_assoc _ _ _))⟩)) |(go_at_call 29;(with_reducible refine (jF.calls kj4 ((ja t127 x5_1).f1) t135 _ A17.out).mono ?_);rintro e w' ⟨rfl,⟨nd,rfl⟩⟩;(try first | exact ⟨rfl,_,World.drewN_drewN _ _ _⟩ | exact ⟨rfl,_,Eq.trans (World.drewN_drewN _ _ _) (congrArg (World.drewN _) (Nat.add_assoc _ _ _))⟩))))
              go_roundg kj4
              case measure=>have:=HK1.out;have:=HJ4.out;omega
              case rel=>exact ⟨(((((x3_4 ++ ((ja t127 x5_1).f0.f0)) ++ (⟨#[58]⟩:ByteArray)) ++ t132) ++ (⟨#[42]⟩:ByteArray)) ++ t135),(wrap64 (x5_1+1)),(sq),(sq),H',⟨by have:=HK1.out;have:=HJ4.out;omega⟩,⟨rq HO_4.out⟩,⟨bq⟩⟩
             ·rw [if_neg c18] at H
              exact absurd H (by simp)
            ·rw [if_neg c16] at H
             exact absurd H (by simp)
           ·rw [if_neg c15] at H
            have c15b0:decide (1<((ja t127 x5_1).f1))=false:=dzF c15
            clear c15
            have H':=am H
            clear H
            have p130:0≤(x5_1:Int):=ozD (uq)
            have q130:x5_1<(t127.length:Int):=ozD (uq)
            obtain ⟨ad130,e130,hx130_0,hx130_1,hx130_2⟩:=jRa (Kd.jo HO_4.out).2.2 x5_1 p130 q130
            cases e130
            replace p130:=ezT p130
            replace q130:=ezT q130
            have p131:0≤(x5_1:Int):=ozD (uq)
            have q131:x5_1<(t127.length:Int):=ozD (uq)
            obtain ⟨ad131,e131,hx131_0,hx131_1,hx131_2⟩:=jRa (Kd.jo HO_4.out).2.2 x5_1 p131 q131
            obtain rfl:ad130=ad131:=(by injection e131)
            replace p131:=ezT p131
            replace q131:=ezT q131
            have p133:0≤(x5_1:Int):=ozD (uq)
            have q133:x5_1<(t127.length:Int):=ozD (uq)
            obtain ⟨ad133,e133,hx133_0,hx133_1,hx133_2⟩:=jRa (Kd.jo HO_4.out).2.2 x5_1 p133 q133
            obtain rfl:ad130=ad133:=(by injection e133)
            replace p133:=ezT p133
            replace q133:=ezT q133
            go_wp2_with (first |(go_at_call 29;(with_reducible refine (jF.calls kj4 ((ja t127 x5_1).f0.f1) t132 _ A13.out).mono ?_);rintro e w' ⟨rfl,⟨nd,rfl⟩⟩;(try first | exact ⟨rfl,_,World.drewN_drewN _ _ _⟩ | exact ⟨rfl,_,Eq.trans (World.drewN_drewN _ _ _) (congrArg (World.drewN _) (Nat.add_assoc _ _ _))⟩)))
            repeat (go_quiet (first |(go_at_call 29;(with_reducible refine (jF.calls kj4 ((ja t127 x5_1).f0.f1) t132 _ A13.out).mono ?_);rintro e w' ⟨rfl,⟨nd,rfl⟩⟩;(try first | exact ⟨rfl,_,World.drewN_drewN _ _ _⟩ | exact ⟨rfl,_,Eq.trans (World.drewN_drewN _ _ _) (congrArg (World.drewN _) (Nat.add_assoc _ _ _))⟩)));try go_wp2_with (first |(go_at_call 29;(with_reducible refine (jF.calls kj4 ((ja t127 x5_1).f0.f1) t132 _ A13.out).mono ?_);rintro e w' ⟨rfl,⟨nd,rfl⟩⟩;(try first | exact ⟨rfl,_,World.drewN_drewN _ _ _⟩ | exact ⟨rfl,_,Eq.trans (World.drewN_drewN _ _ _) (congrArg (World.drewN _) (Nat.add_assoc _ _ _))⟩))))
            go_roundg kj4
            case measure=>have:=HK1.out;have:=HJ4.out;omega
            case rel=>exact ⟨(((x3_4 ++ ((ja t127 x5_1).f0.f0)) ++ (⟨#[58]⟩:ByteArray)) ++ t132),(wrap64 (x5_1+1)),(sq),(sq),H',⟨by have:=HK1.out;have:=HJ4.out;omega⟩,⟨rq HO_4.out⟩,⟨bq⟩⟩
          ·rw [if_neg c14] at H
           exact absurd H (by simp)
         ·rw [if_neg c12] at H
          exact absurd H (by simp)
        ·rw [if_neg c11] at H
         exact absurd H (by simp)
       ·rw [if_neg c10] at H
        exact absurd H (by simp)
      ·rw [if_neg c9] at H
       exact absurd H (by simp)
   ·rw [if_neg c4] at H
    have c4b0:decide (x5_1<(t127.length:Int))=false:=dzF c4
    clear c4
    obtain rfl:=Option.some.inj H
    obtain ⟨Ao19,co19,eo19⟩:=Kd.jda HO_4.out
    subst eo19
    go_wp2
    repeat (go_quiet (fail);try go_wp2)
    go_ret
    exact ⟨Y4,bq⟩
def jL.f (k : Nat) (l0 : List (S38)) : Option (ByteArray) := (jv.f k l0).bind fun t136 => (if t136 = true then ((jm.f k l0).bind fun t137 => (some t137)) else (some (⟨#[]⟩ : ByteArray)))
set_option maxHeartbeats 8000000 in
set_option maxRecDepth 100000 in
theorem jL.calls (k : Nat) (A0 : Option Addr) (c0 : Nat) (l0 : List (S38)) (r : ByteArray) (w : World) (hr0 : Kd.C k38 w A0 l0.length l0) (hc0 : l0.length ≤ c0) (h : jL.f k l0 = some r) :
  Calls Tryd.prog 6 #[.slice A0 l0.length c0] w fun e w'=>e=.returned (.string r)∧Below w.heap.size w w':=by
 have HR0:=am hr0
 have HC0:=am hc0
 clear hr0 hc0
 have HB:=am (Below.refl w.heap.size w)
 have H:((jv.f k l0).bind fun t136=>(if t136=true then ((jm.f k l0).bind fun t137=>(some t137)) else (some (⟨#[]⟩:ByteArray))))=some r:=h
 clear h
 replace H:=bzS H
 obtain ⟨t136,A20,H⟩:=H
 replace H:(if t136=true then ((jm.f k l0).bind fun t137=>(some t137)) else (some (⟨#[]⟩:ByteArray)))=some r:=H
 have A2:=am A20
 clear A20
 by_cases c3:t136=true
 ·subst c3
  have H1:((jm.f k l0).bind fun t137=>(some t137))=some r:=by rw [if_pos rfl] at H;exact H
  clear H
  have H:=H1
  clear H1
  replace H:=bzS H
  obtain ⟨t137,A40,H⟩:=H
  replace H:(some t137)=some r:=H
  have A4:=am A40
  clear A40
  obtain rfl:=Option.some.inj H
  go_enter Tryd.func6,Tryd.ntmps6
  go_wp2_with (first |((with_reducible refine jk (f:=14) rfl ?_);refine gL (some 4) Tryd.func14 #[.slice A0 l0.length c0] ?_;(with_reducible refine (jv.calls k _ _ l0 true _ ?side1 ?side2 A2.out).mono ?_);(case side1=>exact Y9);(case side2=>exact HC0.out);rintro e w5 ⟨rfl,hb⟩;refine ⟨_,rfl,?_⟩;replace HB:=am (jg (bq) hb);(try clear hb);(try clear hb2);(try clear hk);(try clear hi)) |((with_reducible refine jk (f:=15) rfl ?_);refine gL (some 7) Tryd.func15 #[.slice A0 l0.length c0] ?_;(with_reducible refine (jm.calls k _ _ l0 t137 _ ?side1 ?side2 A4.out).mono ?_);(case side1=>exact cq (Kd.C_below HR0.out HB.out));(case side2=>exact HC0.out);rintro e w6 ⟨rfl,hb⟩;refine ⟨_,rfl,?_⟩;replace HB:=am (jg (bq) hb);(try clear hb);(try clear hb2);(try clear hk);(try clear hi)))
  go_ret
  exact ⟨Y4,bq⟩
 ·replace c3:=Bool.eq_false_iff.mpr c3
  subst c3
  have H1:(some (⟨#[]⟩:ByteArray))=some r:=by rw [if_neg (show ¬ (false=true) by decide)] at H;exact H
  clear H
  have H:=H1
  clear H1
  obtain rfl:=Option.some.inj H
  go_enter Tryd.func6,Tryd.ntmps6
  go_wp2_with (first |((with_reducible refine jk (f:=14) rfl ?_);refine gL (some 4) Tryd.func14 #[.slice A0 l0.length c0] ?_;(with_reducible refine (jv.calls k _ _ l0 false _ ?side1 ?side2 A2.out).mono ?_);(case side1=>exact Y9);(case side2=>exact HC0.out);rintro e w7 ⟨rfl,hb⟩;refine ⟨_,rfl,?_⟩;replace HB:=am (jg (bq) hb);(try clear hb);(try clear hb2);(try clear hk);(try clear hi)))
  go_ret
  exact ⟨Y4,bq⟩
def jsa.f (a0 : Int) (a1 : Int) (a2 : Int) : Option (Bool) := if a0 ≥ a1 then (some (decide (a0 ≤ a2))) else (some false)
set_option maxHeartbeats 8000000 in
set_option maxRecDepth 100000 in
theorem jsa.calls (a0 : Int) (a1 : Int) (a2 : Int) (r : Bool) (w : World) (h : jsa.f a0 a1 a2 = some r) :
  Calls Tryd.prog 26 #[.int .i64 a0, .int .i64 a1, .int .i64 a2] w fun e w'=>e=.returned (.bool r)∧jDa w w':=by
 have H:(if a0≥a1 then (some (decide (a0≤a2))) else (some false))=some r:=h
 clear h
 by_cases c4:a0≥a1
 ·rw [if_pos c4] at H
  have c4b0:decide (a1≤a0)=true:=dzT c4
  clear c4
  obtain rfl:=Option.some.inj H
  go_enter Tryd.func26,Tryd.ntmps26
  go_wp2
  go_ret
  exact ⟨sq,Y7⟩
 ·rw [if_neg c4] at H
  have c4b0:decide (a1≤a0)=false:=dzF c4
  clear c4
  obtain rfl:=Option.some.inj H
  go_enter Tryd.func26,Tryd.ntmps26
  go_wp2
  go_ret
  exact ⟨sq,Y7⟩
def jS.l0 : Nat → ByteArray → Int → Int → Option (Bool)
 | 0,_,_,_=>none
 | k+1,x0,x5,x6=>if x6<x5 then (if 0≤x6 then (if x6<(x0.size:Int) then (if (bt x0 x6)<97 then (some false) else (if (bt x0 x6) > 122 then (some false) else (jS.l0 k x0 x5 (wrap64 (x6+1))))) else (none)) else (none)) else ((jsa.f (x0.size:Int) 1 6).bind fun t148=>(some t148))
def jS.f (k : Nat) (a0 : ByteArray) : Option (Bool) := jS.l0 k a0 (a0.size : Int) 0
set_option maxHeartbeats 8000000 in
set_option maxRecDepth 100000 in
theorem jS.calls (k : Nat) (a0 : ByteArray) (r : Bool) (w : World) (h : jS.f k a0 = some r) :
  Calls Tryd.prog 25 #[.string a0] w fun e w'=>e=.returned (.bool r)∧jDa w w':=by
 have H:(jS.l0 k a0 (a0.size:Int) 0)=some r:=h
 clear h
 have H':=am H
 clear H
 go_enter Tryd.func25,Tryd.ntmps25
 go_wp2
 go_loopg [6] k (fun kq v6 w'=>∃ (x6_1:Int),v6=.int .i64 x6_1∧jy (jS.l0 kq a0 (a0.size:Int) x6_1=some r)∧jy (kq≤k)∧jDa w w')
 case atStart=>exact ⟨(0),(sq),H',⟨Nat.le_refl _⟩,Y7⟩
 case round =>
  clear H'
  obtain ⟨x6_1,rfl,HA,HK1,⟨m1,rfl⟩⟩:=hrel
  cases gk with
  | zero=>exact absurd HA.out (by simp [jS.l0])
  | succ k1 =>
   have H:=HA.out
   clear HA
   simp only [jS.l0] at H
   by_cases c2:x6_1<(a0.size:Int)
   ·rw [if_pos c2] at H
    have c2b0:decide (x6_1<(a0.size:Int))=true:=dzT c2
    clear c2
    by_cases c3:0≤x6_1
    ·rw [if_pos c3] at H
     have c3b0:decide (0≤x6_1)=true:=dzT c3
     clear c3
     by_cases c4:x6_1<(a0.size:Int)
     ·rw [if_pos c4] at H
      have c4b0:decide (x6_1<(a0.size:Int))=true:=dzT c4
      clear c4
      by_cases c6:(bt a0 x6_1)<97
      ·rw [if_pos c6] at H
       have c6b0:decide ((bt a0 x6_1)<97)=true:=dzT c6
       clear c6
       obtain rfl:=Option.some.inj H
       have p5:0≤(x6_1:Int):=ozD (uq)
       have q5:x6_1<(a0.size:Int):=ozD (uq)
       have hx5:=bt_at a0 x6_1
       replace p5:=ezT p5
       replace q5:=ezT q5
       go_wp2
       go_ret
       exact ⟨sq,Y7⟩
      ·rw [if_neg c6] at H
       have c6b0:decide ((bt a0 x6_1)<97)=false:=dzF c6
       clear c6
       by_cases c8:(bt a0 x6_1) > 122
       ·rw [if_pos c8] at H
        have c8b0:decide (122<(bt a0 x6_1))=true:=dzT c8
        clear c8
        obtain rfl:=Option.some.inj H
        have p5:0≤(x6_1:Int):=ozD (uq)
        have q5:x6_1<(a0.size:Int):=ozD (uq)
        have hx5:=bt_at a0 x6_1
        replace p5:=ezT p5
        replace q5:=ezT q5
        have p7:0≤(x6_1:Int):=ozD (uq)
        have q7:x6_1<(a0.size:Int):=ozD (uq)
        have hx7:=bt_at a0 x6_1
        replace p7:=ezT p7
        replace q7:=ezT q7
        go_wp2
        go_ret
        exact ⟨sq,Y7⟩
       ·rw [if_neg c8] at H
        have c8b0:decide (122<(bt a0 x6_1))=false:=dzF c8
        clear c8
        have H':=am H
        clear H
        have p5:0≤(x6_1:Int):=ozD (uq)
        have q5:x6_1<(a0.size:Int):=ozD (uq)
        have hx5:=bt_at a0 x6_1
        replace p5:=ezT p5
        replace q5:=ezT q5
        have p7:0≤(x6_1:Int):=ozD (uq)
        have q7:x6_1<(a0.size:Int):=ozD (uq)
        have hx7:=bt_at a0 x6_1
        replace p7:=ezT p7
        replace q7:=ezT q7
        go_wp2
        go_roundg k1
        case measure=>have:=HK1.out;omega
        case rel=>exact ⟨(wrap64 (x6_1+1)),(sq),H',⟨by have:=HK1.out;omega⟩,Y7⟩
     ·rw [if_neg c4] at H
      exact absurd H (by simp)
    ·rw [if_neg c3] at H
     exact absurd H (by simp)
   ·rw [if_neg c2] at H
    have c2b0:decide (x6_1<(a0.size:Int))=false:=dzF c2
    clear c2
    replace H:=bzS H
    obtain ⟨t148,A90,H⟩:=H
    replace H:(some t148)=some r:=H
    have A9:=am A90
    clear A90
    obtain rfl:=Option.some.inj H
    go_wp2_with (first |((with_reducible refine jk (f:=26) rfl ?_);refine gL (some 22) Tryd.func26 #[.int .i64 (a0.size:Int), .int .i64 1, .int .i64 6] ?_;(with_reducible refine (jsa.calls (a0.size:Int) 1 6 t148 _ A9.out).mono ?_);rintro e w' ⟨rfl,⟨nd,rfl⟩⟩;refine ⟨_,rfl,?_⟩))
    go_ret
    exact ⟨sq,Y7⟩
def frBad (k : Nat) (x : S38) : Option Bool := (jS.f k x.f0).bind fun b => if b = true then (jsa.f x.f1 1 999).bind fun c => some (!c) else some true
set_option maxHeartbeats 8000000 in
set_option maxRecDepth 100000 in
theorem impl_ValidTrace1_calls (k : Nat) (x : S38) (b : Bool) (w : World) (h : frBad k x = some b) :
  Calls Tryd.prog 24 #[.agg #[.string x.f0, .int .i64 x.f1]] w fun e w'=>e=.returned (.bool b)∧Below w.heap.size w w':=by
 obtain ⟨b0,h0,h1⟩:=bzS h
 have hu38:=Tryd.underlying38
 have HF:=am (fun W=>jS.calls k x.f0 b0 W h0)
 have HB:=am ((Below.refl w.heap.size w).alloc (Nat.le_refl _) (.cells #[.string x.f0, .int .i64 x.f1] 38))
 cases b0 with
 | false =>
  rw [if_neg (by simp)] at h1
  obtain rfl:=Option.some.inj h1
  clear h h0 h1
  go_enter Tryd.func24,Tryd.ntmps24
  go_wp2_with (go_at_call 25;refine (HF.out _).mono ?_;rintro e w' ⟨rfl,hd⟩;obtain ⟨⟨j,rfl⟩⟩:=hd)
  go_ret
  exact ⟨rfl,jB HB.out _⟩
 | true =>
  rw [if_pos rfl] at h1
  obtain ⟨c0,h2,h3⟩:=bzS h1
  obtain rfl:=Option.some.inj h3
  have HW:=am (fun W=>jsa.calls x.f1 1 999 c0 W h2)
  clear h h0 h1 h2 h3
  go_enter Tryd.func24,Tryd.ntmps24
  go_wp2_with (first |(go_at_call 25;refine (HF.out _).mono ?_;rintro e w' ⟨rfl,hd⟩;obtain ⟨⟨j,rfl⟩⟩:=hd) |(go_at_call 26;refine (HW.out _).mono ?_;rintro e w' ⟨rfl,hd⟩;obtain ⟨⟨j2,rfl⟩⟩:=hd))
  go_ret
  exact ⟨rfl,jB HB.out _⟩
set_option maxHeartbeats 8000000 in
set_option maxRecDepth 100000 in
theorem impl_ValidTrace_idx (A_ : Option Addr) (c_ : Nat) (l : List (S38)) (p : S38 → Option Bool) (r : Int) (w : World) (hr : Kd.C k38 w A_ l.length l) (h : idxFrom p l 0 = some r)
  (hp:∀ W,Below w.heap.size w W→∀ (x:S38) (b:Bool),p x=some b→Calls Tryd.prog 24 #[.agg #[.string x.f0, .int .i64 x.f1]] W fun e w'=>e=.returned (.bool b)∧Below W.heap.size W w') :
  Calls Tryd.prog 39 #[.slice A_ l.length c_, .func (.func 24) #[] #[]] w fun e w'=>e=.returned (.int .i64 r)∧Below w.heap.size w w':=by
 have hm:l.length≤9223372036854775807:=Kd.C_max hr
 have HR:=am hr
 have HP:=am hp
 have H0:=am h
 clear hr hp h
 go_enter Tryd.func39,Tryd.ntmps39
 go_wp2
 go_loopw [5,8] (fun i5 i8 wr=>∃ k:Nat,k≤l.length∧i8=.int .i64 k∧jy (idxFrom p (l.drop k) k=some r)∧Below w.heap.size w wr) (fun _ i8 _=>l.length - (intOf i8).toNat)
 case atStart=>exact ⟨0,Nat.zero_le _,rfl,H0,Below.refl _ _⟩
 case round =>
  clear H0
  obtain ⟨k,hk,rfl,HA,hb⟩:=hrel
  by_cases hlt:k<l.length
  ·have HB:=am (idxFrom_step hlt HA.out)
   clear HA
   obtain ⟨ad,rfl,hx0,hx1⟩:=jNa HR.out (k:Int) (by omega) (by omega)
   have hrd:jb l (k:Int)=l[k]:=by simp [jb,List.getD_eq_getElem?_getD,hlt]
   replace hx0:=jma hb hx0
   replace hx1:=jma hb hx1
   rw [hrd] at hx0 hx1
   simp only [Int.toNat_natCast] at hx0 hx1
   clear hrd
   obtain ⟨b,hb1,hb0⟩:=HB.out
   have HQ:=am hb1
   clear hb1 HB
   cases b with
   | true =>
    have HZ:=am (by simpa using hb0:(k:Int)=r)
    clear hb0
    go_wp2_with (go_at_call 24;refine (HP.out _ hb _ _ HQ.out).mono ?_;rintro e w' ⟨rfl,hb2⟩)
    go_ret
    exact ⟨by rw [← HZ.out];rfl,below_then hb hb.size hb2⟩
   | false =>
    have HZ:=am (by simpa using hb0:idxFrom p (l.drop (k+1)) (k+1)=some r)
    clear hb0
    go_wp2_with (go_at_call 24;refine (HP.out _ hb _ _ HQ.out).mono ?_;rintro e w' ⟨rfl,hb2⟩)
    go_roundw
    case rel=>exact ⟨k+1,hlt,by go_num,HZ,below_then hb hb.size hb2⟩
    case measure=>simp [intOf];omega
  ·have HZ:=am (idxFrom_end (by omega) HA.out)
   clear HA
   go_wp2
   go_ret
   exact ⟨by rw [HZ.out];rfl,hb⟩
set_option maxHeartbeats 8000000 in
set_option maxRecDepth 100000 in
theorem impl_ValidTrace_any (A_ : Option Addr) (c_ : Nat) (l : List S38) (p : S38 → Option Bool) (r : Int) (w : World) (hr : Kd.C k38 w A_ l.length l) (h : idxFrom p l 0 = some r)
  (hp:∀ W,Below w.heap.size w W→∀ (x:S38) (b:Bool),p x=some b→Calls Tryd.prog 24 #[.agg #[.string x.f0, .int .i64 x.f1]] W fun e w'=>e=.returned (.bool b)∧Below W.heap.size W w') :
  Calls Tryd.prog 23 #[.slice A_ l.length c_, .func (.func 24) #[] #[]] w fun e w'=>e=.returned (.bool (decide (0≤r)))∧Below w.heap.size w w':=by
 have HF:=am (impl_ValidTrace_idx A_ c_ l p r w hr h hp)
 clear hr h hp
 go_enter Tryd.func23,Tryd.ntmps23
 go_wp2_with (go_at_call 39;refine HF.out.mono ?_;rintro e w' ⟨rfl,hb2⟩)
 go_ret
 exact ⟨rfl,hb2⟩
def jw.f (k : Nat) (l0 : List S38) : Option Bool := if (l0.length : Int) ≤ 12 then (idxFrom (frBad k) l0 0).bind fun r => some (!decide (0 ≤ r)) else some false
set_option maxHeartbeats 8000000 in
set_option maxRecDepth 100000 in
theorem jw.calls (k : Nat) (A0 : Option Addr) (c0 : Nat) (l0 : List (S38)) (r : Bool) (w : World) (hr0 : Kd.C k38 w A0 l0.length l0) (hc0 : l0.length ≤ c0) (h : jw.f k l0 = some r) :
  Calls Tryd.prog 11 #[.slice A0 l0.length c0] w fun e w'=>e=.returned (.bool r)∧Below w.heap.size w w':=by
 unfold jw.f at h
 by_cases hlen:(l0.length:Int)≤12
 ·rw [if_pos hlen] at h
  have hlb:=dzT hlen
  obtain ⟨q,hq,h⟩:=bzS h
  have HZ:=am (Option.some.inj h)
  have HF:=am (impl_ValidTrace_any A0 c0 l0 (frBad k) q w hr0 hq (fun W' hb' x b hx=>impl_ValidTrace1_calls k x b W' hx))
  clear h hq hr0 hlen
  go_enter Tryd.func11,Tryd.ntmps11
  go_wp2_with (go_at_call 23;refine HF.out.mono ?_;rintro e w2 ⟨rfl,hb3⟩)
  go_ret
  exact ⟨by rw [← HZ.out];rfl,hb3⟩
 ·rw [if_neg hlen] at h
  obtain rfl:=Option.some.inj h
  have hlb:=dzF hlen
  clear hr0 hlen
  go_enter Tryd.func11,Tryd.ntmps11
  go_wp2
  go_ret
  exact ⟨rfl,Below.refl _ _⟩
def impl_Row.f (l0 : List (S42)) : Option ((List (S42))) := some (l0)
set_option maxHeartbeats 8000000 in
set_option maxRecDepth 100000 in
theorem impl_Row.calls (P0_ : Nat → Prop) (u9000_ : Value) (l0 : List (S42)) (r : List (S42)) (w0 w : World) (hB : Below w0.heap.size w0 w) (ho0 : Kd.R k42 42 w w0.heap.size P0_ u9000_ l0) (h : impl_Row.f l0 = some r) :
  Calls Tryd.prog 30 #[u9000_] w fun e w'=>∃ v0_:Value,e=.returned (v0_)∧Kd.R k42 42 w' w0.heap.size (fun k_=>(P0_ k_∨w.heap.size≤k_)) v0_ r∧Below w0.heap.size w0 w'∧Kept w w' (fun k_=>P0_ k_):=by
 have HO0:=am (show Kd.R k42 42 w w0.heap.size (fun k_=>(P0_ k_∨w.heap.size≤k_)) u9000_ l0 from Kd.jT ho0 (fun k_ hk=>(.inl hk)))
 have HK:=am (Kept.refl w (fun k_=>P0_ k_))
 have HW0:=am hB.size
 have HB:=am hB
 clear hB
 have H:(some (l0))=some r:=h
 clear h
 obtain ⟨y149,hy149⟩:∃ y_:List (S42),y_=(l0):=⟨_,rfl⟩
 replace H:(some y149)=some r:=by first |(rw [hy149];with_reducible exact H) |(have H2_:=(Option.bind_some _ _).symm.trans H;rw [hy149];with_reducible exact H2_) |(have H2_:=(Option.bind_some _ _).symm.trans H;with_reducible exact H2_) | with_reducible exact H |(rw [hy149];exact H) | exact H
 have Ny149:=am hy149
 clear hy149
 obtain rfl:=Option.some.inj H
 obtain ⟨Ao2,co2,eo2⟩:=Kd.jda HO0.out
 subst eo2
 obtain ⟨i03,hi03,_,hsz3,_⟩:=info_parts jUa
 have hy3:y149.length=l0.length:=(by rw [Ny149.out])
 have hcut3:=cut_clip (P:=Tryd.prog) 32 42 Tryd.underlying32 hi03 Ao2 _ co2 _ (Kd.jo HO0.out).2.1 hy3
 have hr3:=Kd.R_clip HO0.out Ny149.out
 clear hy3 hi03 hsz3 HO0
 have HO151:=am hr3
 clear hr3
 go_enter Tryd.func30,Tryd.ntmps30
 go_wp2
 go_ret
 exact ⟨_,Y4,rq HO151.out,bq,by repeat (first |(with_reducible first | exact HK.out | apply Kept.alloc | apply Kept.drewN | apply Kept.drew) | exact HK.out)⟩
end Go.Proofs.YtdmafmebllhlkaaDoor.P
end
