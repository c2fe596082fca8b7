/- One part of the proofs on this program: functions of the program as plain functions, that the code comes to them, and facts on them. -/
import Derived.ArgAppend
import Derived.Below
import Derived.BigQuiet
import Derived.Deep.AppendLies
import Derived.Deep.CutBlock
import Derived.Deep.DeepCutAuto
import Derived.Deep.Draws
import Derived.Deep.LoopGhost
import Derived.Deep.OwnRows
import Derived.Deep.QuietTactic
import Derived.Deep.RegionHeld3
import Derived.KernelRfl
import Derived.Laws.BitsLemmas
import Derived.Laws.BytesArg
import Derived.Laws.IdiomCopy
import Derived.Laws.MakeOwn
import Derived.Laws.OwnMore
import Derived.Laws.Rows
import Derived.Laws.Slices
import Derived.Laws.StructEq
import Derived.Lib.AppendStr
import Derived.Lib.ConvBytes
import Derived.LoopTactic
import Derived.Maps.AppendAt
import Derived.OrdersHeld
import Derived.OwnWalk
import Derived.RowKit
import Derived.RowKit3
import Derived.Tactics
import Derived.WalkKit
import Derived.WideLaws
import Derived.Test.YteibechlncphnaaDoorProg
import Derived.Test.YteibechlncphnaaDoorYWApart
import Derived.Test.YteibechlncphnaaDoorYWAuto
import Derived.Test.YteibechlncphnaaDoorYWClip
import Derived.Test.YteibechlncphnaaDoorYWFoot
import Derived.Test.YteibechlncphnaaDoorYWGuard
import Derived.Test.YteibechlncphnaaDoorYWIdx
import Derived.Test.YteibechlncphnaaDoorYWKept
import Derived.Test.YteibechlncphnaaDoorYWLast
import Derived.Test.YteibechlncphnaaDoorYWMore
import Derived.Test.YteibechlncphnaaDoorYWN
import Derived.Test.YteibechlncphnaaDoorYWRepsOne
import Derived.Test.YteibechlncphnaaDoorYWShare
import Derived.Test.YteibechlncphnaaDoorYWSome
import Derived.Test.YteibechlncphnaaDoorYWTab
import Derived.Test.YteibechlncphnaaDoorYWWords
section
namespace Go.Proofs.YteibechlncphnaaDoor.P
open Go.RowKit Go.Proofs.YteibechlncphnaaDoorW.PrintWords Go.Proofs.YteibechlncphnaaDoorW.PrintLast Go.Proofs.YteibechlncphnaaDoorW.PrintMore
attribute [local go_sem] jva jta jAa jza jga jfa jua jsa jA
set_option linter.unusedVariables false
set_option linter.unusedSimpArgs false
def errW : Option Int → Value
 | none=>.nilIface
 | some c=>.iface 0 (.int .i64 c)
theorem jrb : errW none = .nilIface := rfl
theorem jqb (c : Int) : errW (some c) = .iface 0 (.int .i64 c) := rfl
theorem info3 : (Tryd.prog.info? 3).map (fun i => (i.zero, i.size, i.bytes)) = some (some (.int .i64 0), 1, 8) := by kernel_rfl
theorem info5 : (Tryd.prog.info? 5).map (fun i => (i.zero, i.size, i.bytes)) = some (some (.int .u8 0), 1, 1) := by kernel_rfl
theorem info66 : (Tryd.prog.info? 66).map (fun i => (i.zero, i.size, i.bytes)) = some (some (.agg #[(.int .i64 0), (.int .i64 0), (.int .i64 0), (.int .i64 0), (.bool false)]), 5, 40) := by kernel_rfl
theorem info99 : (Tryd.prog.info? 99).map (fun i => (i.zero, i.size, i.bytes)) = some (some (.agg #[(.string ⟨#[]⟩), (.int .i64 0)]), 2, 24) := by kernel_rfl
structure S66 where
 f0:Int
 f1:Int
 f2:Int
 f3:Int
 f4:Bool
def z66 : S66 := ⟨(0 : Int), (0 : Int), (0 : Int), (0 : Int), false⟩
def k66 : Kd S66 := Kd.iso (Kd.pair (Kd.int .i64) (Kd.pair (Kd.int .i64) (Kd.pair (Kd.int .i64) (Kd.pair (Kd.int .i64) Kd.bool)))) (fun x : S66 => (x.f0, x.f1, x.f2, x.f3, x.f4))
theorem k66_open {w : World} {x : S66} {cs : List Value} (h : k66.K w x cs) : cs = [.int .i64 x.f0, .int .i64 x.f1, .int .i64 x.f2, .int .i64 x.f3, .bool x.f4] := by
 obtain ⟨_,_,rfl,rfl,⟨_,_,rfl,rfl,⟨_,_,rfl,rfl,⟨_,_,rfl,rfl,rfl⟩⟩⟩⟩:=h
 exact rfl
theorem jRa {w : World} {base : Nat} {ok : Nat → Prop} {x : S66} {cs : List Value} (h : k66.M w base ok x cs) : cs = [.int .i64 x.f0, .int .i64 x.f1, .int .i64 x.f2, .int .i64 x.f3, .bool x.f4] := by
 obtain ⟨_,_,rfl,rfl,⟨_,_,rfl,rfl,⟨_,_,rfl,rfl,⟨_,_,rfl,rfl,rfl⟩⟩⟩⟩:=h
 exact rfl
theorem jac (w : World) (base : Nat) (ok : Nat → Prop) (x : S66)  : k66.M w base ok x [.int .i64 x.f0, .int .i64 x.f1, .int .i64 x.f2, .int .i64 x.f3, .bool x.f4] := ⟨[.int .i64 x.f0], [.int .i64 x.f1, .int .i64 x.f2, .int .i64 x.f3, .bool x.f4], rfl, rfl, ⟨[.int .i64 x.f1], [.int .i64 x.f2, .int .i64 x.f3, .bool x.f4], rfl, rfl, ⟨[.int .i64 x.f2], [.int .i64 x.f3, .bool x.f4], rfl, rfl, ⟨[.int .i64 x.f3], [.bool x.f4], rfl, rfl, rfl⟩⟩⟩⟩
def ja (xs : List S66) (i : Int) : S66 := xs.getD i.toNat z66
theorem jlb {w : World} {A : Option Addr} {n : Nat} {xs : List S66} (h : Kd.C k66 w A n xs) (i : Int) (h0 : 0 ≤ i) (h1 : i < n) : ∃ ad , A = some ad ∧ w.cell? (ad.add (i.toNat * 5)) = some (.int .i64 (ja xs i).f0) ∧ w.cell? ⟨(ad.add (i.toNat * 5)).block, (ad.add (i.toNat * 5)).off + 1, none⟩ = some (.int .i64 (ja xs i).f1) ∧ w.cell? ⟨(ad.add (i.toNat * 5)).block, (ad.add (i.toNat * 5)).off + 2, none⟩ = some (.int .i64 (ja xs i).f2) ∧ w.cell? ⟨(ad.add (i.toNat * 5)).block, (ad.add (i.toNat * 5)).off + 3, none⟩ = some (.int .i64 (ja xs i).f3) ∧ w.cell? ⟨(ad.add (i.toNat * 5)).block, (ad.add (i.toNat * 5)).off + 4, none⟩ = some (.bool (ja xs i).f4) := by
 obtain ⟨ad,c,e,_,hK,hc0⟩:=Kd.C_get h z66 i h0 h1
 have hc:∀ j u,c[j]?=some u→w.cell? (ad.add (i.toNat * 5+j))=some u:=hc0
 obtain rfl:=k66_open hK
 exact ⟨ad,e,hc 0 _ rfl,by rw [← add_field _ _ 1 (by omega)];exact hc 1 _ rfl,by rw [← add_field _ _ 2 (by omega)];exact hc 2 _ rfl,by rw [← add_field _ _ 3 (by omega)];exact hc 3 _ rfl,by rw [← add_field _ _ 4 (by omega)];exact hc 4 _ rfl⟩
structure S99 where
 f0:ByteArray
 f1:Int
def z99 : S99 := ⟨(⟨#[]⟩ : ByteArray), (0 : Int)⟩
def k99 : Kd S99 := Kd.iso (Kd.pair Kd.string (Kd.int .i64)) (fun x : S99 => (x.f0, x.f1))
theorem k99_open {w : World} {x : S99} {cs : List Value} (h : k99.K w x cs) : cs = [.string x.f0, .int .i64 x.f1] := by
 obtain ⟨_,_,rfl,rfl,rfl⟩:=h
 exact rfl
theorem k99_openM {w : World} {base : Nat} {ok : Nat → Prop} {x : S99} {cs : List Value} (h : k99.M w base ok x cs) : cs = [.string x.f0, .int .i64 x.f1] := by
 obtain ⟨_,_,rfl,rfl,rfl⟩:=h
 exact rfl
theorem k99_mkM (w : World) (base : Nat) (ok : Nat → Prop) (x : S99)  : k99.M w base ok x [.string x.f0, .int .i64 x.f1] := ⟨[.string x.f0], [.int .i64 x.f1], rfl, rfl, rfl⟩
def jL (xs : List S99) (i : Int) : S99 := xs.getD i.toNat z99
theorem at_T99 {w : World} {A : Option Addr} {n : Nat} {xs : List S99} (h : Kd.C k99 w A n xs) (i : Int) (h0 : 0 ≤ i) (h1 : i < n) : ∃ ad , A = some ad ∧ w.cell? (ad.add (i.toNat * 2)) = some (.string (jL xs i).f0) ∧ w.cell? ⟨(ad.add (i.toNat * 2)).block, (ad.add (i.toNat * 2)).off + 1, none⟩ = some (.int .i64 (jL xs i).f1) := by
 obtain ⟨ad,c,e,_,hK,hc0⟩:=Kd.C_get h z99 i h0 h1
 have hc:∀ j u,c[j]?=some u→w.cell? (ad.add (i.toNat * 2+j))=some u:=hc0
 obtain rfl:=k99_open hK
 exact ⟨ad,e,hc 0 _ rfl,by rw [← add_field _ _ 1 (by omega)];exact hc 1 _ rfl⟩
def jY.l0 : Nat → List Int → Int → Int → Int → Option (Int)
 | 0,_,_,_,_=>none
 | k+1,x0,x1,x7,x8=>if x8<x7 then (if 0≤x8 then (if x8<(x0.length:Int) then (if x1=(rd x0 x8) then (some x8) else (jY.l0 k x0 x1 x7 (wrap64 (x8+1)))) else (none)) else (none)) else (some (-1))
def jY.f (k : Nat) (l0 : List Int) (a1 : Int) : Option (Int) := jY.l0 k l0 a1 (l0.length : Int) 0
set_option maxHeartbeats 8000000 in
set_option maxRecDepth 100000 in
theorem jY.calls (k : Nat) (A0 : Option Addr) (c0 : Nat) (l0 : List Int) (a1 : Int) (r : Int) (w : World) (hr0 : Kd.C (Kd.int .i64) w A0 l0.length l0) (hc0 : l0.length ≤ c0) (h : jY.f k l0 a1 = some r) :
  Calls Tryd.prog 84 #[.slice A0 l0.length c0, .int .i64 a1] w fun e w'=>e=.returned (.int .i64 r)∧jvb w w':=by
 have HR0:=am hr0
 have HC0:=am hc0
 clear hr0 hc0
 have H:(jY.l0 k l0 a1 (l0.length:Int) 0)=some r:=h
 clear h
 have H':=am H
 clear H
 go_enter Tryd.func84,Tryd.ntmps84
 go_wp2
 go_loopg [8] k (fun kq v8 w'=>∃ (x8_1:Int),v8=.int .i64 x8_1∧jB (jY.l0 kq l0 a1 (l0.length:Int) x8_1=some r)∧jB (kq≤k)∧jvb w w')
 case atStart=>exact ⟨(0),(sq),H',⟨Nat.le_refl _⟩,Y7⟩
 case round =>
  clear H'
  try clear p2
  obtain ⟨x8_1,rfl,HA,HK1,⟨m1,rfl⟩⟩:=hrel
  cases gk with
  | zero=>exact absurd HA.out (by simp [jY.l0])
  | succ k1 =>
   have H:=HA.out
   clear HA
   simp only [jY.l0] at H
   by_cases c3:x8_1<(l0.length:Int)
   ·rw [if_pos c3] at H
    have c3b0:decide (x8_1<(l0.length:Int))=true:=dzT c3
    clear c3
    by_cases c4:0≤x8_1
    ·rw [if_pos c4] at H
     have c4b0:decide (0≤x8_1)=true:=dzT c4
     clear c4
     by_cases c5:x8_1<(l0.length:Int)
     ·rw [if_pos c5] at H
      have c5b0:decide (x8_1<(l0.length:Int))=true:=dzT c5
      clear c5
      by_cases c6:a1=(rd l0 x8_1)
      ·rw [if_pos c6] at H
       have c6b0:(a1 == (rd l0 x8_1))=true:=beq_iff_eq.mpr c6
       have c6b1:(a1 != (rd l0 x8_1))=false:=bne_eq_false_iff_eq.mpr c6
       clear c6
       obtain rfl:=Option.some.inj H
       have p315:0≤(x8_1:Int):=ozD (uq)
       have q315:x8_1<(l0.length:Int):=ozD (uq)
       obtain ⟨ad315,e315,hx315_0⟩:=Kd.jNb HR0.out x8_1 p315 q315
       cases e315
       replace p315:=ezT p315
       replace q315:=ezT q315
       go_wp2
       go_ret
       exact ⟨sq,Y7⟩
      ·rw [if_neg c6] at H
       have c6b0:(a1 == (rd l0 x8_1))=false:=beq_eq_false_iff_ne.mpr c6
       have c6b1:(a1 != (rd l0 x8_1))=true:=bne_iff_ne.mpr c6
       have H':=am H
       clear H
       have p315:0≤(x8_1:Int):=ozD (uq)
       have q315:x8_1<(l0.length:Int):=ozD (uq)
       obtain ⟨ad315,e315,hx315_0⟩:=Kd.jNb HR0.out x8_1 p315 q315
       cases e315
       replace p315:=ezT p315
       replace q315:=ezT q315
       go_wp2
       go_roundg k1
       case measure=>have:=HK1.out;omega
       case rel=>exact ⟨(wrap64 (x8_1+1)),(sq),H',⟨by have:=HK1.out;omega⟩,Y7⟩
     ·rw [if_neg c5] at H
      exact absurd H (by simp)
    ·rw [if_neg c4] at H
     exact absurd H (by simp)
   ·rw [if_neg c3] at H
    have c3b0:decide (x8_1<(l0.length:Int))=false:=dzF c3
    clear c3
    obtain rfl:=Option.some.inj H
    go_wp2
    go_ret
    exact ⟨sq,Y7⟩
def joa.f (k : Nat) (l0 : List Int) (a1 : Int) : Option (Bool) := (jY.f k l0 a1).bind fun t316 => (some (decide (t316 ≥ 0)))
set_option maxHeartbeats 8000000 in
set_option maxRecDepth 100000 in
theorem joa.calls (k : Nat) (A0 : Option Addr) (c0 : Nat) (l0 : List Int) (a1 : Int) (r : Bool) (w : World) (hr0 : Kd.C (Kd.int .i64) w A0 l0.length l0) (hc0 : l0.length ≤ c0) (h : joa.f k l0 a1 = some r) :
  Calls Tryd.prog 53 #[.slice A0 l0.length c0, .int .i64 a1] w fun e w'=>e=.returned (.bool r)∧jvb w w':=by
 have HR0:=am hr0
 have HC0:=am hc0
 clear hr0 hc0
 have H:((jY.f k l0 a1).bind fun t316=>(some (decide (t316≥0))))=some r:=h
 clear h
 replace H:=bzS H
 obtain ⟨t316,A30,H⟩:=H
 replace H:(some (decide (t316≥0)))=some r:=H
 have A3:=am A30
 clear A30
 obtain rfl:=Option.some.inj H
 go_enter Tryd.func53,Tryd.ntmps53
 go_wp2_with (first |((with_reducible refine jw (f:=84) rfl ?_);refine gL (some 7) Tryd.func84 #[.slice A0 l0.length c0, .int .i64 a1] ?_;(with_reducible refine (jY.calls k _ _ l0 a1 t316 _ ?side1 ?side2 A3.out).mono ?_);(case side1=>exact Y149);(case side2=>exact HC0.out);rintro e w' ⟨rfl,⟨nd,rfl⟩⟩;refine ⟨_,rfl,?_⟩))
 go_ret
 exact ⟨sq,Y7⟩
def jpa.f (l0 : List Int) : Option (List Int) := some (l0)
set_option maxHeartbeats 8000000 in
set_option maxRecDepth 100000 in
theorem jpa.calls (P0_ : Nat → Prop) (u9000_ : Value) (l0 : List Int) (r : List Int) (w0 w : World) (hB : Below w0.heap.size w0 w) (ho0 : Kd.R (Kd.int .i64) 3 w w0.heap.size P0_ u9000_ l0) (h : jpa.f l0 = some r) :
  Calls Tryd.prog 54 #[u9000_] w fun e w'=>∃ v0_:Value,e=.returned (v0_)∧Kd.R (Kd.int .i64) 3 w' w0.heap.size (fun k_=>(P0_ k_∨w.heap.size≤k_)) v0_ r∧Below w0.heap.size w0 w'∧Kept w w' (fun k_=>P0_ k_):=by
 have HO0:=am (show Kd.R (Kd.int .i64) 3 w w0.heap.size (fun k_=>(P0_ k_∨w.heap.size≤k_)) u9000_ l0 from Kd.jI ho0 (fun k_ hk=>(.inl hk)))
 have HK:=am (Kept.refl w (fun k_=>P0_ k_))
 have HW0:=am hB.size
 have HB:=am hB
 clear hB
 have H:(some (l0))=some r:=h
 clear h
 obtain ⟨y317,hy317⟩:∃ y_:List Int,y_=(l0):=⟨_,rfl⟩
 replace H:(some y317)=some r:=by first |(rw [hy317];with_reducible exact H) |(have H2_:=(Option.bind_some _ _).symm.trans H;rw [hy317];with_reducible exact H2_) |(have H2_:=(Option.bind_some _ _).symm.trans H;with_reducible exact H2_) | with_reducible exact H |(rw [hy317];exact H) | exact H
 have Ny317:=am hy317
 clear hy317
 obtain rfl:=Option.some.inj H
 obtain ⟨Ao2,co2,eo2⟩:=Kd.jZ HO0.out
 subst eo2
 obtain ⟨i03,hi03,_,hsz3,_⟩:=info_parts info3
 have hy3:y317.length=l0.length:=(by rw [Ny317.out])
 have hcut3:=cut_clip (P:=Tryd.prog) 32 3 Tryd.underlying32 hi03 Ao2 _ co2 _ (Kd.jC HO0.out).2.1 hy3
 have hr3:=Kd.R_clip HO0.out Ny317.out
 clear hy3 hi03 hsz3 HO0
 have HO319:=am hr3
 clear hr3
 go_enter Tryd.func54,Tryd.ntmps54
 go_wp2
 go_ret
 exact ⟨_,Y1,rq HO319.out,bq,Y150⟩
def jib (nx : Int → Option Int) : Nat → Int → List Int → Option (List Int)
 | 0,_,_=>none
 | k+1,f,acc=>if f≥0 then ((joa.f k acc f).bind fun b=>if b=true then some acc else (if acc.length<17592186044416 then (nx f).bind fun g=>jib nx k g (acc ++ [f]) else none)) else some acc
set_option maxHeartbeats 8000000 in
set_option maxRecDepth 100000 in
theorem impl_contexts_walk (k : Nat) (B0_ : Nat) (nx : Int → Option Int) (a0 : Int) (r : List Int) (w : World) (h : jib nx k a0 [] = some r)
  (hp:∀ W,Below w.heap.size w W→∀ (x y:Int),nx x=some y→Calls Tryd.prog 90 #[.int .i64 x, .pointer (some ⟨B0_,0,none⟩)] W fun e w'=>e=.returned (.int .i64 y)∧Below W.heap.size W w') :
  Calls Tryd.prog 29 #[.int .i64 a0, .func (.func 90) #[] #[.pointer (some ⟨B0_,0,none⟩)]] w fun e w'=>∃ v0_:Value,e=.returned v0_∧Kd.R (Kd.int .i64) 3 w' w.heap.size (fun _=>True) v0_ r∧Below w.heap.size w w':=by
 have HP:=am hp
 have H0:=am h
 have HB:=am (Below.refl w.heap.size w)
 clear hp h
 go_enter Tryd.func29,Tryd.ntmps29
 go_wp2_with ((with_reducible refine jD (N:=6) rfl ?_);refine Kd.R_lit (Kd.int .i64) _ 3 ?hg (N:=6) ?hd (xs:=([]:List Int)) (inner:=[]) (ok:=fun _=>True) (okp:=fun _=>True) ?hr ?hp (fun _ hk=>hk) trivial (Below.refl _ _) (Nat.le_refl _) (by simp) ?_;(case hd=>rfl);(case hg=>rfl);(case hr=>exact Y4);(case hp=>exact (Reps.none _ _));intro v111 w4 ho5 hb hg_ hnew_;clear hg_ hnew_;have n0_:=am (Kd.jia ho5 (jM (bq)));have n2_:=am (je (bq) hb);clear HB;have HO:=n0_;have HB:=n2_;clear n0_ n2_ hb ho5)
 go_loopg [0,5] k (fun kq v0 v5 w'=>∃ (x:Int) (acc:List Int),v0=.int .i64 x∧jB (jib nx kq x acc=some r)∧jB (kq≤k)∧jB (Kd.R (Kd.int .i64) 3 w' w.heap.size (fun _=>True) v5 acc)∧jB (Below w.heap.size w w'))
 case atStart=>exact ⟨a0,[],(sq),H0,⟨Nat.le_refl _⟩,⟨rq HO.out⟩,⟨bq⟩⟩
 case round =>
  clear H0 HO HB
  obtain ⟨x,acc,rfl,HA,HK1,HO,HB⟩:=hrel
  cases gk with
  | zero=>exact absurd HA.out (by simp [jib])
  | succ k1 =>
   have H:=HA.out
   clear HA
   simp only [jib] at H
   obtain ⟨Ao,co,eo⟩:=Kd.jZ HO.out
   subst eo
   by_cases c6:x≥0
   ·rw [if_pos c6] at H
    have c6b0:decide (0≤x)=true:=dzT c6
    clear c6
    obtain ⟨b,A70,H⟩:=bzS H
    have A7:=am A70
    clear A70
    cases b with
    | true =>
     rw [if_pos rfl] at H
     obtain rfl:=Option.some.inj H
     clear H
     go_wp2_with (first |(go_at_call 53;(with_reducible refine (joa.calls k1 _ _ acc x true _ ?side1 ?side2 A7.out).mono ?_);(case side1=>exact cq (Kd.jC HO.out).2.2);(case side2=>exact (Kd.jC HO.out).2.1);rintro e w' ⟨rfl,⟨nd,rfl⟩⟩) |(go_at_call 54;refine (jpa.calls (fun _=>True) _ acc acc w _ (bq) (rq HO.out) (show jpa.f acc=some acc from rfl)).mono ?_;rintro e w9 ⟨v9,rfl,hR9,hB9,hK9⟩))
     go_ret
     exact ⟨_,rfl,Kd.jI hR9 (fun _ _=>trivial),hB9⟩
    | false =>
     rw [if_neg (by simp)] at H
     by_cases c10:acc.length<17592186044416
     ·rw [if_pos c10] at H
      have LM:=am c10
      clear c10
      obtain ⟨y,hy,H⟩:=bzS H
      have HQ:=am hy
      have H':=am H
      clear H hy
      go_wp2_with (first |(go_at_call 53;(with_reducible refine (joa.calls k1 _ _ acc x false _ ?side1 ?side2 A7.out).mono ?_);(case side1=>exact cq (Kd.jC HO.out).2.2);(case side2=>exact (Kd.jC HO.out).2.1);rintro e w' ⟨rfl,⟨nd,rfl⟩⟩) |(go_at_call 90;refine (HP.out _ (bq) _ _ HQ.out).mono ?_;rintro e w2 ⟨rfl,hb2⟩;have n1_:=am (Kd.jW (rq HO.out) hb2);have n2_:=am (je (bq) hb2);clear HO HB;have HO:=n1_;have HB:=n2_;clear n1_ n2_ hb2) |((with_reducible refine jHb (b:=.append) (xs:=#[.tmp 18, .tmp 20]) rfl ?_);at_builtin;refine Kd.R_append (Kd.int .i64) (w0:=w) w.heap.size rfl (.tmp 18) (.tmp 20) 32 3 (.int .i64 0) 8 rfl Tryd.underlying32 info3 rfl (by decide) (by omega) (.slice Ao acc.length co) acc x [.int .i64 x] (fun _=>True) (fun _=>False) rfl rfl ?aP (fun _ hk=>hk.elim) ?aF ?aO ?aB ?aS ?aL ?_;(case aP=>exact rfl);(case aB=>exact (bq));(case aF=>exact (fun _ _=>trivial));(case aO=>exact (rq HO.out));(case aS=>exact (jM (bq)));(case aL=>have:=LM.out;omega);intro v115 w14 ho hb hg hat;have n1_:=am (hb);have n2_:=am (ho);clear HB HO;have HB:=n1_;have HO:=n2_;clear n1_ n2_ ho hb hg hat))
      go_roundg k1
      case measure=>have:=HK1.out;omega
      case rel=>exact ⟨y,acc ++ [x],(sq),H',⟨by have:=HK1.out;omega⟩,⟨rq HO.out⟩,⟨bq⟩⟩
     ·rw [if_neg c10] at H
      cases H
   ·rw [if_neg c6] at H
    have c6b0:decide (0≤x)=false:=dzF c6
    clear c6
    obtain rfl:=Option.some.inj H
    clear H
    go_wp2_with (go_at_call 54;refine (jpa.calls (fun _=>True) _ acc acc w _ (bq) (rq HO.out) (show jpa.f acc=some acc from rfl)).mono ?_;rintro e w9 ⟨v9,rfl,hR9,hB9,hK9⟩)
    go_ret
    exact ⟨_,rfl,Kd.jI hR9 (fun _ _=>trivial),hB9⟩
def ctxF (h : List S66) (g : Int) : Option Int := if 0 ≤ g then if g < (h.length : Int) then some (ja h g).f3 else none else none
theorem impl_contexts1_calls (A_ : Option Addr) (c_ : Nat) (l : List S66) (x y : Int) (B0 : Nat) (w : World) (hr : Kd.C k66 w A_ l.length l) (hc : w.cell? ⟨B0, 0, none⟩ = some (.slice A_ l.length c_)) (h : ctxF l x = some y) :
  Calls Tryd.prog 90 #[.int .i64 x, .pointer (some ⟨B0,0,none⟩)] w fun e w'=>e=.returned (.int .i64 y)∧Below w.heap.size w w':=by
 unfold ctxF at h
 by_cases h0:0≤x
 ·rw [if_pos h0] at h
  by_cases h1:x<(l.length:Int)
  ·rw [if_pos h1] at h
   obtain ⟨ad,rfl,hx0,hx1,hx2,hx3,hx4⟩:=jlb hr x h0 h1
   have HY:=am (Option.some.inj h)
   have HB:=am (Below.refl w.heap.size w)
   clear h hr
   have p0:=ezT h0
   have p1:=ezT h1
   have hu28:=Tryd.underlying28
   go_enter Tryd.func90,Tryd.ntmps90
   go_wp2
   go_ret
   exact ⟨by rw [← HY.out];rfl,bq⟩
  ·rw [if_neg h1] at h;cases h
 ·rw [if_neg h0] at h;cases h
def jbb.f (k : Nat) (l0_0 : List S66) (a1 : Int) : Option (List Int) := jib (ctxF l0_0) k a1 []
theorem hp_cell_new (w : World) (v : Value) (t : TypeId) : (w.alloc (.cells #[v] t)).cell? ⟨w.heap.size, 0, none⟩ = some v := by simp
set_option maxHeartbeats 8000000 in
set_option maxRecDepth 100000 in
theorem jbb.calls (k : Nat) (A0_0 : Option Addr) (c0_0 : Nat) (l0_0 : List (S66)) (a1 : Int) (r : List Int) (w : World) (hr0_0 : Kd.C k66 w A0_0 l0_0.length l0_0) (hc0_0 : l0_0.length ≤ c0_0) (h : jbb.f k l0_0 a1 = some r) :
  Calls Tryd.prog 76 #[.agg #[.slice A0_0 l0_0.length c0_0], .int .i64 a1] w fun e w'=>∃ v0_:Value,e=.returned (v0_)∧Kd.R (Kd.int .i64) 3 w' w.heap.size (fun _=>True) v0_ r∧Below w.heap.size w w':=by
 have hu28:=Tryd.underlying28
 have B3:=am ((Below.refl w.heap.size w).alloc (Nat.le_refl _) (.cells #[.slice A0_0 l0_0.length c0_0] 28))
 have KC:=am (hp_cell_new w (.slice A0_0 l0_0.length c0_0) 28)
 have HF:=am (fun W (hb:Below w.heap.size w W) (B0:Nat) (hc:W.cell? ⟨B0,0,none⟩=some (.slice A0_0 l0_0.length c0_0))=>impl_contexts_walk k B0 (ctxF l0_0) a1 r W h (fun W' hb' x y hx =>
  impl_contexts1_calls A0_0 c0_0 l0_0 x y B0 W' (Kd.jU (Kd.jU hr0_0 hb) hb') (jS hb' hc) hx))
 clear h hr0_0
 go_enter Tryd.func76,Tryd.ntmps76
 go_wp2_with (go_at_call 29;refine (HF.out _ B3.out _ KC.out).mono ?_;rintro e w2 ⟨v2,rfl,hr2,hb3⟩)
 go_ret
 exact ⟨_,rfl,Kd.jia hr2 B3.out.size,jEb B3.out B3.out.size hb3⟩
def jk (w0 W : World) (g : Nat) (f0 : List Int) (f1 : Int) : Prop := ∃ A0 c0, W.heap[g]? = some (.cells #[.slice A0 f0.length c0, .int .i64 f1] 84 (0, 0)) ∧ w0.heap.size ≤ g ∧ Kd.C (Kd.int .u8) w0 A0 f0.length f0
theorem jk.grown {w0 W : World} {g : Nat} {f0 : List Int} {f1 : Int} {W1 : World} {row : Option Nat} (h : jk w0 W g f0 f1) (hw : W.grownBy W1 row) (hne : some g ≠ row) : jk w0 W1 g f0 f1 := by
 obtain ⟨A0,c0,hb,hg,hr0⟩:=h
 exact ⟨A0,c0,jKa hb hw hne,hg,hr0⟩
theorem jk.kept {w0 W : World} {g : Nat} {f0 : List Int} {f1 : Int} {W1 : World} {S : Nat → Prop} (h : jk w0 W g f0 f1) (hk : Kept W W1 S) (hne : ¬ S g) : jk w0 W1 g f0 f1 := by
 obtain ⟨A0,c0,hb,hg,hr0⟩:=h
 exact ⟨A0,c0,blk_kept hb hk hne,hg,hr0⟩
theorem jk.below {w0 W : World} {g : Nat} {f0 : List Int} {f1 : Int} {W1 : World} (h : jk w0 W g f0 f1) (hw : Below W.heap.size W W1) : jk w0 W1 g f0 f1 := h.grown (grown_of_below hw none) (by simp)
theorem jk.alloc {w0 W : World} {g : Nat} {f0 : List Int} {f1 : Int} (h : jk w0 W g f0 f1) (o : Obj) : jk w0 (W.alloc o) g f0 f1 := h.below (jv (Below.refl _ _) o)
theorem jk.drewN {w0 W : World} {g : Nat} {f0 : List Int} {f1 : Int} (h : jk w0 W g f0 f1) (m : Nat) : jk w0 (W.drewN m) g f0 f1 := h
theorem jk.drew {w0 W : World} {g : Nat} {f0 : List Int} {f1 : Int} (h : jk w0 W g f0 f1) : jk w0 W.drew g f0 f1 := h
theorem jk.at_ {w0 W : World} {g : Nat} {f0 : List Int} {f1 : Int} {w' : World} {m : Nat} (hq : W.drewN m = w') (h : jk w0 W g f0 f1) : jk w0 w' g f0 f1 := by subst hq; exact jk.drewN h m
theorem jk.apart {w0 W : World} {g : Nat} {f0 : List Int} {f1 : Int} {α : Type} {d : Kd α} {e : Nat} {base : Nat} {ok : Nat → Prop} {v : Value} {xs : List α} (h : jk w0 W g f0 f1) (ho : d.R e W base ok v xs) (ht : ∀ q, q ∈ e :: d.E → q ≠ 84) : d.R e W base (fun k => ok k ∧ k ≠ g) v xs := by
 obtain ⟨A0,c0,hb,hg,hr0⟩:=h
 exact Kd.jP ho hb ht
theorem jk.own_ne {w0 W : World} {g : Nat} {f0 : List Int} {f1 : Int} {α : Type} {d : Kd α} {e : Nat} {base : Nat} {ok : Nat → Prop} {v : Value} {xs : List α} (h : jk w0 W g f0 f1) (ho : d.R e W base ok v xs) (ht : e ≠ 84) : some g ≠ v.ownBlock := by
 obtain ⟨A0,c0,hb,hg,hr0⟩:=h
 exact Kd.R_ne ho hb ht
theorem jk.lt {w0 W : World} {g : Nat} {f0 : List Int} {f1 : Int} (h : jk w0 W g f0 f1) : g < W.heap.size := by
 obtain ⟨A0,c0,hb,hg,hr0⟩:=h
 exact jda hb
theorem jk.ge {w0 W : World} {g : Nat} {f0 : List Int} {f1 : Int} (h : jk w0 W g f0 f1) : w0.heap.size ≤ g := by
 obtain ⟨A0,c0,hb,hg,hr0⟩:=h
 exact hg
theorem jk.ne_blk {w0 W : World} {g : Nat} {f0 : List Int} {f1 : Int} {a : Nat} {cs : Array Value} {t : TypeId} {fr : Nat × Nat} (h : jk w0 W g f0 f1) (hb2 : W.heap[a]? = some (.cells cs t fr)) (ht : t ≠ 84) : g ≠ a := by
 obtain ⟨A0,c0,hb,hg,hr0⟩:=h
 rintro rfl
 rw [hb] at hb2
 injection hb2 with hb2
 injection hb2 with _ ht2
 exact ht ht2.symm
theorem jk.far {w0 W : World} {g : Nat} {f0 : List Int} {f1 : Int} {p : Addr} (h : jk w0 W g f0 f1) (hne : g ≠ p.block) (u : Value) : jk w0 (W.setCell p u) g f0 f1 := by
 obtain ⟨A0,c0,hb,hg,hr0⟩:=h
 exact ⟨A0,c0,jT hb hne u,hg,hr0⟩
theorem cellS84_0 {W : World} {g : Nat} {A0 : Option Addr} {c0 : Nat} {f0 : List Int} {f1 : Int} (h : W.heap[g]? = some (.cells #[.slice A0 f0.length c0, .int .i64 f1] 84 (0, 0))) : W.cell? ⟨g, 0, none⟩ = some (.slice A0 f0.length c0) := (jH h 0).trans rfl
theorem cellS84_1 {W : World} {g : Nat} {A0 : Option Addr} {c0 : Nat} {f0 : List Int} {f1 : Int} (h : W.heap[g]? = some (.cells #[.slice A0 f0.length c0, .int .i64 f1] 84 (0, 0))) : W.cell? ⟨g, 1, none⟩ = some (.int .i64 f1) := (jH h 1).trans rfl
theorem jk.jmb {w0 W : World} {g : Nat} {f0 : List Int} {f1 : Int} (h : jk w0 W g f0 f1) (x : Int) : jk w0 (W.setCell ⟨g, 1, none⟩ (.int .i64 x)) g f0 x := by
 obtain ⟨A0,c0,hb,hg,hr0⟩:=h
 exact ⟨A0,c0,by simpa using blk_set hb 1 (.int .i64 x),hg,hr0⟩
theorem jk.new (w0 W : World) (A0 : Option Addr) (c0 : Nat) (f0 : List Int) (f1 : Int) (hB : Below w0.heap.size w0 W) (hr0 : Kd.C (Kd.int .u8) w0 A0 f0.length f0) : jk w0 (W.alloc (.cells #[.slice A0 f0.length c0, .int .i64 f1] 84)) W.heap.size f0 f1 := ⟨A0, c0, by simpa using heap_alloc_new W _, hB.size, hr0⟩
def jm.j0 : Nat → Int → Bool → List Int → Int → Option (Int × Int)
 | 0,_,_,_,_=>none
 | k+1,x1,x24,x1000,x1001=>if x24=true then (some (0,x1001)) else (if (wrap64 (x1001 - 1))<(x1000.length:Int) then (if 0≤(wrap64 (x1001 - 1)) then (if x1=0 then (none) else (some (Int.tmod (wrap64 (rd x1000 (wrap64 (x1001 - 1)))) x1,x1001))) else (none)) else (if (x1000.length:Int)=0 then (none) else (if 0≤(Int.tmod (wrap64 (x1001 - 1)) (x1000.length:Int)) then (if (Int.tmod (wrap64 (x1001 - 1)) (x1000.length:Int))<(x1000.length:Int) then (if 0≤(Int.tmod (wrap64 ((wrap64 ((wrap64 (x1001 - 1)) * 7))+3)) (x1000.length:Int)) then (if (Int.tmod (wrap64 ((wrap64 ((wrap64 (x1001 - 1)) * 7))+3)) (x1000.length:Int))<(x1000.length:Int) then (if x1=0 then (none) else (some (Int.tmod (Go.bits .xor .i64 (wrap64 ((wrap64 ((wrap64 ((wrap64 ((wrap64 (rd x1000 (Int.tmod (wrap64 (x1001 - 1)) (x1000.length:Int)))) * 131))+(wrap64 ((wrap64 (rd x1000 (Int.tmod (wrap64 ((wrap64 ((wrap64 (x1001 - 1)) * 7))+3)) (x1000.length:Int)))) * 1117))))+(wrap64 ((wrap64 (x1001 - 1)) * 29))))+(wrap64 ((wrap64 (Int.tdiv (wrap64 (x1001 - 1)) (x1000.length:Int))) * 53)))) (wrap64 (Int.tdiv (wrap64 ((wrap64 ((wrap64 ((wrap64 ((wrap64 (rd x1000 (Int.tmod (wrap64 (x1001 - 1)) (x1000.length:Int)))) * 131))+(wrap64 ((wrap64 (rd x1000 (Int.tmod (wrap64 ((wrap64 ((wrap64 (x1001 - 1)) * 7))+3)) (x1000.length:Int)))) * 1117))))+(wrap64 ((wrap64 (x1001 - 1)) * 29))))+(wrap64 ((wrap64 (Int.tdiv (wrap64 (x1001 - 1)) (x1000.length:Int))) * 53)))) 64))) x1,x1001))) else (none)) else (none)) else (none)) else (none))))
def jm.f (k : Nat) (s0_0 : List Int) (s0_1 : Int) (a1 : Int) : Option (Int × Int) := if a1 < 1 then (jm.j0 k a1 true s0_0 (wrap64 (s0_1 + 1))) else (jm.j0 k a1 ((s0_0.length : Int) == 0) s0_0 (wrap64 (s0_1 + 1)))
set_option maxHeartbeats 8000000 in
set_option maxRecDepth 100000 in
theorem jm.calls (k : Nat) (g : Nat) (s0_0 : List Int) (s0_1 : Int) (a1 : Int) (r1 : Int) (r2 : Int) (w0 w : World) (hI : jk w0 w g s0_0 s0_1) (hB : Below w0.heap.size w0 w) (h : jm.f k s0_0 s0_1 a1 = some (r1, r2)) :
  Calls Tryd.prog 68 #[.pointer (some ⟨g,0,none⟩), .int .i64 a1] w fun e w'=>e=.returned (.int .i64 r1)∧jk w0 w' g s0_0 r2∧Below w0.heap.size w0 w'∧jd w w' g none:=by
 have HI0:=am hI
 have HK:=am (jd.refl w g none)
 have HL:=am hB.size
 clear hI
 have HW0:=am hB.size
 have HB:=am hB
 clear hB
 have H:(if a1<1 then (jm.j0 k a1 true s0_0 (wrap64 (s0_1+1))) else (jm.j0 k a1 ((s0_0.length:Int) == 0) s0_0 (wrap64 (s0_1+1))))=some (r1,r2):=h
 clear h
 have HC3:=am H
 clear H
 obtain ⟨ASz4_0,cSz4_0,HGz4,hgz4,HSz4_0⟩:=HI0.out
 have hcz4_0:=cellS84_0 HGz4
 have hcz4_1:=cellS84_1 HGz4
 have hfz4_1:=jb HGz4 1
 clear HGz4 hgz4
 go_enter Tryd.func68,Tryd.ntmps68
 go_upto_region 2 with (fail)
 repeat (go_quiet (fail);go_upto_region 2 with (fail))
 go_cut [24] (fun v24 wc=>∃ (kq:Nat) (x24_2:Bool),v24=.bool x24_2∧jB (jm.j0 kq a1 x24_2 s0_0 (wrap64 (s0_1+1))=some (r1,r2))∧jB (kq≤k)∧jB (jk w0 wc g s0_0 (wrap64 (s0_1+1)))∧jB (jd w wc g none)∧jB (Below w0.heap.size w0 wc))
 case first =>
  have H:=HC3.out
  clear HC3
  by_cases c5:a1<1
  ·rw [if_pos c5] at H
   have c5b0:decide (a1<1)=true:=dzT c5
   clear c5
   (first | rw [c5b0] |(simp only [jwb,jBb];rw [c5b0]) | skip)
   have H':=am H
   clear H
   go_wp2
   repeat (go_quiet (fail);try go_wp2)
   go_meet
   case rel=>exact ⟨_,(true),(sq),H',⟨Y63⟩,⟨Y12⟩,⟨Y13⟩,⟨Y14⟩⟩
  ·rw [if_neg c5] at H
   have c5b0:decide (a1<1)=false:=dzF c5
   clear c5
   (first | rw [c5b0] |(simp only [jwb,jBb];rw [c5b0]) | skip)
   have H':=am H
   clear H
   obtain ⟨ASz6_0,cSz6_0,HGz6,hgz6,HSz6_0⟩:=HI0.out
   have hcz6_0:=cellS84_0 HGz6
   have hcz6_1:=cellS84_1 HGz6
   have hfz6_1:=jb HGz6 1
   clear HGz6 hgz6
   go_wp2
   repeat (go_quiet (fail);try go_wp2)
   go_meet
   case rel=>exact ⟨_,(((s0_0.length:Int) == 0)),(sq),H',⟨Y63⟩,⟨Y12⟩,⟨Y13⟩,⟨Y14⟩⟩
 case rest =>
  clear HC3
  try clear p2
  try clear c5
  try clear c5b0
  try clear c6
  try clear p6
  try clear hcz4_0
  try clear hcz4_1
  try clear hcz6_0
  try clear hcz6_1
  try clear hfz4_1
  try clear hfz6_1
  obtain ⟨kq,x24_2,rfl,HA,HJ2,HI0,HK,HB⟩:=hcut
  cases kq with
  | zero=>exact absurd HA.out (by simp [jm.j0])
  | succ kj2 =>
   have H:=HA.out
   clear HA
   simp only [jm.j0] at H
   by_cases c7:x24_2=true
   ·subst c7
    have H1:(some (0,(wrap64 (s0_1+1))))=some (r1,r2):=by rw [if_pos rfl] at H;exact H
    clear H
    have H:=H1
    clear H1
    simp only [Option.some.injEq,Prod.mk.injEq] at H
    obtain ⟨rfl,rfl⟩:=H
    go_wp2
    repeat (go_quiet (fail);try go_wp2)
    go_ret
    exact ⟨Y1,Y12,Y14,Y13⟩
   ·replace c7:=Bool.eq_false_iff.mpr c7
    subst c7
    have H1:(if (wrap64 ((wrap64 (s0_1+1)) - 1))<(s0_0.length:Int) then (if 0≤(wrap64 ((wrap64 (s0_1+1)) - 1)) then (if a1=0 then (none) else (some (Int.tmod (wrap64 (rd s0_0 (wrap64 ((wrap64 (s0_1+1)) - 1)))) a1,(wrap64 (s0_1+1))))) else (none)) else (if (s0_0.length:Int)=0 then (none) else (if 0≤(Int.tmod (wrap64 ((wrap64 (s0_1+1)) - 1)) (s0_0.length:Int)) then (if (Int.tmod (wrap64 ((wrap64 (s0_1+1)) - 1)) (s0_0.length:Int))<(s0_0.length:Int) then (if 0≤(Int.tmod (wrap64 ((wrap64 ((wrap64 ((wrap64 (s0_1+1)) - 1)) * 7))+3)) (s0_0.length:Int)) then (if (Int.tmod (wrap64 ((wrap64 ((wrap64 ((wrap64 (s0_1+1)) - 1)) * 7))+3)) (s0_0.length:Int))<(s0_0.length:Int) then (if a1=0 then (none) else (some (Int.tmod (Go.bits .xor .i64 (wrap64 ((wrap64 ((wrap64 ((wrap64 ((wrap64 (rd s0_0 (Int.tmod (wrap64 ((wrap64 (s0_1+1)) - 1)) (s0_0.length:Int)))) * 131))+(wrap64 ((wrap64 (rd s0_0 (Int.tmod (wrap64 ((wrap64 ((wrap64 ((wrap64 (s0_1+1)) - 1)) * 7))+3)) (s0_0.length:Int)))) * 1117))))+(wrap64 ((wrap64 ((wrap64 (s0_1+1)) - 1)) * 29))))+(wrap64 ((wrap64 (Int.tdiv (wrap64 ((wrap64 (s0_1+1)) - 1)) (s0_0.length:Int))) * 53)))) (wrap64 (Int.tdiv (wrap64 ((wrap64 ((wrap64 ((wrap64 ((wrap64 (rd s0_0 (Int.tmod (wrap64 ((wrap64 (s0_1+1)) - 1)) (s0_0.length:Int)))) * 131))+(wrap64 ((wrap64 (rd s0_0 (Int.tmod (wrap64 ((wrap64 ((wrap64 ((wrap64 (s0_1+1)) - 1)) * 7))+3)) (s0_0.length:Int)))) * 1117))))+(wrap64 ((wrap64 ((wrap64 (s0_1+1)) - 1)) * 29))))+(wrap64 ((wrap64 (Int.tdiv (wrap64 ((wrap64 (s0_1+1)) - 1)) (s0_0.length:Int))) * 53)))) 64))) a1,(wrap64 (s0_1+1))))) else (none)) else (none)) else (none)) else (none))))=some (r1,r2):=by rw [if_neg (show ¬ (false=true) by decide)] at H;exact H
    clear H
    have H:=H1
    clear H1
    by_cases c8:(wrap64 ((wrap64 (s0_1+1)) - 1))<(s0_0.length:Int)
    ·rw [if_pos c8] at H
     have c8b0:decide ((wrap64 ((wrap64 (s0_1+1)) - 1))<(s0_0.length:Int))=true:=dzT c8
     clear c8
     obtain ⟨ji9,hji9⟩:∃ j_:Int,(wrap64 ((wrap64 (s0_1+1)) - 1))=j_:=⟨_,rfl⟩
     replace H:(if 0≤(ji9) then (if a1=0 then (none) else (some (Int.tmod (wrap64 (rd s0_0 (ji9))) a1,(wrap64 (s0_1+1))))) else (none))=some (r1,r2):=by first |(rw [hji9] at H;exact H) |(simp only [hji9] at H ⊢;exact H)
     (try rw [hji9] at c8b0)
     have hji9w:(IntKind.i64.wrap ((wrap64 (s0_1+1)) - 1))=ji9:=(jwb _).trans hji9
     by_cases c10:0≤(ji9)
     ·rw [if_pos c10] at H
      have c10b0:decide (0≤(ji9))=true:=dzT c10
      clear c10
      by_cases c11:a1=0
      ·rw [if_pos c11] at H
       exact absurd H (by simp)
      ·rw [if_neg c11] at H
       have c11b0:(a1 == 0)=false:=beq_eq_false_iff_ne.mpr c11
       have c11b1:(a1 != 0)=true:=bne_iff_ne.mpr c11
       simp only [Option.some.injEq,Prod.mk.injEq] at H
       obtain ⟨rfl,rfl⟩:=H
       obtain ⟨ASz12_0,cSz12_0,HGz12,hgz12,HSz12_0⟩:=HI0.out
       have hcz12_0:=cellS84_0 HGz12
       have hcz12_1:=cellS84_1 HGz12
       have hfz12_1:=jb HGz12 1
       clear HGz12 hgz12
       have p101:0≤((ji9):Int):=ozD (uq)
       have q101:(ji9)<(s0_0.length:Int):=ozD (uq)
       obtain ⟨ad101,e101,hx101_0⟩:=Kd.jNb HSz12_0 (ji9) p101 q101
       cases e101
       replace hx101_0:=jS HB.out hx101_0
       replace p101:=ezT p101
       replace q101:=ezT q101
       go_wp2
       repeat (go_quiet (fail);try go_wp2)
       go_ret
       exact ⟨by first | rfl |(simp [jrb,jqb] <;> rfl) |(simp only [← hji9];first | rfl |(simp [jrb,jqb] <;> rfl)) |(simp [*,jrb,jqb] <;> rfl),Y12,Y14,Y13⟩
     ·rw [if_neg c10] at H
      exact absurd H (by simp)
    ·rw [if_neg c8] at H
     have c8b0:decide ((wrap64 ((wrap64 (s0_1+1)) - 1))<(s0_0.length:Int))=false:=dzF c8
     clear c8
     by_cases c13:(s0_0.length:Int)=0
     ·rw [if_pos c13] at H
      exact absurd H (by simp)
     ·rw [if_neg c13] at H
      have c13b0:((s0_0.length:Int) == 0)=false:=beq_eq_false_iff_ne.mpr c13
      have c13b1:((s0_0.length:Int) != 0)=true:=bne_iff_ne.mpr c13
      have c13b2:¬ (s0_0=[]):=fun h_=>c13 (by rw [h_];rfl)
      obtain ⟨ji14,hji14⟩:∃ j_:Int,(Int.tmod (wrap64 ((wrap64 (s0_1+1)) - 1)) (s0_0.length:Int))=j_:=⟨_,rfl⟩
      replace H:(if 0≤(ji14) then (if (ji14)<(s0_0.length:Int) then (if 0≤(Int.tmod (wrap64 ((wrap64 ((wrap64 ((wrap64 (s0_1+1)) - 1)) * 7))+3)) (s0_0.length:Int)) then (if (Int.tmod (wrap64 ((wrap64 ((wrap64 ((wrap64 (s0_1+1)) - 1)) * 7))+3)) (s0_0.length:Int))<(s0_0.length:Int) then (if a1=0 then (none) else (some (Int.tmod (Go.bits .xor .i64 (wrap64 ((wrap64 ((wrap64 ((wrap64 ((wrap64 (rd s0_0 (ji14))) * 131))+(wrap64 ((wrap64 (rd s0_0 (Int.tmod (wrap64 ((wrap64 ((wrap64 ((wrap64 (s0_1+1)) - 1)) * 7))+3)) (s0_0.length:Int)))) * 1117))))+(wrap64 ((wrap64 ((wrap64 (s0_1+1)) - 1)) * 29))))+(wrap64 ((wrap64 (Int.tdiv (wrap64 ((wrap64 (s0_1+1)) - 1)) (s0_0.length:Int))) * 53)))) (wrap64 (Int.tdiv (wrap64 ((wrap64 ((wrap64 ((wrap64 ((wrap64 (rd s0_0 (ji14))) * 131))+(wrap64 ((wrap64 (rd s0_0 (Int.tmod (wrap64 ((wrap64 ((wrap64 ((wrap64 (s0_1+1)) - 1)) * 7))+3)) (s0_0.length:Int)))) * 1117))))+(wrap64 ((wrap64 ((wrap64 (s0_1+1)) - 1)) * 29))))+(wrap64 ((wrap64 (Int.tdiv (wrap64 ((wrap64 (s0_1+1)) - 1)) (s0_0.length:Int))) * 53)))) 64))) a1,(wrap64 (s0_1+1))))) else (none)) else (none)) else (none)) else (none))=some (r1,r2):=by first |(rw [hji14] at H;exact H) |(simp only [hji14] at H ⊢;exact H)
      by_cases c15:0≤(ji14)
      ·rw [if_pos c15] at H
       have c15b0:decide (0≤(ji14))=true:=dzT c15
       clear c15
       by_cases c16:(ji14)<(s0_0.length:Int)
       ·rw [if_pos c16] at H
        have c16b0:decide ((ji14)<(s0_0.length:Int))=true:=dzT c16
        clear c16
        obtain ⟨ji17,hji17⟩:∃ j_:Int,(Int.tmod (wrap64 ((wrap64 ((wrap64 ((wrap64 (s0_1+1)) - 1)) * 7))+3)) (s0_0.length:Int))=j_:=⟨_,rfl⟩
        replace H:(if 0≤(ji17) then (if (ji17)<(s0_0.length:Int) then (if a1=0 then (none) else (some (Int.tmod (Go.bits .xor .i64 (wrap64 ((wrap64 ((wrap64 ((wrap64 ((wrap64 (rd s0_0 (ji14))) * 131))+(wrap64 ((wrap64 (rd s0_0 (ji17))) * 1117))))+(wrap64 ((wrap64 ((wrap64 (s0_1+1)) - 1)) * 29))))+(wrap64 ((wrap64 (Int.tdiv (wrap64 ((wrap64 (s0_1+1)) - 1)) (s0_0.length:Int))) * 53)))) (wrap64 (Int.tdiv (wrap64 ((wrap64 ((wrap64 ((wrap64 ((wrap64 (rd s0_0 (ji14))) * 131))+(wrap64 ((wrap64 (rd s0_0 (ji17))) * 1117))))+(wrap64 ((wrap64 ((wrap64 (s0_1+1)) - 1)) * 29))))+(wrap64 ((wrap64 (Int.tdiv (wrap64 ((wrap64 (s0_1+1)) - 1)) (s0_0.length:Int))) * 53)))) 64))) a1,(wrap64 (s0_1+1))))) else (none)) else (none))=some (r1,r2):=by first |(rw [hji17] at H;exact H) |(simp only [hji17] at H ⊢;exact H)
        by_cases c18:0≤(ji17)
        ·rw [if_pos c18] at H
         have c18b0:decide (0≤(ji17))=true:=dzT c18
         clear c18
         by_cases c19:(ji17)<(s0_0.length:Int)
         ·rw [if_pos c19] at H
          have c19b0:decide ((ji17)<(s0_0.length:Int))=true:=dzT c19
          clear c19
          by_cases c20:a1=0
          ·rw [if_pos c20] at H
           exact absurd H (by simp)
          ·rw [if_neg c20] at H
           have c20b0:(a1 == 0)=false:=beq_eq_false_iff_ne.mpr c20
           have c20b1:(a1 != 0)=true:=bne_iff_ne.mpr c20
           simp only [Option.some.injEq,Prod.mk.injEq] at H
           obtain ⟨rfl,rfl⟩:=H
           obtain ⟨ASz21_0,cSz21_0,HGz21,hgz21,HSz21_0⟩:=HI0.out
           have hcz21_0:=cellS84_0 HGz21
           have hcz21_1:=cellS84_1 HGz21
           have hfz21_1:=jb HGz21 1
           clear HGz21 hgz21
           have p102:0≤((ji14):Int):=ozD (uq)
           have q102:(ji14)<(s0_0.length:Int):=ozD (uq)
           obtain ⟨ad102,e102,hx102_0⟩:=Kd.jNb HSz21_0 (ji14) p102 q102
           cases e102
           replace hx102_0:=jS HB.out hx102_0
           replace p102:=ezT p102
           replace q102:=ezT q102
           have p103:0≤((ji17):Int):=ozD (uq)
           have q103:(ji17)<(s0_0.length:Int):=ozD (uq)
           obtain ⟨ad103,e103,hx103_0⟩:=Kd.jNb HSz21_0 (ji17) p103 q103
           obtain rfl:ad102=ad103:=(by injection e103)
           replace hx103_0:=jS HB.out hx103_0
           replace p103:=ezT p103
           replace q103:=ezT q103
           go_wp2
           repeat (go_quiet (fail);try go_wp2)
           go_ret
           exact ⟨by first | rfl |(simp [jrb,jqb] <;> rfl) |(simp only [← hji14,← hji17];first | rfl |(simp [jrb,jqb] <;> rfl)) |(simp [*,jrb,jqb] <;> rfl),Y12,Y14,Y13⟩
         ·rw [if_neg c19] at H
          exact absurd H (by simp)
        ·rw [if_neg c18] at H
         exact absurd H (by simp)
       ·rw [if_neg c16] at H
        exact absurd H (by simp)
      ·rw [if_neg c15] at H
       exact absurd H (by simp)
def jy.f (k : Nat) (s0_0 : List Int) (s0_1 : Int) (l1 : List Int) : Option (Int × Int) := (jm.f k s0_0 s0_1 (l1.length : Int)).bind fun bt104 => (if 0 ≤ bt104.1 then (if bt104.1 < (l1.length : Int) then (some (rd l1 bt104.1, bt104.2)) else (none)) else (none))
set_option maxHeartbeats 8000000 in
set_option maxRecDepth 100000 in
theorem jy.calls (k : Nat) (g : Nat) (s0_0 : List Int) (s0_1 : Int) (A1 : Option Addr) (c1 : Nat) (l1 : List Int) (r1 : Int) (r2 : Int) (w0 w : World) (hI : jk w0 w g s0_0 s0_1) (hB : Below w0.heap.size w0 w) (hr1 : Kd.C (Kd.int .i64) w A1 l1.length l1) (hc1 : l1.length ≤ c1) (hf1 : ∀ ad, A1 = some ad → 0 < l1.length → ad.block ≠ g) (h : jy.f k s0_0 s0_1 l1 = some (r1, r2)) :
  Calls Tryd.prog 69 #[.pointer (some ⟨g,0,none⟩), .slice A1 l1.length c1] w fun e w'=>e=.returned (.int .i64 r1)∧jk w0 w' g s0_0 r2∧Below w0.heap.size w0 w'∧jd w w' g none:=by
 have HR1:=am hr1
 have HC1:=am hc1
 clear hr1 hc1
 have HI0:=am hI
 have HK:=am (jd.refl w g none)
 have HL:=am hB.size
 clear hI
 have HW0:=am hB.size
 have HB:=am hB
 clear hB
 have H:((jm.f k s0_0 s0_1 (l1.length:Int)).bind fun bt104=>(if 0≤bt104.1 then (if bt104.1<(l1.length:Int) then (some (rd l1 bt104.1,bt104.2)) else (none)) else (none)))=some (r1,r2):=h
 clear h
 replace H:=bzS H
 obtain ⟨⟨t104,t105⟩,A30,H⟩:=H
 replace H:(if 0≤t104 then (if t104<(l1.length:Int) then (some (rd l1 t104,t105)) else (none)) else (none))=some (r1,r2):=H
 have A3:=am A30
 clear A30
 by_cases c4:0≤t104
 ·rw [if_pos c4] at H
  have c4b0:decide (0≤t104)=true:=dzT c4
  clear c4
  by_cases c5:t104<(l1.length:Int)
  ·rw [if_pos c5] at H
   have c5b0:decide (t104<(l1.length:Int))=true:=dzT c5
   clear c5
   simp only [Option.some.injEq,Prod.mk.injEq] at H
   obtain ⟨rfl,rfl⟩:=H
   go_enter Tryd.func69,Tryd.ntmps69
   go_wp2_with (first |((with_reducible refine jw (f:=68) rfl ?_);refine gL (some 9) Tryd.func68 #[.pointer (some ⟨g,0,none⟩), .int .i64 (l1.length:Int)] ?_;(with_reducible refine (jm.calls k g s0_0 s0_1 (l1.length:Int) t104 t105 w0 _ ?side1 ?side2 A3.out).mono ?_);(case side1=>exact Y12);(case side2=>exact Y14);rintro e w6 ⟨rfl,hi,hb,hk⟩;refine ⟨_,rfl,?_⟩;replace HK:=am (jd.trans (Y13) hk (.inl rfl));replace HB:=am (hb);replace HI0:=am (hi);(try clear hb);(try clear hb2);(try clear hk);(try clear hi);have p106:0≤(t104:Int):=ozD (uq);have q106:t104<(l1.length:Int):=ozD (uq);obtain ⟨ad106,e106,hx106_0⟩:=Kd.jNb HR1.out t104 p106 q106;cases e106;replace hx106_0:=keep_cell HK.out hx106_0 (by first |(rw [add_block];exact hf1 _ rfl (by omega)) | exact hf1 _ rfl (by omega) | exact hf1 ad106 rfl (by omega));replace p106:=ezT p106;replace q106:=ezT q106))
   go_ret
   exact ⟨Y1,Y12,Y14,Y13⟩
  ·rw [if_neg c5] at H
   exact absurd H (by simp)
 ·rw [if_neg c4] at H
  exact absurd H (by simp)
def jdb.f (l0_0 : List (S66)) : Option ((List (S66))) := (some (([] : List (S66)) : List (S66))).bind fun y109 => (if y109.length + l0_0.length < 3518437208883 then (some (y109 ++ l0_0)) else (none))
set_option maxHeartbeats 8000000 in
set_option maxRecDepth 100000 in
theorem jdb.calls (A0_0 : Option Addr) (c0_0 : Nat) (l0_0 : List (S66)) (r : List (S66)) (w : World) (hr0_0 : Kd.C k66 w A0_0 l0_0.length l0_0) (hc0_0 : l0_0.length ≤ c0_0) (h : jdb.f l0_0 = some r) :
  Calls Tryd.prog 49 #[.agg #[.slice A0_0 l0_0.length c0_0]] w fun e w'=>∃ v0_:Value,e=.returned (.agg #[v0_])∧Kd.R k66 66 w' w.heap.size (fun _=>True) v0_ r∧Below w.heap.size w w':=by
 have hu28:=Tryd.underlying28
 have HR0_0:=am hr0_0
 have HC0_0:=am hc0_0
 clear hr0_0 hc0_0
 have HB:=am (Below.refl w.heap.size w)
 have H:((some (([]:List (S66)):List (S66))).bind fun y109=>(if y109.length+l0_0.length<3518437208883 then (some (y109 ++ l0_0)) else (none)))=some r:=h
 clear h
 obtain ⟨y109,hy109⟩:∃ y_:List (S66),y_=(([]:List (S66))):=⟨_,rfl⟩
 replace H:(if y109.length+l0_0.length<3518437208883 then (some (y109 ++ l0_0)) else (none))=some r:=by first |(rw [hy109];with_reducible exact H) |(have H2_:=(Option.bind_some _ _).symm.trans H;rw [hy109];with_reducible exact H2_) |(have H2_:=(Option.bind_some _ _).symm.trans H;with_reducible exact H2_) | with_reducible exact H |(rw [hy109];exact H) | exact H
 have Ny109:=am hy109
 clear hy109
 by_cases c2:y109.length+l0_0.length<3518437208883
 ·rw [if_pos c2] at H
  have LMc2:=am c2
  clear c2
  obtain ⟨y112,hy112⟩:∃ y_:List (S66),y_=(y109 ++ l0_0):=⟨_,rfl⟩
  replace H:(some y112)=some r:=by first |(rw [hy112];with_reducible exact H) |(have H2_:=(Option.bind_some _ _).symm.trans H;rw [hy112];with_reducible exact H2_) |(have H2_:=(Option.bind_some _ _).symm.trans H;with_reducible exact H2_) | with_reducible exact H |(rw [hy112];exact H) | exact H
  have Ny112:=am hy112
  clear hy112
  obtain rfl:=Option.some.inj H
  go_enter Tryd.func49,Tryd.ntmps49
  go_wp2_with (first |((with_reducible refine jD (N:=1) rfl ?_);refine bE (N:=1) (cs:=#[.slice A0_0 l0_0.length c0_0]) (t:=28) ?_;intro gb107 hg w3 hbox hb;have BK107:=am (hbox);have GW107:=am ((Y0:w.heap.size≤gb107));have GE107:=am ((Y0:w.heap.size≤gb107));replace HB:=am (je (bq) hb);clear hb hbox hg) |((with_reducible refine jD (N:=2) rfl ?_);refine bE (N:=2) (cs:=#[.slice none 0 0]) (t:=28) ?_;intro gb108 hg w4 hbox hb;have BK108:=am (hbox);have GW108:=am ((Y151:w.heap.size≤gb108));have GE108:=am ((Y151:w.heap.size≤gb108));have NB107_108:=am ((by rw [hg];exact Nat.ne_of_lt (jda (g:=gb107) (o:=.cells #[.slice A0_0 l0_0.length c0_0] 28 (0,0)) (kq BK107.out)):gb107≠gb108));have NB108_107:=am ((by rw [hg];exact Nat.ne_of_gt (jda (g:=gb107) (o:=.cells #[.slice A0_0 l0_0.length c0_0] 28 (0,0)) (kq BK107.out)):gb108≠gb107));replace BK107:=am (jc (g:=gb107) (o:=.cells #[.slice A0_0 l0_0.length c0_0] 28 (0,0)) (kq BK107.out) hb);replace HB:=am (je (by repeat (first |(with_reducible first | exact HB.out | apply jv | apply jo | apply jq | refine jl ?_ GE107.out) | exact HB.out)) hb);clear hb hbox hg) |((with_reducible refine jD (N:=3) rfl ?_);refine Kd.R_lit k66 _ 66 ?hg (N:=3) ?hd (xs:=([]:List (S66))) (inner:=[]) (ok:=fun _=>True) (okp:=fun _=>True) ?hr ?hp (fun _ hk=>hk) trivial (Below.refl _ _) (Nat.le_refl _) (by simp) ?_;(case hd=>rfl);(case hg=>rfl);(case hr=>exact Y4);(case hp=>exact (Reps.none _ _));intro v110 w5 ho6 hb hg_ hnew_;clear hg_ hnew_;(first | rw [← Ny109.out] at ho6 |(simp only [Int.reduceToNat] at ho6;rw [← Ny109.out] at ho6));have HO111:=am (Kd.jia ho6 (jM (Y87)));replace BK107:=am (jc (g:=gb107) (o:=.cells #[.slice A0_0 l0_0.length c0_0] 28 (0,0)) (kq BK107.out) hb);replace BK108:=am (jc (g:=gb108) (o:=.cells #[.slice none 0 0] 28 (0,0)) (kq BK108.out) hb);replace HB:=am (je (Y87) hb);clear hb ho6;have hnb7:=NB107_108.out;have hnc7:=NB108_107.out;have hcz8_0:=bc0 BK107.out;have hfz8_0:=jb BK107.out 0) |((with_reducible refine jHb (b:=.append) (xs:=#[.tmp 3, .tmp 5]) rfl ?_);at_builtin;refine Kd.R_append_rows k66 (w0:=w) w.heap.size rfl (.tmp 3) (.tmp 5) 26 66 (.agg #[(.int .i64 0),(.int .i64 0),(.int .i64 0),(.int .i64 0),(.bool false)]) 40 rfl Tryd.underlying26 info66 rfl (by decide) (by omega) v110 y109 l0_0 _ _ _ (fun _=>True) (fun _=>False) rfl rfl ?aO ?aR (fun _ _ h=>h) (fun _ h=>h.elim) ?aF ?aB ?aS ?aL ?_;(case aR=>repeat (first | exact (Kd.jU HR0_0.out HB.out) |(with_reducible refine Kd.C_alloc ?_ _) |(with_reducible refine Kd.C_drewN ?_ _) |(with_reducible refine Kd.C_drew ?_)));(case aB=>exact (Y87));(case aF=>exact (fun _ _=>trivial));(case aO=>exact (rq HO111.out));(case aS=>exact (jM (Y87)));(case aL=>have:=LMc2.out;omega);intro v113 w9 ho hb hg hat;rw [← Ny112.out] at ho;have n0_:=am (jKa (g:=gb107) (o:=.cells #[.slice A0_0 l0_0.length c0_0] 28 (0,0)) (kq BK107.out) hg (Kd.R_ne HO111.out BK107.out (by decide)));have n1_:=am (jKa (g:=gb108) (o:=.cells #[.slice none 0 0] 28 (0,0)) (kq BK108.out) hg (Kd.R_ne HO111.out BK108.out (by decide)));have n2_:=am (hb);have n3_:=am (ho);clear BK107 BK108 HB HO111;have BK107:=n0_;have BK108:=n1_;have HB:=n2_;have HO114:=n3_;clear n0_ n1_ n2_ n3_ ho hb hg hat;obtain ⟨Ao10,co10,eo10⟩:=Kd.jZ HO114.out;subst eo10;have hcz11_0:=bc0 BK108.out;have hfz11_0:=jb BK108.out 0))
  refine bodyPost_ret (results_cell_row rfl _ _ gb108 28 #[.slice Ao10 y112.length co10] (0,0) _ rfl (by (with_reducible repeat (first | refine jg ?_ _ | refine jf ?_ | refine jh ?_ _));refine jya (cs:=#[.slice none 0 0]) ?_ 0 _ rfl;(with_reducible repeat (first | refine jg ?_ _ | refine jf ?_ | refine jh ?_ _));exact BK108.out) Tryd.underlying28 rfl (by kernel_rfl)) rfl ?_
  exact ⟨_,Y1,by (with_reducible repeat (first | apply Kd.jX | apply Kd.jba | apply Kd.jV));exact Kd.jI (Kd.jwa (p:=⟨gb108,0,none⟩) (Kd.jP HO114.out BK108.out (by decide)) (fun _ hk=>hk.2) (.slice Ao10 y112.length co10)) (fun _ hk=>trivial),Y87⟩
 ·rw [if_neg c2] at H
  exact absurd H (by simp)
def jQb.f (l0_0 : List (S66)) (a1 : Int) (a2 : Int) : Option ((List (S66))) := (jdb.f l0_0).bind fun t117 => (if t117.length < 3518437208883 then (some (t117 ++ [(⟨a1, a2, (-1), (-1), false⟩ : S66)])) else (none))
set_option maxHeartbeats 8000000 in
set_option maxRecDepth 100000 in
theorem jQb.calls (A0_0 : Option Addr) (c0_0 : Nat) (l0_0 : List (S66)) (a1 : Int) (a2 : Int) (r : List (S66)) (w : World) (hr0_0 : Kd.C k66 w A0_0 l0_0.length l0_0) (hc0_0 : l0_0.length ≤ c0_0) (h : jQb.f l0_0 a1 a2 = some r) :
  Calls Tryd.prog 71 #[.agg #[.slice A0_0 l0_0.length c0_0], .int .i64 a1, .int .i64 a2] w fun e w'=>∃ v0_:Value,e=.returned (.agg #[v0_])∧Kd.R k66 66 w' w.heap.size (fun _=>True) v0_ r∧Below w.heap.size w w':=by
 have hu28:=Tryd.underlying28
 have hu66:=Tryd.underlying66
 have HR0_0:=am hr0_0
 have HC0_0:=am hc0_0
 clear hr0_0 hc0_0
 have HB:=am (Below.refl w.heap.size w)
 have H:((jdb.f l0_0).bind fun t117=>(if t117.length<3518437208883 then (some (t117 ++ [(⟨a1,a2,(-1),(-1),false⟩:S66)])) else (none)))=some r:=h
 clear h
 replace H:=bzS H
 obtain ⟨t117,A40,H⟩:=H
 replace H:(if t117.length<3518437208883 then (some (t117 ++ [(⟨a1,a2,(-1),(-1),false⟩:S66)])) else (none))=some r:=H
 have A4:=am A40
 clear A40
 by_cases c5:t117.length<3518437208883
 ·rw [if_pos c5] at H
  have LMc5:=am c5
  clear c5
  obtain ⟨y121,hy121⟩:∃ y_:List (S66),y_=(t117 ++ [(⟨a1,a2,(-1),(-1),false⟩:S66)]):=⟨_,rfl⟩
  replace H:(some y121)=some r:=by first |(rw [hy121];with_reducible exact H) |(have H2_:=(Option.bind_some _ _).symm.trans H;rw [hy121];with_reducible exact H2_) |(have H2_:=(Option.bind_some _ _).symm.trans H;with_reducible exact H2_) | with_reducible exact H |(rw [hy121];exact H) | exact H
  have Ny121:=am hy121
  clear hy121
  obtain rfl:=Option.some.inj H
  go_enter Tryd.func71,Tryd.ntmps71
  go_wp2_with (first |((with_reducible refine jD (N:=3) rfl ?_);refine bE (N:=3) (cs:=#[.slice A0_0 l0_0.length c0_0]) (t:=28) ?_;intro gb115 hg w6 hbox hb;have BK115:=am (hbox);have GW115:=am ((Y0:w.heap.size≤gb115));have GE115:=am ((Y0:w.heap.size≤gb115));replace HB:=am (je (bq) hb);clear hb hbox hg) |((with_reducible refine jD (N:=6) rfl ?_);refine bE (N:=6) (cs:=#[.slice none 0 0]) (t:=28) ?_;intro gb116 hg w7 hbox hb;have BK116:=am (hbox);have GW116:=am ((Y152:w.heap.size≤gb116));have GE116:=am ((Y152:w.heap.size≤gb116));have NB115_116:=am ((by rw [hg];exact Nat.ne_of_lt (jda (g:=gb115) (o:=.cells #[.slice A0_0 l0_0.length c0_0] 28 (0,0)) (kq BK115.out)):gb115≠gb116));have NB116_115:=am ((by rw [hg];exact Nat.ne_of_gt (jda (g:=gb115) (o:=.cells #[.slice A0_0 l0_0.length c0_0] 28 (0,0)) (kq BK115.out)):gb116≠gb115));replace BK115:=am (jc (g:=gb115) (o:=.cells #[.slice A0_0 l0_0.length c0_0] 28 (0,0)) (kq BK115.out) hb);replace HB:=am (je (by repeat (first |(with_reducible first | exact HB.out | apply jv | apply jo | apply jq | refine jl ?_ GE115.out) | exact HB.out)) hb);clear hb hbox hg;have hnb8:=NB115_116.out;have hnc8:=NB116_115.out;have hcz9_0:=bc0 BK115.out;have hfz9_0:=jb BK115.out 0) |((with_reducible refine jw (f:=49) rfl ?_);refine gL (some 9) Tryd.func49 #[.agg #[.slice A0_0 l0_0.length c0_0]] ?_;(with_reducible refine (jdb.calls _ _ l0_0 t117 _ ?side1 ?side2 A4.out).mono ?_);(case side1=>exact cq (Kd.jU HR0_0.out HB.out));(case side2=>exact HC0_0.out);rintro e w10 ⟨v118,rfl,ho0,hb⟩;refine ⟨_,rfl,?_⟩;have HO119:=am (Kd.jia ho0 (jM (Y121)));replace BK115:=am (jc (g:=gb115) (o:=.cells #[.slice A0_0 l0_0.length c0_0] 28 (0,0)) (kq BK115.out) hb);replace BK116:=am (jc (g:=gb116) (o:=.cells #[.slice none 0 0] 28 (0,0)) (kq BK116.out) hb);replace HB:=am (je (Y121) hb);(try clear hb);(try clear hb2);(try clear hk);(try clear hi);(try clear ho0)) |((with_reducible refine jD (N:=7) rfl ?_);refine bE (N:=7) (cs:=#[.slice none 0 0]) (t:=28) ?_;intro gb120 hg w11 hbox hb;have BK120:=am (hbox);have GW120:=am ((Y153:w.heap.size≤gb120));have GE120:=am ((Y153:w.heap.size≤gb120));have NB115_120:=am ((by rw [hg];exact Nat.ne_of_lt (jda (g:=gb115) (o:=.cells #[.slice A0_0 l0_0.length c0_0] 28 (0,0)) (kq BK115.out)):gb115≠gb120));have NB120_115:=am ((by rw [hg];exact Nat.ne_of_gt (jda (g:=gb115) (o:=.cells #[.slice A0_0 l0_0.length c0_0] 28 (0,0)) (kq BK115.out)):gb120≠gb115));have NB116_120:=am ((by rw [hg];exact Nat.ne_of_lt (jda (g:=gb116) (o:=.cells #[.slice none 0 0] 28 (0,0)) (kq BK116.out)):gb116≠gb120));have NB120_116:=am ((by rw [hg];exact Nat.ne_of_gt (jda (g:=gb116) (o:=.cells #[.slice none 0 0] 28 (0,0)) (kq BK116.out)):gb120≠gb116));replace HO119:=am (Kd.jW (rq HO119.out) hb);replace BK115:=am (jc (g:=gb115) (o:=.cells #[.slice A0_0 l0_0.length c0_0] 28 (0,0)) (kq BK115.out) hb);replace BK116:=am (jc (g:=gb116) (o:=.cells #[.slice none 0 0] 28 (0,0)) (kq BK116.out) hb);replace HB:=am (je (Y121) hb);clear hb hbox hg;obtain ⟨Ao12,co12,eo12⟩:=Kd.jZ HO119.out;subst eo12;have hnb13:=NB120_115.out;have hnc13:=NB115_120.out;have hnb14:=NB120_116.out;have hnc14:=NB116_120.out;have hcz15_0:=bc0 BK120.out;have hfz15_0:=jb BK120.out 0) |((with_reducible refine jHb (b:=.append) (xs:=#[.tmp 11, .tmp 15]) rfl ?_);at_builtin;refine Kd.R_append k66 (w0:=w) w.heap.size rfl (.tmp 11) (.tmp 15) 26 66 (.agg #[(.int .i64 0),(.int .i64 0),(.int .i64 0),(.int .i64 0),(.bool false)]) 40 rfl Tryd.underlying26 info66 rfl (by decide) (by omega) (.slice Ao12 t117.length co12) t117 (⟨a1,a2,(-1),(-1),false⟩:S66) [.int .i64 a1, .int .i64 a2, .int .i64 (-1), .int .i64 (-1), .bool false] (fun _=>True) (fun _=>False) rfl (Y4) ?aP (fun _ hk=>hk.elim) ?aF ?aO ?aB ?aS ?aL ?_;(case aP=>exact jac _ _ _ (⟨a1,a2,(-1),(-1),false⟩:S66));(case aB=>exact (Y122));(case aF=>exact (fun _ _=>trivial));(case aO=>exact (by (with_reducible repeat (first | apply Kd.jX | apply Kd.jba | apply Kd.jV));exact Kd.jI (Kd.jwa (p:=⟨gb120,0,none⟩) (Kd.jP HO119.out BK120.out (by decide)) (fun _ hk=>hk.2) (.slice Ao12 t117.length co12)) (fun _ hk=>trivial)));(case aS=>exact (jM (Y122)));(case aL=>have:=LMc5.out;omega);intro v122 w16 ho hb hg hat;rw [← Ny121.out] at ho;have n0_:=am (jKa (g:=gb115) (o:=.cells #[.slice A0_0 l0_0.length c0_0] 28 (0,0)) (by (with_reducible repeat (first | refine jg ?_ _ | refine jf ?_ | refine jh ?_ _));refine jT ?_ NB115_120.out _;(with_reducible repeat (first | refine jg ?_ _ | refine jf ?_ | refine jh ?_ _));exact BK115.out) hg (Kd.R_ne HO119.out BK115.out (by decide)));have n1_:=am (jKa (g:=gb116) (o:=.cells #[.slice none 0 0] 28 (0,0)) (by (with_reducible repeat (first | refine jg ?_ _ | refine jf ?_ | refine jh ?_ _));refine jT ?_ NB116_120.out _;(with_reducible repeat (first | refine jg ?_ _ | refine jf ?_ | refine jh ?_ _));exact BK116.out) hg (Kd.R_ne HO119.out BK116.out (by decide)));have n2_:=am (jKa (g:=gb120) (o:=.cells #[.slice Ao12 t117.length co12] 28 (0,0)) (by (with_reducible repeat (first | refine jg ?_ _ | refine jf ?_ | refine jh ?_ _));refine jya (cs:=#[.slice none 0 0]) ?_ 0 _ rfl;(with_reducible repeat (first | refine jg ?_ _ | refine jf ?_ | refine jh ?_ _));exact BK120.out) hg (Kd.R_ne HO119.out BK120.out (by decide)));have n3_:=am (hb);have n4_:=am (ho);clear BK115 BK116 BK120 HB HO119;have BK115:=n0_;have BK116:=n1_;have BK120:=n2_;have HB:=n3_;have HO123:=n4_;clear n0_ n1_ n2_ n3_ n4_ ho hb hg hat;obtain ⟨Ao17,co17,eo17⟩:=Kd.jZ HO123.out;subst eo17;have hcz18_0:=bc0 BK120.out;have hfz18_0:=jb BK120.out 0;have hcz19_0:=bc0 BK116.out;have hfz19_0:=jb BK116.out 0))
  refine bodyPost_ret (results_cell_row rfl _ _ gb116 28 #[.slice Ao17 y121.length co17] (0,0) _ rfl (by (with_reducible repeat (first | refine jg ?_ _ | refine jf ?_ | refine jh ?_ _));refine jya (cs:=#[.slice none 0 0]) ?_ 0 _ rfl;(with_reducible repeat (first | refine jg ?_ _ | refine jf ?_ | refine jh ?_ _));refine jT ?_ NB116_120.out _;(with_reducible repeat (first | refine jg ?_ _ | refine jf ?_ | refine jh ?_ _));exact BK116.out) Tryd.underlying28 rfl (by kernel_rfl)) rfl ?_
  exact ⟨_,Y1,by (with_reducible repeat (first | apply Kd.jX | apply Kd.jba | apply Kd.jV));exact Kd.jI (Kd.jwa (p:=⟨gb116,0,none⟩) (Kd.jwa (p:=⟨gb120,0,none⟩) (Kd.jP (Kd.jP HO123.out BK120.out (by decide)) BK116.out (by decide)) (fun _ hk=>hk.1.2) (.slice Ao17 y121.length co17)) (fun _ hk=>hk.2) (.slice Ao17 y121.length co17)) (fun _ hk=>trivial),Y122⟩
 ·rw [if_neg c5] at H
  exact absurd H (by simp)
mutual
def jha.j0 : Nat → Int → Int → Bool → List (S66) → Option ((List (S66)))
 | 0,_,_,_,_=>none
 | k+1,x1,x2,x17,x130000=>if x17=true then (some x130000) else (jha.l0 k x1 x2 x2 x130000)
def jha.l0 : Nat → Int → Int → Int → List (S66) → Option ((List (S66)))
 | 0,_,_,_,_=>none
 | k+1,x1,x2,x8,x130000=>if 0≤x8 then (if x8<(x130000.length:Int) then (if ((ja x130000 x8).f3)≥0 then (if ((ja x130000 x8).f3)=x1 then ((some (x130000.set (x8:Int).toNat (⟨(ja x130000 x8).f0,(ja x130000 x8).f1,(ja x130000 x8).f2,(-1),(ja x130000 x8).f4⟩:S66):List (S66))).bind fun y133=>(if 0≤x1 then (if x1<(x130000.length:Int) then (some (y133.set (x1:Int).toNat (⟨(ja y133 x1).f0,(ja y133 x1).f1,(ja y133 x1).f2,x2,(ja y133 x1).f4⟩:S66))) else (none)) else (none))) else (jha.l0 k x1 x2 ((ja x130000 x8).f3) x130000)) else (if 0≤x1 then (if x1<(x130000.length:Int) then (some (x130000.set (x1:Int).toNat (⟨(ja x130000 x1).f0,(ja x130000 x1).f1,(ja x130000 x1).f2,x2,(ja x130000 x1).f4⟩:S66))) else (none)) else (none))) else (none)) else (none)
end
def jha.f (k : Nat) (l0_0 : List (S66)) (a1 : Int) (a2 : Int) : Option ((List (S66))) := (jdb.f l0_0).bind fun t126 => (if a1 = a2 then (jha.j0 k a1 a2 true t126) else (jha.j0 k a1 a2 (decide (a2 < 0)) t126))
set_option maxHeartbeats 8000000 in
set_option maxRecDepth 100000 in
theorem jha.calls (k : Nat) (A0_0 : Option Addr) (c0_0 : Nat) (l0_0 : List (S66)) (a1 : Int) (a2 : Int) (r : List (S66)) (w : World) (hr0_0 : Kd.C k66 w A0_0 l0_0.length l0_0) (hc0_0 : l0_0.length ≤ c0_0) (h : jha.f k l0_0 a1 a2 = some r) :
  Calls Tryd.prog 72 #[.agg #[.slice A0_0 l0_0.length c0_0], .int .i64 a1, .int .i64 a2] w fun e w'=>∃ v0_:Value,e=.returned (.agg #[v0_])∧Kd.R k66 66 w' w.heap.size (fun _=>True) v0_ r∧Below w.heap.size w w':=by
 have hu28:=Tryd.underlying28
 have HR0_0:=am hr0_0
 have HC0_0:=am hc0_0
 clear hr0_0 hc0_0
 have HB:=am (Below.refl w.heap.size w)
 have H:((jdb.f l0_0).bind fun t126=>(if a1=a2 then (jha.j0 k a1 a2 true t126) else (jha.j0 k a1 a2 (decide (a2<0)) t126)))=some r:=h
 clear h
 replace H:=bzS H
 obtain ⟨t126,A40,H⟩:=H
 replace H:(if a1=a2 then (jha.j0 k a1 a2 true t126) else (jha.j0 k a1 a2 (decide (a2<0)) t126))=some r:=H
 have A4:=am A40
 clear A40
 have HC5:=am H
 clear H
 go_enter Tryd.func72,Tryd.ntmps72
 go_upto_region 2 with (first |((with_reducible refine jD (N:=3) rfl ?_);refine bE (N:=3) (cs:=#[.slice A0_0 l0_0.length c0_0]) (t:=28) ?_;intro gb124 hg w6 hbox hb;have BK124:=am (hbox);have GW124:=am ((Y0:w.heap.size≤gb124));have GE124:=am ((Y0:w.heap.size≤gb124));replace HB:=am (je (bq) hb);clear hb hbox hg) |((with_reducible refine jD (N:=6) rfl ?_);refine bE (N:=6) (cs:=#[.slice none 0 0]) (t:=28) ?_;intro gb125 hg w7 hbox hb;have BK125:=am (hbox);have GW125:=am ((Y154:w.heap.size≤gb125));have GE125:=am ((Y154:w.heap.size≤gb125));have NB124_125:=am ((by rw [hg];exact Nat.ne_of_lt (jda (g:=gb124) (o:=.cells #[.slice A0_0 l0_0.length c0_0] 28 (0,0)) (kq BK124.out)):gb124≠gb125));have NB125_124:=am ((by rw [hg];exact Nat.ne_of_gt (jda (g:=gb124) (o:=.cells #[.slice A0_0 l0_0.length c0_0] 28 (0,0)) (kq BK124.out)):gb125≠gb124));replace BK124:=am (jc (g:=gb124) (o:=.cells #[.slice A0_0 l0_0.length c0_0] 28 (0,0)) (kq BK124.out) hb);replace HB:=am (je (by repeat (first |(with_reducible first | exact HB.out | apply jv | apply jo | apply jq | refine jl ?_ GE124.out) | exact HB.out)) hb);clear hb hbox hg;have hnb8:=NB124_125.out;have hnc8:=NB125_124.out;have hcz9_0:=bc0 BK124.out;have hfz9_0:=jb BK124.out 0) |((with_reducible refine jw (f:=49) rfl ?_);refine gL (some 10) Tryd.func49 #[.agg #[.slice A0_0 l0_0.length c0_0]] ?_;(with_reducible refine (jdb.calls _ _ l0_0 t126 _ ?side1 ?side2 A4.out).mono ?_);(case side1=>exact cq (Kd.jU HR0_0.out HB.out));(case side2=>exact HC0_0.out);rintro e w10 ⟨v127,rfl,ho0,hb⟩;refine ⟨_,rfl,?_⟩;have HO128:=am (Kd.jia ho0 (jM (Y123)));replace BK124:=am (jc (g:=gb124) (o:=.cells #[.slice A0_0 l0_0.length c0_0] 28 (0,0)) (kq BK124.out) hb);replace BK125:=am (jc (g:=gb125) (o:=.cells #[.slice none 0 0] 28 (0,0)) (kq BK125.out) hb);replace HB:=am (je (Y123) hb);(try clear hb);(try clear hb2);(try clear hk);(try clear hi);(try clear ho0)) |((with_reducible refine jD (N:=7) rfl ?_);refine bE (N:=7) (cs:=#[.slice none 0 0]) (t:=28) ?_;intro gb129 hg w11 hbox hb;have BK129:=am (hbox);have GW129:=am ((Y155:w.heap.size≤gb129));have GE129:=am ((Y155:w.heap.size≤gb129));have NB124_129:=am ((by rw [hg];exact Nat.ne_of_lt (jda (g:=gb124) (o:=.cells #[.slice A0_0 l0_0.length c0_0] 28 (0,0)) (kq BK124.out)):gb124≠gb129));have NB129_124:=am ((by rw [hg];exact Nat.ne_of_gt (jda (g:=gb124) (o:=.cells #[.slice A0_0 l0_0.length c0_0] 28 (0,0)) (kq BK124.out)):gb129≠gb124));have NB125_129:=am ((by rw [hg];exact Nat.ne_of_lt (jda (g:=gb125) (o:=.cells #[.slice none 0 0] 28 (0,0)) (kq BK125.out)):gb125≠gb129));have NB129_125:=am ((by rw [hg];exact Nat.ne_of_gt (jda (g:=gb125) (o:=.cells #[.slice none 0 0] 28 (0,0)) (kq BK125.out)):gb129≠gb125));replace HO128:=am (Kd.jW (rq HO128.out) hb);replace BK124:=am (jc (g:=gb124) (o:=.cells #[.slice A0_0 l0_0.length c0_0] 28 (0,0)) (kq BK124.out) hb);replace BK125:=am (jc (g:=gb125) (o:=.cells #[.slice none 0 0] 28 (0,0)) (kq BK125.out) hb);replace HB:=am (je (Y123) hb);clear hb hbox hg;obtain ⟨Ao12,co12,eo12⟩:=Kd.jZ HO128.out;subst eo12;have hnb13:=NB129_124.out;have hnc13:=NB124_129.out;have hnb14:=NB129_125.out;have hnc14:=NB125_129.out;have hcz15_0:=bc0 BK129.out;have hfz15_0:=jb BK129.out 0))
 (try simp only [Act.put,List.setIfInBounds_toArray,List.set_cons_zero,List.set_cons_succ])
 go_cut [17] (fun v17 wc=>∃ (kq:Nat) (x17_4:Bool),v17=.bool x17_4∧jB (jha.j0 kq a1 a2 x17_4 t126=some r)∧jB (kq≤k)∧jB (Kd.R k66 66 wc w.heap.size (fun _=>True) (.slice Ao12 t126.length co12) t126)∧jB (wc.heap[gb124]?=some (.cells #[(.slice A0_0 l0_0.length c0_0)] 28 (0,0)))∧jB (wc.heap[gb125]?=some (.cells #[(.slice none 0 0)] 28 (0,0)))∧jB (wc.heap[gb129]?=some (.cells #[(.slice Ao12 t126.length co12)] 28 (0,0)))∧jB (Below w.heap.size w wc))
 case first =>
  have H:=HC5.out
  clear HC5
  by_cases c16:a1=a2
  ·rw [if_pos c16] at H
   have c16b0:(a1 == a2)=true:=beq_iff_eq.mpr c16
   have c16b1:(a1 != a2)=false:=bne_eq_false_iff_eq.mpr c16
   clear c16
   (first | rw [c16b0] |(simp only [jwb,jBb];rw [c16b0]) | skip)
   have H':=am H
   clear H
   go_wp2
   go_meet
   case rel=>exact ⟨_,(true),(sq),H',⟨Y63⟩,⟨by (with_reducible repeat (first | apply Kd.jX | apply Kd.jba | apply Kd.jV));exact Kd.jI (Kd.jwa (p:=⟨gb129,0,none⟩) (Kd.jP HO128.out BK129.out (by decide)) (fun _ hk=>hk.2) (.slice Ao12 t126.length co12)) (fun _ hk=>trivial)⟩,⟨by (with_reducible repeat (first | refine jg ?_ _ | refine jf ?_ | refine jh ?_ _));refine jT ?_ NB124_129.out _;(with_reducible repeat (first | refine jg ?_ _ | refine jf ?_ | refine jh ?_ _));exact BK124.out⟩,⟨by (with_reducible repeat (first | refine jg ?_ _ | refine jf ?_ | refine jh ?_ _));refine jT ?_ NB125_129.out _;(with_reducible repeat (first | refine jg ?_ _ | refine jf ?_ | refine jh ?_ _));exact BK125.out⟩,⟨by (with_reducible repeat (first | refine jg ?_ _ | refine jf ?_ | refine jh ?_ _));refine jya (cs:=#[.slice none 0 0]) ?_ 0 _ rfl;(with_reducible repeat (first | refine jg ?_ _ | refine jf ?_ | refine jh ?_ _));exact BK129.out⟩,⟨Y59⟩⟩
  ·rw [if_neg c16] at H
   have c16b0:(a1 == a2)=false:=beq_eq_false_iff_ne.mpr c16
   have c16b1:(a1 != a2)=true:=bne_iff_ne.mpr c16
   (first | rw [c16b0] |(simp only [jwb,jBb];rw [c16b0]) | skip)
   have H':=am H
   clear H
   go_wp2
   go_meet
   case rel=>exact ⟨_,(decide (a2<0)),(sq),H',⟨Y63⟩,⟨by (with_reducible repeat (first | apply Kd.jX | apply Kd.jba | apply Kd.jV));exact Kd.jI (Kd.jwa (p:=⟨gb129,0,none⟩) (Kd.jP HO128.out BK129.out (by decide)) (fun _ hk=>hk.2) (.slice Ao12 t126.length co12)) (fun _ hk=>trivial)⟩,⟨by (with_reducible repeat (first | refine jg ?_ _ | refine jf ?_ | refine jh ?_ _));refine jT ?_ NB124_129.out _;(with_reducible repeat (first | refine jg ?_ _ | refine jf ?_ | refine jh ?_ _));exact BK124.out⟩,⟨by (with_reducible repeat (first | refine jg ?_ _ | refine jf ?_ | refine jh ?_ _));refine jT ?_ NB125_129.out _;(with_reducible repeat (first | refine jg ?_ _ | refine jf ?_ | refine jh ?_ _));exact BK125.out⟩,⟨by (with_reducible repeat (first | refine jg ?_ _ | refine jf ?_ | refine jh ?_ _));refine jya (cs:=#[.slice none 0 0]) ?_ 0 _ rfl;(with_reducible repeat (first | refine jg ?_ _ | refine jf ?_ | refine jh ?_ _));exact BK129.out⟩,⟨Y59⟩⟩
 case rest =>
  clear HC5
  try clear c1
  try clear p2
  try clear c4
  try clear c7
  try clear c8
  try clear c13
  try clear c14
  try clear c16
  try clear c16b0
  try clear c16b1
  try clear hcz15_0
  try clear hcz9_0
  try clear hfz15_0
  try clear hfz9_0
  obtain ⟨kq,x17_4,rfl,HA,HJ4,HO_130000,BK124,BK125,BK129,HB⟩:=hcut
  cases kq with
  | zero=>exact absurd HA.out (by simp [jha.j0])
  | succ kj4 =>
   have H:=HA.out
   clear HA
   simp only [jha.j0] at H
   by_cases c17:x17_4=true
   ·subst c17
    have H1:(some t126)=some r:=by rw [if_pos rfl] at H;exact H
    clear H
    have H:=H1
    clear H1
    obtain rfl:=Option.some.inj H
    have hnb18:=NB129_124.out
    have hnc18:=NB124_129.out
    have hnb19:=NB129_125.out
    have hnc19:=NB125_129.out
    have hcz20_0:=bc0 BK129.out
    have hfz20_0:=jb BK129.out 0
    have hnb21:=NB125_124.out
    have hnc21:=NB124_125.out
    have hcz22_0:=bc0 BK125.out
    have hfz22_0:=jb BK125.out 0
    go_wp2
    refine bodyPost_ret (results_cell_row rfl _ _ gb125 28 #[.slice Ao12 t126.length co12] (0,0) _ rfl (Y124) Tryd.underlying28 rfl (by kernel_rfl)) rfl ?_
    exact ⟨_,Y1,by (with_reducible repeat (first | apply Kd.jX | apply Kd.jba | apply Kd.jV));exact Kd.jI (Kd.jwa (p:=⟨gb125,0,none⟩) (Kd.jP HO_130000.out BK125.out (by decide)) (fun _ hk=>hk.2) (.slice Ao12 t126.length co12)) (fun _ hk=>trivial),Y59⟩
   ·replace c17:=Bool.eq_false_iff.mpr c17
    subst c17
    have H1:(jha.l0 kj4 a1 a2 a2 t126)=some r:=by rw [if_neg (show ¬ (false=true) by decide)] at H;exact H
    clear H
    have H:=H1
    clear H1
    have H':=am H
    clear H
    go_wp2
    go_loopg [8] kj4 (fun kq v8 w'=>∃ (x8_2:Int) (x130000_2:List (S66)) (u130000:Value),v8=.int .i64 x8_2∧jB (jha.l0 kq a1 a2 x8_2 x130000_2=some r)∧jB (kq≤kj4)∧jB (Kd.R k66 66 w' w.heap.size (fun _=>True) u130000 x130000_2)∧jB (w'.heap[gb124]?=some (.cells #[(.slice A0_0 l0_0.length c0_0)] 28 (0,0)))∧jB (w'.heap[gb125]?=some (.cells #[(.slice none 0 0)] 28 (0,0)))∧jB (w'.heap[gb129]?=some (.cells #[u130000] 28 (0,0)))∧jB (Below w.heap.size w w'))
    case atStart=>exact ⟨(a2),(t126),(.slice Ao12 t126.length co12),(sq),H',⟨Nat.le_refl _⟩,⟨rq HO_130000.out⟩,⟨kq BK124.out⟩,⟨kq BK125.out⟩,⟨kq BK129.out⟩,⟨Y59⟩⟩
    case round =>
     clear H'
     try clear c1
     try clear c2
     try clear p2
     try clear c4
     try clear c7
     try clear c8
     try clear c13
     try clear c14
     try clear c16
     try clear c16b0
     try clear c16b1
     try clear c17
     try clear c18
     try clear c19
     try clear c21
     try clear hcz15_0
     try clear hcz20_0
     try clear hcz22_0
     try clear hcz9_0
     try clear hfz15_0
     try clear hfz20_0
     try clear hfz22_0
     try clear hfz9_0
     try clear p2
     obtain ⟨x8_2,x130000_2,u130000,rfl,HA,HK2,HO_130000,BK124,BK125,BK129,HB⟩:=hrel
     cases gk with
     | zero=>exact absurd HA.out (by simp [jha.l0])
     | succ k2 =>
      have H:=HA.out
      clear HA
      simp only [jha.l0] at H
      by_cases c23:0≤x8_2
      ·rw [if_pos c23] at H
       have c23b0:decide (0≤x8_2)=true:=dzT c23
       clear c23
       by_cases c24:x8_2<(x130000_2.length:Int)
       ·rw [if_pos c24] at H
        have c24b0:decide (x8_2<(x130000_2.length:Int))=true:=dzT c24
        clear c24
        by_cases c25:((ja x130000_2 x8_2).f3)≥0
        ·rw [if_pos c25] at H
         have c25b0:decide (0≤((ja x130000_2 x8_2).f3))=true:=dzT c25
         clear c25
         by_cases c26:((ja x130000_2 x8_2).f3)=a1
         ·rw [if_pos c26] at H
          have c26b0:(((ja x130000_2 x8_2).f3) == a1)=true:=beq_iff_eq.mpr c26
          have c26b1:(((ja x130000_2 x8_2).f3) != a1)=false:=bne_eq_false_iff_eq.mpr c26
          clear c26
          obtain ⟨y133,hy133⟩:∃ y_:List (S66),y_=(x130000_2.set (x8_2:Int).toNat (⟨(ja x130000_2 x8_2).f0,(ja x130000_2 x8_2).f1,(ja x130000_2 x8_2).f2,(-1),(ja x130000_2 x8_2).f4⟩:S66)):=⟨_,rfl⟩
          replace H:(if 0≤a1 then (if a1<(x130000_2.length:Int) then (some (y133.set (a1:Int).toNat (⟨(ja y133 a1).f0,(ja y133 a1).f1,(ja y133 a1).f2,a2,(ja y133 a1).f4⟩:S66))) else (none)) else (none))=some r:=by first |(rw [hy133];with_reducible exact H) |(have H2_:=(Option.bind_some _ _).symm.trans H;rw [hy133];with_reducible exact H2_) |(have H2_:=(Option.bind_some _ _).symm.trans H;with_reducible exact H2_) | with_reducible exact H |(rw [hy133];exact H) | exact H
          have Ny133:=am hy133
          clear hy133
          by_cases c28:0≤a1
          ·rw [if_pos c28] at H
           have c28b0:decide (0≤a1)=true:=dzT c28
           clear c28
           by_cases c29:a1<(x130000_2.length:Int)
           ·rw [if_pos c29] at H
            have c29b0:decide (a1<(x130000_2.length:Int))=true:=dzT c29
            clear c29
            obtain ⟨y134,hy134⟩:∃ y_:List (S66),y_=(y133.set (a1:Int).toNat (⟨(ja y133 a1).f0,(ja y133 a1).f1,(ja y133 a1).f2,a2,(ja y133 a1).f4⟩:S66)):=⟨_,rfl⟩
            replace H:(some y134)=some r:=by first |(rw [hy134];with_reducible exact H) |(have H2_:=(Option.bind_some _ _).symm.trans H;rw [hy134];with_reducible exact H2_) |(have H2_:=(Option.bind_some _ _).symm.trans H;with_reducible exact H2_) | with_reducible exact H |(rw [hy134];exact H) | exact H
            have Ny134:=am hy134
            clear hy134
            obtain rfl:=Option.some.inj H
            have hnb31:=NB129_124.out
            have hnc31:=NB124_129.out
            have hnb32:=NB129_125.out
            have hnc32:=NB125_129.out
            have hcz33_0:=bc0 BK129.out
            have hfz33_0:=jb BK129.out 0
            obtain ⟨Ao34,co34,eo34⟩:=Kd.jZ HO_130000.out
            subst eo34
            have p130:0≤(x8_2:Int):=ozD (uq)
            have q130:x8_2<(x130000_2.length:Int):=ozD (uq)
            obtain ⟨ad130,e130,hx130_0,hx130_1,hx130_2,hx130_3,hx130_4⟩:=jlb (Kd.jC HO_130000.out).2.2 x8_2 p130 q130
            cases e130
            replace p130:=ezT p130
            replace q130:=ezT q130
            have p132:0≤(x8_2:Int):=ozD (uq)
            have q132:x8_2<(x130000_2.length:Int):=ozD (uq)
            obtain ⟨ad132,e132,hx132_0,hx132_1,hx132_2,hx132_3,hx132_4⟩:=jlb (Kd.jC HO_130000.out).2.2 x8_2 p132 q132
            obtain rfl:ad130=ad132:=(by injection e132)
            replace p132:=ezT p132
            replace q132:=ezT q132
            have p27:0≤(x8_2:Int):=ozD (uq)
            have q27:(x8_2:Int)<((x130000_2.length:Int):Int):=ozD (uq)
            obtain ⟨go27,co27,eo27,gb27,gl27,cl27,HG27⟩:=Kd.R_form HO_130000.out (by omega)
            (first | cases eo27 |(injection eo27 with ea_ en_ ec_;(first | subst ea_ |(injection ea_ with ea_;subst ea_));subst ec_;clear en_))
            have GB27:=am gb27
            have GG27:=am HG27
            clear gb27 gl27 HG27
            (first | simp only [add_plain] at hx130_0 | skip)
            (first | simp only [add_plain] at hx130_1 | skip)
            (first | simp only [add_plain] at hx130_2 | skip)
            (first | simp only [add_plain] at hx130_3 | skip)
            (first | simp only [add_plain] at hx130_4 | skip)
            (first | simp only [add_plain] at hx132_0 | skip)
            (first | simp only [add_plain] at hx132_1 | skip)
            (first | simp only [add_plain] at hx132_2 | skip)
            (first | simp only [add_plain] at hx132_3 | skip)
            (first | simp only [add_plain] at hx132_4 | skip)
            obtain ⟨ce27,hcl27,hM27,hcc27,hfr27⟩:=Kd.jyb HO_130000.out z66 (x8_2:Int) p27 q27
            obtain rfl:=jRa hM27
            have hx27_0:wr.cell? ⟨go27,(x8_2:Int).toNat * 5,none⟩=some (.int .i64 ((ja x130000_2 x8_2).f0)):=hcc27 0 _ rfl
            have hx27_1:wr.cell? ⟨go27,(x8_2:Int).toNat * 5+1,none⟩=some (.int .i64 ((ja x130000_2 x8_2).f1)):=hcc27 1 _ rfl
            have hx27_2:wr.cell? ⟨go27,(x8_2:Int).toNat * 5+2,none⟩=some (.int .i64 ((ja x130000_2 x8_2).f2)):=hcc27 2 _ rfl
            have hx27_3:wr.cell? ⟨go27,(x8_2:Int).toNat * 5+3,none⟩=some (.int .i64 ((ja x130000_2 x8_2).f3)):=hcc27 3 _ rfl
            have hx27_4:wr.cell? ⟨go27,(x8_2:Int).toNat * 5+4,none⟩=some (.bool ((ja x130000_2 x8_2).f4)):=hcc27 4 _ rfl
            have hf27_0:wr.frozen? ⟨go27,(x8_2:Int).toNat * 5,none⟩=false:=hfr27 0
            have hf27_1:wr.frozen? ⟨go27,(x8_2:Int).toNat * 5+1,none⟩=false:=hfr27 1
            have hf27_2:wr.frozen? ⟨go27,(x8_2:Int).toNat * 5+2,none⟩=false:=hfr27 2
            have hf27_3:wr.frozen? ⟨go27,(x8_2:Int).toNat * 5+3,none⟩=false:=hfr27 3
            have hf27_4:wr.frozen? ⟨go27,(x8_2:Int).toNat * 5+4,none⟩=false:=hfr27 4
            clear hcl27 hcc27 hfr27 hM27
            replace p27:=ezT p27
            replace q27:=ezT q27
            have HX35:=am (show Kd.R k66 66 wr w.heap.size (fun _=>True) (.slice (some ⟨go27,0,none⟩) x130000_2.length co34) x130000_2 from (rq HO_130000.out))
            obtain ⟨ce35,hcl35,hM35,hcc35,hfr35⟩:=Kd.jyb HX35.out z66 (x8_2:Int) (ozD (uq)) (by have h_:(x8_2:Int)<((x130000_2.length:Int):Int):=ozD (uq);first | exact h_ |(have e_:=(Kd.jC HO_130000.out).1;omega) | simpa using h_)
            obtain rfl:=jRa hM35
            have HP35:=Kd.R_seg HX35.out (x8_2:Int) (ozD (uq)) (by have h_:(x8_2:Int)<((x130000_2.length:Int):Int):=ozD (uq);first | exact h_ |(have e_:=(Kd.jC HO_130000.out).1;omega) | simpa using h_) (seg:=[.int .i64 (-1)]) (j:=3) hcl35 hcc35 (show 4≤5 from by decide) (x':=(⟨(ja x130000_2 x8_2).f0,(ja x130000_2 x8_2).f1,(ja x130000_2 x8_2).f2,(-1),(ja x130000_2 x8_2).f4⟩:S66)) (jac _ _ _ (⟨(ja x130000_2 x8_2).f0,(ja x130000_2 x8_2).f1,(ja x130000_2 x8_2).f2,(-1),(ja x130000_2 x8_2).f4⟩:S66) ) (fun _ hk=>hk)
            have hx35_3:=hcc35 3 _ rfl
            (try simp only [show (k66).sz=5 from rfl,Nat.mul_one,Nat.add_zero] at hx35_3)
            have hf35_3:=hfr35 3
            (try simp only [show (k66).sz=5 from rfl,Nat.mul_one,Nat.add_zero] at hf35_3)
            clear hcl35 hcc35 hfr35 hM35
            go_wp2_with (first |((with_reducible refine jlc (t:=3) (p:=45) rfl ?_);refine jfc (t:=3) (p:=45) (v:=?vo_w36) (w1:=(wr.setCell ⟨go27,(x8_2:Int).toNat * 5+3,none⟩ (.int .i64 (-1)))) ?hg ?ho ?hn ?hr ?_;(case ho=>rfl);(case hg=>rfl);(case hn=>rfl);(case hr=>exact Y4);intro w36 hw;have hg:wr.grownBy w36 (some go27):=(by rw [hw];exact HP35.2);have hp_:Kd.R k66 66 w36 w.heap.size (fun _=>True) (.slice (some ⟨go27,0,none⟩) x130000_2.length co34) y133:=(by rw [hw,Ny133.out];exact HP35.1);clear HP35;replace BK124:=am (jKa (g:=gb124) (o:=.cells #[.slice A0_0 l0_0.length c0_0] 28 (0,0)) (kq BK124.out) hg (Kd.R_ne HO_130000.out BK124.out (by decide)));replace BK125:=am (jKa (g:=gb125) (o:=.cells #[.slice none 0 0] 28 (0,0)) (kq BK125.out) hg (Kd.R_ne HO_130000.out BK125.out (by decide)));replace BK129:=am (jKa (g:=gb129) (o:=.cells #[.slice (some ⟨go27,0,none⟩) x130000_2.length co34] 28 (0,0)) (kq BK129.out) hg (Kd.R_ne HO_130000.out BK129.out (by decide)));replace HO_130000:=am (hp_);replace HB:=am ((by rw [hw];exact jl (HB.out) GB27.out:Below w.heap.size w w36));clear hg hw hp_;have hcz37_0:=bc0 BK129.out;have hfz37_0:=jb BK129.out 0;have p30:0≤(a1:Int):=ozD (uq);have q30:(a1:Int)<((x130000_2.length:Int):Int):=ozD (uq);obtain ⟨ce30,hcl30,hM30,hcc30,hfr30⟩:=Kd.jyb HO_130000.out z66 (a1:Int) p30 q30;obtain rfl:=jRa hM30;have hx30_0:w36.cell? ⟨go27,(a1:Int).toNat * 5,none⟩=some (.int .i64 ((ja y133 a1).f0)):=hcc30 0 _ rfl;have hx30_1:w36.cell? ⟨go27,(a1:Int).toNat * 5+1,none⟩=some (.int .i64 ((ja y133 a1).f1)):=hcc30 1 _ rfl;have hx30_2:w36.cell? ⟨go27,(a1:Int).toNat * 5+2,none⟩=some (.int .i64 ((ja y133 a1).f2)):=hcc30 2 _ rfl;have hx30_3:w36.cell? ⟨go27,(a1:Int).toNat * 5+3,none⟩=some (.int .i64 ((ja y133 a1).f3)):=hcc30 3 _ rfl;have hx30_4:w36.cell? ⟨go27,(a1:Int).toNat * 5+4,none⟩=some (.bool ((ja y133 a1).f4)):=hcc30 4 _ rfl;have hf30_0:w36.frozen? ⟨go27,(a1:Int).toNat * 5,none⟩=false:=hfr30 0;have hf30_1:w36.frozen? ⟨go27,(a1:Int).toNat * 5+1,none⟩=false:=hfr30 1;have hf30_2:w36.frozen? ⟨go27,(a1:Int).toNat * 5+2,none⟩=false:=hfr30 2;have hf30_3:w36.frozen? ⟨go27,(a1:Int).toNat * 5+3,none⟩=false:=hfr30 3;have hf30_4:w36.frozen? ⟨go27,(a1:Int).toNat * 5+4,none⟩=false:=hfr30 4;clear hcl30 hcc30 hfr30 hM30;replace p30:=ezT p30;replace q30:=ezT q30;have HX38:=am (show Kd.R k66 66 w36 w.heap.size (fun _=>True) (.slice (some ⟨go27,0,none⟩) x130000_2.length co34) y133 from (rq HO_130000.out));obtain ⟨ce38,hcl38,hM38,hcc38,hfr38⟩:=Kd.jyb HX38.out z66 (a1:Int) (ozD (uq)) (by have h_:(a1:Int)<((x130000_2.length:Int):Int):=ozD (uq);first | exact h_ |(have e_:=(Kd.jC HO_130000.out).1;omega) | simpa using h_);obtain rfl:=jRa hM38;have HP38:=Kd.R_seg HX38.out (a1:Int) (ozD (uq)) (by have h_:(a1:Int)<((x130000_2.length:Int):Int):=ozD (uq);first | exact h_ |(have e_:=(Kd.jC HO_130000.out).1;omega) | simpa using h_) (seg:=[.int .i64 a2]) (j:=3) hcl38 hcc38 (show 4≤5 from by decide) (x':=(⟨(ja y133 a1).f0,(ja y133 a1).f1,(ja y133 a1).f2,a2,(ja y133 a1).f4⟩:S66)) (jac _ _ _ (⟨(ja y133 a1).f0,(ja y133 a1).f1,(ja y133 a1).f2,a2,(ja y133 a1).f4⟩:S66) ) (fun _ hk=>hk);have hx38_3:=hcc38 3 _ rfl;(try simp only [show (k66).sz=5 from rfl,Nat.mul_one,Nat.add_zero] at hx38_3);have hf38_3:=hfr38 3;(try simp only [show (k66).sz=5 from rfl,Nat.mul_one,Nat.add_zero] at hf38_3);clear hcl38 hcc38 hfr38 hM38) |((with_reducible refine jlc (t:=3) (p:=51) rfl ?_);refine jfc (t:=3) (p:=51) (v:=?vo_w39) (w1:=(w36.setCell ⟨go27,(a1:Int).toNat * 5+3,none⟩ (.int .i64 a2))) ?hg ?ho ?hn ?hr ?_;(case ho=>rfl);(case hg=>rfl);(case hn=>rfl);(case hr=>exact Y4);intro w39 hw;have hg:w36.grownBy w39 (some go27):=(by rw [hw];exact HP38.2);have hp_:Kd.R k66 66 w39 w.heap.size (fun _=>True) (.slice (some ⟨go27,0,none⟩) x130000_2.length co34) y134:=(by rw [hw,Ny134.out];exact HP38.1);clear HP38;replace BK124:=am (jKa (g:=gb124) (o:=.cells #[.slice A0_0 l0_0.length c0_0] 28 (0,0)) (kq BK124.out) hg (Kd.R_ne HO_130000.out BK124.out (by decide)));replace BK125:=am (jKa (g:=gb125) (o:=.cells #[.slice none 0 0] 28 (0,0)) (kq BK125.out) hg (Kd.R_ne HO_130000.out BK125.out (by decide)));replace BK129:=am (jKa (g:=gb129) (o:=.cells #[.slice (some ⟨go27,0,none⟩) x130000_2.length co34] 28 (0,0)) (kq BK129.out) hg (Kd.R_ne HO_130000.out BK129.out (by decide)));replace HO_130000:=am (hp_);replace HB:=am ((by rw [hw];exact jl (HB.out) GB27.out:Below w.heap.size w w39));clear hg hw hp_;have hcz40_0:=bc0 BK129.out;have hfz40_0:=jb BK129.out 0;have hnb41:=NB125_124.out;have hnc41:=NB124_125.out;have hcz42_0:=bc0 BK125.out;have hfz42_0:=jb BK125.out 0))
            refine bodyPost_ret (results_cell_row rfl _ _ gb125 28 #[.slice (some ⟨go27,0,none⟩) x130000_2.length co34] (0,0) _ rfl (Y124) Tryd.underlying28 rfl (by kernel_rfl)) rfl ?_
            exact ⟨_,Y1,by (with_reducible repeat (first | apply Kd.jX | apply Kd.jba | apply Kd.jV));exact Kd.jI (Kd.jwa (p:=⟨gb125,0,none⟩) (Kd.jP HO_130000.out BK125.out (by decide)) (fun _ hk=>hk.2) (.slice (some ⟨go27,0,none⟩) x130000_2.length co34)) (fun _ hk=>trivial),Y59⟩
           ·rw [if_neg c29] at H
            exact absurd H (by simp)
          ·rw [if_neg c28] at H
           exact absurd H (by simp)
         ·rw [if_neg c26] at H
          have c26b0:(((ja x130000_2 x8_2).f3) == a1)=false:=beq_eq_false_iff_ne.mpr c26
          have c26b1:(((ja x130000_2 x8_2).f3) != a1)=true:=bne_iff_ne.mpr c26
          have H':=am H
          clear H
          have hnb43:=NB129_124.out
          have hnc43:=NB124_129.out
          have hnb44:=NB129_125.out
          have hnc44:=NB125_129.out
          have hcz45_0:=bc0 BK129.out
          have hfz45_0:=jb BK129.out 0
          obtain ⟨Ao46,co46,eo46⟩:=Kd.jZ HO_130000.out
          subst eo46
          have p130:0≤(x8_2:Int):=ozD (uq)
          have q130:x8_2<(x130000_2.length:Int):=ozD (uq)
          obtain ⟨ad130,e130,hx130_0,hx130_1,hx130_2,hx130_3,hx130_4⟩:=jlb (Kd.jC HO_130000.out).2.2 x8_2 p130 q130
          cases e130
          replace p130:=ezT p130
          replace q130:=ezT q130
          have p132:0≤(x8_2:Int):=ozD (uq)
          have q132:x8_2<(x130000_2.length:Int):=ozD (uq)
          obtain ⟨ad132,e132,hx132_0,hx132_1,hx132_2,hx132_3,hx132_4⟩:=jlb (Kd.jC HO_130000.out).2.2 x8_2 p132 q132
          obtain rfl:ad130=ad132:=(by injection e132)
          replace p132:=ezT p132
          replace q132:=ezT q132
          have p135:0≤(x8_2:Int):=ozD (uq)
          have q135:x8_2<(x130000_2.length:Int):=ozD (uq)
          obtain ⟨ad135,e135,hx135_0,hx135_1,hx135_2,hx135_3,hx135_4⟩:=jlb (Kd.jC HO_130000.out).2.2 x8_2 p135 q135
          obtain rfl:ad130=ad135:=(by injection e135)
          replace p135:=ezT p135
          replace q135:=ezT q135
          go_wp2
          go_roundg k2
          case measure=>have:=HJ4.out;have:=HK2.out;omega
          case rel=>exact ⟨((ja x130000_2 x8_2).f3),(x130000_2),(.slice (some ad130) x130000_2.length co46),(sq),H',⟨by have:=HJ4.out;have:=HK2.out;omega⟩,⟨rq HO_130000.out⟩,⟨kq BK124.out⟩,⟨kq BK125.out⟩,⟨kq BK129.out⟩,⟨Y59⟩⟩
        ·rw [if_neg c25] at H
         have c25b0:decide (0≤((ja x130000_2 x8_2).f3))=false:=dzF c25
         clear c25
         by_cases c47:0≤a1
         ·rw [if_pos c47] at H
          have c47b0:decide (0≤a1)=true:=dzT c47
          clear c47
          by_cases c48:a1<(x130000_2.length:Int)
          ·rw [if_pos c48] at H
           have c48b0:decide (a1<(x130000_2.length:Int))=true:=dzT c48
           clear c48
           obtain ⟨y131,hy131⟩:∃ y_:List (S66),y_=(x130000_2.set (a1:Int).toNat (⟨(ja x130000_2 a1).f0,(ja x130000_2 a1).f1,(ja x130000_2 a1).f2,a2,(ja x130000_2 a1).f4⟩:S66)):=⟨_,rfl⟩
           replace H:(some y131)=some r:=by first |(rw [hy131];with_reducible exact H) |(have H2_:=(Option.bind_some _ _).symm.trans H;rw [hy131];with_reducible exact H2_) |(have H2_:=(Option.bind_some _ _).symm.trans H;with_reducible exact H2_) | with_reducible exact H |(rw [hy131];exact H) | exact H
           have Ny131:=am hy131
           clear hy131
           obtain rfl:=Option.some.inj H
           have hnb50:=NB129_124.out
           have hnc50:=NB124_129.out
           have hnb51:=NB129_125.out
           have hnc51:=NB125_129.out
           have hcz52_0:=bc0 BK129.out
           have hfz52_0:=jb BK129.out 0
           obtain ⟨Ao53,co53,eo53⟩:=Kd.jZ HO_130000.out
           subst eo53
           have p130:0≤(x8_2:Int):=ozD (uq)
           have q130:x8_2<(x130000_2.length:Int):=ozD (uq)
           obtain ⟨ad130,e130,hx130_0,hx130_1,hx130_2,hx130_3,hx130_4⟩:=jlb (Kd.jC HO_130000.out).2.2 x8_2 p130 q130
           cases e130
           replace p130:=ezT p130
           replace q130:=ezT q130
           have p49:0≤(a1:Int):=ozD (uq)
           have q49:(a1:Int)<((x130000_2.length:Int):Int):=ozD (uq)
           obtain ⟨go49,co49,eo49,gb49,gl49,cl49,HG49⟩:=Kd.R_form HO_130000.out (by omega)
           (first | cases eo49 |(injection eo49 with ea_ en_ ec_;(first | subst ea_ |(injection ea_ with ea_;subst ea_));subst ec_;clear en_))
           have GB49:=am gb49
           have GG49:=am HG49
           clear gb49 gl49 HG49
           (first | simp only [add_plain] at hx130_0 | skip)
           (first | simp only [add_plain] at hx130_1 | skip)
           (first | simp only [add_plain] at hx130_2 | skip)
           (first | simp only [add_plain] at hx130_3 | skip)
           (first | simp only [add_plain] at hx130_4 | skip)
           (first | simp only [add_plain] at hx132_0 | skip)
           (first | simp only [add_plain] at hx132_1 | skip)
           (first | simp only [add_plain] at hx132_2 | skip)
           (first | simp only [add_plain] at hx132_3 | skip)
           (first | simp only [add_plain] at hx132_4 | skip)
           (first | simp only [add_plain] at hx135_0 | skip)
           (first | simp only [add_plain] at hx135_1 | skip)
           (first | simp only [add_plain] at hx135_2 | skip)
           (first | simp only [add_plain] at hx135_3 | skip)
           (first | simp only [add_plain] at hx135_4 | skip)
           obtain ⟨ce49,hcl49,hM49,hcc49,hfr49⟩:=Kd.jyb HO_130000.out z66 (a1:Int) p49 q49
           obtain rfl:=jRa hM49
           have hx49_0:wr.cell? ⟨go49,(a1:Int).toNat * 5,none⟩=some (.int .i64 ((ja x130000_2 a1).f0)):=hcc49 0 _ rfl
           have hx49_1:wr.cell? ⟨go49,(a1:Int).toNat * 5+1,none⟩=some (.int .i64 ((ja x130000_2 a1).f1)):=hcc49 1 _ rfl
           have hx49_2:wr.cell? ⟨go49,(a1:Int).toNat * 5+2,none⟩=some (.int .i64 ((ja x130000_2 a1).f2)):=hcc49 2 _ rfl
           have hx49_3:wr.cell? ⟨go49,(a1:Int).toNat * 5+3,none⟩=some (.int .i64 ((ja x130000_2 a1).f3)):=hcc49 3 _ rfl
           have hx49_4:wr.cell? ⟨go49,(a1:Int).toNat * 5+4,none⟩=some (.bool ((ja x130000_2 a1).f4)):=hcc49 4 _ rfl
           have hf49_0:wr.frozen? ⟨go49,(a1:Int).toNat * 5,none⟩=false:=hfr49 0
           have hf49_1:wr.frozen? ⟨go49,(a1:Int).toNat * 5+1,none⟩=false:=hfr49 1
           have hf49_2:wr.frozen? ⟨go49,(a1:Int).toNat * 5+2,none⟩=false:=hfr49 2
           have hf49_3:wr.frozen? ⟨go49,(a1:Int).toNat * 5+3,none⟩=false:=hfr49 3
           have hf49_4:wr.frozen? ⟨go49,(a1:Int).toNat * 5+4,none⟩=false:=hfr49 4
           clear hcl49 hcc49 hfr49 hM49
           replace p49:=ezT p49
           replace q49:=ezT q49
           have HX54:=am (show Kd.R k66 66 wr w.heap.size (fun _=>True) (.slice (some ⟨go49,0,none⟩) x130000_2.length co53) x130000_2 from (rq HO_130000.out))
           obtain ⟨ce54,hcl54,hM54,hcc54,hfr54⟩:=Kd.jyb HX54.out z66 (a1:Int) (ozD (uq)) (by have h_:(a1:Int)<((x130000_2.length:Int):Int):=ozD (uq);first | exact h_ |(have e_:=(Kd.jC HO_130000.out).1;omega) | simpa using h_)
           obtain rfl:=jRa hM54
           have HP54:=Kd.R_seg HX54.out (a1:Int) (ozD (uq)) (by have h_:(a1:Int)<((x130000_2.length:Int):Int):=ozD (uq);first | exact h_ |(have e_:=(Kd.jC HO_130000.out).1;omega) | simpa using h_) (seg:=[.int .i64 a2]) (j:=3) hcl54 hcc54 (show 4≤5 from by decide) (x':=(⟨(ja x130000_2 a1).f0,(ja x130000_2 a1).f1,(ja x130000_2 a1).f2,a2,(ja x130000_2 a1).f4⟩:S66)) (jac _ _ _ (⟨(ja x130000_2 a1).f0,(ja x130000_2 a1).f1,(ja x130000_2 a1).f2,a2,(ja x130000_2 a1).f4⟩:S66) ) (fun _ hk=>hk)
           have hx54_3:=hcc54 3 _ rfl
           (try simp only [show (k66).sz=5 from rfl,Nat.mul_one,Nat.add_zero] at hx54_3)
           have hf54_3:=hfr54 3
           (try simp only [show (k66).sz=5 from rfl,Nat.mul_one,Nat.add_zero] at hf54_3)
           clear hcl54 hcc54 hfr54 hM54
           go_wp2_with (first |((with_reducible refine jlc (t:=3) (p:=51) rfl ?_);refine jfc (t:=3) (p:=51) (v:=?vo_w55) (w1:=(wr.setCell ⟨go49,(a1:Int).toNat * 5+3,none⟩ (.int .i64 a2))) ?hg ?ho ?hn ?hr ?_;(case ho=>rfl);(case hg=>rfl);(case hn=>rfl);(case hr=>exact Y4);intro w55 hw;have hg:wr.grownBy w55 (some go49):=(by rw [hw];exact HP54.2);have hp_:Kd.R k66 66 w55 w.heap.size (fun _=>True) (.slice (some ⟨go49,0,none⟩) x130000_2.length co53) y131:=(by rw [hw,Ny131.out];exact HP54.1);clear HP54;replace BK124:=am (jKa (g:=gb124) (o:=.cells #[.slice A0_0 l0_0.length c0_0] 28 (0,0)) (kq BK124.out) hg (Kd.R_ne HO_130000.out BK124.out (by decide)));replace BK125:=am (jKa (g:=gb125) (o:=.cells #[.slice none 0 0] 28 (0,0)) (kq BK125.out) hg (Kd.R_ne HO_130000.out BK125.out (by decide)));replace BK129:=am (jKa (g:=gb129) (o:=.cells #[.slice (some ⟨go49,0,none⟩) x130000_2.length co53] 28 (0,0)) (kq BK129.out) hg (Kd.R_ne HO_130000.out BK129.out (by decide)));replace HO_130000:=am (hp_);replace HB:=am ((by rw [hw];exact jl (HB.out) GB49.out:Below w.heap.size w w55));clear hg hw hp_;have hcz56_0:=bc0 BK129.out;have hfz56_0:=jb BK129.out 0;have hnb57:=NB125_124.out;have hnc57:=NB124_125.out;have hcz58_0:=bc0 BK125.out;have hfz58_0:=jb BK125.out 0))
           refine bodyPost_ret (results_cell_row rfl _ _ gb125 28 #[.slice (some ⟨go49,0,none⟩) x130000_2.length co53] (0,0) _ rfl (Y124) Tryd.underlying28 rfl (by kernel_rfl)) rfl ?_
           exact ⟨_,Y1,by (with_reducible repeat (first | apply Kd.jX | apply Kd.jba | apply Kd.jV));exact Kd.jI (Kd.jwa (p:=⟨gb125,0,none⟩) (Kd.jP HO_130000.out BK125.out (by decide)) (fun _ hk=>hk.2) (.slice (some ⟨go49,0,none⟩) x130000_2.length co53)) (fun _ hk=>trivial),Y59⟩
          ·rw [if_neg c48] at H
           exact absurd H (by simp)
         ·rw [if_neg c47] at H
          exact absurd H (by simp)
       ·rw [if_neg c24] at H
        exact absurd H (by simp)
      ·rw [if_neg c23] at H
       exact absurd H (by simp)
end Go.Proofs.YteibechlncphnaaDoor.P
end
