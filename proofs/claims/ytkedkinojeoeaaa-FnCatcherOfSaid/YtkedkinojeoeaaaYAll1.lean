/- One part of the proofs on this program: functions of the program as plain functions, that the code comes to them, and facts on them. -/
import Derived.ArgAppend
import Derived.Below
import Derived.BigQuiet
import Derived.Deep.AppendLies
import Derived.Deep.CutBlock
import Derived.Deep.DeepCutAuto
import Derived.Deep.Draws
import Derived.Deep.LoopGhost
import Derived.Deep.OwnRows
import Derived.Deep.QuietTactic
import Derived.Deep.RegionHeld3
import Derived.KernelRfl
import Derived.Laws.BitsLemmas
import Derived.Laws.BytesArg
import Derived.Laws.IdiomCopy
import Derived.Laws.MakeOwn
import Derived.Laws.OwnMore
import Derived.Laws.Rows
import Derived.Laws.Slices
import Derived.Laws.StructEq
import Derived.Lib.AppendStr
import Derived.Lib.ConvBytes
import Derived.LoopTactic
import Derived.Maps.AppendAt
import Derived.OrdersHeld
import Derived.OwnWalk
import Derived.RowKit
import Derived.RowKit3
import Derived.Tactics
import Derived.WalkKit
import Derived.WideLaws
import Derived.Test.YtkedkinojeoeaaaProg
import Derived.Test.YtkedkinojeoeaaaYWApart
import Derived.Test.YtkedkinojeoeaaaYWAuto
import Derived.Test.YtkedkinojeoeaaaYWClip
import Derived.Test.YtkedkinojeoeaaaYWFoot
import Derived.Test.YtkedkinojeoeaaaYWGuard
import Derived.Test.YtkedkinojeoeaaaYWIdx
import Derived.Test.YtkedkinojeoeaaaYWKept
import Derived.Test.YtkedkinojeoeaaaYWLast
import Derived.Test.YtkedkinojeoeaaaYWMkcap
import Derived.Test.YtkedkinojeoeaaaYWMore
import Derived.Test.YtkedkinojeoeaaaYWN
import Derived.Test.YtkedkinojeoeaaaYWRepsOne
import Derived.Test.YtkedkinojeoeaaaYWShare
import Derived.Test.YtkedkinojeoeaaaYWSome
import Derived.Test.YtkedkinojeoeaaaYWTab
import Derived.Test.YtkedkinojeoeaaaYWWords
section
namespace Go.Proofs.Ytkedkinojeoeaaa.P
open Go.RowKit Go.Proofs.YtkedkinojeoeaaaW.PrintWords Go.Proofs.YtkedkinojeoeaaaW.PrintLast Go.Proofs.YtkedkinojeoeaaaW.PrintMore
attribute [local go_sem] jta jra jBa jAa jca jba jsa jqa jl
set_option linter.unusedVariables false
set_option linter.unusedSimpArgs false
def errW : Option Int → Value
 | none=>.nilIface
 | some c=>.iface 0 (.int .i64 c)
theorem jvc : errW none = .nilIface := rfl
theorem juc (c : Int) : errW (some c) = .iface 0 (.int .i64 c) := rfl
theorem info3 : (Try.prog.info? 3).map (fun i => (i.zero, i.size, i.bytes)) = some (some (.int .i64 0), 1, 8) := by kernel_rfl
theorem info5 : (Try.prog.info? 5).map (fun i => (i.zero, i.size, i.bytes)) = some (some (.int .u8 0), 1, 1) := by kernel_rfl
theorem jLc : (Try.prog.info? 36).map (fun i => (i.zero, i.size, i.bytes)) = some (some (.agg #[(.int .i64 0), (.int .i64 0), (.int .i64 0), (.int .i64 0)]), 4, 32) := by kernel_rfl
theorem info75 : (Try.prog.info? 75).map (fun i => (i.zero, i.size, i.bytes)) = some (some (.agg #[(.string ⟨#[]⟩), (.int .i64 0)]), 2, 24) := by kernel_rfl
structure S75 where
 f0:ByteArray
 f1:Int
def z75 : S75 := ⟨(⟨#[]⟩ : ByteArray), (0 : Int)⟩
def k75 : Kd S75 := Kd.iso (Kd.pair Kd.string (Kd.int .i64)) (fun x : S75 => (x.f0, x.f1))
theorem k75_open {w : World} {x : S75} {cs : List Value} (h : k75.K w x cs) : cs = [.string x.f0, .int .i64 x.f1] := by
 obtain ⟨_,_,rfl,rfl,rfl⟩:=h
 exact rfl
theorem k75_openM {w : World} {base : Nat} {ok : Nat → Prop} {x : S75} {cs : List Value} (h : k75.M w base ok x cs) : cs = [.string x.f0, .int .i64 x.f1] := by
 obtain ⟨_,_,rfl,rfl,rfl⟩:=h
 exact rfl
theorem k75_mkM (w : World) (base : Nat) (ok : Nat → Prop) (x : S75)  : k75.M w base ok x [.string x.f0, .int .i64 x.f1] := ⟨[.string x.f0], [.int .i64 x.f1], rfl, rfl, rfl⟩
def jY (xs : List S75) (i : Int) : S75 := xs.getD i.toNat z75
theorem at_T75 {w : World} {A : Option Addr} {n : Nat} {xs : List S75} (h : Kd.C k75 w A n xs) (i : Int) (h0 : 0 ≤ i) (h1 : i < n) : ∃ ad , A = some ad ∧ w.cell? (ad.add (i.toNat * 2)) = some (.string (jY xs i).f0) ∧ w.cell? ⟨(ad.add (i.toNat * 2)).block, (ad.add (i.toNat * 2)).off + 1, none⟩ = some (.int .i64 (jY xs i).f1) := by
 obtain ⟨ad,c,e,_,hK,hc0⟩:=Kd.C_get h z75 i h0 h1
 have hc:∀ j u,c[j]?=some u→w.cell? (ad.add (i.toNat * 2+j))=some u:=hc0
 obtain rfl:=k75_open hK
 exact ⟨ad,e,hc 0 _ rfl,by rw [← add_field _ _ 1 (by omega)];exact hc 1 _ rfl⟩
structure S36 where
 f0:Int
 f1:Int
 f2:Int
 f3:Int
def z36 : S36 := ⟨(0 : Int), (0 : Int), (0 : Int), (0 : Int)⟩
def k36 : Kd S36 := Kd.iso (Kd.pair (Kd.int .i64) (Kd.pair (Kd.int .i64) (Kd.pair (Kd.int .i64) (Kd.int .i64)))) (fun x : S36 => (x.f0, x.f1, x.f2, x.f3))
theorem k36_open {w : World} {x : S36} {cs : List Value} (h : k36.K w x cs) : cs = [.int .i64 x.f0, .int .i64 x.f1, .int .i64 x.f2, .int .i64 x.f3] := by
 obtain ⟨_,_,rfl,rfl,⟨_,_,rfl,rfl,⟨_,_,rfl,rfl,rfl⟩⟩⟩:=h
 exact rfl
theorem jTc {w : World} {base : Nat} {ok : Nat → Prop} {x : S36} {cs : List Value} (h : k36.M w base ok x cs) : cs = [.int .i64 x.f0, .int .i64 x.f1, .int .i64 x.f2, .int .i64 x.f3] := by
 obtain ⟨_,_,rfl,rfl,⟨_,_,rfl,rfl,⟨_,_,rfl,rfl,rfl⟩⟩⟩:=h
 exact rfl
theorem jNb (w : World) (base : Nat) (ok : Nat → Prop) (x : S36)  : k36.M w base ok x [.int .i64 x.f0, .int .i64 x.f1, .int .i64 x.f2, .int .i64 x.f3] := ⟨[.int .i64 x.f0], [.int .i64 x.f1, .int .i64 x.f2, .int .i64 x.f3], rfl, rfl, ⟨[.int .i64 x.f1], [.int .i64 x.f2, .int .i64 x.f3], rfl, rfl, ⟨[.int .i64 x.f2], [.int .i64 x.f3], rfl, rfl, rfl⟩⟩⟩
def jc (xs : List S36) (i : Int) : S36 := xs.getD i.toNat z36
theorem jna {w : World} {A : Option Addr} {n : Nat} {xs : List S36} (h : Kd.C k36 w A n xs) (i : Int) (h0 : 0 ≤ i) (h1 : i < n) : ∃ ad , A = some ad ∧ w.cell? (ad.add (i.toNat * 4)) = some (.int .i64 (jc xs i).f0) ∧ w.cell? ⟨(ad.add (i.toNat * 4)).block, (ad.add (i.toNat * 4)).off + 1, none⟩ = some (.int .i64 (jc xs i).f1) ∧ w.cell? ⟨(ad.add (i.toNat * 4)).block, (ad.add (i.toNat * 4)).off + 2, none⟩ = some (.int .i64 (jc xs i).f2) ∧ w.cell? ⟨(ad.add (i.toNat * 4)).block, (ad.add (i.toNat * 4)).off + 3, none⟩ = some (.int .i64 (jc xs i).f3) := by
 obtain ⟨ad,c,e,_,hK,hc0⟩:=Kd.C_get h z36 i h0 h1
 have hc:∀ j u,c[j]?=some u→w.cell? (ad.add (i.toNat * 4+j))=some u:=hc0
 obtain rfl:=k36_open hK
 exact ⟨ad,e,hc 0 _ rfl,by rw [← add_field _ _ 1 (by omega)];exact hc 1 _ rfl,by rw [← add_field _ _ 2 (by omega)];exact hc 2 _ rfl,by rw [← add_field _ _ 3 (by omega)];exact hc 3 _ rfl⟩
def jf (w0 W : World) (g : Nat) (f0 : List Int) (f1 : Int) : Prop := ∃ A0 c0, W.heap[g]? = some (.cells #[.slice A0 f0.length c0, .int .i64 f1] 72 (0, 0)) ∧ w0.heap.size ≤ g ∧ Kd.C (Kd.int .u8) w0 A0 f0.length f0
theorem jf.grown {w0 W : World} {g : Nat} {f0 : List Int} {f1 : Int} {W1 : World} {row : Option Nat} (h : jf w0 W g f0 f1) (hw : W.grownBy W1 row) (hne : some g ≠ row) : jf w0 W1 g f0 f1 := by
 obtain ⟨A0,c0,hb,hg,hr0⟩:=h
 exact ⟨A0,c0,jXa hb hw hne,hg,hr0⟩
theorem jf.kept {w0 W : World} {g : Nat} {f0 : List Int} {f1 : Int} {W1 : World} {S : Nat → Prop} (h : jf w0 W g f0 f1) (hk : Kept W W1 S) (hne : ¬ S g) : jf w0 W1 g f0 f1 := by
 obtain ⟨A0,c0,hb,hg,hr0⟩:=h
 exact ⟨A0,c0,blk_kept hb hk hne,hg,hr0⟩
theorem jf.below {w0 W : World} {g : Nat} {f0 : List Int} {f1 : Int} {W1 : World} (h : jf w0 W g f0 f1) (hw : Below W.heap.size W W1) : jf w0 W1 g f0 f1 := h.grown (grown_of_below hw none) (by simp)
theorem jf.alloc {w0 W : World} {g : Nat} {f0 : List Int} {f1 : Int} (h : jf w0 W g f0 f1) (o : Obj) : jf w0 (W.alloc o) g f0 f1 := h.below (jL (Below.refl _ _) o)
theorem jf.drewN {w0 W : World} {g : Nat} {f0 : List Int} {f1 : Int} (h : jf w0 W g f0 f1) (m : Nat) : jf w0 (W.drewN m) g f0 f1 := h
theorem jf.drew {w0 W : World} {g : Nat} {f0 : List Int} {f1 : Int} (h : jf w0 W g f0 f1) : jf w0 W.drew g f0 f1 := h
theorem jf.at_ {w0 W : World} {g : Nat} {f0 : List Int} {f1 : Int} {w' : World} {m : Nat} (hq : W.drewN m = w') (h : jf w0 W g f0 f1) : jf w0 w' g f0 f1 := by subst hq; exact jf.drewN h m
theorem jf.apart {w0 W : World} {g : Nat} {f0 : List Int} {f1 : Int} {α : Type} {d : Kd α} {e : Nat} {base : Nat} {ok : Nat → Prop} {v : Value} {xs : List α} (h : jf w0 W g f0 f1) (ho : d.R e W base ok v xs) (ht : ∀ q, q ∈ e :: d.E → q ≠ 72) : d.R e W base (fun k => ok k ∧ k ≠ g) v xs := by
 obtain ⟨A0,c0,hb,hg,hr0⟩:=h
 exact Kd.jQa ho hb ht
theorem jf.own_ne {w0 W : World} {g : Nat} {f0 : List Int} {f1 : Int} {α : Type} {d : Kd α} {e : Nat} {base : Nat} {ok : Nat → Prop} {v : Value} {xs : List α} (h : jf w0 W g f0 f1) (ho : d.R e W base ok v xs) (ht : e ≠ 72) : some g ≠ v.ownBlock := by
 obtain ⟨A0,c0,hb,hg,hr0⟩:=h
 exact Kd.R_ne ho hb ht
theorem jf.apartQ {w0 W : World} {g : Nat} {f0 : List Int} {f1 : Int} {α : Type} {d : Kd α} {e : Nat} {base : Nat} {ok : Nat → Prop} {v : Value} {xs : List α} (h : jf w0 W g f0 f1) (ho : d.Q e W base ok v xs) (ht : ∀ q, q ∈ e :: d.E → q ≠ 72) : d.Q e W base (fun k => ok k ∧ k ≠ g) v xs := by
 obtain ⟨A0,c0,hb,hg,hr0⟩:=h
 exact Kd.jZc ho hb ht
theorem jf.lt {w0 W : World} {g : Nat} {f0 : List Int} {f1 : Int} (h : jf w0 W g f0 f1) : g < W.heap.size := by
 obtain ⟨A0,c0,hb,hg,hr0⟩:=h
 exact jDb hb
theorem jf.ge {w0 W : World} {g : Nat} {f0 : List Int} {f1 : Int} (h : jf w0 W g f0 f1) : w0.heap.size ≤ g := by
 obtain ⟨A0,c0,hb,hg,hr0⟩:=h
 exact hg
theorem jf.ne_blk {w0 W : World} {g : Nat} {f0 : List Int} {f1 : Int} {a : Nat} {cs : Array Value} {t : TypeId} {fr : Nat × Nat} (h : jf w0 W g f0 f1) (hb2 : W.heap[a]? = some (.cells cs t fr)) (ht : t ≠ 72) : g ≠ a := by
 obtain ⟨A0,c0,hb,hg,hr0⟩:=h
 rintro rfl
 rw [hb] at hb2
 injection hb2 with hb2
 injection hb2 with _ ht2
 exact ht ht2.symm
theorem jf.far {w0 W : World} {g : Nat} {f0 : List Int} {f1 : Int} {p : Addr} (h : jf w0 W g f0 f1) (hne : g ≠ p.block) (u : Value) : jf w0 (W.setCell p u) g f0 f1 := by
 obtain ⟨A0,c0,hb,hg,hr0⟩:=h
 exact ⟨A0,c0,jnb hb hne u,hg,hr0⟩
theorem cellS72_0 {W : World} {g : Nat} {A0 : Option Addr} {c0 : Nat} {f0 : List Int} {f1 : Int} (h : W.heap[g]? = some (.cells #[.slice A0 f0.length c0, .int .i64 f1] 72 (0, 0))) : W.cell? ⟨g, 0, none⟩ = some (.slice A0 f0.length c0) := (jF h 0).trans rfl
theorem cellS72_1 {W : World} {g : Nat} {A0 : Option Addr} {c0 : Nat} {f0 : List Int} {f1 : Int} (h : W.heap[g]? = some (.cells #[.slice A0 f0.length c0, .int .i64 f1] 72 (0, 0))) : W.cell? ⟨g, 1, none⟩ = some (.int .i64 f1) := (jF h 1).trans rfl
theorem jf.jkc {w0 W : World} {g : Nat} {f0 : List Int} {f1 : Int} (h : jf w0 W g f0 f1) (x : Int) : jf w0 (W.setCell ⟨g, 1, none⟩ (.int .i64 x)) g f0 x := by
 obtain ⟨A0,c0,hb,hg,hr0⟩:=h
 exact ⟨A0,c0,by simpa using blk_set hb 1 (.int .i64 x),hg,hr0⟩
def jg.j0 : Nat → Int → Bool → List Int → Int → Option (Int × Int)
 | 0,_,_,_,_=>none
 | k+1,x1,x24,x1000,x1001=>if x24=true then (some (0,x1001)) else (if (wrap64 (x1001 - 1))<(x1000.length:Int) then (if 0≤(wrap64 (x1001 - 1)) then (if x1=0 then (none) else (some (Int.tmod (wrap64 (rd x1000 (wrap64 (x1001 - 1)))) x1,x1001))) else (none)) else (if (x1000.length:Int)=0 then (none) else (if 0≤(Int.tmod (wrap64 (x1001 - 1)) (x1000.length:Int)) then (if (Int.tmod (wrap64 (x1001 - 1)) (x1000.length:Int))<(x1000.length:Int) then (if 0≤(Int.tmod (wrap64 ((wrap64 ((wrap64 (x1001 - 1)) * 7))+3)) (x1000.length:Int)) then (if (Int.tmod (wrap64 ((wrap64 ((wrap64 (x1001 - 1)) * 7))+3)) (x1000.length:Int))<(x1000.length:Int) then (if x1=0 then (none) else (some (Int.tmod (Go.bits .xor .i64 (wrap64 ((wrap64 ((wrap64 ((wrap64 ((wrap64 (rd x1000 (Int.tmod (wrap64 (x1001 - 1)) (x1000.length:Int)))) * 131))+(wrap64 ((wrap64 (rd x1000 (Int.tmod (wrap64 ((wrap64 ((wrap64 (x1001 - 1)) * 7))+3)) (x1000.length:Int)))) * 1117))))+(wrap64 ((wrap64 (x1001 - 1)) * 29))))+(wrap64 ((wrap64 (Int.tdiv (wrap64 (x1001 - 1)) (x1000.length:Int))) * 53)))) (wrap64 (Int.tdiv (wrap64 ((wrap64 ((wrap64 ((wrap64 ((wrap64 (rd x1000 (Int.tmod (wrap64 (x1001 - 1)) (x1000.length:Int)))) * 131))+(wrap64 ((wrap64 (rd x1000 (Int.tmod (wrap64 ((wrap64 ((wrap64 (x1001 - 1)) * 7))+3)) (x1000.length:Int)))) * 1117))))+(wrap64 ((wrap64 (x1001 - 1)) * 29))))+(wrap64 ((wrap64 (Int.tdiv (wrap64 (x1001 - 1)) (x1000.length:Int))) * 53)))) 64))) x1,x1001))) else (none)) else (none)) else (none)) else (none))))
def jg.f (k : Nat) (s0_0 : List Int) (s0_1 : Int) (a1 : Int) : Option (Int × Int) := if a1 < 1 then (jg.j0 k a1 true s0_0 (wrap64 (s0_1 + 1))) else (jg.j0 k a1 ((s0_0.length : Int) == 0) s0_0 (wrap64 (s0_1 + 1)))
set_option maxHeartbeats 8000000 in
set_option maxRecDepth 100000 in
theorem jg.calls (k : Nat) (g : Nat) (s0_0 : List Int) (s0_1 : Int) (a1 : Int) (r1 : Int) (r2 : Int) (w0 w : World) (hI : jf w0 w g s0_0 s0_1) (hB : Below w0.heap.size w0 w) (h : jg.f k s0_0 s0_1 a1 = some (r1, r2)) :
  Calls Try.prog 42 #[.pointer (some ⟨g,0,none⟩), .int .i64 a1] w fun e w'=>e=.returned (.int .i64 r1)∧jf w0 w' g s0_0 r2∧Below w0.heap.size w0 w'∧jb w w' g none:=by
 have HI0:=am hI
 have HK:=am (jb.refl w g none)
 have HL:=am hB.size
 clear hI
 have HW0:=am hB.size
 have HB:=am hB
 clear hB
 have H:(if a1<1 then (jg.j0 k a1 true s0_0 (wrap64 (s0_1+1))) else (jg.j0 k a1 ((s0_0.length:Int) == 0) s0_0 (wrap64 (s0_1+1))))=some (r1,r2):=h
 clear h
 have HC3:=am H
 clear H
 obtain ⟨ASz4_0,cSz4_0,HGz4,hgz4,HSz4_0⟩:=HI0.out
 have hcz4_0:=cellS72_0 HGz4
 have hcz4_1:=cellS72_1 HGz4
 have hfz4_1:=ja HGz4 1
 clear HGz4 hgz4
 go_enter Try.func42,Try.ntmps42
 go_upto_region 2 with (fail)
 repeat (go_quiet (fail);go_upto_region 2 with (fail))
 go_cut [24] (fun v24 wc=>∃ (kq:Nat) (x24_2:Bool),v24=.bool x24_2∧jq (jg.j0 kq a1 x24_2 s0_0 (wrap64 (s0_1+1))=some (r1,r2))∧jq (kq≤k)∧jq (jf w0 wc g s0_0 (wrap64 (s0_1+1)))∧jq (jb w wc g none)∧jq (Below w0.heap.size w0 wc))
 case first =>
  have H:=HC3.out
  clear HC3
  by_cases c5:a1<1
  ·rw [if_pos c5] at H
   have c5b0:decide (a1<1)=true:=dzT c5
   clear c5
   (first | rw [c5b0] |(simp only [jkb,jmb];rw [c5b0]) | skip)
   have H':=am H
   clear H
   go_wp2
   repeat (go_quiet (fail);try go_wp2)
   go_meet
   case rel=>exact ⟨_,(true),(sq),H',⟨Y32⟩,⟨Y14⟩,⟨Y15⟩,⟨Y16⟩⟩
  ·rw [if_neg c5] at H
   have c5b0:decide (a1<1)=false:=dzF c5
   clear c5
   (first | rw [c5b0] |(simp only [jkb,jmb];rw [c5b0]) | skip)
   have H':=am H
   clear H
   obtain ⟨ASz6_0,cSz6_0,HGz6,hgz6,HSz6_0⟩:=HI0.out
   have hcz6_0:=cellS72_0 HGz6
   have hcz6_1:=cellS72_1 HGz6
   have hfz6_1:=ja HGz6 1
   clear HGz6 hgz6
   go_wp2
   repeat (go_quiet (fail);try go_wp2)
   go_meet
   case rel=>exact ⟨_,(((s0_0.length:Int) == 0)),(sq),H',⟨Y32⟩,⟨Y14⟩,⟨Y15⟩,⟨Y16⟩⟩
 case rest =>
  clear HC3
  try clear p2
  try clear c4
  try clear c5
  try clear c5b0
  try clear p6
  try clear hcz4_0
  try clear hcz4_1
  try clear hcz6_0
  try clear hcz6_1
  try clear hfz4_1
  try clear hfz6_1
  obtain ⟨kq,x24_2,rfl,HA,HJ2,HI0,HK,HB⟩:=hcut
  cases kq with
  | zero=>exact absurd HA.out (by simp [jg.j0])
  | succ kj2 =>
   have H:=HA.out
   clear HA
   simp only [jg.j0] at H
   by_cases c7:x24_2=true
   ·subst c7
    have H1:(some (0,(wrap64 (s0_1+1))))=some (r1,r2):=by rw [if_pos rfl] at H;exact H
    clear H
    have H:=H1
    clear H1
    simp only [Option.some.injEq,Prod.mk.injEq] at H
    obtain ⟨rfl,rfl⟩:=H
    go_wp2
    repeat (go_quiet (fail);try go_wp2)
    go_ret
    exact ⟨Y0,Y14,Y16,Y15⟩
   ·replace c7:=Bool.eq_false_iff.mpr c7
    subst c7
    have H1:(if (wrap64 ((wrap64 (s0_1+1)) - 1))<(s0_0.length:Int) then (if 0≤(wrap64 ((wrap64 (s0_1+1)) - 1)) then (if a1=0 then (none) else (some (Int.tmod (wrap64 (rd s0_0 (wrap64 ((wrap64 (s0_1+1)) - 1)))) a1,(wrap64 (s0_1+1))))) else (none)) else (if (s0_0.length:Int)=0 then (none) else (if 0≤(Int.tmod (wrap64 ((wrap64 (s0_1+1)) - 1)) (s0_0.length:Int)) then (if (Int.tmod (wrap64 ((wrap64 (s0_1+1)) - 1)) (s0_0.length:Int))<(s0_0.length:Int) then (if 0≤(Int.tmod (wrap64 ((wrap64 ((wrap64 ((wrap64 (s0_1+1)) - 1)) * 7))+3)) (s0_0.length:Int)) then (if (Int.tmod (wrap64 ((wrap64 ((wrap64 ((wrap64 (s0_1+1)) - 1)) * 7))+3)) (s0_0.length:Int))<(s0_0.length:Int) then (if a1=0 then (none) else (some (Int.tmod (Go.bits .xor .i64 (wrap64 ((wrap64 ((wrap64 ((wrap64 ((wrap64 (rd s0_0 (Int.tmod (wrap64 ((wrap64 (s0_1+1)) - 1)) (s0_0.length:Int)))) * 131))+(wrap64 ((wrap64 (rd s0_0 (Int.tmod (wrap64 ((wrap64 ((wrap64 ((wrap64 (s0_1+1)) - 1)) * 7))+3)) (s0_0.length:Int)))) * 1117))))+(wrap64 ((wrap64 ((wrap64 (s0_1+1)) - 1)) * 29))))+(wrap64 ((wrap64 (Int.tdiv (wrap64 ((wrap64 (s0_1+1)) - 1)) (s0_0.length:Int))) * 53)))) (wrap64 (Int.tdiv (wrap64 ((wrap64 ((wrap64 ((wrap64 ((wrap64 (rd s0_0 (Int.tmod (wrap64 ((wrap64 (s0_1+1)) - 1)) (s0_0.length:Int)))) * 131))+(wrap64 ((wrap64 (rd s0_0 (Int.tmod (wrap64 ((wrap64 ((wrap64 ((wrap64 (s0_1+1)) - 1)) * 7))+3)) (s0_0.length:Int)))) * 1117))))+(wrap64 ((wrap64 ((wrap64 (s0_1+1)) - 1)) * 29))))+(wrap64 ((wrap64 (Int.tdiv (wrap64 ((wrap64 (s0_1+1)) - 1)) (s0_0.length:Int))) * 53)))) 64))) a1,(wrap64 (s0_1+1))))) else (none)) else (none)) else (none)) else (none))))=some (r1,r2):=by rw [if_neg (show ¬ (false=true) by decide)] at H;exact H
    clear H
    have H:=H1
    clear H1
    by_cases c8:(wrap64 ((wrap64 (s0_1+1)) - 1))<(s0_0.length:Int)
    ·rw [if_pos c8] at H
     have c8b0:decide ((wrap64 ((wrap64 (s0_1+1)) - 1))<(s0_0.length:Int))=true:=dzT c8
     clear c8
     obtain ⟨ji9,hji9⟩:∃ j_:Int,(wrap64 ((wrap64 (s0_1+1)) - 1))=j_:=⟨_,rfl⟩
     replace H:(if 0≤(ji9) then (if a1=0 then (none) else (some (Int.tmod (wrap64 (rd s0_0 (ji9))) a1,(wrap64 (s0_1+1))))) else (none))=some (r1,r2):=by first |(rw [hji9] at H;exact H) |(simp only [hji9] at H ⊢;exact H)
     (try rw [hji9] at c8b0)
     have hji9w:(IntKind.i64.wrap ((wrap64 (s0_1+1)) - 1))=ji9:=(jkb _).trans hji9
     by_cases c10:0≤(ji9)
     ·rw [if_pos c10] at H
      have c10b0:decide (0≤(ji9))=true:=dzT c10
      clear c10
      by_cases c11:a1=0
      ·rw [if_pos c11] at H
       exact absurd H (by simp)
      ·rw [if_neg c11] at H
       have c11b0:(a1 == 0)=false:=beq_eq_false_iff_ne.mpr c11
       have c11b1:(a1 != 0)=true:=bne_iff_ne.mpr c11
       simp only [Option.some.injEq,Prod.mk.injEq] at H
       obtain ⟨rfl,rfl⟩:=H
       obtain ⟨ASz12_0,cSz12_0,HGz12,hgz12,HSz12_0⟩:=HI0.out
       have hcz12_0:=cellS72_0 HGz12
       have hcz12_1:=cellS72_1 HGz12
       have hfz12_1:=ja HGz12 1
       clear HGz12 hgz12
       have p101:0≤((ji9):Int):=ozD (uq)
       have q101:(ji9)<(s0_0.length:Int):=ozD (uq)
       obtain ⟨ad101,e101,hx101_0⟩:=Kd.jtb HSz12_0 (ji9) p101 q101
       cases e101
       replace hx101_0:=jia HB.out hx101_0
       replace p101:=ezT p101
       replace q101:=ezT q101
       go_wp2
       repeat (go_quiet (fail);try go_wp2)
       go_ret
       exact ⟨by first | rfl |(simp [jvc,juc] <;> rfl) |(simp only [← hji9];first | rfl |(simp [jvc,juc] <;> rfl)) |(simp [*,jvc,juc] <;> rfl),Y14,Y16,Y15⟩
     ·rw [if_neg c10] at H
      exact absurd H (by simp)
    ·rw [if_neg c8] at H
     have c8b0:decide ((wrap64 ((wrap64 (s0_1+1)) - 1))<(s0_0.length:Int))=false:=dzF c8
     clear c8
     by_cases c13:(s0_0.length:Int)=0
     ·rw [if_pos c13] at H
      exact absurd H (by simp)
     ·rw [if_neg c13] at H
      have c13b0:((s0_0.length:Int) == 0)=false:=beq_eq_false_iff_ne.mpr c13
      have c13b1:((s0_0.length:Int) != 0)=true:=bne_iff_ne.mpr c13
      have c13b2:¬ (s0_0=[]):=fun h_=>c13 (by rw [h_];rfl)
      obtain ⟨ji14,hji14⟩:∃ j_:Int,(Int.tmod (wrap64 ((wrap64 (s0_1+1)) - 1)) (s0_0.length:Int))=j_:=⟨_,rfl⟩
      replace H:(if 0≤(ji14) then (if (ji14)<(s0_0.length:Int) then (if 0≤(Int.tmod (wrap64 ((wrap64 ((wrap64 ((wrap64 (s0_1+1)) - 1)) * 7))+3)) (s0_0.length:Int)) then (if (Int.tmod (wrap64 ((wrap64 ((wrap64 ((wrap64 (s0_1+1)) - 1)) * 7))+3)) (s0_0.length:Int))<(s0_0.length:Int) then (if a1=0 then (none) else (some (Int.tmod (Go.bits .xor .i64 (wrap64 ((wrap64 ((wrap64 ((wrap64 ((wrap64 (rd s0_0 (ji14))) * 131))+(wrap64 ((wrap64 (rd s0_0 (Int.tmod (wrap64 ((wrap64 ((wrap64 ((wrap64 (s0_1+1)) - 1)) * 7))+3)) (s0_0.length:Int)))) * 1117))))+(wrap64 ((wrap64 ((wrap64 (s0_1+1)) - 1)) * 29))))+(wrap64 ((wrap64 (Int.tdiv (wrap64 ((wrap64 (s0_1+1)) - 1)) (s0_0.length:Int))) * 53)))) (wrap64 (Int.tdiv (wrap64 ((wrap64 ((wrap64 ((wrap64 ((wrap64 (rd s0_0 (ji14))) * 131))+(wrap64 ((wrap64 (rd s0_0 (Int.tmod (wrap64 ((wrap64 ((wrap64 ((wrap64 (s0_1+1)) - 1)) * 7))+3)) (s0_0.length:Int)))) * 1117))))+(wrap64 ((wrap64 ((wrap64 (s0_1+1)) - 1)) * 29))))+(wrap64 ((wrap64 (Int.tdiv (wrap64 ((wrap64 (s0_1+1)) - 1)) (s0_0.length:Int))) * 53)))) 64))) a1,(wrap64 (s0_1+1))))) else (none)) else (none)) else (none)) else (none))=some (r1,r2):=by first |(rw [hji14] at H;exact H) |(simp only [hji14] at H ⊢;exact H)
      by_cases c15:0≤(ji14)
      ·rw [if_pos c15] at H
       have c15b0:decide (0≤(ji14))=true:=dzT c15
       clear c15
       by_cases c16:(ji14)<(s0_0.length:Int)
       ·rw [if_pos c16] at H
        have c16b0:decide ((ji14)<(s0_0.length:Int))=true:=dzT c16
        clear c16
        obtain ⟨ji17,hji17⟩:∃ j_:Int,(Int.tmod (wrap64 ((wrap64 ((wrap64 ((wrap64 (s0_1+1)) - 1)) * 7))+3)) (s0_0.length:Int))=j_:=⟨_,rfl⟩
        replace H:(if 0≤(ji17) then (if (ji17)<(s0_0.length:Int) then (if a1=0 then (none) else (some (Int.tmod (Go.bits .xor .i64 (wrap64 ((wrap64 ((wrap64 ((wrap64 ((wrap64 (rd s0_0 (ji14))) * 131))+(wrap64 ((wrap64 (rd s0_0 (ji17))) * 1117))))+(wrap64 ((wrap64 ((wrap64 (s0_1+1)) - 1)) * 29))))+(wrap64 ((wrap64 (Int.tdiv (wrap64 ((wrap64 (s0_1+1)) - 1)) (s0_0.length:Int))) * 53)))) (wrap64 (Int.tdiv (wrap64 ((wrap64 ((wrap64 ((wrap64 ((wrap64 (rd s0_0 (ji14))) * 131))+(wrap64 ((wrap64 (rd s0_0 (ji17))) * 1117))))+(wrap64 ((wrap64 ((wrap64 (s0_1+1)) - 1)) * 29))))+(wrap64 ((wrap64 (Int.tdiv (wrap64 ((wrap64 (s0_1+1)) - 1)) (s0_0.length:Int))) * 53)))) 64))) a1,(wrap64 (s0_1+1))))) else (none)) else (none))=some (r1,r2):=by first |(rw [hji17] at H;exact H) |(simp only [hji17] at H ⊢;exact H)
        by_cases c18:0≤(ji17)
        ·rw [if_pos c18] at H
         have c18b0:decide (0≤(ji17))=true:=dzT c18
         clear c18
         by_cases c19:(ji17)<(s0_0.length:Int)
         ·rw [if_pos c19] at H
          have c19b0:decide ((ji17)<(s0_0.length:Int))=true:=dzT c19
          clear c19
          by_cases c20:a1=0
          ·rw [if_pos c20] at H
           exact absurd H (by simp)
          ·rw [if_neg c20] at H
           have c20b0:(a1 == 0)=false:=beq_eq_false_iff_ne.mpr c20
           have c20b1:(a1 != 0)=true:=bne_iff_ne.mpr c20
           simp only [Option.some.injEq,Prod.mk.injEq] at H
           obtain ⟨rfl,rfl⟩:=H
           obtain ⟨ASz21_0,cSz21_0,HGz21,hgz21,HSz21_0⟩:=HI0.out
           have hcz21_0:=cellS72_0 HGz21
           have hcz21_1:=cellS72_1 HGz21
           have hfz21_1:=ja HGz21 1
           clear HGz21 hgz21
           have p102:0≤((ji14):Int):=ozD (uq)
           have q102:(ji14)<(s0_0.length:Int):=ozD (uq)
           obtain ⟨ad102,e102,hx102_0⟩:=Kd.jtb HSz21_0 (ji14) p102 q102
           cases e102
           replace hx102_0:=jia HB.out hx102_0
           replace p102:=ezT p102
           replace q102:=ezT q102
           have p103:0≤((ji17):Int):=ozD (uq)
           have q103:(ji17)<(s0_0.length:Int):=ozD (uq)
           obtain ⟨ad103,e103,hx103_0⟩:=Kd.jtb HSz21_0 (ji17) p103 q103
           obtain rfl:ad102=ad103:=(by injection e103)
           replace hx103_0:=jia HB.out hx103_0
           replace p103:=ezT p103
           replace q103:=ezT q103
           go_wp2
           repeat (go_quiet (fail);try go_wp2)
           go_ret
           exact ⟨by first | rfl |(simp [jvc,juc] <;> rfl) |(simp only [← hji14,← hji17];first | rfl |(simp [jvc,juc] <;> rfl)) |(simp [*,jvc,juc] <;> rfl),Y14,Y16,Y15⟩
         ·rw [if_neg c19] at H
          exact absurd H (by simp)
        ·rw [if_neg c18] at H
         exact absurd H (by simp)
       ·rw [if_neg c16] at H
        exact absurd H (by simp)
      ·rw [if_neg c15] at H
       exact absurd H (by simp)
def jh.f (k : Nat) (s0_0 : List Int) (s0_1 : Int) (l1 : List Int) : Option (Int × Int) := (jg.f k s0_0 s0_1 (l1.length : Int)).bind fun bt104 => (if 0 ≤ bt104.1 then (if bt104.1 < (l1.length : Int) then (some (rd l1 bt104.1, bt104.2)) else (none)) else (none))
set_option maxHeartbeats 8000000 in
set_option maxRecDepth 100000 in
theorem jh.calls (k : Nat) (g : Nat) (s0_0 : List Int) (s0_1 : Int) (A1 : Option Addr) (c1 : Nat) (l1 : List Int) (r1 : Int) (r2 : Int) (w0 w : World) (hI : jf w0 w g s0_0 s0_1) (hB : Below w0.heap.size w0 w) (hr1 : Kd.C (Kd.int .i64) w A1 l1.length l1) (hc1 : l1.length ≤ c1) (hf1 : ∀ ad, A1 = some ad → 0 < l1.length → ad.block ≠ g) (h : jh.f k s0_0 s0_1 l1 = some (r1, r2)) :
  Calls Try.prog 58 #[.pointer (some ⟨g,0,none⟩), .slice A1 l1.length c1] w fun e w'=>e=.returned (.int .i64 r1)∧jf w0 w' g s0_0 r2∧Below w0.heap.size w0 w'∧jb w w' g none:=by
 have HR1:=am hr1
 have HC1:=am hc1
 clear hr1 hc1
 have HI0:=am hI
 have HK:=am (jb.refl w g none)
 have HL:=am hB.size
 clear hI
 have HW0:=am hB.size
 have HB:=am hB
 clear hB
 have H:((jg.f k s0_0 s0_1 (l1.length:Int)).bind fun bt104=>(if 0≤bt104.1 then (if bt104.1<(l1.length:Int) then (some (rd l1 bt104.1,bt104.2)) else (none)) else (none)))=some (r1,r2):=h
 clear h
 replace H:=bzS H
 obtain ⟨⟨t104,t105⟩,A30,H⟩:=H
 replace H:(if 0≤t104 then (if t104<(l1.length:Int) then (some (rd l1 t104,t105)) else (none)) else (none))=some (r1,r2):=H
 have A3:=am A30
 clear A30
 by_cases c4:0≤t104
 ·rw [if_pos c4] at H
  have c4b0:decide (0≤t104)=true:=dzT c4
  clear c4
  by_cases c5:t104<(l1.length:Int)
  ·rw [if_pos c5] at H
   have c5b0:decide (t104<(l1.length:Int))=true:=dzT c5
   clear c5
   simp only [Option.some.injEq,Prod.mk.injEq] at H
   obtain ⟨rfl,rfl⟩:=H
   go_enter Try.func58,Try.ntmps58
   go_wp2_with (first |((with_reducible refine jd (f:=42) rfl ?_);refine gL (some 9) Try.func42 #[.pointer (some ⟨g,0,none⟩), .int .i64 (l1.length:Int)] ?_;(with_reducible refine (jg.calls k g s0_0 s0_1 (l1.length:Int) t104 t105 w0 _ ?side1 ?side2 A3.out).mono ?_);(case side1=>exact Y14);(case side2=>exact Y16);rintro e w6 ⟨rfl,hi,hb,hk⟩;refine ⟨_,rfl,?_⟩;replace HK:=am (jb.trans (Y15) hk (.inl rfl));replace HB:=am (hb);replace HI0:=am (hi);(try clear hb);(try clear hb2);(try clear hk);(try clear hi);have p106:0≤(t104:Int):=ozD (uq);have q106:t104<(l1.length:Int):=ozD (uq);obtain ⟨ad106,e106,hx106_0⟩:=Kd.jtb HR1.out t104 p106 q106;cases e106;replace hx106_0:=keep_cell HK.out hx106_0 (by first |(rw [add_block];exact hf1 _ rfl (by omega)) | exact hf1 _ rfl (by omega) | exact hf1 ad106 rfl (by omega));replace p106:=ezT p106;replace q106:=ezT q106))
   go_ret
   exact ⟨Y0,Y14,Y16,Y15⟩
  ·rw [if_neg c5] at H
   exact absurd H (by simp)
 ·rw [if_neg c4] at H
  exact absurd H (by simp)
def jW.l0 : Nat → List ByteArray → Int → Int → List Int → Int → List (S75) → Option ((List (S75)) × Int)
 | 0,_,_,_,_,_,_=>none
 | k+1,x3,x5,x6,x1000,x1001,x115000=>if x6<x5 then (if 0≤x6 then (if x6<(x3.length:Int) then ((jg.f k x1000 x1001 x6).bind fun bt121=>((jh.f k x1000 bt121.2 (([0,bt121.1,wrap64 (x6 - 1)]:List Int))).bind fun bt126=>(if x115000.length<5864062014805 then (jW.l0 k x3 x5 (wrap64 (x6+1)) x1000 bt126.2 (x115000 ++ [(⟨rdOf ByteArray.empty x3 x6,bt126.1⟩:S75)])) else (none)))) else (none)) else (none)) else (some (x115000,x1001))
def jW.f (k : Nat) (s0_0 : List Int) (s0_1 : Int) : Option ((List (S75)) × Int) := (jh.f k s0_0 s0_1 (([4, 5, 3, 6, 2, 1, 8] : List Int))).bind fun bt118 => (jW.l0 k (([(⟨#[97, 110, 121]⟩ : ByteArray), (⟨#[105, 111]⟩ : ByteArray), (⟨#[107, 101, 121]⟩ : ByteArray), (⟨#[116, 105, 109, 101]⟩ : ByteArray), (⟨#[110, 101, 116]⟩ : ByteArray), (⟨#[100, 105, 115, 107]⟩ : ByteArray), (⟨#[116, 121, 112, 101]⟩ : ByteArray), (⟨#[111, 100, 100]⟩ : ByteArray)] : List ByteArray)) bt118.1 1 s0_0 bt118.2 (([(⟨(⟨#[97, 110, 121]⟩ : ByteArray), (-1)⟩ : S75)] : List (S75))))
def jW.T7 : Bool × List (List Nat × List Nat) := (true, [([], []), ([0], [0]), ([], []), ([], []), ([2, 3], [2, 3]), ([4], [4]), ([], []), ([], []), ([], []), ([7, 8], [7, 8]), ([], []), ([10], [10]), ([9, 11], [9, 11]), ([6, 12, 9], [6, 12]), ([5, 13], [5, 13]), ([14], [14]), ([1, 15, 13], [1, 15]), ([0, 1, 2, 3, 4, 5, 6, 7, 8, 9, 10, 11, 12, 13, 14, 15, 16], []), ([17, 16, 16, 0, 1, 2, 3, 4, 5, 6, 7, 8, 9, 10, 11, 12, 13, 14, 15, 16], [16, 17])])
def jW.B7 : List Nat := [0, 1, 0, 0, 12, 28, 0, 0, 0, 384, 0, 1024, 3968, 8128, 16380, 32764, 65535, 131071, 262143]
theorem jW.tab7 : rtab .any (opsOf Try.f43 7) = jW.T7 := by kernel_rfl
theorem jW.bits7 : jdc jW.T7.2 jW.B7 = true := by kernel_rfl
set_option maxHeartbeats 8000000 in
set_option maxRecDepth 100000 in
theorem jW.calls (k : Nat) (g : Nat) (s0_0 : List Int) (s0_1 : Int) (r1 : List (S75)) (r2 : Int) (w0 w : World) (hI : jf w0 w g s0_0 s0_1) (hB : Below w0.heap.size w0 w) (h : jW.f k s0_0 s0_1 = some (r1, r2)) :
  Calls Try.prog 43 #[.pointer (some ⟨g,0,none⟩)] w fun e w'=>∃ v0_:Value,e=.returned (.agg #[v0_])∧Kd.R k75 75 w' w.heap.size (fun _=>True) v0_ r1∧jf w0 w' g s0_0 r2∧Below w0.heap.size w0 w'∧jb w w' g none:=by
 have hu25:=Try.underlying25
 have hu75:=Try.underlying75
 have HI0:=am hI
 have HK:=am (jb.refl w g none)
 have HL:=am hB.size
 clear hI
 have HW0:=am hB.size
 have HB:=am hB
 clear hB
 have H:((jh.f k s0_0 s0_1 (([4,5,3,6,2,1,8]:List Int))).bind fun bt118=>(jW.l0 k (([(⟨#[97,110,121]⟩:ByteArray),(⟨#[105,111]⟩:ByteArray),(⟨#[107,101,121]⟩:ByteArray),(⟨#[116,105,109,101]⟩:ByteArray),(⟨#[110,101,116]⟩:ByteArray),(⟨#[100,105,115,107]⟩:ByteArray),(⟨#[116,121,112,101]⟩:ByteArray),(⟨#[111,100,100]⟩:ByteArray)]:List ByteArray)) bt118.1 1 s0_0 bt118.2 (([(⟨(⟨#[97,110,121]⟩:ByteArray),(-1)⟩:S75)]:List (S75)))))=some (r1,r2):=h
 clear h
 obtain ⟨y108,hy108⟩:∃ y_:List ByteArray,y_=(([(⟨#[97,110,121]⟩:ByteArray),(⟨#[105,111]⟩:ByteArray),(⟨#[107,101,121]⟩:ByteArray),(⟨#[116,105,109,101]⟩:ByteArray),(⟨#[110,101,116]⟩:ByteArray),(⟨#[100,105,115,107]⟩:ByteArray),(⟨#[116,121,112,101]⟩:ByteArray),(⟨#[111,100,100]⟩:ByteArray)]:List ByteArray)):=⟨_,rfl⟩
 replace H:((jh.f k s0_0 s0_1 (([4,5,3,6,2,1,8]:List Int))).bind fun bt118=>(jW.l0 k y108 bt118.1 1 s0_0 bt118.2 (([(⟨(⟨#[97,110,121]⟩:ByteArray),(-1)⟩:S75)]:List (S75)))))=some (r1,r2):=by first |(rw [hy108];with_reducible exact H) |(have H2_:=(Option.bind_some _ _).symm.trans H;rw [hy108];with_reducible exact H2_) |(have H2_:=(Option.bind_some _ _).symm.trans H;with_reducible exact H2_) | with_reducible exact H |(rw [hy108];exact H) | exact H
 have Ny108:=am hy108
 clear hy108
 obtain ⟨y111,hy111⟩:∃ y_:List (S75),y_=(([(⟨(⟨#[97,110,121]⟩:ByteArray),(-1)⟩:S75)]:List (S75))):=⟨_,rfl⟩
 replace H:((jh.f k s0_0 s0_1 (([4,5,3,6,2,1,8]:List Int))).bind fun bt118=>(jW.l0 k y108 bt118.1 1 s0_0 bt118.2 y111))=some (r1,r2):=by first |(rw [hy111];with_reducible exact H) |(have H2_:=(Option.bind_some _ _).symm.trans H;rw [hy111];with_reducible exact H2_) |(have H2_:=(Option.bind_some _ _).symm.trans H;with_reducible exact H2_) | with_reducible exact H |(rw [hy111];exact H) | exact H
 have Ny111:=am hy111
 clear hy111
 obtain ⟨y115,hy115⟩:∃ y_:List Int,y_=(([4,5,3,6,2,1,8]:List Int)):=⟨_,rfl⟩
 replace H:((jh.f k s0_0 s0_1 y115).bind fun bt118=>(jW.l0 k y108 bt118.1 1 s0_0 bt118.2 y111))=some (r1,r2):=by first |(rw [hy115];with_reducible exact H) |(have H2_:=(Option.bind_some _ _).symm.trans H;rw [hy115];with_reducible exact H2_) |(have H2_:=(Option.bind_some _ _).symm.trans H;with_reducible exact H2_) | with_reducible exact H |(rw [hy115];exact H) | exact H
 have Ny115:=am hy115
 clear hy115
 replace H:=bzS H
 obtain ⟨⟨t118,t119⟩,A20,H⟩:=H
 replace H:(jW.l0 k y108 t118 1 s0_0 t119 y111)=some (r1,r2):=H
 have A2:=am A20
 clear A20
 have H':=am H
 clear H
 go_enter Try.func43,Try.ntmps43
 go_wp2_with (first |((with_reducible refine jJ (N:=2) rfl ?_);refine bE (N:=2) (cs:=#[.slice none 0 0]) (t:=25) ?_;intro gb107 hg w3 hbox hb;have BK107:=am (hbox);have GW107:=am ((Y11:w.heap.size≤gb107));have GE107:=am ((Nat.le_trans HW0.out (Y11:w.heap.size≤gb107):w0.heap.size≤gb107));have NB0_107:=am ((Y21:g≠gb107));have NB107_0:=am ((Y22:gb107≠g));replace HK:=am (jb.trans (Y15) (jb.of_below hb g none) (.inl rfl));replace HB:=am (je (Y16) hb);replace HI0:=am (jf.below (Y14) hb);clear hb hbox hg) |((with_reducible refine jJ (N:=7) rfl ?_);refine Kd.jfc Kd.string _ 9 ?hg (N:=7) ?hd (xs:=([(⟨#[97,110,121]⟩:ByteArray),(⟨#[105,111]⟩:ByteArray),(⟨#[107,101,121]⟩:ByteArray),(⟨#[116,105,109,101]⟩:ByteArray),(⟨#[110,101,116]⟩:ByteArray),(⟨#[100,105,115,107]⟩:ByteArray),(⟨#[116,121,112,101]⟩:ByteArray),(⟨#[111,100,100]⟩:ByteArray)]:List ByteArray)) (inner:=[.string (⟨#[97,110,121]⟩:ByteArray), .string (⟨#[105,111]⟩:ByteArray), .string (⟨#[107,101,121]⟩:ByteArray), .string (⟨#[116,105,109,101]⟩:ByteArray), .string (⟨#[110,101,116]⟩:ByteArray), .string (⟨#[100,105,115,107]⟩:ByteArray), .string (⟨#[116,121,112,101]⟩:ByteArray), .string (⟨#[111,100,100]⟩:ByteArray)]) (ok:=fun _=>True) (okp:=fun _=>True) ?hr ?hp (fun _ hk=>hk) trivial (Below.refl _ _) (Nat.le_refl _) (by simp) ?_;(case hd=>rfl);(case hg=>rfl);(case hr=>exact Y5);(case hp=>exact (Reps.one (show Kd.M Kd.string _ _ _ (⟨#[97,110,121]⟩:ByteArray) [.string (⟨#[97,110,121]⟩:ByteArray)] from rfl) (Reps.one (show Kd.M Kd.string _ _ _ (⟨#[105,111]⟩:ByteArray) [.string (⟨#[105,111]⟩:ByteArray)] from rfl) (Reps.one (show Kd.M Kd.string _ _ _ (⟨#[107,101,121]⟩:ByteArray) [.string (⟨#[107,101,121]⟩:ByteArray)] from rfl) (Reps.one (show Kd.M Kd.string _ _ _ (⟨#[116,105,109,101]⟩:ByteArray) [.string (⟨#[116,105,109,101]⟩:ByteArray)] from rfl) (Reps.one (show Kd.M Kd.string _ _ _ (⟨#[110,101,116]⟩:ByteArray) [.string (⟨#[110,101,116]⟩:ByteArray)] from rfl) (Reps.one (show Kd.M Kd.string _ _ _ (⟨#[100,105,115,107]⟩:ByteArray) [.string (⟨#[100,105,115,107]⟩:ByteArray)] from rfl) (Reps.one (show Kd.M Kd.string _ _ _ (⟨#[116,121,112,101]⟩:ByteArray) [.string (⟨#[116,121,112,101]⟩:ByteArray)] from rfl) (Reps.one (show Kd.M Kd.string _ _ _ (⟨#[111,100,100]⟩:ByteArray) [.string (⟨#[111,100,100]⟩:ByteArray)] from rfl) (Reps.none _ _))))))))));intro v109 w4 ho5 hb hg_ hnew_;clear hg_ hnew_;(first | rw [← Ny108.out] at ho5 |(simp only [Int.reduceToNat] at ho5;rw [← Ny108.out] at ho5));have HO110:=am (Kd.jaa ho5 (jN (w:=w) (g:=g) (row:=none) (Y78)));replace BK107:=am (jk (g:=gb107) (o:=.cells #[.slice none 0 0] 25 (0,0)) (kq BK107.out) hb);replace HK:=am (jb.trans (Y78) (jb.of_below hb g none) (.inl rfl));replace HB:=am (je (Y101) hb);replace HI0:=am (jf.below (Y102) hb);clear hb ho5) |((with_reducible refine jJ (N:=9) rfl ?_);refine Kd.jfc k75 _ 75 ?hg (N:=9) ?hd (xs:=([(⟨(⟨#[97,110,121]⟩:ByteArray),(-1)⟩:S75)]:List (S75))) (inner:=[.string (⟨#[97,110,121]⟩:ByteArray), .int .i64 (-1)]) (ok:=fun _=>True) (okp:=fun _=>True) ?hr ?hp (fun _ hk=>hk) trivial (Below.refl _ _) (Nat.le_refl _) (by simp) ?_;(case hd=>rfl);(case hg=>rfl);(case hr=>exact Y5);(case hp=>exact (Reps.c2 (show Kd.M k75 _ _ _ (⟨(⟨#[97,110,121]⟩:ByteArray),(-1)⟩:S75) [.string (⟨#[97,110,121]⟩:ByteArray), .int .i64 (-1)] from (k75_mkM _ _ _ (⟨(⟨#[97,110,121]⟩:ByteArray),(-1)⟩:S75) )) (Reps.none _ _)));intro v112 w6 ho7 hb hg_ hnew_;clear hg_ hnew_;(first | rw [← Ny111.out] at ho7 |(simp only [Int.reduceToNat] at ho7;rw [← Ny111.out] at ho7));have HO113:=am (Kd.jaa ho7 (jN (w:=w) (g:=g) (row:=none) (Y78)));replace HO110:=am (Kd.jZ (rq HO110.out) hb);replace BK107:=am (jk (g:=gb107) (o:=.cells #[.slice none 0 0] 25 (0,0)) (kq BK107.out) hb);replace HK:=am (jb.trans (Y78) (jb.of_below hb g none) (.inl rfl));replace HB:=am (je (Y101) hb);replace HI0:=am (jf.below (Y102) hb);clear hb ho7;obtain ⟨Ao8,co8,eo8⟩:=Kd.jka HO113.out;subst eo8) |((with_reducible refine jJ (N:=4) rfl ?_);refine bE (N:=4) (cs:=#[.slice none 0 0]) (t:=25) ?_;intro gb114 hg w9 hbox hb;have BK114:=am (hbox);have GW114:=am ((Y110:w.heap.size≤gb114));have GE114:=am ((Nat.le_trans HW0.out (Y110:w.heap.size≤gb114):w0.heap.size≤gb114));have NB107_114:=am ((by rw [hg];exact Nat.ne_of_lt (jDb (g:=gb107) (o:=.cells #[.slice none 0 0] 25 (0,0)) (kq BK107.out)):gb107≠gb114));have NB114_107:=am ((by rw [hg];exact Nat.ne_of_gt (jDb (g:=gb107) (o:=.cells #[.slice none 0 0] 25 (0,0)) (kq BK107.out)):gb114≠gb107));have NB0_114:=am ((by rw [hg];exact Nat.ne_of_lt (jf.lt (show jf w0 _ g s0_0 s0_1 from by repeat (first |(with_reducible first | exact HI0.out | apply jf.alloc | apply jf.drewN | apply jf.drew | apply jf.jkc | refine jf.far ?_ NB0_107.out _) | exact HI0.out))):g≠gb114));have NB114_0:=am ((by rw [hg];exact Nat.ne_of_gt (jf.lt (show jf w0 _ g s0_0 s0_1 from by repeat (first |(with_reducible first | exact HI0.out | apply jf.alloc | apply jf.drewN | apply jf.drew | apply jf.jkc | refine jf.far ?_ NB0_107.out _) | exact HI0.out))):gb114≠g));replace HO110:=am (Kd.jZ (rq HO110.out) hb);replace HO113:=am (Kd.jZ (rq HO113.out) hb);replace BK107:=am (jk (g:=gb107) (o:=.cells #[.slice none 0 0] 25 (0,0)) (kq BK107.out) hb);replace HK:=am (jb.trans (Y78) (jb.of_below hb g none) (.inl rfl));replace HB:=am (je (Y101) hb);replace HI0:=am (jf.below (Y102) hb);clear hb hbox hg;have hnb10:=NB114_107.out;have hnc10:=NB107_114.out;have hnb11:=NB114_0.out;have hnc11:=NB0_114.out;have hcz12_0:=bc0 BK114.out;have hfz12_0:=ja BK114.out 0) |((with_reducible refine jJ (N:=12) rfl ?_);refine Kd.jfc (Kd.int .i64) _ 3 ?hg (N:=12) ?hd (xs:=([4,5,3,6,2,1,8]:List Int)) (inner:=[.int .i64 4, .int .i64 5, .int .i64 3, .int .i64 6, .int .i64 2, .int .i64 1, .int .i64 8]) (ok:=fun _=>True) (okp:=fun _=>True) ?hr ?hp (fun _ hk=>hk) trivial (Below.refl _ _) (Nat.le_refl _) (by simp) ?_;(case hd=>rfl);(case hg=>rfl);(case hr=>exact Y5);(case hp=>exact (Reps.one (show Kd.M (Kd.int .i64) _ _ _ 4 [.int .i64 4] from rfl) (Reps.one (show Kd.M (Kd.int .i64) _ _ _ 5 [.int .i64 5] from rfl) (Reps.one (show Kd.M (Kd.int .i64) _ _ _ 3 [.int .i64 3] from rfl) (Reps.one (show Kd.M (Kd.int .i64) _ _ _ 6 [.int .i64 6] from rfl) (Reps.one (show Kd.M (Kd.int .i64) _ _ _ 2 [.int .i64 2] from rfl) (Reps.one (show Kd.M (Kd.int .i64) _ _ _ 1 [.int .i64 1] from rfl) (Reps.one (show Kd.M (Kd.int .i64) _ _ _ 8 [.int .i64 8] from rfl) (Reps.none _ _)))))))));intro v116 w13 ho14 hb hg_ hnew_;clear hg_ hnew_;(first | rw [← Ny115.out] at ho14 |(simp only [Int.reduceToNat] at ho14;rw [← Ny115.out] at ho14));have HO117:=am (Kd.jaa ho14 (jN (w:=w) (g:=g) (row:=none) (Y37)));replace HO110:=am (Kd.jZ (by (with_reducible repeat (first | apply Kd.jga | apply Kd.jfa | apply Kd.jea));exact (Kd.jI (Kd.jQb (p:=⟨gb114,0,none⟩) (Kd.jQa HO110.out BK114.out (by decide)) (fun _ hk=>hk.2) (.slice Ao8 y111.length co8)) (fun _ h_=>h_.1))) hb);replace HO113:=am (Kd.jZ (by (with_reducible repeat (first | apply Kd.jga | apply Kd.jfa | apply Kd.jea));exact (Kd.jI (Kd.jQb (p:=⟨gb114,0,none⟩) (Kd.jQa HO113.out BK114.out (by decide)) (fun _ hk=>hk.2) (.slice Ao8 y111.length co8)) (fun _ h_=>h_.1))) hb);replace BK107:=am (jk (g:=gb107) (o:=.cells #[.slice none 0 0] 25 (0,0)) (by (with_reducible repeat (first | refine jr ?_ _ | refine jw ?_ | refine jA ?_ _));refine jnb ?_ NB107_114.out _;(with_reducible repeat (first | refine jr ?_ _ | refine jw ?_ | refine jA ?_ _));exact BK107.out) hb);replace BK114:=am (jk (g:=gb114) (o:=.cells #[.slice Ao8 y111.length co8] 25 (0,0)) (by (with_reducible repeat (first | refine jr ?_ _ | refine jw ?_ | refine jA ?_ _));refine jab (cs:=#[.slice none 0 0]) ?_ 0 _ rfl;(with_reducible repeat (first | refine jr ?_ _ | refine jw ?_ | refine jA ?_ _));exact BK114.out) hb);replace HK:=am (jb.trans (Y37) (jb.of_below hb g none) (.inl rfl));replace HB:=am (je (Y47) hb);replace HI0:=am (jf.below (show jf w0 (w9.setCell ⟨gb114,0,none⟩ (.slice Ao8 y111.length co8)) g s0_0 s0_1 from Y28) hb);clear hb ho14;obtain ⟨Ao15,co15,eo15⟩:=Kd.jka HO117.out;subst eo15) |((with_reducible refine jd (f:=58) rfl ?_);refine gL (some 13) Try.func58 #[.pointer (some ⟨g,0,none⟩), .slice Ao15 y115.length co15] ?_;(with_reducible refine (jh.calls k g s0_0 s0_1 _ _ y115 t118 t119 w0 _ ?side1 ?side2 ?side3 ?side4 ?side5 A2.out).mono ?_);(case side1=>exact Y28);(case side2=>exact Y47);(case side3=>exact cq (Kd.jy HO117.out).2.2);(case side4=>exact (Kd.jy HO117.out).2.1);(case side5=>exact jzb (jf.own_ne HI0.out HO117.out (by decide)));rintro e w16 ⟨rfl,hi,hb,hk⟩;refine ⟨_,rfl,?_⟩;replace BK107:=am (jb.blk hk (g':=gb107) (o:=.cells #[.slice none 0 0] 25 (0,0)) (kq BK107.out) NB107_0.out (by simp));replace HO110:=am (Kd.jI (Kd.jxa (jf.apart (show jf w0 _ g s0_0 s0_1 from Y28) (rq HO110.out) (by decide)) hk (fun _ h=>h.2)) (fun _ h=>h.1));replace HO113:=am (Kd.jI (Kd.jxa (jf.apart (show jf w0 _ g s0_0 s0_1 from Y28) (rq HO113.out) (by decide)) hk (fun _ h=>h.2)) (fun _ h=>h.1));replace BK114:=am (jb.blk hk (g':=gb114) (o:=.cells #[.slice Ao8 y111.length co8] 25 (0,0)) (kq BK114.out) NB114_0.out (by simp));replace HO117:=am (Kd.jI (Kd.jxa (jf.apart (show jf w0 _ g s0_0 s0_1 from Y28) (rq HO117.out) (by decide)) hk (fun _ h=>h.2)) (fun _ h=>h.1));replace HK:=am (jb.trans (Y37) hk (.inl rfl));replace HB:=am (hb);replace HI0:=am (hi);(try clear hb);(try clear hb2);(try clear hk);(try clear hi)))
 go_loopg [6] k (fun kq v6 w'=>∃ (x6_1:Int) (x1001_1:Int) (x115000_1:List (S75)) (u115000:Value),v6=.int .i64 x6_1∧jq (jW.l0 kq y108 t118 x6_1 s0_0 x1001_1 x115000_1=some (r1,r2))∧jq (kq≤k)∧jq (Kd.R Kd.string 9 w' w.heap.size (fun _=>True) v109 y108)∧jq (Kd.R k75 75 w' w.heap.size (fun _=>True) u115000 x115000_1)∧jq (w'.heap[gb107]?=some (.cells #[(.slice none 0 0)] 25 (0,0)))∧jq (w'.heap[gb114]?=some (.cells #[u115000] 25 (0,0)))∧jq (jf w0 w' g s0_0 x1001_1)∧jq (jb w w' g none)∧jq (Below w0.heap.size w0 w'))
 case atStart=>exact ⟨(1),(t119),(y111),(.slice Ao8 y111.length co8),(sq),H',⟨Nat.le_refl _⟩,⟨rq HO110.out⟩,⟨rq HO113.out⟩,⟨kq BK107.out⟩,⟨kq BK114.out⟩,⟨Y28⟩,⟨Y37⟩,⟨Y47⟩⟩
 case round =>
  clear H'
  try clear c1
  try clear c2
  try clear p2
  try clear c4
  try clear c5
  try clear c10
  try clear c11
  try clear hcz12_0
  try clear hfz12_0
  obtain ⟨x6_1,x1001_1,x115000_1,u115000,rfl,HA,HK1,HO_3,HO_115000,BK107,BK114,HI0,HK,HB⟩:=hrel
  cases gk with
  | zero=>exact absurd HA.out (by simp [jW.l0])
  | succ k1 =>
   have H:=HA.out
   clear HA
   simp only [jW.l0] at H
   by_cases c17:x6_1<t118
   ·rw [if_pos c17] at H
    have c17b0:decide (x6_1<t118)=true:=dzT c17
    clear c17
    by_cases c18:0≤x6_1
    ·rw [if_pos c18] at H
     have c18b0:decide (0≤x6_1)=true:=dzT c18
     clear c18
     by_cases c19:x6_1<(y108.length:Int)
     ·rw [if_pos c19] at H
      have c19b0:decide (x6_1<(y108.length:Int))=true:=dzT c19
      clear c19
      replace H:=bzS H
      obtain ⟨⟨t121,t122⟩,A200,H⟩:=H
      replace H:((jh.f k1 s0_0 t122 (([0,t121,wrap64 (x6_1 - 1)]:List Int))).bind fun bt126=>(if x115000_1.length<5864062014805 then (jW.l0 k1 y108 t118 (wrap64 (x6_1+1)) s0_0 bt126.2 (x115000_1 ++ [(⟨rdOf ByteArray.empty y108 x6_1,bt126.1⟩:S75)])) else (none)))=some (r1,r2):=H
      have A20:=am A200
      clear A200
      obtain ⟨y123,hy123⟩:∃ y_:List Int,y_=(([0,t121,wrap64 (x6_1 - 1)]:List Int)):=⟨_,rfl⟩
      replace H:((jh.f k1 s0_0 t122 y123).bind fun bt126=>(if x115000_1.length<5864062014805 then (jW.l0 k1 y108 t118 (wrap64 (x6_1+1)) s0_0 bt126.2 (x115000_1 ++ [(⟨rdOf ByteArray.empty y108 x6_1,bt126.1⟩:S75)])) else (none)))=some (r1,r2):=by first |(rw [hy123];with_reducible exact H) |(have H2_:=(Option.bind_some _ _).symm.trans H;rw [hy123];with_reducible exact H2_) |(have H2_:=(Option.bind_some _ _).symm.trans H;with_reducible exact H2_) | with_reducible exact H |(rw [hy123];exact H) | exact H
      have Ny123:=am hy123
      clear hy123
      replace H:=bzS H
      obtain ⟨⟨t126,t127⟩,A210,H⟩:=H
      replace H:(if x115000_1.length<5864062014805 then (jW.l0 k1 y108 t118 (wrap64 (x6_1+1)) s0_0 t127 (x115000_1 ++ [(⟨rdOf ByteArray.empty y108 x6_1,t126⟩:S75)])) else (none))=some (r1,r2):=H
      have A21:=am A210
      clear A210
      by_cases c22:x115000_1.length<5864062014805
      ·rw [if_pos c22] at H
       have LMc22:=am c22
       clear c22
       obtain ⟨y128,hy128⟩:∃ y_:List (S75),y_=(x115000_1 ++ [(⟨rdOf ByteArray.empty y108 x6_1,t126⟩:S75)]):=⟨_,rfl⟩
       replace H:(jW.l0 k1 y108 t118 (wrap64 (x6_1+1)) s0_0 t127 y128)=some (r1,r2):=by first |(rw [hy128];with_reducible exact H) |(have H2_:=(Option.bind_some _ _).symm.trans H;rw [hy128];with_reducible exact H2_) |(have H2_:=(Option.bind_some _ _).symm.trans H;with_reducible exact H2_) | with_reducible exact H |(rw [hy128];exact H) | exact H
       have Ny128:=am hy128
       clear hy128
       have H':=am H
       clear H
       try go_wp2
       replace HO_3:=am (Kd.jea HO_3.out)
       replace HO_115000:=am (Kd.jea HO_115000.out)
       replace BK107:=am (jw BK107.out)
       replace BK114:=am (jw BK114.out)
       replace HI0:=am (jf.drew HI0.out)
       replace HK:=am (jNa HK.out)
       replace HB:=am (jE HB.out)
       obtain ⟨Ao24,co24,eo24⟩:=Kd.jka HO_3.out
       (first | subst eo24 |(injection eo24 with f1_ f2_ f3_;have f4_:=f1_.symm;have f5_:=f3_.symm;clear f1_ f2_ f3_;subst f4_;subst f5_))
       have p120:0≤(x6_1:Int):=ozD (uq)
       have q120:x6_1<(y108.length:Int):=ozD (uq)
       obtain ⟨ad120,e120,hx120_0⟩:=Kd.at_string (Kd.jy HO_3.out).2.2 x6_1 p120 q120
       cases e120
       replace p120:=ezT p120
       replace q120:=ezT q120
       refine jlc (n:=19) (S:=fun w'=>w'.cell? ⟨gb114,0,none⟩=some (u115000)∧w'.cell? (ad120.add (x6_1).toNat)=some (.string (rdOf ByteArray.empty y108 x6_1))) (ds:=[16,18]) #[false,false,false,false,false,false,false,false,false,false,false,false,false,false,false,false,false,false,false] (by kernel_rfl) rfl rfl ⟨(jF BK114.out 0).trans rfl,hx120_0⟩ (fun hHeld=>?_);refine jqb jW.tab7 jW.bits7 (fun HT_ HW_=>?_)
       generalize wr.drew=w23 at HO_3 HO_115000 BK107 BK114 HI0 HK HB hx120_0 hHeld ⊢
       refine pq (i:=0) (N:=some 19) #[true,false,false,false,false,false,false,false,false,false,false,false,false,false,false,false,false,false,false] ?_
       refine pq (i:=2) (N:=some 21) #[true,false,true,false,false,false,false,false,false,false,false,false,false,false,false,false,false,false,false] ?_
       refine pq (i:=3) (N:=some 22) #[true,false,true,true,false,false,false,false,false,false,false,false,false,false,false,false,false,false,false] ?_
       refine pq (i:=4) (N:=some 23) #[true,false,true,true,true,false,false,false,false,false,false,false,false,false,false,false,false,false,false] ?_
       refine pq (i:=6) (N:=some 25) #[true,false,true,true,true,false,true,false,false,false,false,false,false,false,false,false,false,false,false] ?_
       refine pq (i:=7) (N:=some 26) #[true,false,true,true,true,false,true,true,false,false,false,false,false,false,false,false,false,false,false] ?_
       refine pq (i:=8) (N:=some 27) #[true,false,true,true,true,false,true,true,true,false,false,false,false,false,false,false,false,false,false] ?_
       refine pq (i:=10) (N:=some 29) #[true,false,true,true,true,false,true,true,true,false,true,false,false,false,false,false,false,false,false] ?_
       refine pq (i:=11) (N:=some 30) #[true,false,true,true,true,false,true,true,true,false,true,true,false,false,false,false,false,false,false] ?_
       refine jwb (i:=1) (N:=some 20) (v:=?_) (a':=?_) #[true,true,true,true,true,false,true,true,true,false,true,true,false,false,false,false,false,false,false] rfl rfl (jua HT_.out HW_.out (by kernel_rfl)) (fun _ _ _ h=>h) (Or.inl ⟨by rfl,?_⟩) hHeld ?_ ?_
       rotate_left
       ·rintro w' ⟨s0,s1⟩
        go_simp
        with_reducible rfl
       rotate_left
       ·exact sa
       refine jwb (i:=5) (N:=some 24) (v:=?_) (a':=?_) #[true,true,true,true,true,true,true,true,true,false,true,true,false,false,false,false,false,false,false] rfl rfl (jua HT_.out HW_.out (by kernel_rfl)) (fun _ _ _ h=>h) (Or.inl ⟨by rfl,?_⟩) hHeld ?_ ?_
       rotate_left
       ·rintro w' ⟨s0,s1⟩
        go_simp
        with_reducible rfl
       rotate_left
       ·exact sa
       refine one_ (i:=9) (N:=some 28) #[true,true,true,true,true,true,true,true,true,true,true,true,false,false,false,false,false,false,false] rfl rfl (jyb HT_.out (by kernel_rfl)) (by decide) (fun K hK=>?_)
       refine jPc Try.func42 (by kernel_rfl) rfl #[.pointer (some ⟨g,0,none⟩), .int .i64 x6_1] (by rfl) rfl rfl (aq) ?_
       with_reducible refine (jg.calls k1 g s0_0 x1001_1 x6_1 t121 t122 w0 _ ?side1 ?side2 A20.out).mono ?_
       (case side1=>exact Y28)
       (case side2=>exact Y47)
       rintro e w25 ⟨rfl,hi,hb,hk⟩
       have HS1_:=keep_cell hk (hHeld.2) (Y111)
       refine ⟨_,rfl,?_⟩
       replace HO_3:=am (Kd.jI (Kd.jxa (jf.apart (show jf w0 _ g s0_0 x1001_1 from Y28) (rq HO_3.out) (by decide)) hk (fun _ h=>h.2)) (fun _ h=>h.1))
       replace HO_115000:=am (Kd.jI (Kd.jxa (jf.apart (show jf w0 _ g s0_0 x1001_1 from Y28) (rq HO_115000.out) (by decide)) hk (fun _ h=>h.2)) (fun _ h=>h.1))
       replace BK107:=am (jb.blk hk (g':=gb107) (o:=.cells #[.slice none 0 0] 25 (0,0)) (kq BK107.out) NB107_0.out (by simp))
       replace BK114:=am (jb.blk hk (g':=gb114) (o:=.cells #[u115000] 25 (0,0)) (kq BK114.out) NB114_0.out (by simp))
       replace HK:=am (jb.trans (Y37) hk (.inl rfl))
       replace HB:=am (hb)
       replace HI0:=am (hi)
       (try clear hb)
       (try clear hb2)
       (try clear hk)
       (try clear hi)
       refine hK.out _ _ ⟨(jF BK114.out 0).trans rfl,HS1_⟩ (fun hHeld=>?_)
       clear hK K
       refine jWb (a':=?_) ?_ ?_
       rotate_left
       ·show Act.put _ (some 28) _=_
        simp only [Act.put,List.setIfInBounds_toArray,List.set_cons_zero,List.set_cons_succ,jkb,jmb]
        rfl
       refine one_ (i:=12) (N:=some 31) #[true,true,true,true,true,true,true,true,true,true,true,true,true,false,false,false,false,false,false] rfl rfl (jyb HT_.out (by kernel_rfl)) (by decide) (fun K hK=>?_)
       refine Kd.jpc (Kd.int .i64) _ 3 ?hg (N:=31) ?hd (xs:=([0,t121,wrap64 (x6_1 - 1)]:List Int)) (inner:=[.int .i64 0, .int .i64 t121, .int .i64 (wrap64 (x6_1 - 1))]) (ok:=fun _=>True) (okp:=fun _=>True) ?hr ?hp (fun _ hk=>hk) trivial (Below.refl _ _) (Nat.le_refl _) (by simp) ?_;(case hd=>rfl);(case hg=>rfl);(case hr=>exact Y5);(case hp=>exact (Reps.one (show Kd.M (Kd.int .i64) _ _ _ 0 [.int .i64 0] from rfl) (Reps.one (show Kd.M (Kd.int .i64) _ _ _ t121 [.int .i64 t121] from rfl) (Reps.one (show Kd.M (Kd.int .i64) _ _ _ (wrap64 (x6_1 - 1)) [.int .i64 (wrap64 (x6_1 - 1))] from rfl) (Reps.none _ _)))))
       intro v124 w26 ho27 hb hg_ hnew_
       have HS1_:=(hb.cell (World.block_lt_of_cell? _ _ (hHeld.2))).trans (hHeld.2)
       clear hg_ hnew_
       (first | rw [← Ny123.out] at ho27 |(simp only [Int.reduceToNat] at ho27;rw [← Ny123.out] at ho27))
       have HO125:=am (Kd.jaa ho27 (jN (w:=w) (g:=g) (row:=none) (Y37)))
       replace HO_3:=am (Kd.jZ (rq HO_3.out) hb)
       replace HO_115000:=am (Kd.jZ (rq HO_115000.out) hb)
       replace BK107:=am (jk (g:=gb107) (o:=.cells #[.slice none 0 0] 25 (0,0)) (kq BK107.out) hb)
       replace BK114:=am (jk (g:=gb114) (o:=.cells #[u115000] 25 (0,0)) (kq BK114.out) hb)
       replace HK:=am (jb.trans (Y37) (jb.of_below hb g none) (.inl rfl))
       replace HB:=am (je (Y47) hb)
       replace HI0:=am (jf.below (Y28) hb)
       clear hb ho27
       obtain ⟨Ao28,co28,eo28⟩:=Kd.jka HO125.out
       (first | subst eo28 |(injection eo28 with f1_ f2_ f3_;have f4_:=f1_.symm;have f5_:=f3_.symm;clear f1_ f2_ f3_;subst f4_;subst f5_))
       refine hK.out _ _ ⟨(jF BK114.out 0).trans rfl,HS1_⟩ (fun hHeld=>?_)
       clear hK K
       refine jWb (a':=?_) ?_ ?_
       rotate_left
       ·show Act.put _ (some 31) _=_
        simp only [Act.put,List.setIfInBounds_toArray,List.set_cons_zero,List.set_cons_succ,jkb,jmb]
        rfl
       refine one_ (i:=13) (N:=some 32) #[true,true,true,true,true,true,true,true,true,true,true,true,true,true,false,false,false,false,false] rfl rfl (jyb HT_.out (by kernel_rfl)) (by decide) (fun K hK=>?_)
       refine jPc Try.func58 (by kernel_rfl) rfl #[.pointer (some ⟨g,0,none⟩), .slice Ao28 y123.length co28] (by rfl) rfl rfl (aq) ?_
       with_reducible refine (jh.calls k1 g s0_0 t122 _ _ y123 t126 t127 w0 _ ?side1 ?side2 ?side3 ?side4 ?side5 A21.out).mono ?_
       (case side1=>exact Y28)
       (case side2=>exact Y47)
       (case side3=>exact cq (Kd.jy HO125.out).2.2)
       (case side4=>exact (Kd.jy HO125.out).2.1)
       (case side5=>exact jzb (jf.own_ne HI0.out HO125.out (by decide)))
       rintro e w29 ⟨rfl,hi,hb,hk⟩
       have HS1_:=keep_cell hk (hHeld.2) (Y111)
       refine ⟨_,rfl,?_⟩
       replace HO_3:=am (Kd.jI (Kd.jxa (jf.apart (show jf w0 _ g s0_0 t122 from Y28) (rq HO_3.out) (by decide)) hk (fun _ h=>h.2)) (fun _ h=>h.1))
       replace HO_115000:=am (Kd.jI (Kd.jxa (jf.apart (show jf w0 _ g s0_0 t122 from Y28) (rq HO_115000.out) (by decide)) hk (fun _ h=>h.2)) (fun _ h=>h.1))
       replace BK107:=am (jb.blk hk (g':=gb107) (o:=.cells #[.slice none 0 0] 25 (0,0)) (kq BK107.out) NB107_0.out (by simp))
       replace BK114:=am (jb.blk hk (g':=gb114) (o:=.cells #[u115000] 25 (0,0)) (kq BK114.out) NB114_0.out (by simp))
       replace HO125:=am (Kd.jI (Kd.jxa (jf.apart (show jf w0 _ g s0_0 t122 from Y28) (rq HO125.out) (by decide)) hk (fun _ h=>h.2)) (fun _ h=>h.1))
       replace HK:=am (jb.trans (Y37) hk (.inl rfl))
       replace HB:=am (hb)
       replace HI0:=am (hi)
       (try clear hb)
       (try clear hb2)
       (try clear hk)
       (try clear hi)
       refine hK.out _ _ ⟨(jF BK114.out 0).trans rfl,HS1_⟩ (fun hHeld=>?_)
       clear hK K
       refine jWb (a':=?_) ?_ ?_
       rotate_left
       ·show Act.put _ (some 32) _=_
        simp only [Act.put,List.setIfInBounds_toArray,List.set_cons_zero,List.set_cons_succ,jkb,jmb]
        rfl
       refine pq (i:=14) (N:=some 33) #[true,true,true,true,true,true,true,true,true,true,true,true,true,true,true,false,false,false,false] ?_
       refine one_ (i:=15) (N:=some 34) #[true,true,true,true,true,true,true,true,true,true,true,true,true,true,true,true,false,false,false] rfl rfl (jyb HT_.out (by kernel_rfl)) (by decide) (fun K hK=>?_)
       refine value_ (w1:=?_) (v:=?_) (by rfl) rfl ?_ ?_
       rotate_left 2
       ·go_simp
        constructor
        ·rfl
        ·rfl
       refine hK.out _ _ ⟨(jF (jA BK114.out _) 0).trans rfl,(World.cell?_alloc_lt _ _ _ (World.block_lt_of_cell? _ _ (hHeld.2))).trans (hHeld.2)⟩ (fun hHeld=>?_)
       clear hK K
       refine jWb (a':=?_) ?_ ?_
       rotate_left
       ·show Act.put _ (some 34) _=_
        simp only [Act.put,List.setIfInBounds_toArray,List.set_cons_zero,List.set_cons_succ,jkb,jmb]
        rfl
       refine last_ (i:=16) (N:=some 35) #[true,true,true,true,true,true,true,true,true,true,true,true,true,true,true,true,true,false,false] rfl rfl (jyb HT_.out (by kernel_rfl)) (by decide) (fun K hK=>?_)
       refine Kd.R_append_step k75 w.heap.size (by rfl) (.tmp 20) (.tmp 34) 23 75 (.agg #[(.string ⟨#[]⟩),(.int .i64 0)]) 24 rfl Try.underlying23 info75 rfl (by decide) (by omega) u115000 x115000_1 (⟨rdOf ByteArray.empty y108 x6_1,t126⟩:S75) [.string (rdOf ByteArray.empty y108 x6_1), .int .i64 t126] (fun _=>True) (fun _=>False) rfl rfl ?aP (fun _ hk=>hk.elim) ?aF ?aO (Below.refl _ _) ?aS ?aL ?_
       (case aP=>exact k75_mkM _ _ _ (⟨rdOf ByteArray.empty y108 x6_1,t126⟩:S75))
       (case aF=>exact (fun _ _=>trivial))
       (case aO=>exact (rq HO_115000.out))
       (case aS=>exact (jN (w:=w) (g:=g) (row:=none) (Y37)))
       (case aL=>have:=LMc22.out;omega)
       intro v129 w30 ho hb hg hat
       rw [← Ny128.out] at ho
       have n0_:=am (Kd.jDc (rq HO_3.out) (Kd.jCc (rq HO_115000.out)) (by decide) hg)
       have n1_:=am (jXa (g:=gb107) (o:=.cells #[.slice none 0 0] 25 (0,0)) (kq BK107.out) hg (Kd.R_ne HO_115000.out BK107.out (by decide)))
       have n2_:=am (jXa (g:=gb114) (o:=.cells #[u115000] 25 (0,0)) (kq BK114.out) hg (Kd.R_ne HO_115000.out BK114.out (by decide)))
       have n3_:=am (jf.grown (Y28) hg (jf.own_ne HI0.out HO_115000.out (by decide)))
       have n4_:=am (Kd.jDc (rq HO125.out) (Kd.jCc (rq HO_115000.out)) (by decide) hg)
       have n5_:=am (job (Y47) HL.out hb)
       have n6_:=am (jb.trans (Y37) (jb.jHb hg g) (Kd.jgc HO_115000.out))
       have n7_:=am (ho)
       clear HO_3
       clear BK107
       clear BK114
       clear HI0
       clear HO125
       clear HB
       clear HK
       clear HO_115000
       have HO_3:=n0_
       have BK107:=n1_
       have BK114:=n2_
       have HI0:=n3_
       have HO125:=n4_
       have HB:=n5_
       have HK:=n6_
       have HO130:=n7_
       clear n0_ n1_ n2_ n3_ n4_ n5_ n6_ n7_
       clear ho hb hg hat
       obtain ⟨Ao31,co31,eo31⟩:=Kd.jka HO130.out
       (first | subst eo31 |(injection eo31 with f1_ f2_ f3_;have f4_:=f1_.symm;have f5_:=f3_.symm;clear f1_ f2_ f3_;subst f4_;subst f5_))
       refine hK.out _ _ ?_
       clear hK K
       refine jWb (a':=?_) ?_ ?_
       rotate_left
       ·show Act.put _ (some 35) _=_
        simp only [Act.put,List.setIfInBounds_toArray,List.set_cons_zero,List.set_cons_succ,jkb,jmb]
        rfl
       refine pq (i:=17) (N:=some 36) #[true,true,true,true,true,true,true,true,true,true,true,true,true,true,true,true,true,true,false] ?_
       refine last_ (i:=18) (N:=none) #[true,true,true,true,true,true,true,true,true,true,true,true,true,true,true,true,true,true,true] rfl rfl (jyb HT_.out (by kernel_rfl)) (by decide) (fun K hK=>?_)
       have hs32:w30.cell? ⟨gb114,0,none⟩=some (u115000):=(jF BK114.out 0).trans rfl
       have hfs32:=ja BK114.out 0
       have hns32_0:=NB107_114.out
       have hms32_0:=NB114_107.out
       refine skip_ (w1:=?_) (by rfl) rfl ?_ ?_
       rotate_left
       ·go_simp
        rfl
       refine hK.out _ _ ?_
       clear hK K
       refine jQc (jPb HT_.out (by kernel_rfl)) ?_
       try go_wp2
       go_roundg k1
       case measure=>have:=HK1.out;omega
       case rel=>exact ⟨(wrap64 (x6_1+1)),(t127),(y128),(.slice Ao31 y128.length co31),(sq),H',⟨by have:=HK1.out;omega⟩,⟨by (with_reducible repeat (first | apply Kd.jga | apply Kd.jfa | apply Kd.jea));exact Kd.jI (Kd.jQb (p:=⟨gb114,0,none⟩) (Kd.jQa HO_3.out BK114.out (by decide)) (fun _ hk=>hk.2) (.slice Ao31 y128.length co31)) (fun _ hk=>trivial)⟩,⟨by (with_reducible repeat (first | apply Kd.jga | apply Kd.jfa | apply Kd.jea));exact Kd.jI (Kd.jQb (p:=⟨gb114,0,none⟩) (Kd.jQa HO130.out BK114.out (by decide)) (fun _ hk=>hk.2) (.slice Ao31 y128.length co31)) (fun _ hk=>trivial)⟩,⟨by (with_reducible repeat (first | refine jr ?_ _ | refine jw ?_ | refine jA ?_ _));refine jnb ?_ NB107_114.out _;(with_reducible repeat (first | refine jr ?_ _ | refine jw ?_ | refine jA ?_ _));exact BK107.out⟩,⟨by (with_reducible repeat (first | refine jr ?_ _ | refine jw ?_ | refine jA ?_ _));refine jab (cs:=#[u115000]) ?_ 0 _ rfl;(with_reducible repeat (first | refine jr ?_ _ | refine jw ?_ | refine jA ?_ _));exact BK114.out⟩,⟨Y28⟩,⟨Y37⟩,⟨Y47⟩⟩
      ·rw [if_neg c22] at H
       exact absurd H (by simp)
     ·rw [if_neg c19] at H
      exact absurd H (by simp)
    ·rw [if_neg c18] at H
     exact absurd H (by simp)
   ·rw [if_neg c17] at H
    have c17b0:decide (x6_1<t118)=false:=dzF c17
    clear c17
    simp only [Option.some.injEq,Prod.mk.injEq] at H
    obtain ⟨rfl,rfl⟩:=H
    have hnb33:=NB114_107.out
    have hnc33:=NB107_114.out
    have hnb34:=NB114_0.out
    have hnc34:=NB0_114.out
    have hcz35_0:=bc0 BK114.out
    have hfz35_0:=ja BK114.out 0
    obtain ⟨Ao36,co36,eo36⟩:=Kd.jka HO_115000.out
    subst eo36
    have hnb37:=NB107_0.out
    have hnc37:=NB0_107.out
    have hcz38_0:=bc0 BK107.out
    have hfz38_0:=ja BK107.out 0
    go_wp2
    refine bodyPost_ret (results_cell_row rfl _ _ gb107 25 #[.slice Ao36 x115000_1.length co36] (0,0) _ rfl (by (with_reducible repeat (first | refine jr ?_ _ | refine jw ?_ | refine jA ?_ _));refine jab (cs:=#[.slice none 0 0]) ?_ 0 _ rfl;(with_reducible repeat (first | refine jr ?_ _ | refine jw ?_ | refine jA ?_ _));exact BK107.out) Try.underlying25 rfl (by kernel_rfl)) rfl ?_
    exact ⟨_,Y0,by (with_reducible repeat (first | apply Kd.jga | apply Kd.jfa | apply Kd.jea));exact Kd.jI (Kd.jQb (p:=⟨gb107,0,none⟩) (Kd.jQa HO_115000.out BK107.out (by decide)) (fun _ hk=>hk.2) (.slice Ao36 x115000_1.length co36)) (fun _ hk=>trivial),Y28,Y47,Y37⟩
def jrb.f (k : Nat) (s0_0 : List Int) (s0_1 : Int) (l1 : List ByteArray) : Option (ByteArray × Int) := (jg.f k s0_0 s0_1 (l1.length : Int)).bind fun bt131 => (if 0 ≤ bt131.1 then (if bt131.1 < (l1.length : Int) then (some (rdOf ByteArray.empty l1 bt131.1, bt131.2)) else (none)) else (none))
set_option maxHeartbeats 8000000 in
set_option maxRecDepth 100000 in
theorem jrb.calls (k : Nat) (g : Nat) (s0_0 : List Int) (s0_1 : Int) (A1 : Option Addr) (c1 : Nat) (l1 : List ByteArray) (r1 : ByteArray) (r2 : Int) (w0 w : World) (hI : jf w0 w g s0_0 s0_1) (hB : Below w0.heap.size w0 w) (hr1 : Kd.C Kd.string w A1 l1.length l1) (hc1 : l1.length ≤ c1) (hf1 : ∀ ad, A1 = some ad → 0 < l1.length → ad.block ≠ g) (h : jrb.f k s0_0 s0_1 l1 = some (r1, r2)) :
  Calls Try.prog 90 #[.pointer (some ⟨g,0,none⟩), .slice A1 l1.length c1] w fun e w'=>e=.returned (.string r1)∧jf w0 w' g s0_0 r2∧Below w0.heap.size w0 w'∧jb w w' g none:=by
 have HR1:=am hr1
 have HC1:=am hc1
 clear hr1 hc1
 have HI0:=am hI
 have HK:=am (jb.refl w g none)
 have HL:=am hB.size
 clear hI
 have HW0:=am hB.size
 have HB:=am hB
 clear hB
 have H:((jg.f k s0_0 s0_1 (l1.length:Int)).bind fun bt131=>(if 0≤bt131.1 then (if bt131.1<(l1.length:Int) then (some (rdOf ByteArray.empty l1 bt131.1,bt131.2)) else (none)) else (none)))=some (r1,r2):=h
 clear h
 replace H:=bzS H
 obtain ⟨⟨t131,t132⟩,A30,H⟩:=H
 replace H:(if 0≤t131 then (if t131<(l1.length:Int) then (some (rdOf ByteArray.empty l1 t131,t132)) else (none)) else (none))=some (r1,r2):=H
 have A3:=am A30
 clear A30
 by_cases c4:0≤t131
 ·rw [if_pos c4] at H
  have c4b0:decide (0≤t131)=true:=dzT c4
  clear c4
  by_cases c5:t131<(l1.length:Int)
  ·rw [if_pos c5] at H
   have c5b0:decide (t131<(l1.length:Int))=true:=dzT c5
   clear c5
   simp only [Option.some.injEq,Prod.mk.injEq] at H
   obtain ⟨rfl,rfl⟩:=H
   go_enter Try.func90,Try.ntmps90
   go_wp2_with (first |((with_reducible refine jd (f:=42) rfl ?_);refine gL (some 9) Try.func42 #[.pointer (some ⟨g,0,none⟩), .int .i64 (l1.length:Int)] ?_;(with_reducible refine (jg.calls k g s0_0 s0_1 (l1.length:Int) t131 t132 w0 _ ?side1 ?side2 A3.out).mono ?_);(case side1=>exact Y14);(case side2=>exact Y16);rintro e w6 ⟨rfl,hi,hb,hk⟩;refine ⟨_,rfl,?_⟩;replace HK:=am (jb.trans (Y15) hk (.inl rfl));replace HB:=am (hb);replace HI0:=am (hi);(try clear hb);(try clear hb2);(try clear hk);(try clear hi);have p133:0≤(t131:Int):=ozD (uq);have q133:t131<(l1.length:Int):=ozD (uq);obtain ⟨ad133,e133,hx133_0⟩:=Kd.at_string HR1.out t131 p133 q133;cases e133;replace hx133_0:=keep_cell HK.out hx133_0 (by first |(rw [add_block];exact hf1 _ rfl (by omega)) | exact hf1 _ rfl (by omega) | exact hf1 ad133 rfl (by omega));replace p133:=ezT p133;replace q133:=ezT q133))
   go_ret
   exact ⟨Y0,Y14,Y16,Y15⟩
  ·rw [if_neg c5] at H
   exact absurd H (by simp)
 ·rw [if_neg c4] at H
  exact absurd H (by simp)
def joa.f (k : Nat) (s0_0 : List Int) (s0_1 : Int) : Option ((List (S75)) × Int) := (jW.f k s0_0 s0_1).bind fun bt135 => ((jg.f k s0_0 bt135.2 (bt135.1.length : Int)).bind fun bt140 => ((jg.f k s0_0 bt140.2 24).bind fun bt142 => (if bt142.1 = 0 then ((jrb.f k s0_0 bt142.2 (([(⟨#[]⟩ : ByteArray), (⟨#[97, 110, 121]⟩ : ByteArray), (⟨#[65]⟩ : ByteArray), (⟨#[116, 111, 111, 108, 111, 110, 103]⟩ : ByteArray)] : List ByteArray))).bind fun bt147 => (if 0 ≤ bt140.1 then (if bt140.1 < (bt135.1.length : Int) then (some ((bt135.1.set (bt140.1 : Int).toNat (⟨bt147.1, (jY bt135.1 bt140.1).f1⟩ : S75)), bt147.2)) else (none)) else (none))) else (if bt142.1 = 1 then ((jh.f k s0_0 bt142.2 (([bt140.1, (-1), 8, (-2)] : List Int))).bind fun bt153 => (if 0 ≤ bt140.1 then (if bt140.1 < (bt135.1.length : Int) then (some ((bt135.1.set (bt140.1 : Int).toNat (⟨(jY bt135.1 bt140.1).f0, bt153.1⟩ : S75)), bt153.2)) else (none)) else (none))) else (if bt142.1 = 2 then (some (([] : List (S75)), bt142.2)) else (some (bt135.1, bt142.2)))))))
def joa.T5 : Bool × List (List Nat × List Nat) := (true, [([], []), ([0], [0]), ([], []), ([], []), ([], []), ([3, 4], [3, 4]), ([1, 2, 0, 1, 2, 3, 4, 5], [1, 2]), ([6, 0, 1, 2, 3, 4, 5], [6]), ([7, 5, 5, 0, 1, 2, 3, 4, 5], [5, 7])])
def joa.B5 : List Nat := [0, 1, 0, 0, 0, 24, 63, 127, 255]
theorem joa.tab5 : rtab .any (opsOf Try.f77 5) = joa.T5 := by kernel_rfl
theorem joa.bits5 : jdc joa.T5.2 joa.B5 = true := by kernel_rfl
def joa.T7 : Bool × List (List Nat × List Nat) := (true, [([], []), ([0], [0]), ([], []), ([], []), ([], []), ([4], [4]), ([3, 5], [3, 5]), ([1, 2, 0, 1, 2, 3, 4, 5, 6], [1, 2]), ([7, 0, 1, 2, 3, 4, 5, 6], [7]), ([8, 6, 6, 0, 1, 2, 3, 4, 5, 6], [6, 8])])
def joa.B7 : List Nat := [0, 1, 0, 0, 0, 16, 56, 127, 255, 511]
theorem joa.tab7 : rtab .any (opsOf Try.f77 7) = joa.T7 := by kernel_rfl
theorem joa.bits7 : jdc joa.T7.2 joa.B7 = true := by kernel_rfl
set_option maxHeartbeats 8000000 in
set_option maxRecDepth 100000 in
theorem joa.calls (k : Nat) (g : Nat) (s0_0 : List Int) (s0_1 : Int) (r1 : List (S75)) (r2 : Int) (w0 w : World) (hI : jf w0 w g s0_0 s0_1) (hB : Below w0.heap.size w0 w) (h : joa.f k s0_0 s0_1 = some (r1, r2)) :
  Calls Try.prog 77 #[.pointer (some ⟨g,0,none⟩)] w fun e w'=>∃ v0_:Value,e=.returned (.agg #[v0_])∧Kd.R k75 75 w' w.heap.size (fun _=>True) v0_ r1∧jf w0 w' g s0_0 r2∧Below w0.heap.size w0 w'∧jb w w' g none:=by
 have hu25:=Try.underlying25
 have HI0:=am hI
 have HK:=am (jb.refl w g none)
 have HL:=am hB.size
 clear hI
 have HW0:=am hB.size
 have HB:=am hB
 clear hB
 have H:((jW.f k s0_0 s0_1).bind fun bt135=>((jg.f k s0_0 bt135.2 (bt135.1.length:Int)).bind fun bt140=>((jg.f k s0_0 bt140.2 24).bind fun bt142=>(if bt142.1=0 then ((jrb.f k s0_0 bt142.2 (([(⟨#[]⟩:ByteArray),(⟨#[97,110,121]⟩:ByteArray),(⟨#[65]⟩:ByteArray),(⟨#[116,111,111,108,111,110,103]⟩:ByteArray)]:List ByteArray))).bind fun bt147=>(if 0≤bt140.1 then (if bt140.1<(bt135.1.length:Int) then (some ((bt135.1.set (bt140.1:Int).toNat (⟨bt147.1,(jY bt135.1 bt140.1).f1⟩:S75)),bt147.2)) else (none)) else (none))) else (if bt142.1=1 then ((jh.f k s0_0 bt142.2 (([bt140.1,(-1),8,(-2)]:List Int))).bind fun bt153=>(if 0≤bt140.1 then (if bt140.1<(bt135.1.length:Int) then (some ((bt135.1.set (bt140.1:Int).toNat (⟨(jY bt135.1 bt140.1).f0,bt153.1⟩:S75)),bt153.2)) else (none)) else (none))) else (if bt142.1=2 then (some (([]:List (S75)),bt142.2)) else (some (bt135.1,bt142.2))))))))=some (r1,r2):=h
 clear h
 replace H:=bzS H
 obtain ⟨⟨t135,t138⟩,A20,H⟩:=H
 replace H:((jg.f k s0_0 t138 (t135.length:Int)).bind fun bt140=>((jg.f k s0_0 bt140.2 24).bind fun bt142=>(if bt142.1=0 then ((jrb.f k s0_0 bt142.2 (([(⟨#[]⟩:ByteArray),(⟨#[97,110,121]⟩:ByteArray),(⟨#[65]⟩:ByteArray),(⟨#[116,111,111,108,111,110,103]⟩:ByteArray)]:List ByteArray))).bind fun bt147=>(if 0≤bt140.1 then (if bt140.1<(t135.length:Int) then (some ((t135.set (bt140.1:Int).toNat (⟨bt147.1,(jY t135 bt140.1).f1⟩:S75)),bt147.2)) else (none)) else (none))) else (if bt142.1=1 then ((jh.f k s0_0 bt142.2 (([bt140.1,(-1),8,(-2)]:List Int))).bind fun bt153=>(if 0≤bt140.1 then (if bt140.1<(t135.length:Int) then (some ((t135.set (bt140.1:Int).toNat (⟨(jY t135 bt140.1).f0,bt153.1⟩:S75)),bt153.2)) else (none)) else (none))) else (if bt142.1=2 then (some (([]:List (S75)),bt142.2)) else (some (t135,bt142.2)))))))=some (r1,r2):=H
 have A2:=am A20
 clear A20
 replace H:=bzS H
 obtain ⟨⟨t140,t141⟩,A30,H⟩:=H
 replace H:((jg.f k s0_0 t141 24).bind fun bt142=>(if bt142.1=0 then ((jrb.f k s0_0 bt142.2 (([(⟨#[]⟩:ByteArray),(⟨#[97,110,121]⟩:ByteArray),(⟨#[65]⟩:ByteArray),(⟨#[116,111,111,108,111,110,103]⟩:ByteArray)]:List ByteArray))).bind fun bt147=>(if 0≤t140 then (if t140<(t135.length:Int) then (some ((t135.set (t140:Int).toNat (⟨bt147.1,(jY t135 t140).f1⟩:S75)),bt147.2)) else (none)) else (none))) else (if bt142.1=1 then ((jh.f k s0_0 bt142.2 (([t140,(-1),8,(-2)]:List Int))).bind fun bt153=>(if 0≤t140 then (if t140<(t135.length:Int) then (some ((t135.set (t140:Int).toNat (⟨(jY t135 t140).f0,bt153.1⟩:S75)),bt153.2)) else (none)) else (none))) else (if bt142.1=2 then (some (([]:List (S75)),bt142.2)) else (some (t135,bt142.2))))))=some (r1,r2):=H
 have A3:=am A30
 clear A30
 replace H:=bzS H
 obtain ⟨⟨t142,t143⟩,A40,H⟩:=H
 replace H:(if t142=0 then ((jrb.f k s0_0 t143 (([(⟨#[]⟩:ByteArray),(⟨#[97,110,121]⟩:ByteArray),(⟨#[65]⟩:ByteArray),(⟨#[116,111,111,108,111,110,103]⟩:ByteArray)]:List ByteArray))).bind fun bt147=>(if 0≤t140 then (if t140<(t135.length:Int) then (some ((t135.set (t140:Int).toNat (⟨bt147.1,(jY t135 t140).f1⟩:S75)),bt147.2)) else (none)) else (none))) else (if t142=1 then ((jh.f k s0_0 t143 (([t140,(-1),8,(-2)]:List Int))).bind fun bt153=>(if 0≤t140 then (if t140<(t135.length:Int) then (some ((t135.set (t140:Int).toNat (⟨(jY t135 t140).f0,bt153.1⟩:S75)),bt153.2)) else (none)) else (none))) else (if t142=2 then (some (([]:List (S75)),t143)) else (some (t135,t143)))))=some (r1,r2):=H
 have A4:=am A40
 clear A40
 by_cases c5:t142=0
 ·rw [if_pos c5] at H
  have c5b0:(t142 == 0)=true:=beq_iff_eq.mpr c5
  have c5b1:(t142 != 0)=false:=bne_eq_false_iff_eq.mpr c5
  clear c5
  obtain ⟨y144,hy144⟩:∃ y_:List ByteArray,y_=(([(⟨#[]⟩:ByteArray),(⟨#[97,110,121]⟩:ByteArray),(⟨#[65]⟩:ByteArray),(⟨#[116,111,111,108,111,110,103]⟩:ByteArray)]:List ByteArray)):=⟨_,rfl⟩
  replace H:((jrb.f k s0_0 t143 y144).bind fun bt147=>(if 0≤t140 then (if t140<(t135.length:Int) then (some ((t135.set (t140:Int).toNat (⟨bt147.1,(jY t135 t140).f1⟩:S75)),bt147.2)) else (none)) else (none)))=some (r1,r2):=by first |(rw [hy144];with_reducible exact H) |(have H2_:=(Option.bind_some _ _).symm.trans H;rw [hy144];with_reducible exact H2_) |(have H2_:=(Option.bind_some _ _).symm.trans H;with_reducible exact H2_) | with_reducible exact H |(rw [hy144];exact H) | exact H
  have Ny144:=am hy144
  clear hy144
  replace H:=bzS H
  obtain ⟨⟨t147,t148⟩,A60,H⟩:=H
  replace H:(if 0≤t140 then (if t140<(t135.length:Int) then (some ((t135.set (t140:Int).toNat (⟨t147,(jY t135 t140).f1⟩:S75)),t148)) else (none)) else (none))=some (r1,r2):=H
  have A6:=am A60
  clear A60
  by_cases c7:0≤t140
  ·rw [if_pos c7] at H
   have c7b0:decide (0≤t140)=true:=dzT c7
   clear c7
   by_cases c8:t140<(t135.length:Int)
   ·rw [if_pos c8] at H
    have c8b0:decide (t140<(t135.length:Int))=true:=dzT c8
    clear c8
    obtain ⟨y149,hy149⟩:∃ y_:List (S75),y_=(t135.set (t140:Int).toNat (⟨t147,(jY t135 t140).f1⟩:S75)):=⟨_,rfl⟩
    replace H:(some (y149,t148))=some (r1,r2):=by first |(rw [hy149];with_reducible exact H) |(have H2_:=(Option.bind_some _ _).symm.trans H;rw [hy149];with_reducible exact H2_) |(have H2_:=(Option.bind_some _ _).symm.trans H;with_reducible exact H2_) | with_reducible exact H |(rw [hy149];exact H) | exact H
    have Ny149:=am hy149
    clear hy149
    simp only [Option.some.injEq,Prod.mk.injEq] at H
    obtain ⟨rfl,rfl⟩:=H
    go_enter Try.func77,Try.ntmps77
    try go_wp2_with (first |((with_reducible refine jJ (N:=2) rfl ?_);refine bE (N:=2) (cs:=#[.slice none 0 0]) (t:=25) ?_;intro gb134 hg w10 hbox hb;have BK134:=am (hbox);have GW134:=am ((Y11:w.heap.size≤gb134));have GE134:=am ((Nat.le_trans HW0.out (Y11:w.heap.size≤gb134):w0.heap.size≤gb134));have NB0_134:=am ((Y21:g≠gb134));have NB134_0:=am ((Y22:gb134≠g));replace HK:=am (jb.trans (Y15) (jb.of_below hb g none) (.inl rfl));replace HB:=am (je (Y16) hb);replace HI0:=am (jf.below (Y14) hb);clear hb hbox hg) |((with_reducible refine jd (f:=43) rfl ?_);refine gL (some 6) Try.func43 #[.pointer (some ⟨g,0,none⟩)] ?_;(with_reducible refine (jW.calls k g s0_0 s0_1 t135 t138 w0 _ ?side1 ?side2 A2.out).mono ?_);(case side1=>exact Y51);(case side2=>exact Y52);rintro e w11 ⟨v136,rfl,ho0,hi,hb,hk⟩;refine ⟨_,rfl,?_⟩;have HO137:=am (Kd.jaa ho0 (jN (w:=w) (g:=g) (row:=none) (Y38)));replace BK134:=am (jb.blk hk (g':=gb134) (o:=.cells #[.slice none 0 0] 25 (0,0)) (kq BK134.out) NB134_0.out (by simp));replace HK:=am (jb.trans (Y38) hk (.inl rfl));replace HB:=am (hb);replace HI0:=am (hi);(try clear hb);(try clear hb2);(try clear hk);(try clear hi);(try clear ho0)) |((with_reducible refine jJ (N:=3) rfl ?_);refine bE (N:=3) (cs:=#[.slice none 0 0]) (t:=25) ?_;intro gb139 hg w12 hbox hb;have BK139:=am (hbox);have GW139:=am ((Y53:w.heap.size≤gb139));have GE139:=am ((Nat.le_trans HW0.out (Y53:w.heap.size≤gb139):w0.heap.size≤gb139));have NB134_139:=am ((Y82:gb134≠gb139));have NB139_134:=am ((Y83:gb139≠gb134));have NB0_139:=am ((Y84:g≠gb139));have NB139_0:=am ((Y85:gb139≠g));replace HO137:=am (Kd.jZ (rq HO137.out) hb);replace BK134:=am (jk (g:=gb134) (o:=.cells #[.slice none 0 0] 25 (0,0)) (kq BK134.out) hb);replace HK:=am (jb.trans (Y38) (jb.of_below hb g none) (.inl rfl));replace HB:=am (je (Y52) hb);replace HI0:=am (jf.below (Y51) hb);clear hb hbox hg;obtain ⟨Ao13,co13,eo13⟩:=Kd.jka HO137.out;subst eo13;have hnb14:=NB139_134.out;have hnc14:=NB134_139.out;have hnb15:=NB139_0.out;have hnc15:=NB0_139.out;have hcz16_0:=bc0 BK139.out;have hfz16_0:=ja BK139.out 0) |((with_reducible refine jd (f:=42) rfl ?_);refine gL (some 11) Try.func42 #[.pointer (some ⟨g,0,none⟩), .int .i64 (t135.length:Int)] ?_;(with_reducible refine (jg.calls k g s0_0 t138 (t135.length:Int) t140 t141 w0 _ ?side1 ?side2 A3.out).mono ?_);(case side1=>exact Y17);(case side2=>exact Y29);rintro e w17 ⟨rfl,hi,hb,hk⟩;refine ⟨_,rfl,?_⟩;replace BK134:=am (jb.blk hk (g':=gb134) (o:=.cells #[.slice none 0 0] 25 (0,0)) (Y86) NB134_0.out (by simp));replace HO137:=am (Kd.jI (Kd.jxa (jf.apart (show jf w0 _ g s0_0 t138 from Y17) (by (with_reducible repeat (first | apply Kd.jga | apply Kd.jfa | apply Kd.jea));exact (Kd.jI (Kd.jQb (p:=⟨gb139,0,none⟩) (Kd.jQa HO137.out BK139.out (by decide)) (fun _ hk=>hk.2) (.slice Ao13 t135.length co13)) (fun _ h_=>h_.1))) (by decide)) hk (fun _ h=>h.2)) (fun _ h=>h.1));replace BK139:=am (jb.blk hk (g':=gb139) (o:=.cells #[.slice Ao13 t135.length co13] 25 (0,0)) (Y87) NB139_0.out (by simp));replace HK:=am (jb.trans (Y26) hk (.inl rfl));replace HB:=am (hb);replace HI0:=am (hi);(try clear hb);(try clear hb2);(try clear hk);(try clear hi)) |((with_reducible refine jd (f:=42) rfl ?_);refine gL (some 13) Try.func42 #[.pointer (some ⟨g,0,none⟩), .int .i64 24] ?_;(with_reducible refine (jg.calls k g s0_0 t141 24 t142 t143 w0 _ ?side1 ?side2 A4.out).mono ?_);(case side1=>exact Y17);(case side2=>exact Y29);rintro e w18 ⟨rfl,hi,hb,hk⟩;refine ⟨_,rfl,?_⟩;replace BK134:=am (jb.blk hk (g':=gb134) (o:=.cells #[.slice none 0 0] 25 (0,0)) (kq BK134.out) NB134_0.out (by simp));replace HO137:=am (Kd.jI (Kd.jxa (jf.apart (show jf w0 _ g s0_0 t141 from Y17) (rq HO137.out) (by decide)) hk (fun _ h=>h.2)) (fun _ h=>h.1));replace BK139:=am (jb.blk hk (g':=gb139) (o:=.cells #[.slice Ao13 t135.length co13] 25 (0,0)) (kq BK139.out) NB139_0.out (by simp));replace HK:=am (jb.trans (Y26) hk (.inl rfl));replace HB:=am (hb);replace HI0:=am (hi);(try clear hb);(try clear hb2);(try clear hk);(try clear hi)))
    replace HO137:=am (Kd.jea HO137.out)
    replace BK134:=am (jw BK134.out)
    replace BK139:=am (jw BK139.out)
    replace HI0:=am (jf.drew HI0.out)
    replace HK:=am (jNa HK.out)
    replace HB:=am (jE HB.out)
    refine jlc (n:=9) (S:=fun w'=>w'.cell? ⟨gb139,0,none⟩=some (.slice Ao13 t135.length co13)) (ds:=[8]) #[false,false,false,false,false,false,false,false,false] (by kernel_rfl) rfl rfl ((jF BK139.out 0).trans rfl) (fun hHeld=>?_);refine jqb joa.tab5 joa.bits5 (fun HT_ HW_=>?_)
    generalize w18.drew=w19 at HO137 BK134 BK139 HI0 HK HB hHeld ⊢
    refine pq (i:=0) (N:=some 16) #[true,false,false,false,false,false,false,false,false] ?_
    refine pq (i:=2) (N:=some 18) #[true,false,true,false,false,false,false,false,false] ?_
    refine pq (i:=3) (N:=some 19) #[true,false,true,true,false,false,false,false,false] ?_
    refine jwb (i:=1) (N:=some 17) (v:=?_) (a':=?_) #[true,true,true,true,false,false,false,false,false] rfl rfl (jua HT_.out HW_.out (by kernel_rfl)) (fun _ _ _ h=>h) (Or.inl ⟨by rfl,?_⟩) hHeld ?_ ?_
    rotate_left
    ·intro w' s0
     go_simp
     with_reducible rfl
    rotate_left
    ·exact sa
    refine one_ (i:=4) (N:=some 20) #[true,true,true,true,true,false,false,false,false] rfl rfl (jyb HT_.out (by kernel_rfl)) (by decide) (fun K hK=>?_)
    refine Kd.jpc Kd.string _ 9 ?hg (N:=20) ?hd (xs:=([(⟨#[]⟩:ByteArray),(⟨#[97,110,121]⟩:ByteArray),(⟨#[65]⟩:ByteArray),(⟨#[116,111,111,108,111,110,103]⟩:ByteArray)]:List ByteArray)) (inner:=[.string (⟨#[]⟩:ByteArray), .string (⟨#[97,110,121]⟩:ByteArray), .string (⟨#[65]⟩:ByteArray), .string (⟨#[116,111,111,108,111,110,103]⟩:ByteArray)]) (ok:=fun _=>True) (okp:=fun _=>True) ?hr ?hp (fun _ hk=>hk) trivial (Below.refl _ _) (Nat.le_refl _) (by simp) ?_;(case hd=>rfl);(case hg=>rfl);(case hr=>exact Y5);(case hp=>exact (Reps.one (show Kd.M Kd.string _ _ _ (⟨#[]⟩:ByteArray) [.string (⟨#[]⟩:ByteArray)] from rfl) (Reps.one (show Kd.M Kd.string _ _ _ (⟨#[97,110,121]⟩:ByteArray) [.string (⟨#[97,110,121]⟩:ByteArray)] from rfl) (Reps.one (show Kd.M Kd.string _ _ _ (⟨#[65]⟩:ByteArray) [.string (⟨#[65]⟩:ByteArray)] from rfl) (Reps.one (show Kd.M Kd.string _ _ _ (⟨#[116,111,111,108,111,110,103]⟩:ByteArray) [.string (⟨#[116,111,111,108,111,110,103]⟩:ByteArray)] from rfl) (Reps.none _ _))))))
    intro v145 w20 ho21 hb hg_ hnew_
    clear hg_ hnew_
    (first | rw [← Ny144.out] at ho21 |(simp only [Int.reduceToNat] at ho21;rw [← Ny144.out] at ho21))
    have HO146:=am (Kd.jaa ho21 (jN (w:=w) (g:=g) (row:=none) (Y26)))
    replace HO137:=am (Kd.jZ (rq HO137.out) hb)
    replace BK134:=am (jk (g:=gb134) (o:=.cells #[.slice none 0 0] 25 (0,0)) (kq BK134.out) hb)
    replace BK139:=am (jk (g:=gb139) (o:=.cells #[.slice Ao13 t135.length co13] 25 (0,0)) (kq BK139.out) hb)
    replace HK:=am (jb.trans (Y26) (jb.of_below hb g none) (.inl rfl))
    replace HB:=am (je (Y29) hb)
    replace HI0:=am (jf.below (Y17) hb)
    clear hb ho21
    obtain ⟨Ao22,co22,eo22⟩:=Kd.jka HO146.out
    (first | subst eo22 |(injection eo22 with f1_ f2_ f3_;have f4_:=f1_.symm;have f5_:=f3_.symm;clear f1_ f2_ f3_;subst f4_;subst f5_))
    refine hK.out _ _ ((jF BK139.out 0).trans rfl) (fun hHeld=>?_)
    clear hK K
    refine jWb (a':=?_) ?_ ?_
    rotate_left
    ·show Act.put _ (some 20) _=_
     simp only [Act.put,List.setIfInBounds_toArray,List.set_cons_zero,List.set_cons_succ,jkb,jmb]
     rfl
    refine one_ (i:=5) (N:=some 21) #[true,true,true,true,true,true,false,false,false] rfl rfl (jyb HT_.out (by kernel_rfl)) (by decide) (fun K hK=>?_)
    refine jPc Try.func90 (by kernel_rfl) rfl #[.pointer (some ⟨g,0,none⟩), .slice Ao22 y144.length co22] (by rfl) rfl rfl (aq) ?_
    with_reducible refine (jrb.calls k g s0_0 t143 _ _ y144 t147 t148 w0 _ ?side1 ?side2 ?side3 ?side4 ?side5 A6.out).mono ?_
    (case side1=>exact Y17)
    (case side2=>exact Y29)
    (case side3=>exact cq (Kd.jy HO146.out).2.2)
    (case side4=>exact (Kd.jy HO146.out).2.1)
    (case side5=>exact jzb (jf.own_ne HI0.out HO146.out (by decide)))
    rintro e w23 ⟨rfl,hi,hb,hk⟩
    refine ⟨_,rfl,?_⟩
    replace BK134:=am (jb.blk hk (g':=gb134) (o:=.cells #[.slice none 0 0] 25 (0,0)) (kq BK134.out) NB134_0.out (by simp))
    replace HO137:=am (Kd.jI (Kd.jxa (jf.apart (show jf w0 _ g s0_0 t143 from Y17) (rq HO137.out) (by decide)) hk (fun _ h=>h.2)) (fun _ h=>h.1))
    replace BK139:=am (jb.blk hk (g':=gb139) (o:=.cells #[.slice Ao13 t135.length co13] 25 (0,0)) (kq BK139.out) NB139_0.out (by simp))
    replace HO146:=am (Kd.jI (Kd.jxa (jf.apart (show jf w0 _ g s0_0 t143 from Y17) (rq HO146.out) (by decide)) hk (fun _ h=>h.2)) (fun _ h=>h.1))
    replace HK:=am (jb.trans (Y26) hk (.inl rfl))
    replace HB:=am (hb)
    replace HI0:=am (hi)
    (try clear hb)
    (try clear hb2)
    (try clear hk)
    (try clear hi)
    have p9:0≤(t140:Int):=ozD (uq)
    have q9:(t140:Int)<((t135.length:Int):Int):=ozD (uq)
    obtain ⟨go9,co9,eo9,gb9,gl9,cl9,HG9⟩:=Kd.R_form HO137.out (by omega)
    (first | cases eo9 |(injection eo9 with ea_ en_ ec_;(first | subst ea_ |(injection ea_ with ea_;subst ea_));subst ec_;clear en_))
    have GB9:=am gb9
    have GG9:=am HG9
    clear gb9 gl9 HG9
    obtain ⟨ce9,hcl9,hM9,hcc9,hfr9⟩:=Kd.R_elem HO137.out z75 (t140:Int) p9 q9
    obtain rfl:=k75_openM hM9
    have hx9_0:World.cell? _ ⟨go9,(t140:Int).toNat * 2,none⟩=some (.string ((jY t135 t140).f0)):=hcc9 0 _ rfl
    have hx9_1:World.cell? _ ⟨go9,(t140:Int).toNat * 2+1,none⟩=some (.int .i64 ((jY t135 t140).f1)):=hcc9 1 _ rfl
    have hf9_0:World.frozen? _ ⟨go9,(t140:Int).toNat * 2,none⟩=false:=hfr9 0
    have hf9_1:World.frozen? _ ⟨go9,(t140:Int).toNat * 2+1,none⟩=false:=hfr9 1
    clear hcl9 hcc9 hfr9 hM9
    replace p9:=ezT p9
    replace q9:=ezT q9
    have HN0_go9:=am (show g≠go9 from by have h_:=jf.own_ne HI0.out HO137.out (by decide);intro e_;exact h_ (by rw [e_];rfl))
    obtain ⟨ce24,hcl24,hM24,hcc24,hfr24⟩:=Kd.R_elem HO137.out z75 (t140:Int) (ozD (uq)) (by have h_:(t140:Int)<((t135.length:Int):Int):=ozD (uq);first | exact h_ |(have e_:=(Kd.jy HO137.out).1;omega) | simpa using h_)
    obtain rfl:=k75_openM hM24
    have HP24:=(Kd.R_seg HO137.out (t140:Int) (ozD (uq)) (by have h_:(t140:Int)<((t135.length:Int):Int):=ozD (uq);first | exact h_ |(have e_:=(Kd.jy HO137.out).1;omega) | simpa using h_) (seg:=[.string t147]) (j:=0) hcl24 hcc24 (show 1≤2 from by decide) (x':=(⟨t147,(jY t135 t140).f1⟩:S75)) (k75_mkM _ _ _ (⟨t147,(jY t135 t140).f1⟩:S75) ) (fun _ hk=>hk)).1
    rw [← Ny149.out] at HP24
    have HQ24:=am HP24
    clear hcl24 hcc24 hfr24 hM24 HP24
    refine hK.out _ _ ((jF BK139.out 0).trans rfl) (fun hHeld=>?_)
    clear hK K
    refine jWb (a':=?_) ?_ ?_
    rotate_left
    ·show Act.put _ (some 21) _=_
     simp only [Act.put,List.setIfInBounds_toArray,List.set_cons_zero,List.set_cons_succ,jkb,jmb]
     rfl
    refine pq (i:=6) (N:=some 22) #[true,true,true,true,true,true,true,false,false] ?_
    refine pq (i:=7) (N:=some 23) #[true,true,true,true,true,true,true,true,false] ?_
    refine last_ (i:=8) (N:=none) #[true,true,true,true,true,true,true,true,true] rfl rfl (jyb HT_.out (by kernel_rfl)) (by decide) (fun K hK=>?_)
    refine skip_ (w1:=?_) (by rfl) rfl ?_ ?_
    rotate_left
    ·go_simp
     rfl
    refine hK.out _ _ ?_
    clear hK K
    refine jQc (jPb HT_.out (by kernel_rfl)) ?_
    have n0_:jq (Kd.R k75 75 (w23.setCell ⟨go9,(t140:Int).toNat * 2,none⟩ (.string t147)) w.heap.size (fun _=>True) (.slice (some ⟨go9,0,none⟩) t135.length co13) y149):=⟨rq HQ24.out⟩
    have n1_:jq (Kd.R Kd.string 9 (w23.setCell ⟨go9,(t140:Int).toNat * 2,none⟩ (.string t147)) w.heap.size (fun _=>True) (.slice Ao22 y144.length co22) y144):=⟨by (with_reducible repeat (first | apply Kd.jga | apply Kd.jfa | apply Kd.jea));exact Kd.jI (Kd.jQb (p:=⟨go9,(t140:Int).toNat * 2,none⟩) (Kd.jQa HO146.out GG9.out (by decide)) (fun _ hk=>hk.2) (.string t147)) (fun _ hk=>trivial)⟩
    have n2_:jq ((w23.setCell ⟨go9,(t140:Int).toNat * 2,none⟩ (.string t147)).heap[gb134]?=some (.cells #[.slice none 0 0] 25 (0,0))):=⟨by (with_reducible repeat (first | refine jr ?_ _ | refine jw ?_ | refine jA ?_ _));refine jnb ?_ (by have h_:=Kd.R_ne HO137.out BK134.out (by decide);intro e_;exact h_ (by rw [e_];rfl)) _;(with_reducible repeat (first | refine jr ?_ _ | refine jw ?_ | refine jA ?_ _));exact BK134.out⟩
    have n3_:jq ((w23.setCell ⟨go9,(t140:Int).toNat * 2,none⟩ (.string t147)).heap[gb139]?=some (.cells #[.slice (some ⟨go9,0,none⟩) t135.length co13] 25 (0,0))):=⟨by (with_reducible repeat (first | refine jr ?_ _ | refine jw ?_ | refine jA ?_ _));refine jnb ?_ (by have h_:=Kd.R_ne HO137.out BK139.out (by decide);intro e_;exact h_ (by rw [e_];rfl)) _;(with_reducible repeat (first | refine jr ?_ _ | refine jw ?_ | refine jA ?_ _));exact BK139.out⟩
    have n4_:jq (jf w0 (w23.setCell ⟨go9,(t140:Int).toNat * 2,none⟩ (.string t147)) g s0_0 t148):=⟨by repeat (first |(with_reducible first | exact HI0.out | apply jf.alloc | apply jf.drewN | apply jf.drew | apply jf.jkc | refine jf.far ?_ HN0_go9.out _ | refine jf.far ?_ NB0_134.out _ | refine jf.far ?_ NB0_139.out _) | exact HI0.out)⟩
    have n5_:jq (jb w (w23.setCell ⟨go9,(t140:Int).toNat * 2,none⟩ (.string t147)) g none):=⟨by repeat (first |(with_reducible first | exact HK.out | apply jb.set_ | apply jVa | apply jNa | apply jWa | refine jeb ?_ GB9.out _ | refine jeb ?_ GW134.out _ | refine jeb ?_ GW139.out _) | exact HK.out)⟩
    have n6_:jq (Below w0.heap.size w0 (w23.setCell ⟨go9,(t140:Int).toNat * 2,none⟩ (.string t147))):=⟨by repeat (first |(with_reducible first | exact HB.out | apply jL | apply jm | apply jE | refine jK ?_ (Nat.le_trans HL.out GB9.out) | refine jK ?_ (jf.ge HI0.out) | refine jK ?_ GE134.out | refine jK ?_ GE139.out) | exact HB.out)⟩
    (try clear HO137)
    (try clear HO146)
    (try clear BK134)
    (try clear BK139)
    (try clear HI0)
    (try clear HK)
    (try clear HB)
    generalize (w23.setCell ⟨go9,(t140:Int).toNat * 2,none⟩ (.string t147))=w25 at n0_ n1_ n2_ n3_ n4_ n5_ n6_ ⊢
    have HO137:=n0_
    have HO146:=n1_
    have BK134:=n2_
    have BK139:=n3_
    have HI0:=n4_
    have HK:=n5_
    have HB:=n6_
    clear n0_ n1_ n2_ n3_ n4_ n5_ n6_
    have hcz26_0:=bc0 BK139.out
    have hfz26_0:=ja BK139.out 0
    have hnb27:=NB134_0.out
    have hnc27:=NB0_134.out
    have hcz28_0:=bc0 BK134.out
    have hfz28_0:=ja BK134.out 0
    try go_wp2
    refine bodyPost_ret (results_cell_row rfl _ _ gb134 25 #[.slice (some ⟨go9,0,none⟩) t135.length co13] (0,0) _ rfl (Y88) Try.underlying25 rfl (by kernel_rfl)) rfl ?_
    exact ⟨_,Y0,by (with_reducible repeat (first | apply Kd.jga | apply Kd.jfa | apply Kd.jea));exact Kd.jI (Kd.jQb (p:=⟨gb134,0,none⟩) (Kd.jQa HO137.out BK134.out (by decide)) (fun _ hk=>hk.2) (.slice (some ⟨go9,0,none⟩) t135.length co13)) (fun _ hk=>trivial),Y17,Y29,Y26⟩
   ·rw [if_neg c8] at H
    exact absurd H (by simp)
  ·rw [if_neg c7] at H
   exact absurd H (by simp)
 ·rw [if_neg c5] at H
  have c5b0:(t142 == 0)=false:=beq_eq_false_iff_ne.mpr c5
  have c5b1:(t142 != 0)=true:=bne_iff_ne.mpr c5
  by_cases c29:t142=1
  ·rw [if_pos c29] at H
   have c29b0:(t142 == 1)=true:=beq_iff_eq.mpr c29
   have c29b1:(t142 != 1)=false:=bne_eq_false_iff_eq.mpr c29
   clear c29
   obtain ⟨y150,hy150⟩:∃ y_:List Int,y_=(([t140,(-1),8,(-2)]:List Int)):=⟨_,rfl⟩
   replace H:((jh.f k s0_0 t143 y150).bind fun bt153=>(if 0≤t140 then (if t140<(t135.length:Int) then (some ((t135.set (t140:Int).toNat (⟨(jY t135 t140).f0,bt153.1⟩:S75)),bt153.2)) else (none)) else (none)))=some (r1,r2):=by first |(rw [hy150];with_reducible exact H) |(have H2_:=(Option.bind_some _ _).symm.trans H;rw [hy150];with_reducible exact H2_) |(have H2_:=(Option.bind_some _ _).symm.trans H;with_reducible exact H2_) | with_reducible exact H |(rw [hy150];exact H) | exact H
   have Ny150:=am hy150
   clear hy150
   replace H:=bzS H
   obtain ⟨⟨t153,t154⟩,A300,H⟩:=H
   replace H:(if 0≤t140 then (if t140<(t135.length:Int) then (some ((t135.set (t140:Int).toNat (⟨(jY t135 t140).f0,t153⟩:S75)),t154)) else (none)) else (none))=some (r1,r2):=H
   have A30:=am A300
   clear A300
   by_cases c31:0≤t140
   ·rw [if_pos c31] at H
    have c31b0:decide (0≤t140)=true:=dzT c31
    clear c31
    by_cases c32:t140<(t135.length:Int)
    ·rw [if_pos c32] at H
     have c32b0:decide (t140<(t135.length:Int))=true:=dzT c32
     clear c32
     obtain ⟨y155,hy155⟩:∃ y_:List (S75),y_=(t135.set (t140:Int).toNat (⟨(jY t135 t140).f0,t153⟩:S75)):=⟨_,rfl⟩
     replace H:(some (y155,t154))=some (r1,r2):=by first |(rw [hy155];with_reducible exact H) |(have H2_:=(Option.bind_some _ _).symm.trans H;rw [hy155];with_reducible exact H2_) |(have H2_:=(Option.bind_some _ _).symm.trans H;with_reducible exact H2_) | with_reducible exact H |(rw [hy155];exact H) | exact H
     have Ny155:=am hy155
     clear hy155
     simp only [Option.some.injEq,Prod.mk.injEq] at H
     obtain ⟨rfl,rfl⟩:=H
     go_enter Try.func77,Try.ntmps77
     try go_wp2_with (first |((with_reducible refine jJ (N:=2) rfl ?_);refine bE (N:=2) (cs:=#[.slice none 0 0]) (t:=25) ?_;intro gb134 hg w34 hbox hb;have BK134:=am (hbox);have GW134:=am ((Y11:w.heap.size≤gb134));have GE134:=am ((Nat.le_trans HW0.out (Y11:w.heap.size≤gb134):w0.heap.size≤gb134));have NB0_134:=am ((Y21:g≠gb134));have NB134_0:=am ((Y22:gb134≠g));replace HK:=am (jb.trans (Y15) (jb.of_below hb g none) (.inl rfl));replace HB:=am (je (Y16) hb);replace HI0:=am (jf.below (Y14) hb);clear hb hbox hg) |((with_reducible refine jd (f:=43) rfl ?_);refine gL (some 6) Try.func43 #[.pointer (some ⟨g,0,none⟩)] ?_;(with_reducible refine (jW.calls k g s0_0 s0_1 t135 t138 w0 _ ?side1 ?side2 A2.out).mono ?_);(case side1=>exact Y51);(case side2=>exact Y52);rintro e w35 ⟨v136,rfl,ho0,hi,hb,hk⟩;refine ⟨_,rfl,?_⟩;have HO137:=am (Kd.jaa ho0 (jN (w:=w) (g:=g) (row:=none) (Y38)));replace BK134:=am (jb.blk hk (g':=gb134) (o:=.cells #[.slice none 0 0] 25 (0,0)) (kq BK134.out) NB134_0.out (by simp));replace HK:=am (jb.trans (Y38) hk (.inl rfl));replace HB:=am (hb);replace HI0:=am (hi);(try clear hb);(try clear hb2);(try clear hk);(try clear hi);(try clear ho0)) |((with_reducible refine jJ (N:=3) rfl ?_);refine bE (N:=3) (cs:=#[.slice none 0 0]) (t:=25) ?_;intro gb139 hg w36 hbox hb;have BK139:=am (hbox);have GW139:=am ((Y53:w.heap.size≤gb139));have GE139:=am ((Nat.le_trans HW0.out (Y53:w.heap.size≤gb139):w0.heap.size≤gb139));have NB134_139:=am ((Y82:gb134≠gb139));have NB139_134:=am ((Y83:gb139≠gb134));have NB0_139:=am ((Y84:g≠gb139));have NB139_0:=am ((Y85:gb139≠g));replace HO137:=am (Kd.jZ (rq HO137.out) hb);replace BK134:=am (jk (g:=gb134) (o:=.cells #[.slice none 0 0] 25 (0,0)) (kq BK134.out) hb);replace HK:=am (jb.trans (Y38) (jb.of_below hb g none) (.inl rfl));replace HB:=am (je (Y52) hb);replace HI0:=am (jf.below (Y51) hb);clear hb hbox hg;obtain ⟨Ao37,co37,eo37⟩:=Kd.jka HO137.out;subst eo37;have hnb38:=NB139_134.out;have hnc38:=NB134_139.out;have hnb39:=NB139_0.out;have hnc39:=NB0_139.out;have hcz40_0:=bc0 BK139.out;have hfz40_0:=ja BK139.out 0) |((with_reducible refine jd (f:=42) rfl ?_);refine gL (some 11) Try.func42 #[.pointer (some ⟨g,0,none⟩), .int .i64 (t135.length:Int)] ?_;(with_reducible refine (jg.calls k g s0_0 t138 (t135.length:Int) t140 t141 w0 _ ?side1 ?side2 A3.out).mono ?_);(case side1=>exact Y17);(case side2=>exact Y29);rintro e w41 ⟨rfl,hi,hb,hk⟩;refine ⟨_,rfl,?_⟩;replace BK134:=am (jb.blk hk (g':=gb134) (o:=.cells #[.slice none 0 0] 25 (0,0)) (Y86) NB134_0.out (by simp));replace HO137:=am (Kd.jI (Kd.jxa (jf.apart (show jf w0 _ g s0_0 t138 from Y17) (by (with_reducible repeat (first | apply Kd.jga | apply Kd.jfa | apply Kd.jea));exact (Kd.jI (Kd.jQb (p:=⟨gb139,0,none⟩) (Kd.jQa HO137.out BK139.out (by decide)) (fun _ hk=>hk.2) (.slice Ao37 t135.length co37)) (fun _ h_=>h_.1))) (by decide)) hk (fun _ h=>h.2)) (fun _ h=>h.1));replace BK139:=am (jb.blk hk (g':=gb139) (o:=.cells #[.slice Ao37 t135.length co37] 25 (0,0)) (Y87) NB139_0.out (by simp));replace HK:=am (jb.trans (Y26) hk (.inl rfl));replace HB:=am (hb);replace HI0:=am (hi);(try clear hb);(try clear hb2);(try clear hk);(try clear hi)) |((with_reducible refine jd (f:=42) rfl ?_);refine gL (some 13) Try.func42 #[.pointer (some ⟨g,0,none⟩), .int .i64 24] ?_;(with_reducible refine (jg.calls k g s0_0 t141 24 t142 t143 w0 _ ?side1 ?side2 A4.out).mono ?_);(case side1=>exact Y17);(case side2=>exact Y29);rintro e w42 ⟨rfl,hi,hb,hk⟩;refine ⟨_,rfl,?_⟩;replace BK134:=am (jb.blk hk (g':=gb134) (o:=.cells #[.slice none 0 0] 25 (0,0)) (kq BK134.out) NB134_0.out (by simp));replace HO137:=am (Kd.jI (Kd.jxa (jf.apart (show jf w0 _ g s0_0 t141 from Y17) (rq HO137.out) (by decide)) hk (fun _ h=>h.2)) (fun _ h=>h.1));replace BK139:=am (jb.blk hk (g':=gb139) (o:=.cells #[.slice Ao37 t135.length co37] 25 (0,0)) (kq BK139.out) NB139_0.out (by simp));replace HK:=am (jb.trans (Y26) hk (.inl rfl));replace HB:=am (hb);replace HI0:=am (hi);(try clear hb);(try clear hb2);(try clear hk);(try clear hi)))
     replace HO137:=am (Kd.jea HO137.out)
     replace BK134:=am (jw BK134.out)
     replace BK139:=am (jw BK139.out)
     replace HI0:=am (jf.drew HI0.out)
     replace HK:=am (jNa HK.out)
     replace HB:=am (jE HB.out)
     refine jlc (n:=10) (S:=fun w'=>w'.cell? ⟨gb139,0,none⟩=some (.slice Ao37 t135.length co37)) (ds:=[9]) #[false,false,false,false,false,false,false,false,false,false] (by kernel_rfl) rfl rfl ((jF BK139.out 0).trans rfl) (fun hHeld=>?_);refine jqb joa.tab7 joa.bits7 (fun HT_ HW_=>?_)
     generalize w42.drew=w43 at HO137 BK134 BK139 HI0 HK HB hHeld ⊢
     refine pq (i:=0) (N:=some 26) #[true,false,false,false,false,false,false,false,false,false] ?_
     refine pq (i:=2) (N:=some 28) #[true,false,true,false,false,false,false,false,false,false] ?_
     refine pq (i:=3) (N:=some 29) #[true,false,true,true,false,false,false,false,false,false] ?_
     refine pq (i:=4) (N:=some 30) #[true,false,true,true,true,false,false,false,false,false] ?_
     refine jwb (i:=1) (N:=some 27) (v:=?_) (a':=?_) #[true,true,true,true,true,false,false,false,false,false] rfl rfl (jua HT_.out HW_.out (by kernel_rfl)) (fun _ _ _ h=>h) (Or.inl ⟨by rfl,?_⟩) hHeld ?_ ?_
     rotate_left
     ·intro w' s0
      go_simp
      with_reducible rfl
     rotate_left
     ·exact sa
     refine one_ (i:=5) (N:=some 31) #[true,true,true,true,true,true,false,false,false,false] rfl rfl (jyb HT_.out (by kernel_rfl)) (by decide) (fun K hK=>?_)
     refine Kd.jpc (Kd.int .i64) _ 3 ?hg (N:=31) ?hd (xs:=([t140,(-1),8,(-2)]:List Int)) (inner:=[.int .i64 t140, .int .i64 (-1), .int .i64 8, .int .i64 (-2)]) (ok:=fun _=>True) (okp:=fun _=>True) ?hr ?hp (fun _ hk=>hk) trivial (Below.refl _ _) (Nat.le_refl _) (by simp) ?_;(case hd=>rfl);(case hg=>rfl);(case hr=>exact Y5);(case hp=>exact (Reps.one (show Kd.M (Kd.int .i64) _ _ _ t140 [.int .i64 t140] from rfl) (Reps.one (show Kd.M (Kd.int .i64) _ _ _ (-1) [.int .i64 (-1)] from rfl) (Reps.one (show Kd.M (Kd.int .i64) _ _ _ 8 [.int .i64 8] from rfl) (Reps.one (show Kd.M (Kd.int .i64) _ _ _ (-2) [.int .i64 (-2)] from rfl) (Reps.none _ _))))))
     intro v151 w44 ho45 hb hg_ hnew_
     clear hg_ hnew_
     (first | rw [← Ny150.out] at ho45 |(simp only [Int.reduceToNat] at ho45;rw [← Ny150.out] at ho45))
     have HO152:=am (Kd.jaa ho45 (jN (w:=w) (g:=g) (row:=none) (Y26)))
     replace HO137:=am (Kd.jZ (rq HO137.out) hb)
     replace BK134:=am (jk (g:=gb134) (o:=.cells #[.slice none 0 0] 25 (0,0)) (kq BK134.out) hb)
     replace BK139:=am (jk (g:=gb139) (o:=.cells #[.slice Ao37 t135.length co37] 25 (0,0)) (kq BK139.out) hb)
     replace HK:=am (jb.trans (Y26) (jb.of_below hb g none) (.inl rfl))
     replace HB:=am (je (Y29) hb)
     replace HI0:=am (jf.below (Y17) hb)
     clear hb ho45
     obtain ⟨Ao46,co46,eo46⟩:=Kd.jka HO152.out
     (first | subst eo46 |(injection eo46 with f1_ f2_ f3_;have f4_:=f1_.symm;have f5_:=f3_.symm;clear f1_ f2_ f3_;subst f4_;subst f5_))
     refine hK.out _ _ ((jF BK139.out 0).trans rfl) (fun hHeld=>?_)
     clear hK K
     refine jWb (a':=?_) ?_ ?_
     rotate_left
     ·show Act.put _ (some 31) _=_
      simp only [Act.put,List.setIfInBounds_toArray,List.set_cons_zero,List.set_cons_succ,jkb,jmb]
      rfl
     refine one_ (i:=6) (N:=some 32) #[true,true,true,true,true,true,true,false,false,false] rfl rfl (jyb HT_.out (by kernel_rfl)) (by decide) (fun K hK=>?_)
     refine jPc Try.func58 (by kernel_rfl) rfl #[.pointer (some ⟨g,0,none⟩), .slice Ao46 y150.length co46] (by rfl) rfl rfl (aq) ?_
     with_reducible refine (jh.calls k g s0_0 t143 _ _ y150 t153 t154 w0 _ ?side1 ?side2 ?side3 ?side4 ?side5 A30.out).mono ?_
     (case side1=>exact Y17)
     (case side2=>exact Y29)
     (case side3=>exact cq (Kd.jy HO152.out).2.2)
     (case side4=>exact (Kd.jy HO152.out).2.1)
     (case side5=>exact jzb (jf.own_ne HI0.out HO152.out (by decide)))
     rintro e w47 ⟨rfl,hi,hb,hk⟩
     refine ⟨_,rfl,?_⟩
     replace BK134:=am (jb.blk hk (g':=gb134) (o:=.cells #[.slice none 0 0] 25 (0,0)) (kq BK134.out) NB134_0.out (by simp))
     replace HO137:=am (Kd.jI (Kd.jxa (jf.apart (show jf w0 _ g s0_0 t143 from Y17) (rq HO137.out) (by decide)) hk (fun _ h=>h.2)) (fun _ h=>h.1))
     replace BK139:=am (jb.blk hk (g':=gb139) (o:=.cells #[.slice Ao37 t135.length co37] 25 (0,0)) (kq BK139.out) NB139_0.out (by simp))
     replace HO152:=am (Kd.jI (Kd.jxa (jf.apart (show jf w0 _ g s0_0 t143 from Y17) (rq HO152.out) (by decide)) hk (fun _ h=>h.2)) (fun _ h=>h.1))
     replace HK:=am (jb.trans (Y26) hk (.inl rfl))
     replace HB:=am (hb)
     replace HI0:=am (hi)
     (try clear hb)
     (try clear hb2)
     (try clear hk)
     (try clear hi)
     have p33:0≤(t140:Int):=ozD (uq)
     have q33:(t140:Int)<((t135.length:Int):Int):=ozD (uq)
     obtain ⟨go33,co33,eo33,gb33,gl33,cl33,HG33⟩:=Kd.R_form HO137.out (by omega)
     (first | cases eo33 |(injection eo33 with ea_ en_ ec_;(first | subst ea_ |(injection ea_ with ea_;subst ea_));subst ec_;clear en_))
     have GB33:=am gb33
     have GG33:=am HG33
     clear gb33 gl33 HG33
     obtain ⟨ce33,hcl33,hM33,hcc33,hfr33⟩:=Kd.R_elem HO137.out z75 (t140:Int) p33 q33
     obtain rfl:=k75_openM hM33
     have hx33_0:World.cell? _ ⟨go33,(t140:Int).toNat * 2,none⟩=some (.string ((jY t135 t140).f0)):=hcc33 0 _ rfl
     have hx33_1:World.cell? _ ⟨go33,(t140:Int).toNat * 2+1,none⟩=some (.int .i64 ((jY t135 t140).f1)):=hcc33 1 _ rfl
     have hf33_0:World.frozen? _ ⟨go33,(t140:Int).toNat * 2,none⟩=false:=hfr33 0
     have hf33_1:World.frozen? _ ⟨go33,(t140:Int).toNat * 2+1,none⟩=false:=hfr33 1
     clear hcl33 hcc33 hfr33 hM33
     replace p33:=ezT p33
     replace q33:=ezT q33
     have HN0_go33:=am (show g≠go33 from by have h_:=jf.own_ne HI0.out HO137.out (by decide);intro e_;exact h_ (by rw [e_];rfl))
     obtain ⟨ce48,hcl48,hM48,hcc48,hfr48⟩:=Kd.R_elem HO137.out z75 (t140:Int) (ozD (uq)) (by have h_:(t140:Int)<((t135.length:Int):Int):=ozD (uq);first | exact h_ |(have e_:=(Kd.jy HO137.out).1;omega) | simpa using h_)
     obtain rfl:=k75_openM hM48
     have HP48:=(Kd.R_seg HO137.out (t140:Int) (ozD (uq)) (by have h_:(t140:Int)<((t135.length:Int):Int):=ozD (uq);first | exact h_ |(have e_:=(Kd.jy HO137.out).1;omega) | simpa using h_) (seg:=[.int .i64 t153]) (j:=1) hcl48 hcc48 (show 2≤2 from by decide) (x':=(⟨(jY t135 t140).f0,t153⟩:S75)) (k75_mkM _ _ _ (⟨(jY t135 t140).f0,t153⟩:S75) ) (fun _ hk=>hk)).1
     rw [← Ny155.out] at HP48
     have HQ48:=am HP48
     clear hcl48 hcc48 hfr48 hM48 HP48
     refine hK.out _ _ ((jF BK139.out 0).trans rfl) (fun hHeld=>?_)
     clear hK K
     refine jWb (a':=?_) ?_ ?_
     rotate_left
     ·show Act.put _ (some 32) _=_
      simp only [Act.put,List.setIfInBounds_toArray,List.set_cons_zero,List.set_cons_succ,jkb,jmb]
      rfl
     refine pq (i:=7) (N:=some 33) #[true,true,true,true,true,true,true,true,false,false] ?_
     refine pq (i:=8) (N:=some 34) #[true,true,true,true,true,true,true,true,true,false] ?_
     refine last_ (i:=9) (N:=none) #[true,true,true,true,true,true,true,true,true,true] rfl rfl (jyb HT_.out (by kernel_rfl)) (by decide) (fun K hK=>?_)
     refine skip_ (w1:=?_) (by rfl) rfl ?_ ?_
     rotate_left
     ·go_simp
      rfl
     refine hK.out _ _ ?_
     clear hK K
     refine jQc (jPb HT_.out (by kernel_rfl)) ?_
     have n0_:jq (Kd.R k75 75 (w47.setCell ⟨go33,(t140:Int).toNat * 2+1,none⟩ (.int .i64 t153)) w.heap.size (fun _=>True) (.slice (some ⟨go33,0,none⟩) t135.length co37) y155):=⟨rq HQ48.out⟩
     have n1_:jq (Kd.R (Kd.int .i64) 3 (w47.setCell ⟨go33,(t140:Int).toNat * 2+1,none⟩ (.int .i64 t153)) w.heap.size (fun _=>True) (.slice Ao46 y150.length co46) y150):=⟨by (with_reducible repeat (first | apply Kd.jga | apply Kd.jfa | apply Kd.jea));exact Kd.jI (Kd.jQb (p:=⟨go33,(t140:Int).toNat * 2+1,none⟩) (Kd.jQa HO152.out GG33.out (by decide)) (fun _ hk=>hk.2) (.int .i64 t153)) (fun _ hk=>trivial)⟩
     have n2_:jq ((w47.setCell ⟨go33,(t140:Int).toNat * 2+1,none⟩ (.int .i64 t153)).heap[gb134]?=some (.cells #[.slice none 0 0] 25 (0,0))):=⟨by (with_reducible repeat (first | refine jr ?_ _ | refine jw ?_ | refine jA ?_ _));refine jnb ?_ (by have h_:=Kd.R_ne HO137.out BK134.out (by decide);intro e_;exact h_ (by rw [e_];rfl)) _;(with_reducible repeat (first | refine jr ?_ _ | refine jw ?_ | refine jA ?_ _));exact BK134.out⟩
     have n3_:jq ((w47.setCell ⟨go33,(t140:Int).toNat * 2+1,none⟩ (.int .i64 t153)).heap[gb139]?=some (.cells #[.slice (some ⟨go33,0,none⟩) t135.length co37] 25 (0,0))):=⟨by (with_reducible repeat (first | refine jr ?_ _ | refine jw ?_ | refine jA ?_ _));refine jnb ?_ (by have h_:=Kd.R_ne HO137.out BK139.out (by decide);intro e_;exact h_ (by rw [e_];rfl)) _;(with_reducible repeat (first | refine jr ?_ _ | refine jw ?_ | refine jA ?_ _));exact BK139.out⟩
     have n4_:jq (jf w0 (w47.setCell ⟨go33,(t140:Int).toNat * 2+1,none⟩ (.int .i64 t153)) g s0_0 t154):=⟨by repeat (first |(with_reducible first | exact HI0.out | apply jf.alloc | apply jf.drewN | apply jf.drew | apply jf.jkc | refine jf.far ?_ HN0_go33.out _ | refine jf.far ?_ NB0_134.out _ | refine jf.far ?_ NB0_139.out _) | exact HI0.out)⟩
     have n5_:jq (jb w (w47.setCell ⟨go33,(t140:Int).toNat * 2+1,none⟩ (.int .i64 t153)) g none):=⟨by repeat (first |(with_reducible first | exact HK.out | apply jb.set_ | apply jVa | apply jNa | apply jWa | refine jeb ?_ GB33.out _ | refine jeb ?_ GW134.out _ | refine jeb ?_ GW139.out _) | exact HK.out)⟩
     have n6_:jq (Below w0.heap.size w0 (w47.setCell ⟨go33,(t140:Int).toNat * 2+1,none⟩ (.int .i64 t153))):=⟨by repeat (first |(with_reducible first | exact HB.out | apply jL | apply jm | apply jE | refine jK ?_ (Nat.le_trans HL.out GB33.out) | refine jK ?_ (jf.ge HI0.out) | refine jK ?_ GE134.out | refine jK ?_ GE139.out) | exact HB.out)⟩
     (try clear HO137)
     (try clear HO152)
     (try clear BK134)
     (try clear BK139)
     (try clear HI0)
     (try clear HK)
     (try clear HB)
     generalize (w47.setCell ⟨go33,(t140:Int).toNat * 2+1,none⟩ (.int .i64 t153))=w49 at n0_ n1_ n2_ n3_ n4_ n5_ n6_ ⊢
     have HO137:=n0_
     have HO152:=n1_
     have BK134:=n2_
     have BK139:=n3_
     have HI0:=n4_
     have HK:=n5_
     have HB:=n6_
     clear n0_ n1_ n2_ n3_ n4_ n5_ n6_
     have hcz50_0:=bc0 BK139.out
     have hfz50_0:=ja BK139.out 0
     have hnb51:=NB134_0.out
     have hnc51:=NB0_134.out
     have hcz52_0:=bc0 BK134.out
     have hfz52_0:=ja BK134.out 0
     try go_wp2
     refine bodyPost_ret (results_cell_row rfl _ _ gb134 25 #[.slice (some ⟨go33,0,none⟩) t135.length co37] (0,0) _ rfl (Y88) Try.underlying25 rfl (by kernel_rfl)) rfl ?_
     exact ⟨_,Y0,by (with_reducible repeat (first | apply Kd.jga | apply Kd.jfa | apply Kd.jea));exact Kd.jI (Kd.jQb (p:=⟨gb134,0,none⟩) (Kd.jQa HO137.out BK134.out (by decide)) (fun _ hk=>hk.2) (.slice (some ⟨go33,0,none⟩) t135.length co37)) (fun _ hk=>trivial),Y17,Y29,Y26⟩
    ·rw [if_neg c32] at H
     exact absurd H (by simp)
   ·rw [if_neg c31] at H
    exact absurd H (by simp)
  ·rw [if_neg c29] at H
   have c29b0:(t142 == 1)=false:=beq_eq_false_iff_ne.mpr c29
   have c29b1:(t142 != 1)=true:=bne_iff_ne.mpr c29
   by_cases c53:t142=2
   ·rw [if_pos c53] at H
    have c53b0:(t142 == 2)=true:=beq_iff_eq.mpr c53
    have c53b1:(t142 != 2)=false:=bne_eq_false_iff_eq.mpr c53
    clear c53
    simp only [Option.some.injEq,Prod.mk.injEq] at H
    obtain ⟨rfl,rfl⟩:=H
    go_enter Try.func77,Try.ntmps77
    go_wp2_with (first |((with_reducible refine jJ (N:=2) rfl ?_);refine bE (N:=2) (cs:=#[.slice none 0 0]) (t:=25) ?_;intro gb134 hg w54 hbox hb;have BK134:=am (hbox);have GW134:=am ((Y11:w.heap.size≤gb134));have GE134:=am ((Nat.le_trans HW0.out (Y11:w.heap.size≤gb134):w0.heap.size≤gb134));have NB0_134:=am ((Y21:g≠gb134));have NB134_0:=am ((Y22:gb134≠g));replace HK:=am (jb.trans (Y15) (jb.of_below hb g none) (.inl rfl));replace HB:=am (je (Y16) hb);replace HI0:=am (jf.below (Y14) hb);clear hb hbox hg) |((with_reducible refine jd (f:=43) rfl ?_);refine gL (some 6) Try.func43 #[.pointer (some ⟨g,0,none⟩)] ?_;(with_reducible refine (jW.calls k g s0_0 s0_1 t135 t138 w0 _ ?side1 ?side2 A2.out).mono ?_);(case side1=>exact Y51);(case side2=>exact Y52);rintro e w55 ⟨v136,rfl,ho0,hi,hb,hk⟩;refine ⟨_,rfl,?_⟩;have HO137:=am (Kd.jaa ho0 (jN (w:=w) (g:=g) (row:=none) (Y38)));replace BK134:=am (jb.blk hk (g':=gb134) (o:=.cells #[.slice none 0 0] 25 (0,0)) (kq BK134.out) NB134_0.out (by simp));replace HK:=am (jb.trans (Y38) hk (.inl rfl));replace HB:=am (hb);replace HI0:=am (hi);(try clear hb);(try clear hb2);(try clear hk);(try clear hi);(try clear ho0)) |((with_reducible refine jJ (N:=3) rfl ?_);refine bE (N:=3) (cs:=#[.slice none 0 0]) (t:=25) ?_;intro gb139 hg w56 hbox hb;have BK139:=am (hbox);have GW139:=am ((Y53:w.heap.size≤gb139));have GE139:=am ((Nat.le_trans HW0.out (Y53:w.heap.size≤gb139):w0.heap.size≤gb139));have NB134_139:=am ((Y82:gb134≠gb139));have NB139_134:=am ((Y83:gb139≠gb134));have NB0_139:=am ((Y84:g≠gb139));have NB139_0:=am ((Y85:gb139≠g));replace HO137:=am (Kd.jZ (rq HO137.out) hb);replace BK134:=am (jk (g:=gb134) (o:=.cells #[.slice none 0 0] 25 (0,0)) (kq BK134.out) hb);replace HK:=am (jb.trans (Y38) (jb.of_below hb g none) (.inl rfl));replace HB:=am (je (Y52) hb);replace HI0:=am (jf.below (Y51) hb);clear hb hbox hg;obtain ⟨Ao57,co57,eo57⟩:=Kd.jka HO137.out;subst eo57;have hnb58:=NB139_134.out;have hnc58:=NB134_139.out;have hnb59:=NB139_0.out;have hnc59:=NB0_139.out;have hcz60_0:=bc0 BK139.out;have hfz60_0:=ja BK139.out 0) |((with_reducible refine jd (f:=42) rfl ?_);refine gL (some 11) Try.func42 #[.pointer (some ⟨g,0,none⟩), .int .i64 (t135.length:Int)] ?_;(with_reducible refine (jg.calls k g s0_0 t138 (t135.length:Int) t140 t141 w0 _ ?side1 ?side2 A3.out).mono ?_);(case side1=>exact Y17);(case side2=>exact Y29);rintro e w61 ⟨rfl,hi,hb,hk⟩;refine ⟨_,rfl,?_⟩;replace BK134:=am (jb.blk hk (g':=gb134) (o:=.cells #[.slice none 0 0] 25 (0,0)) (Y86) NB134_0.out (by simp));replace HO137:=am (Kd.jI (Kd.jxa (jf.apart (show jf w0 _ g s0_0 t138 from Y17) (by (with_reducible repeat (first | apply Kd.jga | apply Kd.jfa | apply Kd.jea));exact (Kd.jI (Kd.jQb (p:=⟨gb139,0,none⟩) (Kd.jQa HO137.out BK139.out (by decide)) (fun _ hk=>hk.2) (.slice Ao57 t135.length co57)) (fun _ h_=>h_.1))) (by decide)) hk (fun _ h=>h.2)) (fun _ h=>h.1));replace BK139:=am (jb.blk hk (g':=gb139) (o:=.cells #[.slice Ao57 t135.length co57] 25 (0,0)) (Y87) NB139_0.out (by simp));replace HK:=am (jb.trans (Y26) hk (.inl rfl));replace HB:=am (hb);replace HI0:=am (hi);(try clear hb);(try clear hb2);(try clear hk);(try clear hi)) |((with_reducible refine jd (f:=42) rfl ?_);refine gL (some 13) Try.func42 #[.pointer (some ⟨g,0,none⟩), .int .i64 24] ?_;(with_reducible refine (jg.calls k g s0_0 t141 24 t142 t143 w0 _ ?side1 ?side2 A4.out).mono ?_);(case side1=>exact Y17);(case side2=>exact Y29);rintro e w62 ⟨rfl,hi,hb,hk⟩;refine ⟨_,rfl,?_⟩;replace BK134:=am (jb.blk hk (g':=gb134) (o:=.cells #[.slice none 0 0] 25 (0,0)) (kq BK134.out) NB134_0.out (by simp));replace HO137:=am (Kd.jI (Kd.jxa (jf.apart (show jf w0 _ g s0_0 t141 from Y17) (rq HO137.out) (by decide)) hk (fun _ h=>h.2)) (fun _ h=>h.1));replace BK139:=am (jb.blk hk (g':=gb139) (o:=.cells #[.slice Ao57 t135.length co57] 25 (0,0)) (kq BK139.out) NB139_0.out (by simp));replace HK:=am (jb.trans (Y26) hk (.inl rfl));replace HB:=am (hb);replace HI0:=am (hi);(try clear hb);(try clear hb2);(try clear hk);(try clear hi);have hnb63:=NB134_0.out;have hnc63:=NB0_134.out;have hcz64_0:=bc0 BK134.out;have hfz64_0:=ja BK134.out 0))
    refine bodyPost_ret (results_cell_row rfl _ _ gb134 25 #[.slice none 0 0] (0,0) _ rfl (Y88) Try.underlying25 rfl (by kernel_rfl)) rfl ?_
    exact ⟨_,Y0,by first | exact Kd.R_nil _ _ _ _ _ | exact Kd.N_nil _ _ _ _ _ | exact Kd.V_nil _ _ _ _ _ | exact Kd.Q_nil _ _ _ _ _ | exact Kd.S_nil _ _ _ _ _,Y17,Y29,Y26⟩
   ·rw [if_neg c53] at H
    have c53b0:(t142 == 2)=false:=beq_eq_false_iff_ne.mpr c53
    have c53b1:(t142 != 2)=true:=bne_iff_ne.mpr c53
    simp only [Option.some.injEq,Prod.mk.injEq] at H
    obtain ⟨rfl,rfl⟩:=H
    go_enter Try.func77,Try.ntmps77
    go_wp2_with (first |((with_reducible refine jJ (N:=2) rfl ?_);refine bE (N:=2) (cs:=#[.slice none 0 0]) (t:=25) ?_;intro gb134 hg w65 hbox hb;have BK134:=am (hbox);have GW134:=am ((Y11:w.heap.size≤gb134));have GE134:=am ((Nat.le_trans HW0.out (Y11:w.heap.size≤gb134):w0.heap.size≤gb134));have NB0_134:=am ((Y21:g≠gb134));have NB134_0:=am ((Y22:gb134≠g));replace HK:=am (jb.trans (Y15) (jb.of_below hb g none) (.inl rfl));replace HB:=am (je (Y16) hb);replace HI0:=am (jf.below (Y14) hb);clear hb hbox hg) |((with_reducible refine jd (f:=43) rfl ?_);refine gL (some 6) Try.func43 #[.pointer (some ⟨g,0,none⟩)] ?_;(with_reducible refine (jW.calls k g s0_0 s0_1 t135 t138 w0 _ ?side1 ?side2 A2.out).mono ?_);(case side1=>exact Y51);(case side2=>exact Y52);rintro e w66 ⟨v136,rfl,ho0,hi,hb,hk⟩;refine ⟨_,rfl,?_⟩;have HO137:=am (Kd.jaa ho0 (jN (w:=w) (g:=g) (row:=none) (Y38)));replace BK134:=am (jb.blk hk (g':=gb134) (o:=.cells #[.slice none 0 0] 25 (0,0)) (kq BK134.out) NB134_0.out (by simp));replace HK:=am (jb.trans (Y38) hk (.inl rfl));replace HB:=am (hb);replace HI0:=am (hi);(try clear hb);(try clear hb2);(try clear hk);(try clear hi);(try clear ho0)) |((with_reducible refine jJ (N:=3) rfl ?_);refine bE (N:=3) (cs:=#[.slice none 0 0]) (t:=25) ?_;intro gb139 hg w67 hbox hb;have BK139:=am (hbox);have GW139:=am ((Y53:w.heap.size≤gb139));have GE139:=am ((Nat.le_trans HW0.out (Y53:w.heap.size≤gb139):w0.heap.size≤gb139));have NB134_139:=am ((Y82:gb134≠gb139));have NB139_134:=am ((Y83:gb139≠gb134));have NB0_139:=am ((Y84:g≠gb139));have NB139_0:=am ((Y85:gb139≠g));replace HO137:=am (Kd.jZ (rq HO137.out) hb);replace BK134:=am (jk (g:=gb134) (o:=.cells #[.slice none 0 0] 25 (0,0)) (kq BK134.out) hb);replace HK:=am (jb.trans (Y38) (jb.of_below hb g none) (.inl rfl));replace HB:=am (je (Y52) hb);replace HI0:=am (jf.below (Y51) hb);clear hb hbox hg;obtain ⟨Ao68,co68,eo68⟩:=Kd.jka HO137.out;subst eo68;have hnb69:=NB139_134.out;have hnc69:=NB134_139.out;have hnb70:=NB139_0.out;have hnc70:=NB0_139.out;have hcz71_0:=bc0 BK139.out;have hfz71_0:=ja BK139.out 0) |((with_reducible refine jd (f:=42) rfl ?_);refine gL (some 11) Try.func42 #[.pointer (some ⟨g,0,none⟩), .int .i64 (t135.length:Int)] ?_;(with_reducible refine (jg.calls k g s0_0 t138 (t135.length:Int) t140 t141 w0 _ ?side1 ?side2 A3.out).mono ?_);(case side1=>exact Y17);(case side2=>exact Y29);rintro e w72 ⟨rfl,hi,hb,hk⟩;refine ⟨_,rfl,?_⟩;replace BK134:=am (jb.blk hk (g':=gb134) (o:=.cells #[.slice none 0 0] 25 (0,0)) (Y86) NB134_0.out (by simp));replace HO137:=am (Kd.jI (Kd.jxa (jf.apart (show jf w0 _ g s0_0 t138 from Y17) (by (with_reducible repeat (first | apply Kd.jga | apply Kd.jfa | apply Kd.jea));exact (Kd.jI (Kd.jQb (p:=⟨gb139,0,none⟩) (Kd.jQa HO137.out BK139.out (by decide)) (fun _ hk=>hk.2) (.slice Ao68 t135.length co68)) (fun _ h_=>h_.1))) (by decide)) hk (fun _ h=>h.2)) (fun _ h=>h.1));replace BK139:=am (jb.blk hk (g':=gb139) (o:=.cells #[.slice Ao68 t135.length co68] 25 (0,0)) (Y87) NB139_0.out (by simp));replace HK:=am (jb.trans (Y26) hk (.inl rfl));replace HB:=am (hb);replace HI0:=am (hi);(try clear hb);(try clear hb2);(try clear hk);(try clear hi)) |((with_reducible refine jd (f:=42) rfl ?_);refine gL (some 13) Try.func42 #[.pointer (some ⟨g,0,none⟩), .int .i64 24] ?_;(with_reducible refine (jg.calls k g s0_0 t141 24 t142 t143 w0 _ ?side1 ?side2 A4.out).mono ?_);(case side1=>exact Y17);(case side2=>exact Y29);rintro e w73 ⟨rfl,hi,hb,hk⟩;refine ⟨_,rfl,?_⟩;replace BK134:=am (jb.blk hk (g':=gb134) (o:=.cells #[.slice none 0 0] 25 (0,0)) (kq BK134.out) NB134_0.out (by simp));replace HO137:=am (Kd.jI (Kd.jxa (jf.apart (show jf w0 _ g s0_0 t141 from Y17) (rq HO137.out) (by decide)) hk (fun _ h=>h.2)) (fun _ h=>h.1));replace BK139:=am (jb.blk hk (g':=gb139) (o:=.cells #[.slice Ao68 t135.length co68] 25 (0,0)) (kq BK139.out) NB139_0.out (by simp));replace HK:=am (jb.trans (Y26) hk (.inl rfl));replace HB:=am (hb);replace HI0:=am (hi);(try clear hb);(try clear hb2);(try clear hk);(try clear hi);have hcz74_0:=bc0 BK139.out;have hfz74_0:=ja BK139.out 0;have hnb75:=NB134_0.out;have hnc75:=NB0_134.out;have hcz76_0:=bc0 BK134.out;have hfz76_0:=ja BK134.out 0))
    refine bodyPost_ret (results_cell_row rfl _ _ gb134 25 #[.slice Ao68 t135.length co68] (0,0) _ rfl (Y88) Try.underlying25 rfl (by kernel_rfl)) rfl ?_
    exact ⟨_,Y0,by (with_reducible repeat (first | apply Kd.jga | apply Kd.jfa | apply Kd.jea));exact Kd.jI (Kd.jQb (p:=⟨gb134,0,none⟩) (Kd.jQa HO137.out BK134.out (by decide)) (fun _ hk=>hk.2) (.slice Ao68 t135.length co68)) (fun _ hk=>trivial),Y17,Y29,Y26⟩
mutual
def jB.j0 : Nat → Int → Bool → Int → List Int → Int → List (S75) → Option ((List (S36)) × Int)
 | 0,_,_,_,_,_,_=>none
 | k+1,x2,x3,x9,x1000,x1001,x157000=>if x9<4 then ((jh.f k x1000 x1001 (([1,2,3,4,5]:List Int))).bind fun bt165=>(some ((([(⟨x2,1,bt165.1,0⟩:S36)]:List (S36))),bt165.2))) else (if x9<6 then ((jg.f k x1000 x1001 (x157000.length:Int)).bind fun bt170=>((jh.f k x1000 bt170.2 (([1,2,3]:List Int))).bind fun bt175=>(some ((([(⟨x2,2,bt170.1,bt175.1⟩:S36)]:List (S36))),bt175.2)))) else (if x9=6 then (some ((([(⟨x2,3,0,0⟩:S36)]:List (S36))),x1001)) else (if x9=7 then (jB.j1 k x2 x3 x9 x3 x1000 x1001 x157000 x2 0 0 0) else (jB.j1 k x2 x3 x9 false x1000 x1001 x157000 x2 0 0 0))))
def jB.j1 : Nat → Int → Bool → Int → Bool → List Int → Int → List (S75) → Int → Int → Int → Int → Option ((List (S36)) × Int)
 | 0,_,_,_,_,_,_,_,_,_,_,_=>none
 | k+1,x2,x3,x9,x50,x1000,x1001,x157000,x162000,x162001,x162002,x162003=>if x50=true then ((jh.f k x1000 x1001 (([5,6]:List Int))).bind fun bt186=>(some ((([(⟨x162000,bt186.1,x162002,x162003⟩:S36)]:List (S36))),bt186.2))) else (if x9=7 then ((jh.f k x1000 x1001 (([7,8]:List Int))).bind fun bt194=>(some ((([(⟨x162000,4,bt194.1,x162003⟩:S36)]:List (S36))),bt194.2))) else (if x9=8 then (some ((([(⟨x162000,0,x162002,x162003⟩:S36)]:List (S36))),x1001)) else (if x9<11 then ((jg.f k x1000 x1001 4).bind fun bt202=>((jg.f k x1000 bt202.2 2).bind fun bt204=>((some (([(⟨x162000,11,bt202.1,bt204.1⟩:S36)]:List (S36)):List (S36))).bind fun y206=>((jO.f k x1000 bt204.2 x157000 (wrap64 (x2+1)) x3).bind fun bt209=>(if y206.length+bt209.1.length<4398046511104 then (some ((y206 ++ bt209.1),bt209.2)) else (none)))))) else (if x9=11 then ((jh.f k x1000 x1001 (([2,1,3,0]:List Int))).bind fun bt219=>((some (([(⟨x162000,12,bt219.1,x162003⟩:S36)]:List (S36)):List (S36))).bind fun y221=>((jO.f k x1000 bt219.2 x157000 (wrap64 (x2+1)) true).bind fun bt224=>(if y221.length+bt224.1.length<4398046511104 then (some ((y221 ++ bt224.1),bt224.2)) else (none))))) else ((jV.f k x1000 x1001 x157000 x2 x3).bind fun bt231=>(some (bt231.1,bt231.2)))))))
def jB.f : Nat → List Int → Int → List (S75) → Int → Bool → Option ((List (S36)) × Int)
 | 0,_,_,_,_,_=>none
 | k+1,s0_0,s0_1,l1_0,a2,a3=>(jg.f k s0_0 s0_1 16).bind fun bt157=>(if a2≥3 then ((jg.f k s0_0 bt157.2 9).bind fun bt159=>(jB.j0 k a2 a3 bt159.1 s0_0 bt159.2 l1_0)) else (jB.j0 k a2 a3 bt157.1 s0_0 bt157.2 l1_0))
def jO.l0 : Nat → Int → Bool → List (S36) → Int → List Int → Int → List (S75) → Option ((List (S36)) × Int)
 | 0,_,_,_,_,_,_,_=>none
 | k+1,x2,x3,x9,x10,x1000,x1001,x236000=>if x10 > 0 then ((jB.f k x1000 x1001 x236000 x2 x3).bind fun bt244=>(if x9.length+bt244.1.length<4398046511104 then (jO.l0 k x2 x3 (x9 ++ bt244.1) (wrap64 (x10 - 1)) x1000 bt244.2 x236000) else (none))) else (some (x9,x1001))
def jO.f : Nat → List Int → Int → List (S75) → Int → Bool → Option ((List (S36)) × Int)
 | 0,_,_,_,_,_=>none
 | k+1,s0_0,s0_1,l1_0,a2,a3=>(jh.f k s0_0 s0_1 (([1,2,1,2,3]:List Int))).bind fun bt242=>(jO.l0 k a2 a3 (([]:List (S36))) bt242.1 s0_0 bt242.2 l1_0)
def jV.l0 : Nat → Int → Bool → List (S36) → Int → Int → List Int → Int → List (S75) → Option ((List (S36)) × Int)
 | 0,_,_,_,_,_,_,_,_=>none
 | k+1,x2,x3,x9,x10,x11,x1000,x1001,x252000=>if x11 > 0 then ((jg.f k x1000 x1001 (x252000.length:Int)).bind fun bt267=>((jh.f k x1000 bt267.2 (([bt267.1,0]:List Int))).bind fun bt272=>(if x9.length<4398046511104 then ((some (x9 ++ [(⟨x2,8,bt272.1,0⟩:S36)]:List (S36))).bind fun y274=>((jO.f k x1000 bt272.2 x252000 (wrap64 (x2+1)) x3).bind fun bt277=>(if y274.length+bt277.1.length<4398046511104 then (jV.l0 k x2 x3 (y274 ++ bt277.1) x10 (wrap64 (x11 - 1)) x1000 bt277.2 x252000) else (none)))) else (none)))) else (if x10 > 0 then ((jg.f k x1000 x1001 3).bind fun bt284=>(jV.j1 k x2 x3 x9 x10 (bt284.1 == 0) x1000 bt284.2 x252000)) else (jV.j1 k x2 x3 x9 x10 false x1000 x1001 x252000))
def jV.j1 : Nat → Int → Bool → List (S36) → Int → Bool → List Int → Int → List (S75) → Option ((List (S36)) × Int)
 | 0,_,_,_,_,_,_,_,_=>none
 | k+1,x2,x3,x9,x10,x57,x1000,x1001,x252000=>if x57=true then (if x9.length<4398046511104 then ((some (x9 ++ [(⟨x2,9,0,0⟩:S36)]:List (S36))).bind fun y286=>((jO.f k x1000 x1001 x252000 (wrap64 (x2+1)) x3).bind fun bt289=>(if y286.length+bt289.1.length<4398046511104 then (jV.j2 k x2 x3 (y286 ++ bt289.1) x10 x1000 bt289.2 x252000) else (none)))) else (none)) else (jV.j2 k x2 x3 x9 x10 x1000 x1001 x252000)
def jV.j2 : Nat → Int → Bool → List (S36) → Int → List Int → Int → List (S75) → Option ((List (S36)) × Int)
 | 0,_,_,_,_,_,_,_=>none
 | k+1,x2,x3,x9,x10,x1000,x1001,x252000=>if x10=0 then (if x9.length<4398046511104 then ((some (x9 ++ [(⟨x2,10,0,0⟩:S36)]:List (S36))).bind fun y298=>((jO.f k x1000 x1001 x252000 (wrap64 (x2+1)) x3).bind fun bt301=>(if y298.length+bt301.1.length<4398046511104 then (some ((y298 ++ bt301.1),bt301.2)) else (none)))) else (none)) else ((jg.f k x1000 x1001 2).bind fun bt296=>(if bt296.1=0 then (if x9.length<4398046511104 then ((some (x9 ++ [(⟨x2,10,0,0⟩:S36)]:List (S36))).bind fun y308=>((jO.f k x1000 bt296.2 x252000 (wrap64 (x2+1)) x3).bind fun bt311=>(if y308.length+bt311.1.length<4398046511104 then (some ((y308 ++ bt311.1),bt311.2)) else (none)))) else (none)) else (some (x9,bt296.2))))
def jV.f : Nat → List Int → Int → List (S75) → Int → Bool → Option ((List (S36)) × Int)
 | 0,_,_,_,_,_=>none
 | k+1,s0_0,s0_1,l1_0,a2,a3=>(some (([(⟨a2,7,0,0⟩:S36)]:List (S36)):List (S36))).bind fun y252=>((jO.f k s0_0 s0_1 l1_0 (wrap64 (a2+1)) a3).bind fun bt255=>(if y252.length+bt255.1.length<4398046511104 then ((jh.f k s0_0 bt255.2 (([1,2,0,1]:List Int))).bind fun bt265=>(jV.l0 k a2 a3 (y252 ++ bt255.1) bt265.1 bt265.1 s0_0 bt265.2 l1_0)) else (none)))
end
end Go.Proofs.Ytkedkinojeoeaaa.P
end
