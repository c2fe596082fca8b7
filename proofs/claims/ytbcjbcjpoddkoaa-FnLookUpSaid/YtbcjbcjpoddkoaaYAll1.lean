/- One part of the proofs on this program: functions of the program as plain functions, that the code comes to them, and facts on them. -/
import Derived.ArgAppend
import Derived.Below
import Derived.BigQuiet
import Derived.Deep.AppendLies
import Derived.Deep.CutBlock
import Derived.Deep.DeepCutAuto
import Derived.Deep.Draws
import Derived.Deep.LoopGhost
import Derived.Deep.OwnRows
import Derived.Deep.QuietTactic
import Derived.Deep.RegionHeld3
import Derived.KernelRfl
import Derived.Laws.BitsLemmas
import Derived.Laws.BytesArg
import Derived.Laws.IdiomCopy
import Derived.Laws.MakeOwn
import Derived.Laws.OwnMore
import Derived.Laws.Rows
import Derived.Laws.Slices
import Derived.Laws.StructEq
import Derived.Lib.AppendStr
import Derived.Lib.ConvBytes
import Derived.LoopIn
import Derived.LoopNIn
import Derived.LoopTactic
import Derived.Maps.AppendAt
import Derived.OrdersHeld
import Derived.OwnWalk
import Derived.OwnWalkIn
import Derived.RangeFuncBound
import Derived.RangeFuncBox
import Derived.RangeFuncCalls
import Derived.RangeFuncLeaves
import Derived.RangeFuncNested
import Derived.RowKit
import Derived.RowKit3
import Derived.Shelf.Abstract
import Derived.Shelf.RegionOpen
import Derived.Tactics
import Derived.TacticsInMore
import Derived.WalkKit
import Derived.WideLaws
import Derived.Test.YtbcjbcjpoddkoaaProg
import Derived.Test.YtbcjbcjpoddkoaaYWApart
import Derived.Test.YtbcjbcjpoddkoaaYWAuto
import Derived.Test.YtbcjbcjpoddkoaaYWClip
import Derived.Test.YtbcjbcjpoddkoaaYWFoot
import Derived.Test.YtbcjbcjpoddkoaaYWGuard
import Derived.Test.YtbcjbcjpoddkoaaYWIdx
import Derived.Test.YtbcjbcjpoddkoaaYWKept
import Derived.Test.YtbcjbcjpoddkoaaYWLast
import Derived.Test.YtbcjbcjpoddkoaaYWMkcap
import Derived.Test.YtbcjbcjpoddkoaaYWMore
import Derived.Test.YtbcjbcjpoddkoaaYWN
import Derived.Test.YtbcjbcjpoddkoaaYWRepsOne
import Derived.Test.YtbcjbcjpoddkoaaYWShare
import Derived.Test.YtbcjbcjpoddkoaaYWSome
import Derived.Test.YtbcjbcjpoddkoaaYWTab
import Derived.Test.YtbcjbcjpoddkoaaYWWords
section
namespace Go.Proofs.Ytbcjbcjpoddkoaa.P
open Go.RowKit Go.Proofs.YtbcjbcjpoddkoaaW.PrintWords Go.Proofs.YtbcjbcjpoddkoaaW.PrintLast Go.Proofs.YtbcjbcjpoddkoaaW.PrintMore
attribute [local go_sem] max2_int min2_int max_two min_two max_three min_three max_four min_four isSome_cell_setCell
set_option linter.unusedVariables false
set_option linter.unusedSimpArgs false
def errW : Option Int → Value
 | none => .nilIface
 | some c => .iface 0 (.int .i64 c)
theorem errW_none : errW none = .nilIface := rfl
theorem errW_some (c : Int) : errW (some c) = .iface 0 (.int .i64 c) := rfl
theorem info3 : (Try.prog.info? 3).map (fun i => (i.zero, i.size, i.bytes)) = some (some (.int .i64 0), 1, 8) := by kernel_rfl
theorem info5 : (Try.prog.info? 5).map (fun i => (i.zero, i.size, i.bytes)) = some (some (.int .u8 0), 1, 1) := by kernel_rfl
theorem info48 : (Try.prog.info? 48).map (fun i => (i.zero, i.size, i.bytes)) = some (some (.agg #[(.int .i64 0), (.int .i64 0), (.int .i64 0), (.int .i64 0)]), 4, 32) := by kernel_rfl
theorem info59 : (Try.prog.info? 59).map (fun i => (i.zero, i.size, i.bytes)) = some (some (.agg #[(.int .i64 0), (.int .i64 0), (.int .i64 0), (.int .i64 0)]), 4, 32) := by kernel_rfl
theorem info98 : (Try.prog.info? 98).map (fun i => (i.zero, i.size, i.bytes)) = some (some (.agg #[(.string ⟨#[]⟩), (.int .i64 0)]), 2, 24) := by kernel_rfl
structure S98 where
 f0 : ByteArray
 f1 : Int
def z98 : S98 := ⟨(⟨#[]⟩ : ByteArray), (0 : Int)⟩
def k98 : Kd S98 := Kd.iso (Kd.pair Kd.string (Kd.int .i64)) (fun x : S98 => (x.f0, x.f1))
theorem k98_open {w : World} {x : S98} {cs : List Value} (h : k98.K w x cs) : cs = [.string x.f0, .int .i64 x.f1] := by
 obtain ⟨_, _, rfl, rfl, rfl⟩ := h
 exact rfl
theorem k98_openM {w : World} {base : Nat} {ok : Nat → Prop} {x : S98} {cs : List Value} (h : k98.M w base ok x cs) : cs = [.string x.f0, .int .i64 x.f1] := by
 obtain ⟨_, _, rfl, rfl, rfl⟩ := h
 exact rfl
theorem k98_mkM (w : World) (base : Nat) (ok : Nat → Prop) (x : S98)  : k98.M w base ok x [.string x.f0, .int .i64 x.f1] := ⟨[.string x.f0], [.int .i64 x.f1], rfl, rfl, rfl⟩
def rd_T98 (xs : List S98) (i : Int) : S98 := xs.getD i.toNat z98
theorem at_T98 {w : World} {A : Option Addr} {n : Nat} {xs : List S98} (h : Kd.C k98 w A n xs) (i : Int) (h0 : 0 ≤ i) (h1 : i < n) : ∃ ad , A = some ad ∧ w.cell? (ad.add (i.toNat * 2)) = some (.string (rd_T98 xs i).f0) ∧ w.cell? ⟨(ad.add (i.toNat * 2)).block, (ad.add (i.toNat * 2)).off + 1, none⟩ = some (.int .i64 (rd_T98 xs i).f1) := by
 obtain ⟨ad, c, e, _, hK, hc0⟩ := Kd.C_get h z98 i h0 h1
 have hc : ∀ j u, c[j]? = some u → w.cell? (ad.add (i.toNat * 2 + j)) = some u := hc0
 obtain rfl := k98_open hK
 exact ⟨ad, e, hc 0 _ rfl, by rw [← add_field _ _ 1 (by omega)]; exact hc 1 _ rfl⟩
structure S59 where
 f0 : Int
 f1 : Int
 f2 : Int
 f3 : Int
def z59 : S59 := ⟨(0 : Int), (0 : Int), (0 : Int), (0 : Int)⟩
def k59 : Kd S59 := Kd.iso (Kd.pair (Kd.int .i64) (Kd.pair (Kd.int .i64) (Kd.pair (Kd.int .i64) (Kd.int .i64)))) (fun x : S59 => (x.f0, x.f1, x.f2, x.f3))
theorem k59_open {w : World} {x : S59} {cs : List Value} (h : k59.K w x cs) : cs = [.int .i64 x.f0, .int .i64 x.f1, .int .i64 x.f2, .int .i64 x.f3] := by
 obtain ⟨_, _, rfl, rfl, ⟨_, _, rfl, rfl, ⟨_, _, rfl, rfl, rfl⟩⟩⟩ := h
 exact rfl
theorem k59_openM {w : World} {base : Nat} {ok : Nat → Prop} {x : S59} {cs : List Value} (h : k59.M w base ok x cs) : cs = [.int .i64 x.f0, .int .i64 x.f1, .int .i64 x.f2, .int .i64 x.f3] := by
 obtain ⟨_, _, rfl, rfl, ⟨_, _, rfl, rfl, ⟨_, _, rfl, rfl, rfl⟩⟩⟩ := h
 exact rfl
theorem k59_mkM (w : World) (base : Nat) (ok : Nat → Prop) (x : S59)  : k59.M w base ok x [.int .i64 x.f0, .int .i64 x.f1, .int .i64 x.f2, .int .i64 x.f3] := ⟨[.int .i64 x.f0], [.int .i64 x.f1, .int .i64 x.f2, .int .i64 x.f3], rfl, rfl, ⟨[.int .i64 x.f1], [.int .i64 x.f2, .int .i64 x.f3], rfl, rfl, ⟨[.int .i64 x.f2], [.int .i64 x.f3], rfl, rfl, rfl⟩⟩⟩
def rd_T59 (xs : List S59) (i : Int) : S59 := xs.getD i.toNat z59
theorem at_T59 {w : World} {A : Option Addr} {n : Nat} {xs : List S59} (h : Kd.C k59 w A n xs) (i : Int) (h0 : 0 ≤ i) (h1 : i < n) : ∃ ad , A = some ad ∧ w.cell? (ad.add (i.toNat * 4)) = some (.int .i64 (rd_T59 xs i).f0) ∧ w.cell? ⟨(ad.add (i.toNat * 4)).block, (ad.add (i.toNat * 4)).off + 1, none⟩ = some (.int .i64 (rd_T59 xs i).f1) ∧ w.cell? ⟨(ad.add (i.toNat * 4)).block, (ad.add (i.toNat * 4)).off + 2, none⟩ = some (.int .i64 (rd_T59 xs i).f2) ∧ w.cell? ⟨(ad.add (i.toNat * 4)).block, (ad.add (i.toNat * 4)).off + 3, none⟩ = some (.int .i64 (rd_T59 xs i).f3) := by
 obtain ⟨ad, c, e, _, hK, hc0⟩ := Kd.C_get h z59 i h0 h1
 have hc : ∀ j u, c[j]? = some u → w.cell? (ad.add (i.toNat * 4 + j)) = some u := hc0
 obtain rfl := k59_open hK
 exact ⟨ad, e, hc 0 _ rfl, by rw [← add_field _ _ 1 (by omega)]; exact hc 1 _ rfl, by rw [← add_field _ _ 2 (by omega)]; exact hc 2 _ rfl, by rw [← add_field _ _ 3 (by omega)]; exact hc 3 _ rfl⟩
structure S48 where
 f0 : Int
 f1 : Int
 f2 : Int
 f3 : Int
def z48 : S48 := ⟨(0 : Int), (0 : Int), (0 : Int), (0 : Int)⟩
def k48 : Kd S48 := Kd.iso (Kd.pair (Kd.int .i64) (Kd.pair (Kd.int .i64) (Kd.pair (Kd.int .i64) (Kd.int .i64)))) (fun x : S48 => (x.f0, x.f1, x.f2, x.f3))
theorem k48_open {w : World} {x : S48} {cs : List Value} (h : k48.K w x cs) : cs = [.int .i64 x.f0, .int .i64 x.f1, .int .i64 x.f2, .int .i64 x.f3] := by
 obtain ⟨_, _, rfl, rfl, ⟨_, _, rfl, rfl, ⟨_, _, rfl, rfl, rfl⟩⟩⟩ := h
 exact rfl
theorem k48_openM {w : World} {base : Nat} {ok : Nat → Prop} {x : S48} {cs : List Value} (h : k48.M w base ok x cs) : cs = [.int .i64 x.f0, .int .i64 x.f1, .int .i64 x.f2, .int .i64 x.f3] := by
 obtain ⟨_, _, rfl, rfl, ⟨_, _, rfl, rfl, ⟨_, _, rfl, rfl, rfl⟩⟩⟩ := h
 exact rfl
theorem k48_mkM (w : World) (base : Nat) (ok : Nat → Prop) (x : S48)  : k48.M w base ok x [.int .i64 x.f0, .int .i64 x.f1, .int .i64 x.f2, .int .i64 x.f3] := ⟨[.int .i64 x.f0], [.int .i64 x.f1, .int .i64 x.f2, .int .i64 x.f3], rfl, rfl, ⟨[.int .i64 x.f1], [.int .i64 x.f2, .int .i64 x.f3], rfl, rfl, ⟨[.int .i64 x.f2], [.int .i64 x.f3], rfl, rfl, rfl⟩⟩⟩
def rd_T48 (xs : List S48) (i : Int) : S48 := xs.getD i.toNat z48
theorem at_T48 {w : World} {A : Option Addr} {n : Nat} {xs : List S48} (h : Kd.C k48 w A n xs) (i : Int) (h0 : 0 ≤ i) (h1 : i < n) : ∃ ad , A = some ad ∧ w.cell? (ad.add (i.toNat * 4)) = some (.int .i64 (rd_T48 xs i).f0) ∧ w.cell? ⟨(ad.add (i.toNat * 4)).block, (ad.add (i.toNat * 4)).off + 1, none⟩ = some (.int .i64 (rd_T48 xs i).f1) ∧ w.cell? ⟨(ad.add (i.toNat * 4)).block, (ad.add (i.toNat * 4)).off + 2, none⟩ = some (.int .i64 (rd_T48 xs i).f2) ∧ w.cell? ⟨(ad.add (i.toNat * 4)).block, (ad.add (i.toNat * 4)).off + 3, none⟩ = some (.int .i64 (rd_T48 xs i).f3) := by
 obtain ⟨ad, c, e, _, hK, hc0⟩ := Kd.C_get h z48 i h0 h1
 have hc : ∀ j u, c[j]? = some u → w.cell? (ad.add (i.toNat * 4 + j)) = some u := hc0
 obtain rfl := k48_open hK
 exact ⟨ad, e, hc 0 _ rfl, by rw [← add_field _ _ 1 (by omega)]; exact hc 1 _ rfl, by rw [← add_field _ _ 2 (by omega)]; exact hc 2 _ rfl, by rw [← add_field _ _ 3 (by omega)]; exact hc 3 _ rfl⟩
def impl_within.f (a0 : Int) (a1 : Int) (a2 : Int) : Option (Bool) := if a0 ≥ a1 then (some (decide (a0 ≤ a2))) else (some false)
set_option maxHeartbeats 8000000 in
set_option maxRecDepth 100000 in
theorem impl_within.calls (a0 : Int) (a1 : Int) (a2 : Int) (r : Bool) (w : World) (h : impl_within.f a0 a1 a2 = some r) :
  Calls Try.prog 45 #[.int .i64 a0, .int .i64 a1, .int .i64 a2] w fun e w' => e = .returned (.bool r) ∧ Drawn0 w w' := by
 have H : (if a0 ≥ a1 then (some (decide (a0 ≤ a2))) else (some false)) = some r := h
 clear h
 by_cases c4 : a0 ≥ a1
 ·rw [if_pos c4] at H
  have c4b0 : decide (a1 ≤ a0) = true := decide_eq_true c4
  clear c4
  obtain rfl := Option.some.inj H
  go_enter Try.func45, Try.ntmps45
  go_wp2
  go_ret
  exact ⟨sq, Y8⟩
 ·rw [if_neg c4] at H
  have c4b0 : decide (a1 ≤ a0) = false := decide_eq_false c4
  clear c4
  obtain rfl := Option.some.inj H
  go_enter Try.func45, Try.ntmps45
  go_wp2
  go_ret
  exact ⟨sq, Y8⟩
def impl_Tree_has.f (l0_0 : List (S98)) (a1 : Int) : Option (Bool) := (impl_within.f a1 0 (wrap64 ((l0_0.length : Int) - 1))).bind fun t222 => (some t222)
set_option maxHeartbeats 8000000 in
set_option maxRecDepth 100000 in
theorem impl_Tree_has.calls (A0_0 : Option Addr) (c0_0 : Nat) (l0_0 : List (S98)) (a1 : Int) (r : Bool) (w : World) (hr0_0 : Kd.C k98 w A0_0 l0_0.length l0_0) (hc0_0 : l0_0.length ≤ c0_0) (h : impl_Tree_has.f l0_0 a1 = some r) :
  Calls Try.prog 50 #[.agg #[.slice A0_0 l0_0.length c0_0], .int .i64 a1] w fun e w' => e = .returned (.bool r) ∧ Below w.heap.size w w' := by
 have hu32 := Try.underlying32
 have HR0_0 := am hr0_0
 have HC0_0 := am hc0_0
 clear hr0_0 hc0_0
 have HB := am (Below.refl w.heap.size w)
 have H : ((impl_within.f a1 0 (wrap64 ((l0_0.length : Int) - 1))).bind fun t222 => (some t222)) = some r := h
 clear h
 replace H := Option.bind_eq_some_iff.mp H
 obtain ⟨t222, A30, H⟩ := H
 replace H : (some t222) = some r := H
 have A3 := am A30
 clear A30
 obtain rfl := Option.some.inj H
 go_enter Try.func50, Try.ntmps50
 go_wp2_with (first | ((with_reducible refine gate_dst (N := 2) rfl ?_); refine bE (N := 2) (cs := #[.slice A0_0 l0_0.length c0_0]) (t := 32) ?_; intro gb221 hg w4 hbox hb; have BK221 := am (hbox); have GW221 := am ((Y11 : w.heap.size ≤ gb221)); have GE221 := am ((Y11 : w.heap.size ≤ gb221)); replace HB := am (below_step (bq) hb); clear hb hbox hg; have hcz5_0 := bc0 BK221.out; have hfz5_0 := blk_frozen BK221.out 0) | ((with_reducible refine gate_callee (f := 45) rfl ?_); refine gL (some 10) Try.func45 #[.int .i64 a1, .int .i64 0, .int .i64 (wrap64 ((l0_0.length : Int) - 1))] ?_; (with_reducible refine (impl_within.calls a1 0 (wrap64 ((l0_0.length : Int) - 1)) t222 _ A3.out).mono ?_); rintro e w' ⟨rfl, ⟨nd, rfl⟩⟩; refine ⟨_, rfl, ?_⟩))
 go_ret
 exact ⟨Y0, by repeat (first | (with_reducible first | exact HB.out | apply below_alloc | apply pw_below_drewN | apply below_drew1 | refine below_set ?_ GE221.out) | exact HB.out)⟩
def impl_nameOk.l0 : Nat → ByteArray → Int → Int → Option (Bool)
 | 0, _, _, _ => none
 | k + 1, x0, x5, x6 => if x6 < x5 then (if 0 ≤ x6 then (if x6 < (x0.size : Int) then (if (bt x0 x6) < 97 then (some false) else (if (bt x0 x6) > 122 then (some false) else (impl_nameOk.l0 k x0 x5 (wrap64 (x6 + 1))))) else (none)) else (none)) else ((impl_within.f (x0.size : Int) 1 6).bind fun t212 => (some t212))
def impl_nameOk.f (k : Nat) (a0 : ByteArray) : Option (Bool) := impl_nameOk.l0 k a0 (a0.size : Int) 0
set_option maxHeartbeats 8000000 in
set_option maxRecDepth 100000 in
theorem impl_nameOk.calls (k : Nat) (a0 : ByteArray) (r : Bool) (w : World) (h : impl_nameOk.f k a0 = some r) :
  Calls Try.prog 73 #[.string a0] w fun e w' => e = .returned (.bool r) ∧ Drawn0 w w' := by
 have H : (impl_nameOk.l0 k a0 (a0.size : Int) 0) = some r := h
 clear h
 have H' := am H
 clear H
 go_enter Try.func73, Try.ntmps73
 go_wp2
 go_loopg [6] k (fun kq v6 w' => ∃ (x6_1 : Int), v6 = .int .i64 x6_1 ∧ Aside0 (impl_nameOk.l0 kq a0 (a0.size : Int) x6_1 = some r) ∧ Aside0 (kq ≤ k) ∧ Drawn0 w w')
 case atStart => exact ⟨(0), (sq), H', ⟨Nat.le_refl _⟩, Y8⟩
 case round =>
  clear H'
  obtain ⟨x6_1, rfl, HA, HK1, ⟨m1, rfl⟩⟩ := hrel
  cases gk with
  | zero => exact absurd HA.out (by simp [impl_nameOk.l0])
  | succ k1 =>
   have H := HA.out
   clear HA
   simp only [impl_nameOk.l0] at H
   by_cases c2 : x6_1 < (a0.size : Int)
   ·rw [if_pos c2] at H
    have c2b0 : decide (x6_1 < (a0.size : Int)) = true := decide_eq_true c2
    clear c2
    by_cases c3 : 0 ≤ x6_1
    ·rw [if_pos c3] at H
     have c3b0 : decide (0 ≤ x6_1) = true := decide_eq_true c3
     clear c3
     by_cases c4 : x6_1 < (a0.size : Int)
     ·rw [if_pos c4] at H
      have c4b0 : decide (x6_1 < (a0.size : Int)) = true := decide_eq_true c4
      clear c4
      by_cases c6 : (bt a0 x6_1) < 97
      ·rw [if_pos c6] at H
       have c6b0 : decide ((bt a0 x6_1) < 97) = true := decide_eq_true c6
       clear c6
       obtain rfl := Option.some.inj H
       have p5 : 0 ≤ (x6_1 : Int) := of_decide_eq_true (uq)
       have q5 : x6_1 < (a0.size : Int) := of_decide_eq_true (uq)
       have hx5 := bt_at a0 x6_1
       replace p5 := eq_true p5
       replace q5 := eq_true q5
       go_wp2
       go_ret
       exact ⟨sq, Y8⟩
      ·rw [if_neg c6] at H
       have c6b0 : decide ((bt a0 x6_1) < 97) = false := decide_eq_false c6
       clear c6
       by_cases c8 : (bt a0 x6_1) > 122
       ·rw [if_pos c8] at H
        have c8b0 : decide (122 < (bt a0 x6_1)) = true := decide_eq_true c8
        clear c8
        obtain rfl := Option.some.inj H
        have p5 : 0 ≤ (x6_1 : Int) := of_decide_eq_true (uq)
        have q5 : x6_1 < (a0.size : Int) := of_decide_eq_true (uq)
        have hx5 := bt_at a0 x6_1
        replace p5 := eq_true p5
        replace q5 := eq_true q5
        have p7 : 0 ≤ (x6_1 : Int) := of_decide_eq_true (uq)
        have q7 : x6_1 < (a0.size : Int) := of_decide_eq_true (uq)
        have hx7 := bt_at a0 x6_1
        replace p7 := eq_true p7
        replace q7 := eq_true q7
        go_wp2
        go_ret
        exact ⟨sq, Y8⟩
       ·rw [if_neg c8] at H
        have c8b0 : decide (122 < (bt a0 x6_1)) = false := decide_eq_false c8
        clear c8
        have H' := am H
        clear H
        have p5 : 0 ≤ (x6_1 : Int) := of_decide_eq_true (uq)
        have q5 : x6_1 < (a0.size : Int) := of_decide_eq_true (uq)
        have hx5 := bt_at a0 x6_1
        replace p5 := eq_true p5
        replace q5 := eq_true q5
        have p7 : 0 ≤ (x6_1 : Int) := of_decide_eq_true (uq)
        have q7 : x6_1 < (a0.size : Int) := of_decide_eq_true (uq)
        have hx7 := bt_at a0 x6_1
        replace p7 := eq_true p7
        replace q7 := eq_true q7
        go_wp2
        go_roundg k1
        case measure => have := HK1.out; omega
        case rel => exact ⟨(wrap64 (x6_1 + 1)), (sq), H', ⟨by have := HK1.out; omega⟩, Y8⟩
     ·rw [if_neg c4] at H
      exact absurd H (by simp)
    ·rw [if_neg c3] at H
     exact absurd H (by simp)
   ·rw [if_neg c2] at H
    have c2b0 : decide (x6_1 < (a0.size : Int)) = false := decide_eq_false c2
    clear c2
    replace H := Option.bind_eq_some_iff.mp H
    obtain ⟨t212, A90, H⟩ := H
    replace H : (some t212) = some r := H
    have A9 := am A90
    clear A90
    obtain rfl := Option.some.inj H
    go_wp2_with (first | ((with_reducible refine gate_callee (f := 45) rfl ?_); refine gL (some 22) Try.func45 #[.int .i64 (a0.size : Int), .int .i64 1, .int .i64 6] ?_; (with_reducible refine (impl_within.calls (a0.size : Int) 1 6 t212 _ A9.out).mono ?_); rintro e w' ⟨rfl, ⟨nd, rfl⟩⟩; refine ⟨_, rfl, ?_⟩))
    go_ret
    exact ⟨sq, Y8⟩

theorem impl_named1_calls (a b : ByteArray) (p : Int) (B : Nat) (w : World) (hB : B < w.heap.size) (hc : w.cell? ⟨B, 0, none⟩ = some (.string b)) :
  Calls Try.prog 100 #[.agg #[.string a, .int .i64 p], .pointer (some ⟨B, 0, none⟩)] w fun e w' => e = .returned (.bool (a.toList == b.toList)) ∧ Below w.heap.size w w' := by
 have hne : B ≠ w.heap.size := by omega
 go_enter Try.func100, Try.ntmps100
 go_wp2
 go_ret
 exact ⟨rfl, (Below.refl _ _).alloc (Nat.le_refl _) _⟩
set_option maxHeartbeats 8000000 in
set_option maxRecDepth 100000 in
theorem impl_named_idx (A_ : Option Addr) (c_ : Nat) (l : List (S98)) (B0_ : Nat) (p : S98 → Option Bool) (r : Int) (w : World) (hr : Kd.C k98 w A_ l.length l) (h : idxFrom p l 0 = some r)
  (hp : ∀ W, Below w.heap.size w W → ∀ (x : S98) (b : Bool), p x = some b → Calls Try.prog 100 #[.agg #[.string x.f0, .int .i64 x.f1], .pointer (some ⟨B0_, 0, none⟩)] W fun e w' => e = .returned (.bool b) ∧ Below W.heap.size W w') :
  Calls Try.prog 99 #[.slice A_ l.length c_, .func (.func 100) #[] #[.pointer (some ⟨B0_, 0, none⟩)]] w fun e w' => e = .returned (.int .i64 r) ∧ Below w.heap.size w w' := by
 have hm : l.length ≤ 9223372036854775807 := Kd.C_max hr
 have HR := am hr
 have HP := am hp
 have H0 := am h
 clear hr hp h
 go_enter Try.func99, Try.ntmps99
 go_wp2
 go_loopw [5, 8] (fun i5 i8 wr => ∃ k : Nat, k ≤ l.length ∧ i8 = .int .i64 k ∧ Aside0 (idxFrom p (l.drop k) k = some r) ∧ Below w.heap.size w wr) (fun _ i8 _ => l.length - (intOf i8).toNat)
 case atStart => exact ⟨0, Nat.zero_le _, rfl, H0, Below.refl _ _⟩
 case round =>
  clear H0
  obtain ⟨k, hk, rfl, HA, hb⟩ := hrel
  by_cases hlt : k < l.length
  ·have HB := am (idxFrom_step hlt HA.out)
   clear HA
   obtain ⟨ad, rfl, hx0, hx1⟩ := at_T98 HR.out (k : Int) (by omega) (by omega)
   have hrd : rd_T98 l (k : Int) = l[k] := by simp [rd_T98, List.getD_eq_getElem?_getD, hlt]
   replace hx0 := pw_cell_below hb hx0
   replace hx1 := pw_cell_below hb hx1
   rw [hrd] at hx0 hx1
   simp only [Int.toNat_natCast] at hx0 hx1
   clear hrd
   obtain ⟨b, hb1, hb0⟩ := HB.out
   have HQ := am hb1
   clear hb1 HB
   cases b with
   | true =>
    have HZ := am (by simpa using hb0 : (k : Int) = r)
    clear hb0
    go_wp2_with (go_at_call 100; refine (HP.out _ hb _ _ HQ.out).mono ?_; rintro e w' ⟨rfl, hb2⟩)
    go_ret
    exact ⟨by rw [← HZ.out]; rfl, below_then hb hb.size hb2⟩
   | false =>
    have HZ := am (by simpa using hb0 : idxFrom p (l.drop (k + 1)) (k + 1) = some r)
    clear hb0
    go_wp2_with (go_at_call 100; refine (HP.out _ hb _ _ HQ.out).mono ?_; rintro e w' ⟨rfl, hb2⟩)
    go_roundw
    case rel => exact ⟨k + 1, hlt, by go_num, HZ, below_then hb hb.size hb2⟩
    case measure => simp [intOf]; omega
  ·have HZ := am (idxFrom_end (by omega) HA.out)
   clear HA
   go_wp2
   go_ret
   exact ⟨by rw [HZ.out]; rfl, hb⟩
def impl_Tree_named.f (l0_0 : List S98) (a1 : ByteArray) : Option Int := idxFrom (fun x : S98 => some (x.f0.toList == a1.toList)) l0_0 0
set_option maxHeartbeats 8000000 in
set_option maxRecDepth 100000 in
theorem impl_Tree_named.calls (A0_0 : Option Addr) (c0_0 : Nat) (l0_0 : List (S98)) (a1 : ByteArray) (r : Int) (w : World) (hr0_0 : Kd.C k98 w A0_0 l0_0.length l0_0) (hc0_0 : l0_0.length ≤ c0_0) (h : impl_Tree_named.f l0_0 a1 = some r) :
  Calls Try.prog 74 #[.agg #[.slice A0_0 l0_0.length c0_0], .string a1] w fun e w' => e = .returned (.int .i64 r) ∧ Below w.heap.size w w' := by
 have hu32 := Try.underlying32
 have HF := am (fun W (hb : Below w.heap.size w W) (B : Nat) (hB : B < W.heap.size) (hc : W.cell? ⟨B, 0, none⟩ = some (.string a1)) => impl_named_idx A0_0 c0_0 l0_0 B (fun x : S98 => some (x.f0.toList == a1.toList)) r W (Kd.C_below hr0_0 hb) h (fun W' hb' x b hx => by
  obtain rfl := Option.some.inj hx
  exact impl_named1_calls x.f0 a1 x.f1 B W' (Nat.lt_of_lt_of_le hB hb'.size) (pw_cell_below hb' hc)))
 clear h hr0_0
 go_enter Try.func74, Try.ntmps74
 go_wp2_with (go_at_call 99; refine (HF.out _ (((Below.refl _ _).alloc (Nat.le_refl _) _).alloc (by simp) _) _ (by simp) (by simp)).mono ?_; rintro e w' ⟨rfl, hb2⟩)
 go_ret
 exact ⟨rfl, (((Below.refl _ _).alloc (Nat.le_refl _) _).alloc (by simp) _).trans (hb2.mono (by simp; omega))⟩
mutual
def impl_ValidTree.l0 : Nat → List (S98) → Int → Int → List (S98) → Option (Bool)
 | 0, _, _, _, _ => none
 | k + 1, x6, x7, x8, x214000 => if x8 < x7 then (if 0 ≤ x8 then (if x8 < (x6.length : Int) then ((impl_nameOk.f k ((rd_T98 x6 x8).f0)).bind fun t217 => (if t217 = true then ((impl_Tree_named.f x214000 ((rd_T98 x6 x8).f0)).bind fun t218 => (if t218 = x8 then (if x8 = 0 then (if ((rd_T98 x6 x8).f1) = (-1) then (if x8 > 0 then ((impl_within.f ((rd_T98 x6 x8).f1) 0 (wrap64 (x8 - 1))).bind fun t219 => (impl_ValidTree.j1 k x6 x7 x8 (!t219) x214000)) else (impl_ValidTree.j1 k x6 x7 x8 false x214000)) else (impl_ValidTree.j1 k x6 x7 x8 true x214000)) else (if x8 > 0 then ((impl_within.f ((rd_T98 x6 x8).f1) 0 (wrap64 (x8 - 1))).bind fun t220 => (impl_ValidTree.j1 k x6 x7 x8 (!t220) x214000)) else (impl_ValidTree.j1 k x6 x7 x8 false x214000))) else (impl_ValidTree.j1 k x6 x7 x8 true x214000))) else (impl_ValidTree.j1 k x6 x7 x8 true x214000))) else (none)) else (none)) else ((impl_within.f (x214000.length : Int) 1 8).bind fun t214 => (some t214))
def impl_ValidTree.j1 : Nat → List (S98) → Int → Int → Bool → List (S98) → Option (Bool)
 | 0, _, _, _, _, _ => none
 | k + 1, x6, x7, x8, x45, x214000 => if x45 = true then (some false) else (impl_ValidTree.l0 k x6 x7 (wrap64 (x8 + 1)) x214000)
end
def impl_ValidTree.f (k : Nat) (l0_0 : List (S98)) : Option (Bool) := impl_ValidTree.l0 k l0_0 (l0_0.length : Int) 0 l0_0
set_option maxHeartbeats 8000000 in
set_option maxRecDepth 100000 in
theorem impl_ValidTree.calls (k : Nat) (A0_0 : Option Addr) (c0_0 : Nat) (l0_0 : List (S98)) (r : Bool) (w : World) (hr0_0 : Kd.C k98 w A0_0 l0_0.length l0_0) (hc0_0 : l0_0.length ≤ c0_0) (h : impl_ValidTree.f k l0_0 = some r) :
  Calls Try.prog 43 #[.agg #[.slice A0_0 l0_0.length c0_0]] w fun e w' => e = .returned (.bool r) ∧ Below w.heap.size w w' := by
 have hu32 := Try.underlying32
 have hu98 := Try.underlying98
 have HR0_0 := am hr0_0
 have HC0_0 := am hc0_0
 clear hr0_0 hc0_0
 have HB := am (Below.refl w.heap.size w)
 have H : (impl_ValidTree.l0 k l0_0 (l0_0.length : Int) 0 l0_0) = some r := h
 clear h
 have H' := am H
 clear H
 go_enter Try.func43, Try.ntmps43
 go_wp2_with (first | ((with_reducible refine gate_dst (N := 1) rfl ?_); refine bE (N := 1) (cs := #[.slice A0_0 l0_0.length c0_0]) (t := 32) ?_; intro gb213 hg w2 hbox hb; have BK213 := am (hbox); have GW213 := am ((Y11 : w.heap.size ≤ gb213)); have GE213 := am ((Y11 : w.heap.size ≤ gb213)); replace HB := am (below_step (bq) hb); clear hb hbox hg; have hcz3_0 := bc0 BK213.out; have hfz3_0 := blk_frozen BK213.out 0))
 go_loopg [8] k (fun kq v8 w' => ∃ (x8_1 : Int), v8 = .int .i64 x8_1 ∧ Aside0 (impl_ValidTree.l0 kq l0_0 (l0_0.length : Int) x8_1 l0_0 = some r) ∧ Aside0 (kq ≤ k) ∧ Aside0 (w'.heap[gb213]? = some (.cells #[(.slice A0_0 l0_0.length c0_0)] 32 (0, 0))) ∧ Aside0 (Below w.heap.size w w'))
 case atStart => exact ⟨(0), (sq), H', ⟨Nat.le_refl _⟩, ⟨kq BK213.out⟩, ⟨Y97⟩⟩
 case round =>
  clear H'
  try clear p2
  try clear hcz3_0
  try clear hfz3_0
  obtain ⟨x8_1, rfl, HA, HK1, BK213, HB⟩ := hrel
  cases gk with
  | zero => exact absurd HA.out (by simp [impl_ValidTree.l0])
  | succ k1 =>
   have H := HA.out
   clear HA
   simp only [impl_ValidTree.l0] at H
   by_cases c4 : x8_1 < (l0_0.length : Int)
   ·rw [if_pos c4] at H
    have c4b0 : decide (x8_1 < (l0_0.length : Int)) = true := decide_eq_true c4
    clear c4
    by_cases c5 : 0 ≤ x8_1
    ·rw [if_pos c5] at H
     have c5b0 : decide (0 ≤ x8_1) = true := decide_eq_true c5
     clear c5
     by_cases c6 : x8_1 < (l0_0.length : Int)
     ·rw [if_pos c6] at H
      have c6b0 : decide (x8_1 < (l0_0.length : Int)) = true := decide_eq_true c6
      clear c6
      have HC7 := am H
      clear H
      have p215 : 0 ≤ (x8_1 : Int) := of_decide_eq_true (uq)
      have q215 : x8_1 < (l0_0.length : Int) := of_decide_eq_true (uq)
      obtain ⟨ad215, e215, hx215_0, hx215_1⟩ := at_T98 HR0_0.out x8_1 p215 q215
      cases e215
      replace hx215_0 := cb HB.out hx215_0
      replace hx215_1 := cb HB.out hx215_1
      replace p215 := eq_true p215
      replace q215 := eq_true q215
      go_upto_region 4 with (first | ((with_reducible refine gate_dst (N := 4) rfl ?_); refine bE (N := 4) (cs := #[.string (⟨#[]⟩ : ByteArray), .int .i64 0]) (t := 98) ?_; intro gb216 hg w8 hbox hb; have BK216 := am (hbox); have GW216 := am ((Y105 : w.heap.size ≤ gb216)); have GE216 := am ((Y105 : w.heap.size ≤ gb216)); have NB213_216 := am ((by rw [hg]; exact Nat.ne_of_lt (blk_lt (g := gb213) (o := .cells #[.slice (some ad215) l0_0.length c0_0] 32 (0, 0)) (kq BK213.out)) : gb213 ≠ gb216)); have NB216_213 := am ((by rw [hg]; exact Nat.ne_of_gt (blk_lt (g := gb213) (o := .cells #[.slice (some ad215) l0_0.length c0_0] 32 (0, 0)) (kq BK213.out)) : gb216 ≠ gb213)); replace BK213 := am (blk_below (g := gb213) (o := .cells #[.slice (some ad215) l0_0.length c0_0] 32 (0, 0)) (kq BK213.out) hb); replace HB := am (below_step (Y97) hb); clear hb hbox hg; have hnb9 := NB216_213.out; have hnc9 := NB213_216.out; have hcz10_0 := bc0 BK216.out; have hcz10_1 := bc1 BK216.out; have hfz10_0 := blk_frozen BK216.out 0; have hfz10_1 := blk_frozen BK216.out 1))
      (try simp only [Act.put, List.setIfInBounds_toArray, List.set_cons_zero, List.set_cons_succ])
      go_cut [45] (fun v45 wc => ∃ (kq : Nat) (x45_6 : Bool), v45 = .bool x45_6 ∧ Aside0 (impl_ValidTree.j1 kq l0_0 (l0_0.length : Int) x8_1 x45_6 l0_0 = some r) ∧ Aside0 (kq ≤ k1) ∧ Aside0 (wc.heap[gb213]? = some (.cells #[(.slice (some ad215) l0_0.length c0_0)] 32 (0, 0))) ∧ Aside0 (wc.heap[gb216]? = some (.cells #[.string ((rd_T98 l0_0 x8_1).f0), .int .i64 ((rd_T98 l0_0 x8_1).f1)] 98 (0, 0))) ∧ Aside0 (Below w.heap.size w wc))
      case first =>
       have H := HC7.out
       clear HC7
       replace H := Option.bind_eq_some_iff.mp H
       obtain ⟨t217, A110, H⟩ := H
       replace H : (if t217 = true then ((impl_Tree_named.f l0_0 ((rd_T98 l0_0 x8_1).f0)).bind fun t218 => (if t218 = x8_1 then (if x8_1 = 0 then (if ((rd_T98 l0_0 x8_1).f1) = (-1) then (if x8_1 > 0 then ((impl_within.f ((rd_T98 l0_0 x8_1).f1) 0 (wrap64 (x8_1 - 1))).bind fun t219 => (impl_ValidTree.j1 k1 l0_0 (l0_0.length : Int) x8_1 (!t219) l0_0)) else (impl_ValidTree.j1 k1 l0_0 (l0_0.length : Int) x8_1 false l0_0)) else (impl_ValidTree.j1 k1 l0_0 (l0_0.length : Int) x8_1 true l0_0)) else (if x8_1 > 0 then ((impl_within.f ((rd_T98 l0_0 x8_1).f1) 0 (wrap64 (x8_1 - 1))).bind fun t220 => (impl_ValidTree.j1 k1 l0_0 (l0_0.length : Int) x8_1 (!t220) l0_0)) else (impl_ValidTree.j1 k1 l0_0 (l0_0.length : Int) x8_1 false l0_0))) else (impl_ValidTree.j1 k1 l0_0 (l0_0.length : Int) x8_1 true l0_0))) else (impl_ValidTree.j1 k1 l0_0 (l0_0.length : Int) x8_1 true l0_0)) = some r := H
       have A11 := am A110
       clear A110
       by_cases c12 : t217 = true
       ·subst c12
        have H1 : ((impl_Tree_named.f l0_0 ((rd_T98 l0_0 x8_1).f0)).bind fun t218 => (if t218 = x8_1 then (if x8_1 = 0 then (if ((rd_T98 l0_0 x8_1).f1) = (-1) then (if x8_1 > 0 then ((impl_within.f ((rd_T98 l0_0 x8_1).f1) 0 (wrap64 (x8_1 - 1))).bind fun t219 => (impl_ValidTree.j1 k1 l0_0 (l0_0.length : Int) x8_1 (!t219) l0_0)) else (impl_ValidTree.j1 k1 l0_0 (l0_0.length : Int) x8_1 false l0_0)) else (impl_ValidTree.j1 k1 l0_0 (l0_0.length : Int) x8_1 true l0_0)) else (if x8_1 > 0 then ((impl_within.f ((rd_T98 l0_0 x8_1).f1) 0 (wrap64 (x8_1 - 1))).bind fun t220 => (impl_ValidTree.j1 k1 l0_0 (l0_0.length : Int) x8_1 (!t220) l0_0)) else (impl_ValidTree.j1 k1 l0_0 (l0_0.length : Int) x8_1 false l0_0))) else (impl_ValidTree.j1 k1 l0_0 (l0_0.length : Int) x8_1 true l0_0))) = some r := by rw [if_pos rfl] at H; exact H
        clear H
        have H := H1
        clear H1
        replace H := Option.bind_eq_some_iff.mp H
        obtain ⟨t218, A130, H⟩ := H
        replace H : (if t218 = x8_1 then (if x8_1 = 0 then (if ((rd_T98 l0_0 x8_1).f1) = (-1) then (if x8_1 > 0 then ((impl_within.f ((rd_T98 l0_0 x8_1).f1) 0 (wrap64 (x8_1 - 1))).bind fun t219 => (impl_ValidTree.j1 k1 l0_0 (l0_0.length : Int) x8_1 (!t219) l0_0)) else (impl_ValidTree.j1 k1 l0_0 (l0_0.length : Int) x8_1 false l0_0)) else (impl_ValidTree.j1 k1 l0_0 (l0_0.length : Int) x8_1 true l0_0)) else (if x8_1 > 0 then ((impl_within.f ((rd_T98 l0_0 x8_1).f1) 0 (wrap64 (x8_1 - 1))).bind fun t220 => (impl_ValidTree.j1 k1 l0_0 (l0_0.length : Int) x8_1 (!t220) l0_0)) else (impl_ValidTree.j1 k1 l0_0 (l0_0.length : Int) x8_1 false l0_0))) else (impl_ValidTree.j1 k1 l0_0 (l0_0.length : Int) x8_1 true l0_0)) = some r := H
        have A13 := am A130
        clear A130
        by_cases c14 : t218 = x8_1
        ·rw [if_pos c14] at H
         have c14b0 : (t218 == x8_1) = true := beq_iff_eq.mpr c14
         have c14b1 : (t218 != x8_1) = false := bne_eq_false_iff_eq.mpr c14
         clear c14
         (first | rw [c14b0] | (simp only [i64_w, i32_w]; rw [c14b0]) | skip)
         by_cases c15 : x8_1 = 0
         ·rw [if_pos c15] at H
          have c15b0 : (x8_1 == 0) = true := beq_iff_eq.mpr c15
          have c15b1 : (x8_1 != 0) = false := bne_eq_false_iff_eq.mpr c15
          clear c15
          by_cases c16 : ((rd_T98 l0_0 x8_1).f1) = (-1)
          ·rw [if_pos c16] at H
           have c16b0 : (((rd_T98 l0_0 x8_1).f1) == (-1)) = true := beq_iff_eq.mpr c16
           have c16b1 : (((rd_T98 l0_0 x8_1).f1) != (-1)) = false := bne_eq_false_iff_eq.mpr c16
           clear c16
           by_cases c17 : x8_1 > 0
           ·rw [if_pos c17] at H
            have c17b0 : decide (0 < x8_1) = true := decide_eq_true c17
            clear c17
            replace H := Option.bind_eq_some_iff.mp H
            obtain ⟨t219, A180, H⟩ := H
            replace H : (impl_ValidTree.j1 k1 l0_0 (l0_0.length : Int) x8_1 (!t219) l0_0) = some r := H
            have A18 := am A180
            clear A180
            have H' := am H
            clear H
            have hnb19 := NB216_213.out
            have hnc19 := NB213_216.out
            have hcz20_0 := bc0 BK216.out
            have hcz20_1 := bc1 BK216.out
            have hfz20_0 := blk_frozen BK216.out 0
            have hfz20_1 := blk_frozen BK216.out 1
            go_wp2_with (first | ((with_reducible refine gate_callee (f := 73) rfl ?_); refine gL (some 15) Try.func73 #[.string ((rd_T98 l0_0 x8_1).f0)] ?_; (with_reducible refine (impl_nameOk.calls k1 ((rd_T98 l0_0 x8_1).f0) true _ A11.out).mono ?_); rintro e w' ⟨rfl, ⟨nd, rfl⟩⟩; refine ⟨_, rfl, ?_⟩; have hcz21_0 := bc0 BK213.out; have hfz21_0 := blk_frozen BK213.out 0) | (go_at_call 74; (with_reducible refine (impl_Tree_named.calls _ _ l0_0 ((rd_T98 l0_0 x8_1).f0) t218 _ ?side1 ?side2 A13.out).mono ?_); (case side1 => exact Kd.C_below HR0_0.out (Y20)); (case side2 => exact HC0_0.out); rintro e w22 ⟨rfl, hb⟩; replace BK213 := am (blk_below (g := gb213) (o := .cells #[.slice (some ad215) l0_0.length c0_0] 32 (0, 0)) (Y66) hb); replace BK216 := am (blk_below (g := gb216) (o := .cells #[.string ((rd_T98 l0_0 x8_1).f0), .int .i64 ((rd_T98 l0_0 x8_1).f1)] 98 (0, 0)) (Y67) hb); replace HB := am (below_step (Y20) hb); (try clear hb); (try clear hb2); (try clear hk); (try clear hi); have hcz23_0 := bc0 BK216.out; have hcz23_1 := bc1 BK216.out; have hfz23_0 := blk_frozen BK216.out 0; have hfz23_1 := blk_frozen BK216.out 1) | (go_at_call 45; (with_reducible refine (impl_within.calls ((rd_T98 l0_0 x8_1).f1) 0 (wrap64 (x8_1 - 1)) t219 _ A18.out).mono ?_); rintro e w' ⟨rfl, ⟨nd, rfl⟩⟩))
            go_meet
            case rel => exact ⟨_, (!t219), (sq), H', ⟨by have := HK1.out; first | omega | exact Nat.le_refl _⟩, ⟨kq BK213.out⟩, ⟨kq BK216.out⟩, ⟨Y20⟩⟩
           ·rw [if_neg c17] at H
            have c17b0 : decide (0 < x8_1) = false := decide_eq_false c17
            clear c17
            have H' := am H
            clear H
            have hnb24 := NB216_213.out
            have hnc24 := NB213_216.out
            have hcz25_0 := bc0 BK216.out
            have hcz25_1 := bc1 BK216.out
            have hfz25_0 := blk_frozen BK216.out 0
            have hfz25_1 := blk_frozen BK216.out 1
            go_wp2_with (first | ((with_reducible refine gate_callee (f := 73) rfl ?_); refine gL (some 15) Try.func73 #[.string ((rd_T98 l0_0 x8_1).f0)] ?_; (with_reducible refine (impl_nameOk.calls k1 ((rd_T98 l0_0 x8_1).f0) true _ A11.out).mono ?_); rintro e w' ⟨rfl, ⟨nd, rfl⟩⟩; refine ⟨_, rfl, ?_⟩; have hcz26_0 := bc0 BK213.out; have hfz26_0 := blk_frozen BK213.out 0) | (go_at_call 74; (with_reducible refine (impl_Tree_named.calls _ _ l0_0 ((rd_T98 l0_0 x8_1).f0) t218 _ ?side1 ?side2 A13.out).mono ?_); (case side1 => exact Kd.C_below HR0_0.out (Y20)); (case side2 => exact HC0_0.out); rintro e w27 ⟨rfl, hb⟩; replace BK213 := am (blk_below (g := gb213) (o := .cells #[.slice (some ad215) l0_0.length c0_0] 32 (0, 0)) (Y66) hb); replace BK216 := am (blk_below (g := gb216) (o := .cells #[.string ((rd_T98 l0_0 x8_1).f0), .int .i64 ((rd_T98 l0_0 x8_1).f1)] 98 (0, 0)) (Y67) hb); replace HB := am (below_step (Y20) hb); (try clear hb); (try clear hb2); (try clear hk); (try clear hi); have hcz28_0 := bc0 BK216.out; have hcz28_1 := bc1 BK216.out; have hfz28_0 := blk_frozen BK216.out 0; have hfz28_1 := blk_frozen BK216.out 1))
            go_meet
            case rel => exact ⟨_, (false), (sq), H', ⟨by have := HK1.out; first | omega | exact Nat.le_refl _⟩, ⟨kq BK213.out⟩, ⟨kq BK216.out⟩, ⟨Y20⟩⟩
          ·rw [if_neg c16] at H
           have c16b0 : (((rd_T98 l0_0 x8_1).f1) == (-1)) = false := beq_eq_false_iff_ne.mpr c16
           have c16b1 : (((rd_T98 l0_0 x8_1).f1) != (-1)) = true := bne_iff_ne.mpr c16
           have H' := am H
           clear H
           have hnb29 := NB216_213.out
           have hnc29 := NB213_216.out
           have hcz30_0 := bc0 BK216.out
           have hcz30_1 := bc1 BK216.out
           have hfz30_0 := blk_frozen BK216.out 0
           have hfz30_1 := blk_frozen BK216.out 1
           go_wp2_with (first | ((with_reducible refine gate_callee (f := 73) rfl ?_); refine gL (some 15) Try.func73 #[.string ((rd_T98 l0_0 x8_1).f0)] ?_; (with_reducible refine (impl_nameOk.calls k1 ((rd_T98 l0_0 x8_1).f0) true _ A11.out).mono ?_); rintro e w' ⟨rfl, ⟨nd, rfl⟩⟩; refine ⟨_, rfl, ?_⟩; have hcz31_0 := bc0 BK213.out; have hfz31_0 := blk_frozen BK213.out 0) | (go_at_call 74; (with_reducible refine (impl_Tree_named.calls _ _ l0_0 ((rd_T98 l0_0 x8_1).f0) t218 _ ?side1 ?side2 A13.out).mono ?_); (case side1 => exact Kd.C_below HR0_0.out (Y20)); (case side2 => exact HC0_0.out); rintro e w32 ⟨rfl, hb⟩; replace BK213 := am (blk_below (g := gb213) (o := .cells #[.slice (some ad215) l0_0.length c0_0] 32 (0, 0)) (Y66) hb); replace BK216 := am (blk_below (g := gb216) (o := .cells #[.string ((rd_T98 l0_0 x8_1).f0), .int .i64 ((rd_T98 l0_0 x8_1).f1)] 98 (0, 0)) (Y67) hb); replace HB := am (below_step (Y20) hb); (try clear hb); (try clear hb2); (try clear hk); (try clear hi); have hcz33_0 := bc0 BK216.out; have hcz33_1 := bc1 BK216.out; have hfz33_0 := blk_frozen BK216.out 0; have hfz33_1 := blk_frozen BK216.out 1))
           go_meet
           case rel => exact ⟨_, (true), (sq), H', ⟨by have := HK1.out; first | omega | exact Nat.le_refl _⟩, ⟨kq BK213.out⟩, ⟨kq BK216.out⟩, ⟨Y20⟩⟩
         ·rw [if_neg c15] at H
          have c15b0 : (x8_1 == 0) = false := beq_eq_false_iff_ne.mpr c15
          have c15b1 : (x8_1 != 0) = true := bne_iff_ne.mpr c15
          by_cases c34 : x8_1 > 0
          ·rw [if_pos c34] at H
           have c34b0 : decide (0 < x8_1) = true := decide_eq_true c34
           clear c34
           replace H := Option.bind_eq_some_iff.mp H
           obtain ⟨t220, A350, H⟩ := H
           replace H : (impl_ValidTree.j1 k1 l0_0 (l0_0.length : Int) x8_1 (!t220) l0_0) = some r := H
           have A35 := am A350
           clear A350
           have H' := am H
           clear H
           have hnb36 := NB216_213.out
           have hnc36 := NB213_216.out
           have hcz37_0 := bc0 BK216.out
           have hcz37_1 := bc1 BK216.out
           have hfz37_0 := blk_frozen BK216.out 0
           have hfz37_1 := blk_frozen BK216.out 1
           go_wp2_with (first | ((with_reducible refine gate_callee (f := 73) rfl ?_); refine gL (some 15) Try.func73 #[.string ((rd_T98 l0_0 x8_1).f0)] ?_; (with_reducible refine (impl_nameOk.calls k1 ((rd_T98 l0_0 x8_1).f0) true _ A11.out).mono ?_); rintro e w' ⟨rfl, ⟨nd, rfl⟩⟩; refine ⟨_, rfl, ?_⟩; have hcz38_0 := bc0 BK213.out; have hfz38_0 := blk_frozen BK213.out 0) | (go_at_call 74; (with_reducible refine (impl_Tree_named.calls _ _ l0_0 ((rd_T98 l0_0 x8_1).f0) t218 _ ?side1 ?side2 A13.out).mono ?_); (case side1 => exact Kd.C_below HR0_0.out (Y20)); (case side2 => exact HC0_0.out); rintro e w39 ⟨rfl, hb⟩; replace BK213 := am (blk_below (g := gb213) (o := .cells #[.slice (some ad215) l0_0.length c0_0] 32 (0, 0)) (Y66) hb); replace BK216 := am (blk_below (g := gb216) (o := .cells #[.string ((rd_T98 l0_0 x8_1).f0), .int .i64 ((rd_T98 l0_0 x8_1).f1)] 98 (0, 0)) (Y67) hb); replace HB := am (below_step (Y20) hb); (try clear hb); (try clear hb2); (try clear hk); (try clear hi); have hcz40_0 := bc0 BK216.out; have hcz40_1 := bc1 BK216.out; have hfz40_0 := blk_frozen BK216.out 0; have hfz40_1 := blk_frozen BK216.out 1) | (go_at_call 45; (with_reducible refine (impl_within.calls ((rd_T98 l0_0 x8_1).f1) 0 (wrap64 (x8_1 - 1)) t220 _ A35.out).mono ?_); rintro e w' ⟨rfl, ⟨nd, rfl⟩⟩))
           go_meet
           case rel => exact ⟨_, (!t220), (sq), H', ⟨by have := HK1.out; first | omega | exact Nat.le_refl _⟩, ⟨kq BK213.out⟩, ⟨kq BK216.out⟩, ⟨Y20⟩⟩
          ·rw [if_neg c34] at H
           have c34b0 : decide (0 < x8_1) = false := decide_eq_false c34
           clear c34
           have H' := am H
           clear H
           have hnb41 := NB216_213.out
           have hnc41 := NB213_216.out
           have hcz42_0 := bc0 BK216.out
           have hcz42_1 := bc1 BK216.out
           have hfz42_0 := blk_frozen BK216.out 0
           have hfz42_1 := blk_frozen BK216.out 1
           go_wp2_with (first | ((with_reducible refine gate_callee (f := 73) rfl ?_); refine gL (some 15) Try.func73 #[.string ((rd_T98 l0_0 x8_1).f0)] ?_; (with_reducible refine (impl_nameOk.calls k1 ((rd_T98 l0_0 x8_1).f0) true _ A11.out).mono ?_); rintro e w' ⟨rfl, ⟨nd, rfl⟩⟩; refine ⟨_, rfl, ?_⟩; have hcz43_0 := bc0 BK213.out; have hfz43_0 := blk_frozen BK213.out 0) | (go_at_call 74; (with_reducible refine (impl_Tree_named.calls _ _ l0_0 ((rd_T98 l0_0 x8_1).f0) t218 _ ?side1 ?side2 A13.out).mono ?_); (case side1 => exact Kd.C_below HR0_0.out (Y20)); (case side2 => exact HC0_0.out); rintro e w44 ⟨rfl, hb⟩; replace BK213 := am (blk_below (g := gb213) (o := .cells #[.slice (some ad215) l0_0.length c0_0] 32 (0, 0)) (Y66) hb); replace BK216 := am (blk_below (g := gb216) (o := .cells #[.string ((rd_T98 l0_0 x8_1).f0), .int .i64 ((rd_T98 l0_0 x8_1).f1)] 98 (0, 0)) (Y67) hb); replace HB := am (below_step (Y20) hb); (try clear hb); (try clear hb2); (try clear hk); (try clear hi)))
           go_meet
           case rel => exact ⟨_, (false), (sq), H', ⟨by have := HK1.out; first | omega | exact Nat.le_refl _⟩, ⟨kq BK213.out⟩, ⟨kq BK216.out⟩, ⟨Y20⟩⟩
        ·rw [if_neg c14] at H
         have c14b0 : (t218 == x8_1) = false := beq_eq_false_iff_ne.mpr c14
         have c14b1 : (t218 != x8_1) = true := bne_iff_ne.mpr c14
         (first | rw [c14b0] | (simp only [i64_w, i32_w]; rw [c14b0]) | skip)
         have H' := am H
         clear H
         have hnb45 := NB216_213.out
         have hnc45 := NB213_216.out
         have hcz46_0 := bc0 BK216.out
         have hcz46_1 := bc1 BK216.out
         have hfz46_0 := blk_frozen BK216.out 0
         have hfz46_1 := blk_frozen BK216.out 1
         go_wp2_with (first | ((with_reducible refine gate_callee (f := 73) rfl ?_); refine gL (some 15) Try.func73 #[.string ((rd_T98 l0_0 x8_1).f0)] ?_; (with_reducible refine (impl_nameOk.calls k1 ((rd_T98 l0_0 x8_1).f0) true _ A11.out).mono ?_); rintro e w' ⟨rfl, ⟨nd, rfl⟩⟩; refine ⟨_, rfl, ?_⟩; have hcz47_0 := bc0 BK213.out; have hfz47_0 := blk_frozen BK213.out 0) | (go_at_call 74; (with_reducible refine (impl_Tree_named.calls _ _ l0_0 ((rd_T98 l0_0 x8_1).f0) t218 _ ?side1 ?side2 A13.out).mono ?_); (case side1 => exact Kd.C_below HR0_0.out (Y20)); (case side2 => exact HC0_0.out); rintro e w48 ⟨rfl, hb⟩; replace BK213 := am (blk_below (g := gb213) (o := .cells #[.slice (some ad215) l0_0.length c0_0] 32 (0, 0)) (Y66) hb); replace BK216 := am (blk_below (g := gb216) (o := .cells #[.string ((rd_T98 l0_0 x8_1).f0), .int .i64 ((rd_T98 l0_0 x8_1).f1)] 98 (0, 0)) (Y67) hb); replace HB := am (below_step (Y20) hb); (try clear hb); (try clear hb2); (try clear hk); (try clear hi)))
         go_meet
         case rel => exact ⟨_, (true), (sq), H', ⟨by have := HK1.out; first | omega | exact Nat.le_refl _⟩, ⟨kq BK213.out⟩, ⟨kq BK216.out⟩, ⟨Y20⟩⟩
       ·replace c12 := Bool.eq_false_iff.mpr c12
        subst c12
        have H1 : (impl_ValidTree.j1 k1 l0_0 (l0_0.length : Int) x8_1 true l0_0) = some r := by rw [if_neg (show ¬ (false = true) by decide)] at H; exact H
        clear H
        have H := H1
        clear H1
        have H' := am H
        clear H
        have hnb49 := NB216_213.out
        have hnc49 := NB213_216.out
        have hcz50_0 := bc0 BK216.out
        have hcz50_1 := bc1 BK216.out
        have hfz50_0 := blk_frozen BK216.out 0
        have hfz50_1 := blk_frozen BK216.out 1
        go_wp2_with (first | ((with_reducible refine gate_callee (f := 73) rfl ?_); refine gL (some 15) Try.func73 #[.string ((rd_T98 l0_0 x8_1).f0)] ?_; (with_reducible refine (impl_nameOk.calls k1 ((rd_T98 l0_0 x8_1).f0) false _ A11.out).mono ?_); rintro e w' ⟨rfl, ⟨nd, rfl⟩⟩; refine ⟨_, rfl, ?_⟩))
        go_meet
        case rel => exact ⟨_, (true), (sq), H', ⟨by have := HK1.out; first | omega | exact Nat.le_refl _⟩, ⟨by (with_reducible repeat (first | refine blk_drewN ?_ _ | refine blk_drew ?_ | refine blk_alloc ?_ _)); refine blk_far ?_ NB213_216.out _; (with_reducible repeat (first | refine blk_drewN ?_ _ | refine blk_drew ?_ | refine blk_alloc ?_ _)); refine blk_far ?_ NB213_216.out _; (with_reducible repeat (first | refine blk_drewN ?_ _ | refine blk_drew ?_ | refine blk_alloc ?_ _)); exact BK213.out⟩, ⟨by (with_reducible repeat (first | refine blk_drewN ?_ _ | refine blk_drew ?_ | refine blk_alloc ?_ _)); refine blk_put (cs := #[.string ((rd_T98 l0_0 x8_1).f0), .int .i64 0]) ?_ 1 _ rfl; (with_reducible repeat (first | refine blk_drewN ?_ _ | refine blk_drew ?_ | refine blk_alloc ?_ _)); refine blk_put (cs := #[.string (⟨#[]⟩ : ByteArray), .int .i64 0]) ?_ 0 _ rfl; (with_reducible repeat (first | refine blk_drewN ?_ _ | refine blk_drew ?_ | refine blk_alloc ?_ _)); exact BK216.out⟩, ⟨Y20⟩⟩
      case rest =>
       clear HC7
       try clear c1
       try clear c2
       try clear p2
       try clear q2
       try clear hx2
       try clear c3
       try clear c4
       try clear c4b0
       try clear c5
       try clear c5b0
       try clear c6
       try clear c6b0
       try clear p6
       try clear c7
       try clear c9
       try clear c12
       try clear c14
       try clear c14b0
       try clear c14b1
       try clear c15
       try clear c15b0
       try clear c15b1
       try clear c16
       try clear c16b0
       try clear c16b1
       try clear c17
       try clear c17b0
       try clear c19
       try clear p21
       try clear q21
       try clear hx21
       try clear c24
       try clear c29
       try clear c34
       try clear c34b0
       try clear c36
       try clear c41
       try clear c43
       try clear c45
       try clear c49
       try clear hcz10_0
       try clear hcz10_1
       try clear hcz20_0
       try clear hcz20_1
       try clear hcz21_0
       try clear hcz23_0
       try clear hcz23_1
       try clear hcz25_0
       try clear hcz25_1
       try clear hcz26_0
       try clear hcz28_0
       try clear hcz28_1
       try clear hcz30_0
       try clear hcz30_1
       try clear hcz31_0
       try clear hcz33_0
       try clear hcz33_1
       try clear hcz37_0
       try clear hcz37_1
       try clear hcz38_0
       try clear hcz3_0
       try clear hcz40_0
       try clear hcz40_1
       try clear hcz42_0
       try clear hcz42_1
       try clear hcz43_0
       try clear hcz46_0
       try clear hcz46_1
       try clear hcz47_0
       try clear hcz50_0
       try clear hcz50_1
       try clear hfz10_0
       try clear hfz10_1
       try clear hfz20_0
       try clear hfz20_1
       try clear hfz21_0
       try clear hfz23_0
       try clear hfz23_1
       try clear hfz25_0
       try clear hfz25_1
       try clear hfz26_0
       try clear hfz28_0
       try clear hfz28_1
       try clear hfz30_0
       try clear hfz30_1
       try clear hfz31_0
       try clear hfz33_0
       try clear hfz33_1
       try clear hfz37_0
       try clear hfz37_1
       try clear hfz38_0
       try clear hfz3_0
       try clear hfz40_0
       try clear hfz40_1
       try clear hfz42_0
       try clear hfz42_1
       try clear hfz43_0
       try clear hfz46_0
       try clear hfz46_1
       try clear hfz47_0
       try clear hfz50_0
       try clear hfz50_1
       try clear hx215_0
       try clear hx215_1
       try clear p2
       try clear p215
       try clear q215
       obtain ⟨kq, x45_6, rfl, HA, HJ6, BK213, BK216, HB⟩ := hcut
       cases kq with
       | zero => exact absurd HA.out (by simp [impl_ValidTree.j1])
       | succ kj6 =>
        have H := HA.out
        clear HA
        simp only [impl_ValidTree.j1] at H
        by_cases c51 : x45_6 = true
        ·subst c51
         have H1 : (some false) = some r := by rw [if_pos rfl] at H; exact H
         clear H
         have H := H1
         clear H1
         obtain rfl := Option.some.inj H
         go_wp2
         go_ret
         exact ⟨Y0, Y20⟩
        ·replace c51 := Bool.eq_false_iff.mpr c51
         subst c51
         have H1 : (impl_ValidTree.l0 kj6 l0_0 (l0_0.length : Int) (wrap64 (x8_1 + 1)) l0_0) = some r := by rw [if_neg (show ¬ (false = true) by decide)] at H; exact H
         clear H
         have H := H1
         clear H1
         have H' := am H
         clear H
         go_wp2
         go_roundg kj6
         case measure => have := HK1.out; have := HJ6.out; omega
         case rel => exact ⟨(wrap64 (x8_1 + 1)), (sq), H', ⟨by have := HK1.out; have := HJ6.out; omega⟩, ⟨kq BK213.out⟩, ⟨Y20⟩⟩
     ·rw [if_neg c6] at H
      exact absurd H (by simp)
    ·rw [if_neg c5] at H
     exact absurd H (by simp)
   ·rw [if_neg c4] at H
    have c4b0 : decide (x8_1 < (l0_0.length : Int)) = false := decide_eq_false c4
    clear c4
    replace H := Option.bind_eq_some_iff.mp H
    obtain ⟨t214, A520, H⟩ := H
    replace H : (some t214) = some r := H
    have A52 := am A520
    clear A520
    obtain rfl := Option.some.inj H
    have hcz53_0 := bc0 BK213.out
    have hfz53_0 := blk_frozen BK213.out 0
    go_wp2_with (first | ((with_reducible refine gate_callee (f := 45) rfl ?_); refine gL (some 50) Try.func45 #[.int .i64 (l0_0.length : Int), .int .i64 1, .int .i64 8] ?_; (with_reducible refine (impl_within.calls (l0_0.length : Int) 1 8 t214 _ A52.out).mono ?_); rintro e w' ⟨rfl, ⟨nd, rfl⟩⟩; refine ⟨_, rfl, ?_⟩))
    go_ret
    exact ⟨Y0, Y97⟩
theorem impl_classesIn1_calls (l : List S98) (A_ : Option Addr) (c_ : Nat) (x : Int) (b : Bool) (B : Nat) (w : World) (hr : Kd.C k98 w A_ l.length l) (hcc : l.length ≤ c_) (hB : B < w.heap.size) (hc : w.cell? ⟨B, 0, none⟩ = some (.slice A_ l.length c_)) (h : (impl_Tree_has.f l x).map (!·) = some b) :
  Calls Try.prog 79 #[.int .i64 x, .pointer (some ⟨B, 0, none⟩)] w fun e w' => e = .returned (.bool b) ∧ Below w.heap.size w w' := by
 obtain ⟨b0, h0, rfl⟩ := Option.map_eq_some_iff.mp h
 have HF := am (impl_Tree_has.calls A_ c_ l x b0 w hr hcc h0)
 clear h h0 hr
 have hu32 := Try.underlying32
 go_enter Try.func79, Try.ntmps79
 go_wp2_with (go_at_call 50; refine HF.out.mono ?_; rintro e w' ⟨rfl, hb2⟩)
 go_ret
 exact ⟨rfl, hb2⟩
set_option maxHeartbeats 8000000 in
set_option maxRecDepth 100000 in
theorem impl_classesIn_idx (A_ : Option Addr) (c_ : Nat) (l : List (Int)) (B0_ : Nat) (p : Int → Option Bool) (r : Int) (w : World) (hr : Kd.C (Kd.int .i64) w A_ l.length l) (h : idxFrom p l 0 = some r)
  (hp : ∀ W, Below w.heap.size w W → ∀ (x : Int) (b : Bool), p x = some b → Calls Try.prog 79 #[.int .i64 x, .pointer (some ⟨B0_, 0, none⟩)] W fun e w' => e = .returned (.bool b) ∧ Below W.heap.size W w') :
  Calls Try.prog 101 #[.slice A_ l.length c_, .func (.func 79) #[] #[.pointer (some ⟨B0_, 0, none⟩)]] w fun e w' => e = .returned (.int .i64 r) ∧ Below w.heap.size w w' := by
 have hm : l.length ≤ 9223372036854775807 := Kd.C_max hr
 have HR := am hr
 have HP := am hp
 have H0 := am h
 clear hr hp h
 go_enter Try.func101, Try.ntmps101
 go_wp2
 go_loopw [5, 8] (fun i5 i8 wr => ∃ k : Nat, k ≤ l.length ∧ i8 = .int .i64 k ∧ Aside0 (idxFrom p (l.drop k) k = some r) ∧ Below w.heap.size w wr) (fun _ i8 _ => l.length - (intOf i8).toNat)
 case atStart => exact ⟨0, Nat.zero_le _, rfl, H0, Below.refl _ _⟩
 case round =>
  clear H0
  obtain ⟨k, hk, rfl, HA, hb⟩ := hrel
  by_cases hlt : k < l.length
  ·have HB := am (idxFrom_step hlt HA.out)
   clear HA
   obtain ⟨ad, rfl, hx0⟩ := Kd.at_int HR.out (k : Int) (by omega) (by omega)
   have hrd : rd l (k : Int) = l[k] := by simp [rd, List.getD_eq_getElem?_getD, hlt]
   replace hx0 := pw_cell_below hb hx0
   rw [hrd] at hx0
   simp only [Int.toNat_natCast] at hx0
   clear hrd
   obtain ⟨b, hb1, hb0⟩ := HB.out
   have HQ := am hb1
   clear hb1 HB
   cases b with
   | true =>
    have HZ := am (by simpa using hb0 : (k : Int) = r)
    clear hb0
    go_wp2_with (go_at_call 79; refine (HP.out _ hb _ _ HQ.out).mono ?_; rintro e w' ⟨rfl, hb2⟩)
    go_ret
    exact ⟨by rw [← HZ.out]; rfl, below_then hb hb.size hb2⟩
   | false =>
    have HZ := am (by simpa using hb0 : idxFrom p (l.drop (k + 1)) (k + 1) = some r)
    clear hb0
    go_wp2_with (go_at_call 79; refine (HP.out _ hb _ _ HQ.out).mono ?_; rintro e w' ⟨rfl, hb2⟩)
    go_roundw
    case rel => exact ⟨k + 1, hlt, by go_num, HZ, below_then hb hb.size hb2⟩
    case measure => simp [intOf]; omega
  ·have HZ := am (idxFrom_end (by omega) HA.out)
   clear HA
   go_wp2
   go_ret
   exact ⟨by rw [HZ.out]; rfl, hb⟩
set_option maxHeartbeats 8000000 in
set_option maxRecDepth 100000 in
theorem impl_classesIn_any (A_ : Option Addr) (c_ : Nat) (l : List Int) (B0_ : Nat) (p : Int → Option Bool) (r : Int) (w : World) (hr : Kd.C (Kd.int .i64) w A_ l.length l) (h : idxFrom p l 0 = some r)
  (hp : ∀ W, Below w.heap.size w W → ∀ (x : Int) (b : Bool), p x = some b → Calls Try.prog 79 #[.int .i64 x, .pointer (some ⟨B0_, 0, none⟩)] W fun e w' => e = .returned (.bool b) ∧ Below W.heap.size W w') :
  Calls Try.prog 78 #[.slice A_ l.length c_, .func (.func 79) #[] #[.pointer (some ⟨B0_, 0, none⟩)]] w fun e w' => e = .returned (.bool (decide (0 ≤ r))) ∧ Below w.heap.size w w' := by
 have HF := am (impl_classesIn_idx A_ c_ l B0_ p r w hr h hp)
 clear hr h hp
 go_enter Try.func78, Try.ntmps78
 go_wp2_with (go_at_call 101; refine HF.out.mono ?_; rintro e w' ⟨rfl, hb2⟩)
 go_ret
 exact ⟨rfl, hb2⟩
def impl_classesIn.f (k : Nat) (l0_0 : List S98) (l1 : List Int) : Option Bool := (impl_ValidTree.f k l0_0).bind fun v => if v then (idxFrom (fun x => (impl_Tree_has.f l0_0 x).map (!·)) l1 0).bind fun r => some (!decide (0 ≤ r)) else some false
set_option maxHeartbeats 8000000 in
set_option maxRecDepth 100000 in
theorem impl_classesIn.calls (k : Nat) (A0_0 : Option Addr) (c0_0 : Nat) (l0_0 : List (S98)) (A1 : Option Addr) (c1 : Nat) (l1 : List Int) (r : Bool) (w : World) (hr0_0 : Kd.C k98 w A0_0 l0_0.length l0_0) (hc0_0 : l0_0.length ≤ c0_0) (hr1 : Kd.C (Kd.int .i64) w A1 l1.length l1) (hc1 : l1.length ≤ c1) (h : impl_classesIn.f k l0_0 l1 = some r) :
  Calls Try.prog 48 #[.agg #[.slice A0_0 l0_0.length c0_0], .slice A1 l1.length c1] w fun e w' => e = .returned (.bool r) ∧ Below w.heap.size w w' := by
 obtain ⟨v, hv, h⟩ := Option.bind_eq_some_iff.mp h
 have hu32 := Try.underlying32
 have HV := am (fun W (hb : Below w.heap.size w W) => impl_ValidTree.calls k A0_0 c0_0 l0_0 v W (Kd.C_below hr0_0 hb) hc0_0 hv)
 cases v with
 | false =>
  obtain rfl : false = r := by simpa using h
  clear hv h hr0_0 hr1
  go_enter Try.func48, Try.ntmps48
  go_wp2_with (go_at_call 43; refine (HV.out _ ((Below.refl _ _).alloc (Nat.le_refl _) _)).mono ?_; rintro e w' ⟨rfl, hb2⟩)
  go_ret
  exact ⟨rfl, ((Below.refl _ _).alloc (Nat.le_refl _) _).trans (hb2.mono (by simp))⟩
 | true =>
  simp only [if_true] at h
  obtain ⟨q, hq, h⟩ := Option.bind_eq_some_iff.mp h
  have HZ := am (Option.some.inj h)
  have HF := am (fun W (hb : Below w.heap.size w W) (B : Nat) (hB : B < W.heap.size) (hc : W.cell? ⟨B, 0, none⟩ = some (.slice A0_0 l0_0.length c0_0)) => impl_classesIn_any A1 c1 l1 B (fun x => (impl_Tree_has.f l0_0 x).map (!·)) q W (Kd.C_below hr1 hb) hq (fun W' hb' x b hx => 
   impl_classesIn1_calls l0_0 A0_0 c0_0 x b B W' (Kd.C_below (Kd.C_below hr0_0 hb) hb') hc0_0 (Nat.lt_of_lt_of_le hB hb'.size) (pw_cell_below hb' hc) hx))
  clear hv h hq hr0_0 hr1
  go_enter Try.func48, Try.ntmps48
  go_wp2_with (first | (go_at_call 43; refine (HV.out _ ((Below.refl _ _).alloc (Nat.le_refl _) _)).mono ?_; rintro e w1 ⟨rfl, hb2⟩; have hb1 := ((Below.refl w.heap.size w).alloc (Nat.le_refl _) (.cells #[.slice A0_0 l0_0.length c0_0] 32)).trans (hb2.mono (by simp)); have hcell := pw_cell_below hb2 (show (w.alloc (.cells #[.slice A0_0 l0_0.length c0_0] 32)).cell? ⟨w.heap.size, 0, none⟩ = some (.slice A0_0 l0_0.length c0_0) by simp); have hlt : w.heap.size < w1.heap.size := Nat.lt_of_lt_of_le (by simp) hb2.size) | (go_at_call 78; refine (HF.out _ hb1 _ hlt hcell).mono ?_; rintro e w2 ⟨rfl, hb3⟩))
  go_ret
  exact ⟨by rw [← HZ.out]; rfl, below_then hb1 hb1.size hb3⟩

def slices_Index_int_int.l0 : Nat → List Int → Int → Int → Int → Option (Int)
 | 0, _, _, _, _ => none
 | k + 1, x0, x1, x7, x8 => if x8 < x7 then (if 0 ≤ x8 then (if x8 < (x0.length : Int) then (if x1 = (rd x0 x8) then (some x8) else (slices_Index_int_int.l0 k x0 x1 x7 (wrap64 (x8 + 1)))) else (none)) else (none)) else (some (-1))
def slices_Index_int_int.f (k : Nat) (l0 : List Int) (a1 : Int) : Option (Int) := slices_Index_int_int.l0 k l0 a1 (l0.length : Int) 0
set_option maxHeartbeats 8000000 in
set_option maxRecDepth 100000 in
theorem slices_Index_int_int.calls (k : Nat) (A0 : Option Addr) (c0 : Nat) (l0 : List Int) (a1 : Int) (r : Int) (w : World) (hr0 : Kd.C (Kd.int .i64) w A0 l0.length l0) (hc0 : l0.length ≤ c0) (h : slices_Index_int_int.f k l0 a1 = some r) :
  Calls Try.prog 102 #[.slice A0 l0.length c0, .int .i64 a1] w fun e w' => e = .returned (.int .i64 r) ∧ Drawn0 w w' := by
 have HR0 := am hr0
 have HC0 := am hc0
 clear hr0 hc0
 have H : (slices_Index_int_int.l0 k l0 a1 (l0.length : Int) 0) = some r := h
 clear h
 have H' := am H
 clear H
 go_enter Try.func102, Try.ntmps102
 go_wp2
 go_loopg [8] k (fun kq v8 w' => ∃ (x8_1 : Int), v8 = .int .i64 x8_1 ∧ Aside0 (slices_Index_int_int.l0 kq l0 a1 (l0.length : Int) x8_1 = some r) ∧ Aside0 (kq ≤ k) ∧ Drawn0 w w')
 case atStart => exact ⟨(0), (sq), H', ⟨Nat.le_refl _⟩, Y8⟩
 case round =>
  clear H'
  try clear c1
  try clear p2
  obtain ⟨x8_1, rfl, HA, HK1, ⟨m1, rfl⟩⟩ := hrel
  cases gk with
  | zero => exact absurd HA.out (by simp [slices_Index_int_int.l0])
  | succ k1 =>
   have H := HA.out
   clear HA
   simp only [slices_Index_int_int.l0] at H
   by_cases c3 : x8_1 < (l0.length : Int)
   ·rw [if_pos c3] at H
    have c3b0 : decide (x8_1 < (l0.length : Int)) = true := decide_eq_true c3
    clear c3
    by_cases c4 : 0 ≤ x8_1
    ·rw [if_pos c4] at H
     have c4b0 : decide (0 ≤ x8_1) = true := decide_eq_true c4
     clear c4
     by_cases c5 : x8_1 < (l0.length : Int)
     ·rw [if_pos c5] at H
      have c5b0 : decide (x8_1 < (l0.length : Int)) = true := decide_eq_true c5
      clear c5
      by_cases c6 : a1 = (rd l0 x8_1)
      ·rw [if_pos c6] at H
       have c6b0 : (a1 == (rd l0 x8_1)) = true := beq_iff_eq.mpr c6
       have c6b1 : (a1 != (rd l0 x8_1)) = false := bne_eq_false_iff_eq.mpr c6
       clear c6
       obtain rfl := Option.some.inj H
       have p635 : 0 ≤ (x8_1 : Int) := of_decide_eq_true (uq)
       have q635 : x8_1 < (l0.length : Int) := of_decide_eq_true (uq)
       obtain ⟨ad635, e635, hx635_0⟩ := Kd.at_int HR0.out x8_1 p635 q635
       cases e635
       replace p635 := eq_true p635
       replace q635 := eq_true q635
       go_wp2
       go_ret
       exact ⟨sq, Y8⟩
      ·rw [if_neg c6] at H
       have c6b0 : (a1 == (rd l0 x8_1)) = false := beq_eq_false_iff_ne.mpr c6
       have c6b1 : (a1 != (rd l0 x8_1)) = true := bne_iff_ne.mpr c6
       have H' := am H
       clear H
       have p635 : 0 ≤ (x8_1 : Int) := of_decide_eq_true (uq)
       have q635 : x8_1 < (l0.length : Int) := of_decide_eq_true (uq)
       obtain ⟨ad635, e635, hx635_0⟩ := Kd.at_int HR0.out x8_1 p635 q635
       cases e635
       replace p635 := eq_true p635
       replace q635 := eq_true q635
       go_wp2
       go_roundg k1
       case measure => have := HK1.out; omega
       case rel => exact ⟨(wrap64 (x8_1 + 1)), (sq), H', ⟨by have := HK1.out; omega⟩, Y8⟩
     ·rw [if_neg c5] at H
      exact absurd H (by simp)
    ·rw [if_neg c4] at H
     exact absurd H (by simp)
   ·rw [if_neg c3] at H
    have c3b0 : decide (x8_1 < (l0.length : Int)) = false := decide_eq_false c3
    clear c3
    obtain rfl := Option.some.inj H
    go_wp2
    go_ret
    exact ⟨sq, Y8⟩
def slices_Contains_int_int.f (k : Nat) (l0 : List Int) (a1 : Int) : Option (Bool) := (slices_Index_int_int.f k l0 a1).bind fun t636 => (some (decide (t636 ≥ 0)))
set_option maxHeartbeats 8000000 in
set_option maxRecDepth 100000 in
theorem slices_Contains_int_int.calls (k : Nat) (A0 : Option Addr) (c0 : Nat) (l0 : List Int) (a1 : Int) (r : Bool) (w : World) (hr0 : Kd.C (Kd.int .i64) w A0 l0.length l0) (hc0 : l0.length ≤ c0) (h : slices_Contains_int_int.f k l0 a1 = some r) :
  Calls Try.prog 81 #[.slice A0 l0.length c0, .int .i64 a1] w fun e w' => e = .returned (.bool r) ∧ Drawn0 w w' := by
 have HR0 := am hr0
 have HC0 := am hc0
 clear hr0 hc0
 have H : ((slices_Index_int_int.f k l0 a1).bind fun t636 => (some (decide (t636 ≥ 0)))) = some r := h
 clear h
 replace H := Option.bind_eq_some_iff.mp H
 obtain ⟨t636, A30, H⟩ := H
 replace H : (some (decide (t636 ≥ 0))) = some r := H
 have A3 := am A30
 clear A30
 obtain rfl := Option.some.inj H
 go_enter Try.func81, Try.ntmps81
 go_wp2_with (first | ((with_reducible refine gate_callee (f := 102) rfl ?_); refine gL (some 7) Try.func102 #[.slice A0 l0.length c0, .int .i64 a1] ?_; (with_reducible refine (slices_Index_int_int.calls k _ _ l0 a1 t636 _ ?side1 ?side2 A3.out).mono ?_); (case side1 => exact Y35); (case side2 => exact HC0.out); rintro e w' ⟨rfl, ⟨nd, rfl⟩⟩; refine ⟨_, rfl, ?_⟩))
 go_ret
 exact ⟨sq, Y8⟩
def impl_Tree_above.l0 : Nat → Int → List Int → List (S98) → Option (List Int)
 | 0, _, _, _ => none
 | k + 1, x1, x5, x638000 => if x1 ≥ 0 then (if x5.length < 17592186044416 then (if 0 ≤ x1 then (if x1 < (x638000.length : Int) then (impl_Tree_above.l0 k ((rd_T98 x638000 x1).f1) (x5 ++ [x1]) x638000) else (none)) else (none)) else (none)) else (some (x5))
def impl_Tree_above.f (k : Nat) (l0_0 : List (S98)) (a1 : Int) : Option (List Int) := if 0 ≤ (l0_0.length : Int) then (if ((l0_0.length : Int) : Int).toNat ≤ 35184372088832 then (impl_Tree_above.l0 k a1 (([] : List Int)) l0_0) else (none)) else (none)
set_option maxHeartbeats 8000000 in
set_option maxRecDepth 100000 in
theorem impl_Tree_above.calls (k : Nat) (A0_0 : Option Addr) (c0_0 : Nat) (l0_0 : List (S98)) (a1 : Int) (r : List Int) (w : World) (hr0_0 : Kd.C k98 w A0_0 l0_0.length l0_0) (hc0_0 : l0_0.length ≤ c0_0) (h : impl_Tree_above.f k l0_0 a1 = some r) :
  Calls Try.prog 82 #[.agg #[.slice A0_0 l0_0.length c0_0], .int .i64 a1] w fun e w' => ∃ v0_ : Value, e = .returned (v0_) ∧ Kd.R (Kd.int .i64) 3 w' w.heap.size (fun _ => True) v0_ r ∧ Below w.heap.size w w' := by
 have hu32 := Try.underlying32
 have HR0_0 := am hr0_0
 have HC0_0 := am hc0_0
 clear hr0_0 hc0_0
 have HB := am (Below.refl w.heap.size w)
 have H : (if 0 ≤ (l0_0.length : Int) then (if ((l0_0.length : Int) : Int).toNat ≤ 35184372088832 then (impl_Tree_above.l0 k a1 (([] : List Int)) l0_0) else (none)) else (none)) = some r := h
 clear h
 by_cases c3 : 0 ≤ (l0_0.length : Int)
 ·rw [if_pos c3] at H
  have c3b0 := eq_true c3
  have c3b1 : decide (0 ≤ (l0_0.length : Int)) = true := decide_eq_true c3
  clear c3
  by_cases c4 : ((l0_0.length : Int) : Int).toNat ≤ 35184372088832
  ·rw [if_pos c4] at H
   have c4b0 := eq_true c4
   have c4b1 : decide (((l0_0.length : Int) : Int).toNat ≤ 35184372088832) = true := decide_eq_true c4
   clear c4
   obtain ⟨y638, hy638⟩ : ∃ y_ : List Int, y_ = (([] : List Int)) := ⟨_, rfl⟩
   replace H : (impl_Tree_above.l0 k a1 y638 l0_0) = some r := by first | (rw [hy638]; with_reducible exact H) | (have H2_ := (Option.bind_some _ _).symm.trans H; rw [hy638]; with_reducible exact H2_) | (have H2_ := (Option.bind_some _ _).symm.trans H; with_reducible exact H2_) | with_reducible exact H | (rw [hy638]; exact H) | exact H
   have Ny638 := am hy638
   clear hy638
   have H' := am H
   clear H
   go_enter Try.func82, Try.ntmps82
   go_wp2_with (first | ((with_reducible refine gate_dst (N := 2) rfl ?_); refine bE (N := 2) (cs := #[.slice A0_0 l0_0.length c0_0]) (t := 32) ?_; intro gb637 hg w5 hbox hb; have BK637 := am (hbox); have GW637 := am ((Y11 : w.heap.size ≤ gb637)); have GE637 := am ((Y11 : w.heap.size ≤ gb637)); replace HB := am (below_step (bq) hb); clear hb hbox hg; have hcz6_0 := bc0 BK637.out; have hfz6_0 := blk_frozen BK637.out 0) | ((with_reducible refine gate_dst (N := 9) rfl ?_); refine Kd.R_mkcap (Kd.int .i64) _ 3 rfl (N := 9) rfl 65 _ _ rfl (l0_0.length : Int) rfl rfl Try.underlying65 (.int .i64 0) 8 info3 rfl (by decide) (by omega) (ok := fun _ => True) trivial (of_decide_eq_true (uq)) (Nat.le_trans (Nat.mul_le_mul_right _ (of_decide_eq_true (uq) : (l0_0.length : Int).toNat ≤ 35184372088832)) (by omega)) (Below.refl _ _) (Nat.le_refl _) ?_; intro v639 w7 ho8 hb hg_ hnew_; clear hg_ hnew_; (first | rw [← Ny638.out] at ho8 | (simp only [Int.reduceToNat] at ho8; rw [← Ny638.out] at ho8)); have HO640 := am (Kd.R_lower ho8 (below_size (Y61))); replace BK637 := am (blk_below (g := gb637) (o := .cells #[.slice A0_0 l0_0.length c0_0] 32 (0, 0)) (kq BK637.out) hb); replace HB := am (below_step (Y61) hb); clear hb ho8))
   go_loopg [1, 5] k (fun kq v1 v5 w' => ∃ (x1_1 : Int) (x5_1 : List Int), v1 = .int .i64 x1_1 ∧ Aside0 (impl_Tree_above.l0 kq x1_1 x5_1 l0_0 = some r) ∧ Aside0 (kq ≤ k) ∧ Aside0 (Kd.R (Kd.int .i64) 3 w' w.heap.size (fun _ => True) v5 x5_1) ∧ Aside0 (w'.heap[gb637]? = some (.cells #[(.slice A0_0 l0_0.length c0_0)] 32 (0, 0))) ∧ Aside0 (Below w.heap.size w w'))
   case atStart => exact ⟨(a1), (y638), (sq), H', ⟨Nat.le_refl _⟩, ⟨rq HO640.out⟩, ⟨kq BK637.out⟩, ⟨Y61⟩⟩
   case round =>
    clear H'
    try clear p2
    try clear c3
    try clear c3b0
    try clear c3b1
    try clear c4
    try clear c4b0
    try clear c4b1
    try clear c8
    try clear hcz6_0
    try clear hfz6_0
    obtain ⟨x1_1, x5_1, rfl, HA, HK1, HO_5, BK637, HB⟩ := hrel
    cases gk with
    | zero => exact absurd HA.out (by simp [impl_Tree_above.l0])
    | succ k1 =>
     have H := HA.out
     clear HA
     simp only [impl_Tree_above.l0] at H
     by_cases c9 : x1_1 ≥ 0
     ·rw [if_pos c9] at H
      have c9b0 : decide (0 ≤ x1_1) = true := decide_eq_true c9
      clear c9
      by_cases c10 : x5_1.length < 17592186044416
      ·rw [if_pos c10] at H
       have LMc10 := am c10
       clear c10
       obtain ⟨y641, hy641⟩ : ∃ y_ : List Int, y_ = (x5_1 ++ [x1_1]) := ⟨_, rfl⟩
       replace H : (if 0 ≤ x1_1 then (if x1_1 < (l0_0.length : Int) then (impl_Tree_above.l0 k1 ((rd_T98 l0_0 x1_1).f1) y641 l0_0) else (none)) else (none)) = some r := by first | (rw [hy641]; with_reducible exact H) | (have H2_ := (Option.bind_some _ _).symm.trans H; rw [hy641]; with_reducible exact H2_) | (have H2_ := (Option.bind_some _ _).symm.trans H; with_reducible exact H2_) | with_reducible exact H | (rw [hy641]; exact H) | exact H
       have Ny641 := am hy641
       clear hy641
       by_cases c11 : 0 ≤ x1_1
       ·rw [if_pos c11] at H
        have c11b0 : decide (0 ≤ x1_1) = true := decide_eq_true c11
        clear c11
        by_cases c12 : x1_1 < (l0_0.length : Int)
        ·rw [if_pos c12] at H
         have c12b0 : decide (x1_1 < (l0_0.length : Int)) = true := decide_eq_true c12
         clear c12
         have H' := am H
         clear H
         go_wp2_with (first | ((with_reducible refine gate_builtin (b := .append) (xs := #[.tmp 18, .tmp 20]) rfl ?_); at_builtin; refine Kd.R_append (Kd.int .i64) (w0 := w) w.heap.size rfl (.tmp 18) (.tmp 20) 65 3 (.int .i64 0) 8 rfl Try.underlying65 info3 rfl (by decide) (by omega) u5 x5_1 x1_1 [.int .i64 x1_1] (fun _ => True) (fun _ => False) rfl rfl ?aP (fun _ hk => hk.elim) ?aF ?aO ?aB ?aS ?aL ?_; (case aP => exact rfl); (case aB => exact (Y61)); (case aF => exact (fun _ _ => trivial)); (case aO => exact (rq HO_5.out)); (case aS => exact (below_size (Y61))); (case aL => have := LMc10.out; omega); intro v642 w13 ho hb hg hat; rw [← Ny641.out] at ho; have n0_ := am (blk_grown (g := gb637) (o := .cells #[.slice A0_0 l0_0.length c0_0] 32 (0, 0)) (kq BK637.out) hg (Kd.R_ne HO_5.out BK637.out (by decide))); have n1_ := am (hb); have n2_ := am (ho); clear BK637 HB HO_5; have BK637 := n0_; have HB := n1_; have HO643 := n2_; clear n0_ n1_ n2_ ho hb hg hat; have hcz14_0 := bc0 BK637.out; have hfz14_0 := blk_frozen BK637.out 0; have p644 : 0 ≤ (x1_1 : Int) := of_decide_eq_true (uq); have q644 : x1_1 < (l0_0.length : Int) := of_decide_eq_true (uq); obtain ⟨ad644, e644, hx644_0, hx644_1⟩ := at_T98 HR0_0.out x1_1 p644 q644; cases e644; replace hx644_0 := cb HB.out hx644_0; replace hx644_1 := cb HB.out hx644_1; replace p644 := eq_true p644; replace q644 := eq_true q644))
         go_roundg k1
         case measure => have := HK1.out; omega
         case rel => exact ⟨((rd_T98 l0_0 x1_1).f1), (y641), (sq), H', ⟨by have := HK1.out; omega⟩, ⟨rq HO643.out⟩, ⟨kq BK637.out⟩, ⟨Y61⟩⟩
        ·rw [if_neg c12] at H
         exact absurd H (by simp)
       ·rw [if_neg c11] at H
        exact absurd H (by simp)
      ·rw [if_neg c10] at H
       exact absurd H (by simp)
     ·rw [if_neg c9] at H
      have c9b0 : decide (0 ≤ x1_1) = false := decide_eq_false c9
      clear c9
      obtain ⟨y645, hy645⟩ : ∃ y_ : List Int, y_ = (x5_1) := ⟨_, rfl⟩
      replace H : (some y645) = some r := by first | (rw [hy645]; with_reducible exact H) | (have H2_ := (Option.bind_some _ _).symm.trans H; rw [hy645]; with_reducible exact H2_) | (have H2_ := (Option.bind_some _ _).symm.trans H; with_reducible exact H2_) | with_reducible exact H | (rw [hy645]; exact H) | exact H
      have Ny645 := am hy645
      clear hy645
      obtain rfl := Option.some.inj H
      obtain ⟨Ao15, co15, eo15⟩ := Kd.R_slice HO_5.out
      subst eo15
      obtain ⟨i016, hi016, _, hsz16, _⟩ := info_parts info3
      have hy16 : y645.length = x5_1.length := (by rw [Ny645.out])
      have hcut16 := cut_clip (P := Try.prog) 65 3 Try.underlying65 hi016 Ao15 _ co15 _ (Kd.R_reads' HO_5.out).2.1 hy16
      have hr16 := Kd.R_clip HO_5.out Ny645.out
      clear hy16 hi016 hsz16 HO_5
      have HO647 := am hr16
      clear hr16
      go_wp2
      go_ret
      exact ⟨_, Y0, rq HO647.out, Y61⟩
  ·rw [if_neg c4] at H
   exact absurd H (by simp)
 ·rw [if_neg c3] at H
  exact absurd H (by simp)
def impl_Tree_is.f (k : Nat) (l0_0 : List (S98)) (a1 : Int) (a2 : Int) : Option (Bool) := (impl_Tree_above.f k l0_0 a1).bind fun t649 => ((slices_Contains_int_int.f k t649 a2).bind fun t652 => (some t652))
set_option maxHeartbeats 8000000 in
set_option maxRecDepth 100000 in
theorem impl_Tree_is.calls (k : Nat) (A0_0 : Option Addr) (c0_0 : Nat) (l0_0 : List (S98)) (a1 : Int) (a2 : Int) (r : Bool) (w : World) (hr0_0 : Kd.C k98 w A0_0 l0_0.length l0_0) (hc0_0 : l0_0.length ≤ c0_0) (h : impl_Tree_is.f k l0_0 a1 a2 = some r) :
  Calls Try.prog 51 #[.agg #[.slice A0_0 l0_0.length c0_0], .int .i64 a1, .int .i64 a2] w fun e w' => e = .returned (.bool r) ∧ Below w.heap.size w w' := by
 have hu32 := Try.underlying32
 have HR0_0 := am hr0_0
 have HC0_0 := am hc0_0
 clear hr0_0 hc0_0
 have HB := am (Below.refl w.heap.size w)
 have H : ((impl_Tree_above.f k l0_0 a1).bind fun t649 => ((slices_Contains_int_int.f k t649 a2).bind fun t652 => (some t652))) = some r := h
 clear h
 replace H := Option.bind_eq_some_iff.mp H
 obtain ⟨t649, A40, H⟩ := H
 replace H : ((slices_Contains_int_int.f k t649 a2).bind fun t652 => (some t652)) = some r := H
 have A4 := am A40
 clear A40
 replace H := Option.bind_eq_some_iff.mp H
 obtain ⟨t652, A50, H⟩ := H
 replace H : (some t652) = some r := H
 have A5 := am A50
 clear A50
 obtain rfl := Option.some.inj H
 go_enter Try.func51, Try.ntmps51
 go_wp2_with (first | ((with_reducible refine gate_dst (N := 3) rfl ?_); refine bE (N := 3) (cs := #[.slice A0_0 l0_0.length c0_0]) (t := 32) ?_; intro gb648 hg w6 hbox hb; have BK648 := am (hbox); have GW648 := am ((Y11 : w.heap.size ≤ gb648)); have GE648 := am ((Y11 : w.heap.size ≤ gb648)); replace HB := am (below_step (bq) hb); clear hb hbox hg; have hcz7_0 := bc0 BK648.out; have hfz7_0 := blk_frozen BK648.out 0) | ((with_reducible refine gate_callee (f := 82) rfl ?_); refine gL (some 9) Try.func82 #[.agg #[.slice A0_0 l0_0.length c0_0], .int .i64 a1] ?_; (with_reducible refine (impl_Tree_above.calls k _ _ l0_0 a1 t649 _ ?side1 ?side2 A4.out).mono ?_); (case side1 => exact cq (Kd.C_below HR0_0.out HB.out)); (case side2 => exact HC0_0.out); rintro e w8 ⟨v650, rfl, ho0, hb⟩; refine ⟨_, rfl, ?_⟩; have HO651 := am (Kd.R_lower ho0 (below_size (Y98))); replace BK648 := am (blk_below (g := gb648) (o := .cells #[.slice A0_0 l0_0.length c0_0] 32 (0, 0)) (kq BK648.out) hb); replace HB := am (below_step (Y98) hb); (try clear hb); (try clear hb2); (try clear hk); (try clear hi); (try clear ho0); obtain ⟨Ao9, co9, eo9⟩ := Kd.R_slice HO651.out; subst eo9) | ((with_reducible refine gate_callee (f := 81) rfl ?_); refine gL (some 11) Try.func81 #[.slice Ao9 t649.length co9, .int .i64 a2] ?_; (with_reducible refine (slices_Contains_int_int.calls k _ _ t649 a2 t652 _ ?side1 ?side2 A5.out).mono ?_); (case side1 => exact cq (Kd.R_reads' HO651.out).2.2); (case side2 => exact (Kd.R_reads' HO651.out).2.1); rintro e w' ⟨rfl, ⟨nd, rfl⟩⟩; refine ⟨_, rfl, ?_⟩))
 go_ret
 exact ⟨Y0, Y98⟩
section
open Go.Shelf
attribute [local go_sem] Oper.semAt_some
theorem xwr {x : Int} (h : -9223372036854775808 ≤ x ∧ x ≤ 9223372036854775807) : wrap64 x = x := by unfold wrap64; omega
def upto {α : Type} (f : Nat → α) (k : Nat) : List α := (List.range k).map f
theorem upto_succ {α : Type} (f : Nat → α) (k : Nat) : upto f (k + 1) = upto f k ++ [f k] := by simp [upto, List.range_succ]
theorem upto_length {α : Type} (f : Nat → α) (k : Nat) : (upto f k).length = k := by simp [upto]
def BackKeeps (n₀ Bs : Nat) (sv : Value) (W W' : World) : Prop := Below n₀ W W' ∧ (Boxed W Bs 28 sv → Boxed W' Bs 28 sv)
theorem backKeeps_t {n₀ Bs : Nat} {sv : Value} {A B C : World} (h : BackKeeps n₀ Bs sv A B) (k : BackKeeps n₀ Bs sv B C) : BackKeeps n₀ Bs sv A C := ⟨h.1.trans k.1, fun x => k.2 (h.2 x)⟩
theorem backKeeps_b {n₀ Bs : Nat} {sv : Value} {w : World} (hn : n₀ ≤ w.heap.size) (W : World) (l : Nat) (o o' : Obj) (hl : w.heap.size ≤ l) (h : W.heap[l]? = some o) (hc : o.isCells = false) (hw : o.isWalk = false) : BackKeeps n₀ Bs sv W (W.putObj l o') :=
 ⟨belowK_b hn W l o o' hl h hc hw, fun hb => by
  refine hb.kept (grownBy_putObj' W l o') ?_
  intro e
  obtain rfl : Bs = l := by simpa using e
  rw [show W.heap[Bs]? = _ from hb] at h
  cases h
  cases hc⟩
set_option maxRecDepth 100000 in
set_option maxHeartbeats 4000000 in
theorem backR1_in {α : Type} (F : Fence) (n : Nat) (h8 : F.fn 80) (hro : F.round = none) (hn : 1 ≤ n) (l Bs : Nat) (A : Option Addr) (cap : Nat) (xs : List S48) (w₀ : World) (hr : Kd.C k48 w₀ A xs.length xs)
  (encs : α → Array Value) (g : Nat → α) (hg : ∀ j : Nat, j < xs.length → encs (g j) = #[.int .i64 ((xs.length : Int) - 1 - j), .agg #[.int .i64 (rd_T48 xs ((xs.length : Int) - 1 - j)).f0, .int .i64 (rd_T48 xs ((xs.length : Int) - 1 - j)).f1, .int .i64 (rd_T48 xs ((xs.length : Int) - 1 - j)).f2, .int .i64 (rd_T48 xs ((xs.length : Int) - 1 - j)).f3]])
  (J Jx : List α → World → Prop)
  (hY : ∀ pre x W, J pre W → pre.length < xs.length → YieldAt F (n - 1) Try.prog l (encs x) W fun e W' =>
   (e = .returned (.bool true) ∧ J (pre ++ [x]) W' ∧ BackKeeps w₀.heap.size Bs (.slice A xs.length cap) W W') ∨ (e = .returned (.bool false) ∧ Jx (pre ++ [x]) W'))
  (W : World) (hW : Below w₀.heap.size w₀ W) (hBs : Boxed W Bs 28 (.slice A xs.length cap)) (h0 : J [] W) :
  CallsIn F n Try.prog 80 #[.func (.yield l) #[] #[], .pointer (some ⟨Bs, 0, none⟩)] W fun e W' => (∃ v, e = .returned v) ∧
   ((∃ ys, ys = upto g xs.length ∧ J ys W') ∨ (∃ pre, (∃ k, k ≤ xs.length ∧ pre = upto g k) ∧ Jx pre W')) := by
 have hm : xs.length ≤ 9223372036854775807 := Kd.C_max hr
 have hu := Try.underlying48
 have cBs := hBs.cell
 refine callsIn_of_wp Try.func80 rfl h8 ?_ hro
 simp only [Try.ntmps80, List.size_toArray, List.length_cons, List.length_nil, Nat.reduceAdd, Nat.reduceSub, Array.replicate_succ, Array.replicate_zero, List.push_toArray, List.append_toArray, List.nil_append, List.cons_append]
 gi_wp2
 have hwr : wrap64 ((xs.length : Int) - 1) = (xs.length : Int) - 1 := xwr (by omega)
 gi_loopw [3] (fun i wr => ∃ k : Nat, k ≤ xs.length ∧ i = .int .i64 ((xs.length : Int) - 1 - k) ∧ J (upto g k) wr ∧ Below w₀.heap.size w₀ wr ∧ Boxed wr Bs 28 (.slice A xs.length cap))
  (fun i _ => (intOf i + 1).toNat)
 case atStart => exact ⟨0, Nat.zero_le _, by simp, h0, hW, hBs⟩
 case round =>
  obtain ⟨k, hk, rfl, hJs, hnx, hbx⟩ := hrel
  have cB := hbx.cell
  by_cases hlt : k < xs.length
  ·obtain ⟨fn, tmps, assign, body, hy, hR⟩ := hY _ (g k) wr hJs (by rw [upto_length]; exact hlt)
   rw [hg k hlt] at hy
   obtain ⟨j, hj⟩ : ∃ j : Nat, (xs.length : Int) - 1 - k = (j : Int) := ⟨xs.length - 1 - k, by omega⟩
   have p0 : 0 ≤ (j : Int) := by omega
   have p1 : (j : Int) < (xs.length : Int) := by omega
   have p2 : j < xs.length := by omega
   rw [hj] at hy ⊢
   obtain ⟨ad, rfl, x0, x1, x2, x3⟩ := at_T48 (Kd.C_below hr hnx) (j : Int) p0 p1
   rw [Int.toNat_natCast] at x0 x1 x2 x3
   gi_wp2
   refine hR.mono ?_
   rintro e W3 (⟨rfl, hJ3, hk3⟩ | ⟨rfl, hJx3⟩)
   ·have hb3 := hk3.2 hbx
    have c3 := hb3.cell
    gi_wp2
    go_roundw
    case rel => exact ⟨k + 1, by omega, by congr 1; omega, by rw [upto_succ]; exact hJ3, hnx.trans hk3.1, hb3⟩
    case measure => simp [intOf]
   ·gi_wp2
    refine bodyPost_ret (results_none rfl _ _ _) rfl ?_
    exact ⟨⟨_, rfl⟩, .inr ⟨_, ⟨k + 1, by omega, (upto_succ _ _).symm⟩, hJx3⟩⟩
  ·obtain rfl : k = xs.length := by omega
   have q2 : decide ((xs.length : Int) - 1 - xs.length ≥ 0) = false := decide_eq_false (by omega)
   gi_wp2
   go_end0
   exact ⟨⟨_, rfl⟩, .inl ⟨_, rfl, hJs⟩⟩
set_option linter.unusedVariables false
set_option linter.unusedSimpArgs false
def impl_LookUp.at (k : Nat) (t : List S98) (i a : Int) (x : S48) : Option (Option Bool) :=
 (impl_within.f x.f0 0 24).bind fun b0 => if b0 = true then (impl_within.f x.f1 x.f0 24).bind fun b1 => if b1 = true then (impl_within.f x.f2 0 23).bind fun b2 => if b2 = true then (impl_Tree_has.f t x.f3).bind fun b3 => if b3 = true then (if x.f0 ≤ i then (if i < x.f1 then (impl_Tree_is.f k t a x.f3).map some else some (some false)) else some (some false)) else some none else some none else some none else some none
def impl_LookUp.step (k : Nat) (t : List S98) (i a : Int) (s : Option Int) (x : S48) : Option Int := s.bind fun tgt => match impl_LookUp.at k t i a x with | some (some b) => some (if b = true then x.f2 else tgt) | _ => none
def impl_LookUp.st (k : Nat) (t : List S98) (i a : Int) (pre : List S48) : Option Int := pre.foldl (impl_LookUp.step k t i a) (some (-1))
def impl_LookUp.f (k : Nat) (l0_0 : List S98) (l1 : List S48) (a2 a3 : Int) : Option Int :=
 (impl_classesIn.f k l0_0 [a3]).bind fun v => if v = true then (if (l1.length : Int) > 24 then some (-1) else if l1.all (fun x => (impl_LookUp.at k l0_0 a2 a3 x).isSome) = true then some ((impl_LookUp.st k l0_0 a2 a3 l1.reverse).getD (-1)) else none) else some (-1)
abbrev LkEl (k : Nat) (t : List S98) (i a : Int) := { x : Int × S48 // (impl_LookUp.at k t i a x.2).isSome = true }
def LkEl.zero (k : Nat) (t : List S98) (i a : Int) : LkEl k t i a := ⟨(0, ⟨-1, 0, 0, 0⟩), by simp [impl_LookUp.at, impl_within.f]⟩
def LkEl.of (k : Nat) (t : List S98) (i a : Int) (l : List S48) (j : Nat) : LkEl k t i a :=
 if h : (impl_LookUp.at k t i a (rd_T48 l ((l.length : Int) - 1 - j))).isSome = true then ⟨((l.length : Int) - 1 - j, rd_T48 l ((l.length : Int) - 1 - j)), h⟩ else LkEl.zero k t i a
def LkEl.st {k : Nat} {t : List S98} {i a : Int} (pre : List (LkEl k t i a)) : Option Int := impl_LookUp.st k t i a (pre.map fun x => x.1.2)
theorem LkEl.st_snoc {k : Nat} {t : List S98} {i a : Int} (pre : List (LkEl k t i a)) (x : LkEl k t i a) : LkEl.st (pre ++ [x]) = impl_LookUp.step k t i a (LkEl.st pre) x.1.2 := by
 simp [LkEl.st, impl_LookUp.st]
theorem LkEl.enc {k : Nat} {t : List S98} {i a : Int} {l : List S48} (hall : ∀ x ∈ l, (impl_LookUp.at k t i a x).isSome = true) {j : Nat} (hj : j < l.length) :
  (fun x : LkEl k t i a => #[Value.int .i64 x.1.1, .agg #[.int .i64 x.1.2.f0, .int .i64 x.1.2.f1, .int .i64 x.1.2.f2, .int .i64 x.1.2.f3]]) (LkEl.of k t i a l j) = #[.int .i64 ((l.length : Int) - 1 - j), .agg #[.int .i64 (rd_T48 l ((l.length : Int) - 1 - j)).f0, .int .i64 (rd_T48 l ((l.length : Int) - 1 - j)).f1, .int .i64 (rd_T48 l ((l.length : Int) - 1 - j)).f2, .int .i64 (rd_T48 l ((l.length : Int) - 1 - j)).f3]] := by
 have h : (impl_LookUp.at k t i a (rd_T48 l ((l.length : Int) - 1 - j))).isSome = true := by
  refine hall _ ?_
  have e : ((l.length : Int) - 1 - j).toNat = l.length - 1 - j := by omega
  have h2 : l.length - 1 - j < l.length := by omega
  rw [rd_T48, e, List.getD_eq_getElem?_getD, List.getElem?_eq_getElem h2]
  exact List.getElem_mem h2
 simp only [LkEl.of, dif_pos h]
theorem LkEl.map_upto {k : Nat} {t : List S98} {i a : Int} {l : List S48} (hall : ∀ x ∈ l, (impl_LookUp.at k t i a x).isSome = true) {q : Nat} (hq : q ≤ l.length) : (upto (LkEl.of k t i a l) q).map (fun x => x.1.2) = l.reverse.take q := by
 apply List.ext_getElem
 ·simp [upto_length]; omega
 ·intro j h1 h2
  have hj : j < q := by simpa [upto_length] using h1
  have hj2 : j < l.length := by omega
  have e : ((l.length : Int) - 1 - j).toNat = l.length - 1 - j := by omega
  have h3 : l.length - 1 - j < l.length := by omega
  have hx : rd_T48 l ((l.length : Int) - 1 - j) = l[l.length - 1 - j] := by
   rw [rd_T48, e, List.getD_eq_getElem?_getD, List.getElem?_eq_getElem h3]; rfl
  have h4 : (impl_LookUp.at k t i a (rd_T48 l ((l.length : Int) - 1 - j))).isSome = true := by rw [hx]; exact hall _ (List.getElem_mem h3)
  simp only [List.getElem_map, List.getElem_take, List.getElem_reverse, upto, List.getElem_range, LkEl.of, dif_pos h4]
  exact hx
theorem LkEl.st_all {k : Nat} {t : List S98} {i a : Int} {l : List S48} (hall : ∀ x ∈ l, (impl_LookUp.at k t i a x).isSome = true) : LkEl.st (upto (LkEl.of k t i a l) l.length) = impl_LookUp.st k t i a l.reverse := by
 rw [LkEl.st, LkEl.map_upto hall (Nat.le_refl _), List.take_of_length_le (by simp)]
theorem st_stays (k : Nat) (t : List S98) (i a : Int) : ∀ l : List S48, l.foldl (impl_LookUp.step k t i a) none = none
 | [] => rfl
 | x :: l => st_stays k t i a l
theorem LkEl.st_none {k : Nat} {t : List S98} {i a : Int} {l : List S48} (hall : ∀ x ∈ l, (impl_LookUp.at k t i a x).isSome = true) {q : Nat} (hq : q ≤ l.length) (h : LkEl.st (upto (LkEl.of k t i a l) q) = none) : impl_LookUp.st k t i a l.reverse = none := by
 rw [LkEl.st, LkEl.map_upto hall hq, impl_LookUp.st] at h
 rw [impl_LookUp.st, ← List.take_append_drop q l.reverse, List.foldl_append, h]
 exact st_stays _ _ _ _ _
theorem within_some (a b c : Int) : ∃ v, impl_within.f a b c = some v := by unfold impl_within.f; split <;> exact ⟨_, rfl⟩
theorem has_some (t : List S98) (a : Int) : ∃ v, impl_Tree_has.f t a = some v := by
 obtain ⟨v, e⟩ := within_some a 0 (wrap64 ((t.length : Int) - 1))
 exact ⟨v, by simp [impl_Tree_has.f, e]⟩
theorem KeepsFrom.of_below {W W' : World} (h : Below W.heap.size W W') (B : Nat) : KeepsFrom B W W' := ⟨h.size, fun k o _ hk _ => (h.block k (Array.getElem?_eq_some_iff.1 hk).1).trans hk⟩
theorem Boxed.lies {W W' : World} {B : Nat} {t : TypeId} {v : Value} (h : Boxed W B t v) (hb : Below W.heap.size W W') : Boxed W' B t v := (hb.block B h.lt).trans h
theorem C_one {W : World} {b : Nat} {x : Int} (h : Boxed W b 3 (.int .i64 x)) : Kd.C (Kd.int .i64) W (some ⟨b, 0, none⟩) [x].length [x] :=
 Kd.C_of_reads (d := 0) (h1 := fun _ => rfl) ⟨rfl, by simp, fun _ => ⟨_, rfl, fun j hj => by
  obtain rfl : j = 0 := by simpa using hj
  exact h.cell⟩⟩
set_option maxHeartbeats 1000000 in
theorem backR_in (F : Fence) (n : Nat) (h6 : F.fn 49) (hro : F.round = none) (a : Option Addr) (len cap : Nat) (w : World) :
  CallsIn F n Try.prog 49 #[.slice a len cap] w fun e w' => e = .returned (.func (.func 80) #[] #[.pointer (some ⟨w.heap.size, 0, none⟩)]) ∧ w' = w.alloc (.cells #[.slice a len cap] 28) := by
 refine callsIn_of_wp Try.func49 rfl h6 ?_ hro
 simp only [Try.ntmps49, List.size_toArray, List.length_cons, List.length_nil, Nat.reduceAdd, Nat.reduceSub, Array.replicate_succ, Array.replicate_zero, List.push_toArray, List.append_toArray, List.nil_append, List.cons_append]
 gi_wp2
 go_ret
 exact ⟨rfl, rfl⟩
set_option maxHeartbeats 8000000 in
set_option maxRecDepth 100000 in
theorem impl_LookUp.calls (k : Nat) (A0_0 : Option Addr) (c0_0 : Nat) (l0_0 : List (S98)) (A1 : Option Addr) (c1 : Nat) (l1 : List (S48)) (a2 a3 : Int) (r : Int) (w : World) (hr0_0 : Kd.C k98 w A0_0 l0_0.length l0_0) (hc0_0 : l0_0.length ≤ c0_0) (hr1 : Kd.C k48 w A1 l1.length l1) (hc1 : l1.length ≤ c1) (h : impl_LookUp.f k l0_0 l1 a2 a3 = some r) :
  Calls Try.prog 23 #[.agg #[.slice A0_0 l0_0.length c0_0], .slice A1 l1.length c1, .int .i64 a2, .int .i64 a3] w fun e w' => e = .returned (.int .i64 r) ∧ Below w.heap.size w w' := by
 obtain ⟨v, hv, h⟩ := Option.bind_eq_some_iff.mp h
 have hu32 := Try.underlying32
 have hu48 := Try.underlying48
 have HC := am (fun (W : World) (hb : Below w.heap.size w W) (A : Option Addr) (c : Nat) (hC : Kd.C (Kd.int .i64) W A [a3].length [a3]) (hc : [a3].length ≤ c) => impl_classesIn.calls k A0_0 c0_0 l0_0 A c [a3] v W (Kd.C_below hr0_0 hb) hc0_0 hC hc hv)
 refine (callsIn_wide (n := 8)).1 ?_
 have hro : Fence.wide.round = none := rfl
 refine callsIn_of_wp_marks Try.func23 rfl trivial ?_ hro
 simp only [Try.ntmps23, List.size_toArray, List.length_cons, List.length_nil, Nat.reduceAdd, Nat.reduceSub, Array.replicate_succ, Array.replicate_zero, List.push_toArray, List.append_toArray, List.nil_append, List.cons_append]
 have b0 := (((Boxed.new w 32 (.slice A0_0 l0_0.length c0_0)).alloc (.cells #[.int .i64 a2] 3)).alloc (.cells #[.int .i64 a3] 3)).alloc (.cells #[.int .i64 0] 3) |>.alloc (.cells #[.int .i64 a3] 3)
 have b1 := (((Boxed.new (w.alloc (.cells #[.slice A0_0 l0_0.length c0_0] 32)) 3 (.int .i64 a2)).alloc (.cells #[.int .i64 a3] 3)).alloc (.cells #[.int .i64 0] 3)).alloc (.cells #[.int .i64 a3] 3)
 have b2 := ((Boxed.new ((w.alloc (.cells #[.slice A0_0 l0_0.length c0_0] 32)).alloc (.cells #[.int .i64 a2] 3)) 3 (.int .i64 a3)).alloc (.cells #[.int .i64 0] 3)).alloc (.cells #[.int .i64 a3] 3)
 have b3 := (Boxed.new (((w.alloc (.cells #[.slice A0_0 l0_0.length c0_0] 32)).alloc (.cells #[.int .i64 a2] 3)).alloc (.cells #[.int .i64 a3] 3)) 3 (.int .i64 0)).alloc (.cells #[.int .i64 a3] 3)
 have b4 := Boxed.new ((((w.alloc (.cells #[.slice A0_0 l0_0.length c0_0] 32)).alloc (.cells #[.int .i64 a2] 3)).alloc (.cells #[.int .i64 a3] 3)).alloc (.cells #[.int .i64 0] 3)) 3 (.int .i64 a3)
 simp only [World.size_alloc] at b1 b2 b3 b4
 have hB4 : Below w.heap.size w (((((w.alloc (.cells #[.slice A0_0 l0_0.length c0_0] 32)).alloc (.cells #[.int .i64 a2] 3)).alloc (.cells #[.int .i64 a3] 3)).alloc (.cells #[.int .i64 0] 3)).alloc (.cells #[.int .i64 a3] 3)) :=
  (((((Below.refl _ w).alloc (Nat.le_refl _) _).alloc (by simp) _).alloc (by simp; omega) _).alloc (by simp; omega) _).alloc (by simp; omega) _
 obtain ⟨W4, hW4⟩ : ∃ W4, ((((w.alloc (.cells #[.slice A0_0 l0_0.length c0_0] 32)).alloc (.cells #[.int .i64 a2] 3)).alloc (.cells #[.int .i64 a3] 3)).alloc (.cells #[.int .i64 0] 3)).alloc (.cells #[.int .i64 a3] 3) = W4 := ⟨_, rfl⟩
 rw [hW4] at b0 b1 b2 b3 b4 hB4
 have hcall := HC.out W4 hB4 _ 1 (C_one b4) (by simp)
 have hs4 : W4.heap.size = w.heap.size + 5 := by rw [← hW4]; simp
 by_cases hv1 : v = true
 ·subst hv1
  rw [if_pos rfl] at h
  by_cases hl : (l1.length : Int) > 24
  ·rw [if_pos hl] at h
   obtain rfl := Option.some.inj h
   have hlb := decide_eq_true hl
   gi_wp2_with (refine ⟨trivial, ?_⟩; gi_at_call 48; refine (callsIn_wide.2 hcall).mono ?_; rintro e w1 ⟨rfl, hb1⟩; have k3 := Boxed.lies b3 hb1; have c3 := Boxed.cell k3; have f3 := Boxed.frozen k3)
   have c5 := World.cell?_setCell_same' w1 ⟨w.heap.size + 1 + 1 + 1, 0, none⟩ (.int .i64 (-1)) (by rw [c3]; rfl)
   refine ⟨.int .i64 (-1), ?_, rfl, ?_⟩
   ·simp [results, Try.f23, go_sem, c5]
   ·exact (hB4.trans (hb1.mono (by omega))).setCell (p := ⟨w.heap.size + 1 + 1 + 1, 0, none⟩) (by simp; omega) _
  ·rw [if_neg hl] at h
   have hlb := decide_eq_false hl
   gi_wp2_with (first | (refine ⟨trivial, ?_⟩; gi_at_call 48; refine (callsIn_wide.2 hcall).mono ?_; rintro e w1 ⟨rfl, hb1⟩; have k3 := Boxed.lies b3 hb1; have c3 := Boxed.cell k3; have f3 := Boxed.frozen k3) | (refine ⟨trivial, ?_⟩; gi_at_call 49; refine (backR_in Fence.wide _ trivial hro _ _ _ _).mono ?_; rintro e w' ⟨rfl, rfl⟩))
   by_cases hall : (l1.all fun x => (impl_LookUp.at k l0_0 a2 a3 x).isSome) = true
   case neg => rw [if_neg hall] at h; cases h
   rw [if_pos hall] at h
   have hall2 : ∀ x ∈ l1, (impl_LookUp.at k l0_0 a2 a3 x).isSome = true := by simpa using hall
   have B0 : Below w.heap.size w ((w1.alloc (.cells #[.int .i64 (-1)] 3)).alloc (.cells #[.slice A1 l1.length c1] 28)) := by
    have hs1 := hb1.size
    exact ((hB4.trans (hb1.mono (by omega))).alloc (by omega) _).alloc (by simp; omega) _
   have d0 := ((Boxed.lies b0 hb1).alloc (.cells #[.int .i64 (-1)] 3)).alloc (.cells #[.slice A1 l1.length c1] 28)
   have d1 := ((Boxed.lies b1 hb1).alloc (.cells #[.int .i64 (-1)] 3)).alloc (.cells #[.slice A1 l1.length c1] 28)
   have d2 := ((Boxed.lies b2 hb1).alloc (.cells #[.int .i64 (-1)] 3)).alloc (.cells #[.slice A1 l1.length c1] 28)
   have d3 := ((Boxed.lies b3 hb1).alloc (.cells #[.int .i64 (-1)] 3)).alloc (.cells #[.slice A1 l1.length c1] 28)
   have d9 := (Boxed.new w1 3 (.int .i64 (-1))).alloc (.cells #[.slice A1 l1.length c1] 28)
   have dS := Boxed.new (w1.alloc (.cells #[.int .i64 (-1)] 3)) 28 (.slice A1 l1.length c1)
   rw [World.size_alloc] at dS
   have hsz1 : w.heap.size + 5 ≤ w1.heap.size := by have := hb1.size; omega
   obtain ⟨W0, hW0⟩ : ∃ W0, (w1.alloc (.cells #[.int .i64 (-1)] 3)).alloc (.cells #[.slice A1 l1.length c1] 28) = W0 := ⟨_, rfl⟩
   have hs0 : W0.heap.size = w1.heap.size + 2 := by rw [← hW0]; simp
   rw [hW0] at B0 d0 d1 d2 d3 d9 dS ⊢
   have hW := am hW0
   clear hW0
   refine wpIn_rangeFunc_ownH hro (by omega) (gf := 80) (lb := #[.pointer (some ⟨w1.heap.size + 1, 0, none⟩)]) rfl trivial (enters_of Try.func80 (by kernel_rfl) rfl)
    (encs := fun x : LkEl k l0_0 a2 a3 => #[.int .i64 x.1.1, .agg #[.int .i64 x.1.2.f0, .int .i64 x.1.2.f1, .int .i64 x.1.2.f2, .int .i64 x.1.2.f3]]) (Kp := BackKeeps w.heap.size (w1.heap.size + 1) (.slice A1 l1.length c1))
    (S := fun ys => ys = upto (LkEl.of k l0_0 a2 a3 l1) l1.length) (Sp := fun pre => ∃ q, q ≤ l1.length ∧ pre = upto (LkEl.of k l0_0 a2 a3 l1) q) (N := l1.length) (w0 := W0)
    (fun l J Jx W hW _ _ hY h0 => backR1_in Fence.wide _ trivial hro (by omega) l _ A1 c1 l1 w hr1 _ (LkEl.of k l0_0 a2 a3 l1) (fun j hj => LkEl.enc hall2 hj) J Jx hY W (B0.trans (hW.mono B0.size)) (Boxed.lies dS hW) h0)
    backKeeps_t (backKeeps_b (by omega)) (Below.refl _ _) (fun _ => rfl)
    (fun pre W => ((((((Boxed W w.heap.size 32 (.slice A0_0 l0_0.length c0_0) ∧ Boxed W (w.heap.size + 1) 3 (.int .i64 a2)) ∧ Boxed W (w.heap.size + 1 + 1) 3 (.int .i64 a3)) ∧ Boxed W (w.heap.size + 1 + 1 + 1) 3 (.int .i64 0)) ∧ Boxed W (w1.heap.size + 1) 28 (.slice A1 l1.length c1)) ∧ Boxed W w1.heap.size 3 (.int .i64 ((LkEl.st pre).getD 0))) ∧ (LkEl.st pre).isSome = true) ∧ Below w.heap.size w W)
    (fun c pre W => (Boxed W (w.heap.size + 1 + 1 + 1) 3 (.int .i64 (-1)) ∧ (c = .ret ∧ LkEl.st pre = none)) ∧ Below w.heap.size w W)
    (OwnFrom.and (OwnFrom.and (OwnFrom.and (OwnFrom.and (OwnFrom.and (OwnFrom.and (OwnFrom.and (Own.from (boxed_own _ _ fun _ => _) _) (Own.from (boxed_own _ _ fun _ => _) _)) (Own.from (boxed_own _ _ fun _ => _) _)) (Own.from (boxed_own _ _ fun _ => _) _)) (Own.from (boxed_own _ _ fun _ => _) _)) (Own.from (boxed_own _ _ (fun pre => Value.int .i64 ((LkEl.st pre).getD 0))) _)) (ownFrom_pure _ _)) (ownFrom_below (Nat.le_refl _) (by omega)))
    (fun c => OwnFrom.and (OwnFrom.and (Own.from (boxed_own _ _ fun _ => _) _) (ownFrom_pure _ _)) (ownFrom_below (Nat.le_refl _) (by omega)))
    ⟨⟨⟨⟨⟨⟨⟨d0, d1⟩, d2⟩, d3⟩, dS⟩, d9⟩, rfl⟩, B0⟩
    (fun x a' W => ∃ Bx, w1.heap.size + 1 < Bx ∧ W.heap[Bx]? = some (.cells #[.int .i64 x.1.2.f0, .int .i64 x.1.2.f1, .int .i64 x.1.2.f2, .int .i64 x.1.2.f3] 48 (0, 0)) ∧ a' = { tmps := #[.agg #[.slice A0_0 l0_0.length c0_0], .slice A1 l1.length c1, .int .i64 a2, .int .i64 a3, .pointer (some ⟨w.heap.size, 0, none⟩), undef, .pointer (some ⟨w.heap.size + 1, 0, none⟩), .pointer (some ⟨w.heap.size + 1 + 1, 0, none⟩), .pointer (some ⟨w.heap.size + 1 + 1 + 1, 0, none⟩), .pointer (some ⟨w1.heap.size, 0, none⟩), undef, .pointer (some ⟨Bx, 0, none⟩), .agg #[.slice A0_0 l0_0.length c0_0], .int .i64 a3, .slice (some ⟨w.heap.size + 1 + 1 + 1 + 1, 0, none⟩) 1 1, .bool true, .bool false, .bool false, .slice A1 l1.length c1, .int .i64 (l1.length : Int), .bool false, .bool false, .slice A1 l1.length c1, .func (.func 80) #[] #[.pointer (some ⟨w1.heap.size + 1, 0, none⟩)], .int .i64 x.1.1, .agg #[.int .i64 x.1.2.f0, .int .i64 x.1.2.f1, .int .i64 x.1.2.f2, .int .i64 x.1.2.f3], undef, undef, undef, undef, undef, undef, undef, undef, undef, undef, undef, undef, undef, undef, undef, undef, undef, undef, undef, undef, undef, undef, undef, undef, undef, undef, undef, undef, undef, undef, undef, undef, undef, undef, undef, undef, undef, undef, undef, undef, undef, undef, undef, undef, undef], defers := [] })
    (fun x a' _ X Y row hs hg hr => by
     obtain ⟨Bx, h1, h2, h3⟩ := hs
     refine ⟨Bx, h1, (hg.block Bx (Array.getElem?_eq_some_iff.1 h2).1 (fun e => ?_)).trans h2, h3⟩
     obtain ⟨o, ho, hc⟩ := (hr Bx e.symm).2
     rw [h2] at ho; cases ho; cases hc)
    ?assign ?body ?done ?stop
   case assign =>
    rintro l pre x W K ⟨⟨⟨⟨⟨⟨⟨i0, i1⟩, i2⟩, i3⟩, iS⟩, i9⟩, hst⟩, hB⟩ hK
    gi_wp2
    exact hK _ _ ((KeepsOthers.alloc _ _).from _) ⟨(Below.refl _ W).alloc hB.size _, fun h => h.alloc _⟩ ⟨⟨⟨⟨⟨⟨⟨i0.alloc _, i1.alloc _⟩, i2.alloc _⟩, i3.alloc _⟩, iS.alloc _⟩, i9.alloc _⟩, hst⟩, hB.alloc hB.size _⟩ ⟨W.heap.size, by have := iS.lt; omega, World.alloc_heap_new W _, rfl⟩
   case body =>
    rintro l pre ⟨⟨ix, x⟩, hx⟩ a' W hl ⟨rr, hrr⟩ ⟨⟨⟨⟨⟨⟨⟨i0, i1⟩, i2⟩, i3⟩, iS⟩, i9⟩, hst⟩, hB⟩ ⟨Bx, hBx, bX, rfl⟩ hlt
    obtain ⟨tgt, htgt⟩ := Option.isSome_iff_exists.1 hst
    rw [htgt] at i9
    have x0 : W.cell? ⟨Bx, 0, none⟩ = some (.int .i64 x.f0) := (blk_cell bX 0).trans rfl
    have x1 : W.cell? ⟨Bx, 1, none⟩ = some (.int .i64 x.f1) := (blk_cell bX 1).trans rfl
    have x2 : W.cell? ⟨Bx, 2, none⟩ = some (.int .i64 x.f2) := (blk_cell bX 2).trans rfl
    have x3 : W.cell? ⟨Bx, 3, none⟩ = some (.int .i64 x.f3) := (blk_cell bX 3).trans rfl
    have c0 := i0.cell
    have c1' := i1.cell
    have c2 := i2.cell
    have c3' := i3.cell
    have f3' := i3.frozen
    have c9 := i9.cell
    have f9 := i9.frozen
    obtain ⟨v0, e0⟩ := within_some x.f0 0 24
    obtain ⟨v1, e1⟩ := within_some x.f1 x.f0 24
    obtain ⟨v2, e2⟩ := within_some x.f2 0 23
    obtain ⟨v3, e3⟩ := has_some l0_0 x.f3
    have hsn := LkEl.st_snoc pre ⟨(ix, x), hx⟩
    rw [htgt] at hsn
    simp only [impl_LookUp.step, Option.bind_some] at hsn
    have K0 := am (fun W' => (impl_within.calls x.f0 0 24 v0 W' e0))
    have K1 := am (fun W' => (impl_within.calls x.f1 x.f0 24 v1 W' e1))
    have K2 := am (fun W' => (impl_within.calls x.f2 0 23 v2 W' e2))
    have K3 := am (fun W' (hb : Below w.heap.size w W') => (impl_Tree_has.calls A0_0 c0_0 l0_0 x.f3 v3 W' (Kd.C_below hr0_0 hb) hc0_0 e3))
    have LV := am (show ∀ W2, Below W.heap.size W W2 → LkEl.st (pre ++ [⟨(ix, x), hx⟩]) = none → KeepsFrom W0.heap.size W (W2.setCell ⟨w.heap.size + 1 + 1 + 1, 0, none⟩ (.int .i64 (-1))) ∧ ((Boxed (W2.setCell ⟨w.heap.size + 1 + 1 + 1, 0, none⟩ (.int .i64 (-1))) (w.heap.size + 1 + 1 + 1) 3 (.int .i64 (-1)) ∧ (Code.ret = .ret ∧ LkEl.st (pre ++ [⟨(ix, x), hx⟩]) = none)) ∧ Below w.heap.size w (W2.setCell ⟨w.heap.size + 1 + 1 + 1, 0, none⟩ (.int .i64 (-1)))) from fun W2 hb hs =>
     ⟨(KeepsFrom.of_below hb _).trans ((KeepsOthers.setCell _ _ _).from _), ⟨(Boxed.lies i3 hb).set _, rfl, hs⟩, (hB.trans (hb.mono hB.size)).setCell (p := ⟨w.heap.size + 1 + 1 + 1, 0, none⟩) (by simp; omega) _⟩)
    have G1 := am (show ∀ W2, Below W.heap.size W W2 → LkEl.st (pre ++ [⟨(ix, x), hx⟩]) = some tgt → KeepsFrom W0.heap.size W W2 ∧ BackKeeps w.heap.size (w1.heap.size + 1) (.slice A1 l1.length c1) W W2 ∧ (((((((Boxed W2 w.heap.size 32 (.slice A0_0 l0_0.length c0_0) ∧ Boxed W2 (w.heap.size + 1) 3 (.int .i64 a2)) ∧ Boxed W2 (w.heap.size + 1 + 1) 3 (.int .i64 a3)) ∧ Boxed W2 (w.heap.size + 1 + 1 + 1) 3 (.int .i64 0)) ∧ Boxed W2 (w1.heap.size + 1) 28 (.slice A1 l1.length c1)) ∧ Boxed W2 w1.heap.size 3 (.int .i64 ((LkEl.st (pre ++ [⟨(ix, x), hx⟩])).getD 0))) ∧ (LkEl.st (pre ++ [⟨(ix, x), hx⟩])).isSome = true) ∧ Below w.heap.size w W2) from fun W2 hb hs =>
     ⟨KeepsFrom.of_below hb _, ⟨hb.mono hB.size, fun h => Boxed.lies h hb⟩, ⟨⟨⟨⟨⟨⟨Boxed.lies i0 hb, Boxed.lies i1 hb⟩, Boxed.lies i2 hb⟩, Boxed.lies i3 hb⟩, Boxed.lies iS hb⟩, by rw [hs]; exact Boxed.lies i9 hb⟩, by rw [hs]; rfl⟩, hB.trans (hb.mono hB.size)⟩)
    have G2 := am (show ∀ W2, Below W.heap.size W W2 → LkEl.st (pre ++ [⟨(ix, x), hx⟩]) = some x.f2 → KeepsFrom W0.heap.size W (W2.setCell ⟨w1.heap.size, 0, none⟩ (.int .i64 x.f2)) ∧ BackKeeps w.heap.size (w1.heap.size + 1) (.slice A1 l1.length c1) W (W2.setCell ⟨w1.heap.size, 0, none⟩ (.int .i64 x.f2)) ∧ (((((((Boxed (W2.setCell ⟨w1.heap.size, 0, none⟩ (.int .i64 x.f2)) w.heap.size 32 (.slice A0_0 l0_0.length c0_0) ∧ Boxed (W2.setCell ⟨w1.heap.size, 0, none⟩ (.int .i64 x.f2)) (w.heap.size + 1) 3 (.int .i64 a2)) ∧ Boxed (W2.setCell ⟨w1.heap.size, 0, none⟩ (.int .i64 x.f2)) (w.heap.size + 1 + 1) 3 (.int .i64 a3)) ∧ Boxed (W2.setCell ⟨w1.heap.size, 0, none⟩ (.int .i64 x.f2)) (w.heap.size + 1 + 1 + 1) 3 (.int .i64 0)) ∧ Boxed (W2.setCell ⟨w1.heap.size, 0, none⟩ (.int .i64 x.f2)) (w1.heap.size + 1) 28 (.slice A1 l1.length c1)) ∧ Boxed (W2.setCell ⟨w1.heap.size, 0, none⟩ (.int .i64 x.f2)) w1.heap.size 3 (.int .i64 ((LkEl.st (pre ++ [⟨(ix, x), hx⟩])).getD 0))) ∧ (LkEl.st (pre ++ [⟨(ix, x), hx⟩])).isSome = true) ∧ Below w.heap.size w (W2.setCell ⟨w1.heap.size, 0, none⟩ (.int .i64 x.f2))) from fun W2 hb hs =>
     ⟨(KeepsFrom.of_below hb _).trans ((KeepsOthers.setCell _ _ _).from _), ⟨(hb.mono hB.size).setCell (p := ⟨w1.heap.size, 0, none⟩) (by simp; omega) _, fun h => (Boxed.lies h hb).other (by omega) _⟩, ⟨⟨⟨⟨⟨⟨(Boxed.lies i0 hb).other (by omega) _, (Boxed.lies i1 hb).other (by omega) _⟩, (Boxed.lies i2 hb).other (by omega) _⟩, (Boxed.lies i3 hb).other (by omega) _⟩, (Boxed.lies iS hb).other (by omega) _⟩, by rw [hs]; exact (Boxed.lies i9 hb).set _⟩, by rw [hs]; rfl⟩, (hB.trans (hb.mono hB.size)).setCell (p := ⟨w1.heap.size, 0, none⟩) (by simp; omega) _⟩)
    cases v0 with
    | false =>
     have hat : impl_LookUp.at k l0_0 a2 a3 x = some none := by simp [impl_LookUp.at, e0]
     rw [hat] at hsn
     gi_wp2_with (first | (refine ⟨trivial, ?_⟩; gi_at_call 45; refine (CallsIn.inRound l (callsIn_wide.2 (K0.out _))).mono ?_; clear K0; rintro e w' ⟨rfl, ⟨n0, rfl⟩⟩) | (refine ⟨trivial, ?_⟩))
     have q := LV.out (W.drewN n0) (Y25) hsn; exact ⟨q.1, ⟨q.2.1.1, rfl, hsn⟩, q.2.2⟩
    | true =>
    cases v1 with
    | false =>
     have hat : impl_LookUp.at k l0_0 a2 a3 x = some none := by simp [impl_LookUp.at, e0, e1]
     rw [hat] at hsn
     gi_wp2_with (first | (refine ⟨trivial, ?_⟩; gi_at_call 45; refine (CallsIn.inRound l (callsIn_wide.2 (K0.out _))).mono ?_; clear K0; rintro e w' ⟨rfl, ⟨n0, rfl⟩⟩) | (refine ⟨trivial, ?_⟩; gi_at_call 45; refine (CallsIn.inRound l (callsIn_wide.2 (K1.out _))).mono ?_; clear K1; rintro e w' ⟨rfl, ⟨n1, rfl⟩⟩) | (refine ⟨trivial, ?_⟩))
     have q := LV.out (W.drewN (n0 + n1)) (Y25) hsn; exact ⟨q.1, ⟨q.2.1.1, rfl, hsn⟩, q.2.2⟩
    | true =>
    cases v2 with
    | false =>
     have hat : impl_LookUp.at k l0_0 a2 a3 x = some none := by simp [impl_LookUp.at, e0, e1, e2]
     rw [hat] at hsn
     gi_wp2_with (first | (refine ⟨trivial, ?_⟩; gi_at_call 45; refine (CallsIn.inRound l (callsIn_wide.2 (K0.out _))).mono ?_; clear K0; rintro e w' ⟨rfl, ⟨n0, rfl⟩⟩) | (refine ⟨trivial, ?_⟩; gi_at_call 45; refine (CallsIn.inRound l (callsIn_wide.2 (K1.out _))).mono ?_; clear K1; rintro e w' ⟨rfl, ⟨n1, rfl⟩⟩) | (refine ⟨trivial, ?_⟩; gi_at_call 45; refine (CallsIn.inRound l (callsIn_wide.2 (K2.out _))).mono ?_; clear K2; rintro e w' ⟨rfl, ⟨n2, rfl⟩⟩) | (refine ⟨trivial, ?_⟩))
     have q := LV.out (W.drewN (n0 + n1 + n2)) (Y25) hsn; exact ⟨q.1, ⟨q.2.1.1, rfl, hsn⟩, q.2.2⟩
    | true =>
    cases v3 with
    | false =>
     have hat : impl_LookUp.at k l0_0 a2 a3 x = some none := by simp [impl_LookUp.at, e0, e1, e2, e3]
     rw [hat] at hsn
     gi_wp2_with (first | (refine ⟨trivial, ?_⟩; gi_at_call 45; refine (CallsIn.inRound l (callsIn_wide.2 (K0.out _))).mono ?_; clear K0; rintro e w' ⟨rfl, ⟨n0, rfl⟩⟩) | (refine ⟨trivial, ?_⟩; gi_at_call 45; refine (CallsIn.inRound l (callsIn_wide.2 (K1.out _))).mono ?_; clear K1; rintro e w' ⟨rfl, ⟨n1, rfl⟩⟩) | (refine ⟨trivial, ?_⟩; gi_at_call 45; refine (CallsIn.inRound l (callsIn_wide.2 (K2.out _))).mono ?_; clear K2; rintro e w' ⟨rfl, ⟨n2, rfl⟩⟩) | (refine ⟨trivial, ?_⟩; gi_at_call 50; refine (CallsIn.inRound l (callsIn_wide.2 (K3.out _ (hB.trans (Below.mono (show Below W.heap.size W _ from Y25) hB.size))))).mono ?_; rintro e w4 ⟨rfl, hb4⟩; have hb5 : Below W.heap.size W w4 := (show Below W.heap.size W _ from Y25).trans (hb4.mono (Below.size (show Below W.heap.size W _ from Y25))); have hz := Boxed.lies i0 hb5; have z0 := Boxed.cell hz; have hz1 := Boxed.lies i1 hb5; have z1 := Boxed.cell hz1; have hz2 := Boxed.lies i2 hb5; have z2 := Boxed.cell hz2; have hz3 := Boxed.lies i3 hb5; have z3 := Boxed.cell hz3; have g3 := Boxed.frozen hz3; have hz9 := Boxed.lies i9 hb5; have z9 := Boxed.cell hz9; have g9 := Boxed.frozen hz9; have bX5 := (hb5.block Bx (blk_lt bX)).trans bX; have y0 : w4.cell? ⟨Bx, 0, none⟩ = some (.int .i64 x.f0) := (blk_cell bX5 0).trans rfl; have y1 : w4.cell? ⟨Bx, 1, none⟩ = some (.int .i64 x.f1) := (blk_cell bX5 1).trans rfl; have y2 : w4.cell? ⟨Bx, 2, none⟩ = some (.int .i64 x.f2) := (blk_cell bX5 2).trans rfl; have y3 : w4.cell? ⟨Bx, 3, none⟩ = some (.int .i64 x.f3) := (blk_cell bX5 3).trans rfl) | (refine ⟨trivial, ?_⟩))
     have q := LV.out _ hb5 hsn; exact ⟨q.1, ⟨q.2.1.1, rfl, hsn⟩, q.2.2⟩
    | true =>
     have hat : impl_LookUp.at k l0_0 a2 a3 x = if x.f0 ≤ a2 then (if a2 < x.f1 then (impl_Tree_is.f k l0_0 a3 x.f3).map some else some (some false)) else some (some false) := by simp [impl_LookUp.at, e0, e1, e2, e3]
     by_cases q0 : x.f0 ≤ a2
     ·rw [if_pos q0] at hat
      have q0b := decide_eq_true q0
      by_cases q1 : a2 < x.f1
      ·rw [if_pos q1] at hat
       have q1b := decide_eq_true q1
       obtain ⟨v5, e5⟩ : ∃ v5, impl_Tree_is.f k l0_0 a3 x.f3 = some v5 := by
        have hx2 : (impl_LookUp.at k l0_0 a2 a3 x).isSome = true := hx
        rw [hat] at hx2
        cases hq : impl_Tree_is.f k l0_0 a3 x.f3 with
        | none => rw [hq] at hx2; cases hx2
        | some v5 => exact ⟨v5, rfl⟩
       rw [hat, e5] at hsn
       have K5 := am (fun W' (hb : Below w.heap.size w W') => (impl_Tree_is.calls k A0_0 c0_0 l0_0 a3 x.f3 v5 W' (Kd.C_below hr0_0 hb) hc0_0 e5))
       cases v5 with
       | true =>
        gi_wp2_with (first | (refine ⟨trivial, ?_⟩; gi_at_call 45; refine (CallsIn.inRound l (callsIn_wide.2 (K0.out _))).mono ?_; clear K0; rintro e w' ⟨rfl, ⟨n0, rfl⟩⟩) | (refine ⟨trivial, ?_⟩; gi_at_call 45; refine (CallsIn.inRound l (callsIn_wide.2 (K1.out _))).mono ?_; clear K1; rintro e w' ⟨rfl, ⟨n1, rfl⟩⟩) | (refine ⟨trivial, ?_⟩; gi_at_call 45; refine (CallsIn.inRound l (callsIn_wide.2 (K2.out _))).mono ?_; clear K2; rintro e w' ⟨rfl, ⟨n2, rfl⟩⟩) | (refine ⟨trivial, ?_⟩; gi_at_call 50; refine (CallsIn.inRound l (callsIn_wide.2 (K3.out _ (hB.trans (Below.mono (show Below W.heap.size W _ from Y25) hB.size))))).mono ?_; rintro e w4 ⟨rfl, hb4⟩; have hb5 : Below W.heap.size W w4 := (show Below W.heap.size W _ from Y25).trans (hb4.mono (Below.size (show Below W.heap.size W _ from Y25))); have hz := Boxed.lies i0 hb5; have z0 := Boxed.cell hz; have hz1 := Boxed.lies i1 hb5; have z1 := Boxed.cell hz1; have hz2 := Boxed.lies i2 hb5; have z2 := Boxed.cell hz2; have hz3 := Boxed.lies i3 hb5; have z3 := Boxed.cell hz3; have g3 := Boxed.frozen hz3; have hz9 := Boxed.lies i9 hb5; have z9 := Boxed.cell hz9; have g9 := Boxed.frozen hz9; have bX5 := (hb5.block Bx (blk_lt bX)).trans bX; have y0 : w4.cell? ⟨Bx, 0, none⟩ = some (.int .i64 x.f0) := (blk_cell bX5 0).trans rfl; have y1 : w4.cell? ⟨Bx, 1, none⟩ = some (.int .i64 x.f1) := (blk_cell bX5 1).trans rfl; have y2 : w4.cell? ⟨Bx, 2, none⟩ = some (.int .i64 x.f2) := (blk_cell bX5 2).trans rfl; have y3 : w4.cell? ⟨Bx, 3, none⟩ = some (.int .i64 x.f3) := (blk_cell bX5 3).trans rfl) | (refine ⟨trivial, ?_⟩; gi_at_call 51; refine (CallsIn.inRound l (callsIn_wide.2 (K5.out _ (hB.trans (Below.mono (show Below W.heap.size W _ from Y68) hB.size))))).mono ?_; clear K5; rintro e w5 ⟨rfl, hb6⟩; have hb7 : Below W.heap.size W w5 := (show Below W.heap.size W _ from Y68).trans (hb6.mono (Below.size (show Below W.heap.size W _ from Y68))); have hy9 := Boxed.lies i9 hb7; have yz9 := Boxed.cell hy9; have yg9 := Boxed.frozen hy9; have bX7 := (hb7.block Bx (blk_lt bX)).trans bX; have yy2 : w5.cell? ⟨Bx, 2, none⟩ = some (.int .i64 x.f2) := (blk_cell bX7 2).trans rfl) | (refine ⟨trivial, ?_⟩))
        exact G2.out w5 hb7 hsn
       | false =>
        gi_wp2_with (first | (refine ⟨trivial, ?_⟩; gi_at_call 45; refine (CallsIn.inRound l (callsIn_wide.2 (K0.out _))).mono ?_; clear K0; rintro e w' ⟨rfl, ⟨n0, rfl⟩⟩) | (refine ⟨trivial, ?_⟩; gi_at_call 45; refine (CallsIn.inRound l (callsIn_wide.2 (K1.out _))).mono ?_; clear K1; rintro e w' ⟨rfl, ⟨n1, rfl⟩⟩) | (refine ⟨trivial, ?_⟩; gi_at_call 45; refine (CallsIn.inRound l (callsIn_wide.2 (K2.out _))).mono ?_; clear K2; rintro e w' ⟨rfl, ⟨n2, rfl⟩⟩) | (refine ⟨trivial, ?_⟩; gi_at_call 50; refine (CallsIn.inRound l (callsIn_wide.2 (K3.out _ (hB.trans (Below.mono (show Below W.heap.size W _ from Y25) hB.size))))).mono ?_; rintro e w4 ⟨rfl, hb4⟩; have hb5 : Below W.heap.size W w4 := (show Below W.heap.size W _ from Y25).trans (hb4.mono (Below.size (show Below W.heap.size W _ from Y25))); have hz := Boxed.lies i0 hb5; have z0 := Boxed.cell hz; have hz1 := Boxed.lies i1 hb5; have z1 := Boxed.cell hz1; have hz2 := Boxed.lies i2 hb5; have z2 := Boxed.cell hz2; have hz3 := Boxed.lies i3 hb5; have z3 := Boxed.cell hz3; have g3 := Boxed.frozen hz3; have hz9 := Boxed.lies i9 hb5; have z9 := Boxed.cell hz9; have g9 := Boxed.frozen hz9; have bX5 := (hb5.block Bx (blk_lt bX)).trans bX; have y0 : w4.cell? ⟨Bx, 0, none⟩ = some (.int .i64 x.f0) := (blk_cell bX5 0).trans rfl; have y1 : w4.cell? ⟨Bx, 1, none⟩ = some (.int .i64 x.f1) := (blk_cell bX5 1).trans rfl; have y2 : w4.cell? ⟨Bx, 2, none⟩ = some (.int .i64 x.f2) := (blk_cell bX5 2).trans rfl; have y3 : w4.cell? ⟨Bx, 3, none⟩ = some (.int .i64 x.f3) := (blk_cell bX5 3).trans rfl) | (refine ⟨trivial, ?_⟩; gi_at_call 51; refine (CallsIn.inRound l (callsIn_wide.2 (K5.out _ (hB.trans (Below.mono (show Below W.heap.size W _ from Y68) hB.size))))).mono ?_; clear K5; rintro e w5 ⟨rfl, hb6⟩; have hb7 : Below W.heap.size W w5 := (show Below W.heap.size W _ from Y68).trans (hb6.mono (Below.size (show Below W.heap.size W _ from Y68))); have hy9 := Boxed.lies i9 hb7; have yz9 := Boxed.cell hy9; have yg9 := Boxed.frozen hy9; have bX7 := (hb7.block Bx (blk_lt bX)).trans bX; have yy2 : w5.cell? ⟨Bx, 2, none⟩ = some (.int .i64 x.f2) := (blk_cell bX7 2).trans rfl) | (refine ⟨trivial, ?_⟩))
        exact G1.out w5 hb7 hsn
      ·rw [if_neg q1] at hat
       have q1b := decide_eq_false q1
       rw [hat] at hsn
       gi_wp2_with (first | (refine ⟨trivial, ?_⟩; gi_at_call 45; refine (CallsIn.inRound l (callsIn_wide.2 (K0.out _))).mono ?_; clear K0; rintro e w' ⟨rfl, ⟨n0, rfl⟩⟩) | (refine ⟨trivial, ?_⟩; gi_at_call 45; refine (CallsIn.inRound l (callsIn_wide.2 (K1.out _))).mono ?_; clear K1; rintro e w' ⟨rfl, ⟨n1, rfl⟩⟩) | (refine ⟨trivial, ?_⟩; gi_at_call 45; refine (CallsIn.inRound l (callsIn_wide.2 (K2.out _))).mono ?_; clear K2; rintro e w' ⟨rfl, ⟨n2, rfl⟩⟩) | (refine ⟨trivial, ?_⟩; gi_at_call 50; refine (CallsIn.inRound l (callsIn_wide.2 (K3.out _ (hB.trans (Below.mono (show Below W.heap.size W _ from Y25) hB.size))))).mono ?_; rintro e w4 ⟨rfl, hb4⟩; have hb5 : Below W.heap.size W w4 := (show Below W.heap.size W _ from Y25).trans (hb4.mono (Below.size (show Below W.heap.size W _ from Y25))); have hz := Boxed.lies i0 hb5; have z0 := Boxed.cell hz; have hz1 := Boxed.lies i1 hb5; have z1 := Boxed.cell hz1; have hz2 := Boxed.lies i2 hb5; have z2 := Boxed.cell hz2; have hz3 := Boxed.lies i3 hb5; have z3 := Boxed.cell hz3; have g3 := Boxed.frozen hz3; have hz9 := Boxed.lies i9 hb5; have z9 := Boxed.cell hz9; have g9 := Boxed.frozen hz9; have bX5 := (hb5.block Bx (blk_lt bX)).trans bX; have y0 : w4.cell? ⟨Bx, 0, none⟩ = some (.int .i64 x.f0) := (blk_cell bX5 0).trans rfl; have y1 : w4.cell? ⟨Bx, 1, none⟩ = some (.int .i64 x.f1) := (blk_cell bX5 1).trans rfl; have y2 : w4.cell? ⟨Bx, 2, none⟩ = some (.int .i64 x.f2) := (blk_cell bX5 2).trans rfl; have y3 : w4.cell? ⟨Bx, 3, none⟩ = some (.int .i64 x.f3) := (blk_cell bX5 3).trans rfl) | (refine ⟨trivial, ?_⟩))
       exact G1.out _ hb5 hsn
     ·rw [if_neg q0] at hat
      have q0b := decide_eq_false q0
      rw [hat] at hsn
      gi_wp2_with (first | (refine ⟨trivial, ?_⟩; gi_at_call 45; refine (CallsIn.inRound l (callsIn_wide.2 (K0.out _))).mono ?_; clear K0; rintro e w' ⟨rfl, ⟨n0, rfl⟩⟩) | (refine ⟨trivial, ?_⟩; gi_at_call 45; refine (CallsIn.inRound l (callsIn_wide.2 (K1.out _))).mono ?_; clear K1; rintro e w' ⟨rfl, ⟨n1, rfl⟩⟩) | (refine ⟨trivial, ?_⟩; gi_at_call 45; refine (CallsIn.inRound l (callsIn_wide.2 (K2.out _))).mono ?_; clear K2; rintro e w' ⟨rfl, ⟨n2, rfl⟩⟩) | (refine ⟨trivial, ?_⟩; gi_at_call 50; refine (CallsIn.inRound l (callsIn_wide.2 (K3.out _ (hB.trans (Below.mono (show Below W.heap.size W _ from Y25) hB.size))))).mono ?_; rintro e w4 ⟨rfl, hb4⟩; have hb5 : Below W.heap.size W w4 := (show Below W.heap.size W _ from Y25).trans (hb4.mono (Below.size (show Below W.heap.size W _ from Y25))); have hz := Boxed.lies i0 hb5; have z0 := Boxed.cell hz; have hz1 := Boxed.lies i1 hb5; have z1 := Boxed.cell hz1; have hz2 := Boxed.lies i2 hb5; have z2 := Boxed.cell hz2; have hz3 := Boxed.lies i3 hb5; have z3 := Boxed.cell hz3; have g3 := Boxed.frozen hz3; have hz9 := Boxed.lies i9 hb5; have z9 := Boxed.cell hz9; have g9 := Boxed.frozen hz9; have bX5 := (hb5.block Bx (blk_lt bX)).trans bX; have y0 : w4.cell? ⟨Bx, 0, none⟩ = some (.int .i64 x.f0) := (blk_cell bX5 0).trans rfl; have y1 : w4.cell? ⟨Bx, 1, none⟩ = some (.int .i64 x.f1) := (blk_cell bX5 1).trans rfl; have y2 : w4.cell? ⟨Bx, 2, none⟩ = some (.int .i64 x.f2) := (blk_cell bX5 2).trans rfl; have y3 : w4.cell? ⟨Bx, 3, none⟩ = some (.int .i64 x.f3) := (blk_cell bX5 3).trans rfl) | (refine ⟨trivial, ?_⟩))
      exact G1.out _ hb5 hsn
   case done =>
    rintro D ys W hD rfl ⟨⟨⟨⟨⟨⟨⟨i0, i1⟩, i2⟩, i3⟩, iS⟩, i9⟩, hst⟩, hB⟩ hK
    have c9 := i9.cell
    have c3 := i3.cell
    have f3 := i3.frozen
    gi_wp2
    have hK' := (KeepsOthers.setCell W ⟨w.heap.size + 1 + 1 + 1, 0, none⟩ (.int .i64 ((LkEl.st (upto (LkEl.of k l0_0 a2 a3 l1) l1.length)).getD 0))).same D _ hK rfl
    refine ⟨by simp, .inl ⟨_, _, rfl, run_takeDeferred hK', ?_⟩⟩
    have hc5 := cell_kept (World.cell?_setCell_same' W ⟨w.heap.size + 1 + 1 + 1, 0, none⟩ (.int .i64 ((LkEl.st (upto (LkEl.of k l0_0 a2 a3 l1) l1.length)).getD 0)) (by rw [c3]; rfl)) (grownBy_putObj' _ D (.deferred none)) (fun r e => by cases e; exact ⟨_, hK', rfl⟩)
    have hr2 : r = (LkEl.st (upto (LkEl.of k l0_0 a2 a3 l1) l1.length)).getD 0 := by
     have h2 := Option.some.inj h
     rw [← LkEl.st_all hall2] at h2
     obtain ⟨z, hz⟩ := Option.isSome_iff_exists.1 hst
     rw [hz] at h2 ⊢
     exact h2.symm
    refine ⟨.int .i64 _, ?_, by rw [hr2], (hB.setCell (p := ⟨w.heap.size + 1 + 1 + 1, 0, none⟩) (by simp; omega) _).trans (belowK_b (w := w) (Nat.le_refl _) _ D _ _ (by omega) hK' rfl rfl)⟩
    simp [results, Try.f23, go_sem, hc5]
   case stop =>
    rintro D c pre W hD ⟨q, hq, rfl⟩ ⟨⟨i3, rfl, hst⟩, hB⟩ hK
    gi_wp2
    refine ⟨by simp, .inl ⟨_, _, rfl, run_takeDeferred hK, ?_⟩⟩
    have hc5 := cell_kept i3.cell (grownBy_putObj' _ D (.deferred none)) (fun r e => by cases e; exact ⟨_, hK, rfl⟩)
    have hr2 : r = -1 := by
     have h2 := Option.some.inj h
     rw [LkEl.st_none hall2 hq hst] at h2
     exact h2.symm
    refine ⟨.int .i64 (-1), ?_, by rw [hr2], hB.trans (belowK_b (w := w) (Nat.le_refl _) W D _ _ (by omega) hK rfl rfl)⟩
    simp [results, Try.f23, go_sem, hc5]
 ·rw [if_neg hv1] at h
  obtain rfl := Option.some.inj h
  obtain rfl : v = false := by simpa using hv1
  gi_wp2_with (refine ⟨trivial, ?_⟩; gi_at_call 48; refine (callsIn_wide.2 hcall).mono ?_; rintro e w1 ⟨rfl, hb1⟩; have k3 := Boxed.lies b3 hb1; have c3 := Boxed.cell k3; have f3 := Boxed.frozen k3)
  have c5 := World.cell?_setCell_same' w1 ⟨w.heap.size + 1 + 1 + 1, 0, none⟩ (.int .i64 (-1)) (by rw [c3]; rfl)
  refine ⟨.int .i64 (-1), ?_, rfl, ?_⟩
  ·simp [results, Try.f23, go_sem, c5]
  ·exact (hB4.trans (hb1.mono (by omega))).setCell (p := ⟨w.heap.size + 1 + 1 + 1, 0, none⟩) (by simp; omega) _
end
def spec_inRange.f (a0 : Int) (a1 : Int) (a2 : Int) : Option (Bool) := if a1 ≤ a0 then (some (decide (a0 ≤ a2))) else (some false)
set_option maxHeartbeats 8000000 in
set_option maxRecDepth 100000 in
theorem spec_inRange.calls (a0 : Int) (a1 : Int) (a2 : Int) (r : Bool) (w : World) (h : spec_inRange.f a0 a1 a2 = some r) :
  Calls Try.prog 60 #[.int .i64 a0, .int .i64 a1, .int .i64 a2] w fun e w' => e = .returned (.bool r) ∧ Drawn0 w w' := by
 have H : (if a1 ≤ a0 then (some (decide (a0 ≤ a2))) else (some false)) = some r := h
 clear h
 by_cases c4 : a1 ≤ a0
 ·rw [if_pos c4] at H
  have c4b0 : decide (a1 ≤ a0) = true := decide_eq_true c4
  clear c4
  obtain rfl := Option.some.inj H
  go_enter Try.func60, Try.ntmps60
  go_wp2
  go_ret
  exact ⟨sq, Y8⟩
 ·rw [if_neg c4] at H
  have c4b0 : decide (a1 ≤ a0) = false := decide_eq_false c4
  clear c4
  obtain rfl := Option.some.inj H
  go_enter Try.func60, Try.ntmps60
  go_wp2
  go_ret
  exact ⟨sq, Y8⟩
def spec_hasClass.f (l0_0 : List (S98)) (a1 : Int) : Option (Bool) := (spec_inRange.f a1 0 (wrap64 ((l0_0.length : Int) - 1))).bind fun t107 => (some t107)
set_option maxHeartbeats 8000000 in
set_option maxRecDepth 100000 in
theorem spec_hasClass.calls (A0_0 : Option Addr) (c0_0 : Nat) (l0_0 : List (S98)) (a1 : Int) (r : Bool) (w : World) (hr0_0 : Kd.C k98 w A0_0 l0_0.length l0_0) (hc0_0 : l0_0.length ≤ c0_0) (h : spec_hasClass.f l0_0 a1 = some r) :
  Calls Try.prog 59 #[.agg #[.slice A0_0 l0_0.length c0_0], .int .i64 a1] w fun e w' => e = .returned (.bool r) ∧ Below w.heap.size w w' := by
 have hu32 := Try.underlying32
 have HR0_0 := am hr0_0
 have HC0_0 := am hc0_0
 clear hr0_0 hc0_0
 have HB := am (Below.refl w.heap.size w)
 have H : ((spec_inRange.f a1 0 (wrap64 ((l0_0.length : Int) - 1))).bind fun t107 => (some t107)) = some r := h
 clear h
 replace H := Option.bind_eq_some_iff.mp H
 obtain ⟨t107, A30, H⟩ := H
 replace H : (some t107) = some r := H
 have A3 := am A30
 clear A30
 obtain rfl := Option.some.inj H
 go_enter Try.func59, Try.ntmps59
 go_wp2_with (first | ((with_reducible refine gate_dst (N := 2) rfl ?_); refine bE (N := 2) (cs := #[.slice A0_0 l0_0.length c0_0]) (t := 32) ?_; intro gb106 hg w4 hbox hb; have BK106 := am (hbox); have GW106 := am ((Y11 : w.heap.size ≤ gb106)); have GE106 := am ((Y11 : w.heap.size ≤ gb106)); replace HB := am (below_step (bq) hb); clear hb hbox hg; have hcz5_0 := bc0 BK106.out; have hfz5_0 := blk_frozen BK106.out 0) | ((with_reducible refine gate_callee (f := 60) rfl ?_); refine gL (some 10) Try.func60 #[.int .i64 a1, .int .i64 0, .int .i64 (wrap64 ((l0_0.length : Int) - 1))] ?_; (with_reducible refine (spec_inRange.calls a1 0 (wrap64 ((l0_0.length : Int) - 1)) t107 _ A3.out).mono ?_); rintro e w' ⟨rfl, ⟨nd, rfl⟩⟩; refine ⟨_, rfl, ?_⟩))
 go_ret
 exact ⟨Y0, by repeat (first | (with_reducible first | exact HB.out | apply below_alloc | apply pw_below_drewN | apply below_drew1 | refine below_set ?_ GE106.out) | exact HB.out)⟩
def spec_validNumbers.j0 : Nat → Int → Bool → List (S98) → Int → Int → Int → Int → Option (Bool)
 | 0, _, _, _, _, _, _, _ => none
 | k + 1, x6, x7, x109000, x110000, x110001, x110002, x110003 => if x7 = true then ((spec_inRange.f x110002 0 99).bind fun t110 => (if t110 = true then (some (x110003 == 0)) else (some false))) else (if x6 = 2 then ((spec_hasClass.f x109000 x110002).bind fun t111 => (if t111 = true then ((spec_inRange.f x110003 0 99).bind fun t112 => (some t112)) else (some false))) else (if x6 = 8 then ((spec_hasClass.f x109000 x110002).bind fun t113 => (if t113 = true then (some (x110003 == 0)) else (some false))) else (if x6 = 11 then ((spec_inRange.f x110002 0 9).bind fun t114 => (if t114 = true then ((spec_inRange.f x110003 0 1).bind fun t115 => (some t115)) else (some false))) else (if x6 = 12 then ((spec_inRange.f x110002 0 3).bind fun t116 => (if t116 = true then (some (x110003 == 0)) else (some false))) else ((spec_inRange.f x110001 0 10).bind fun t117 => (if t117 = true then (if x110002 = 0 then (some (x110003 == 0)) else (some false)) else (some false)))))))
def spec_validNumbers.f (k : Nat) (l0_0 : List (S98)) (a1_0 : Int) (a1_1 : Int) (a1_2 : Int) (a1_3 : Int) : Option (Bool) := if a1_1 = 1 then (spec_validNumbers.j0 k a1_1 (a1_1 == 1) l0_0 a1_0 a1_1 a1_2 a1_3) else (spec_validNumbers.j0 k a1_1 (a1_1 == 4) l0_0 a1_0 a1_1 a1_2 a1_3)
set_option maxHeartbeats 8000000 in
set_option maxRecDepth 100000 in
theorem spec_validNumbers.calls (k : Nat) (A0_0 : Option Addr) (c0_0 : Nat) (l0_0 : List (S98)) (a1_0 : Int) (a1_1 : Int) (a1_2 : Int) (a1_3 : Int) (r : Bool) (w : World) (hr0_0 : Kd.C k98 w A0_0 l0_0.length l0_0) (hc0_0 : l0_0.length ≤ c0_0) (h : spec_validNumbers.f k l0_0 a1_0 a1_1 a1_2 a1_3 = some r) :
  Calls Try.prog 86 #[.agg #[.slice A0_0 l0_0.length c0_0], .agg #[.int .i64 a1_0, .int .i64 a1_1, .int .i64 a1_2, .int .i64 a1_3]] w fun e w' => e = .returned (.bool r) ∧ Below w.heap.size w w' := by
 have hu32 := Try.underlying32
 have hu59 := Try.underlying59
 have HR0_0 := am hr0_0
 have HC0_0 := am hc0_0
 clear hr0_0 hc0_0
 have HB := am (Below.refl w.heap.size w)
 have H : (if a1_1 = 1 then (spec_validNumbers.j0 k a1_1 (a1_1 == 1) l0_0 a1_0 a1_1 a1_2 a1_3) else (spec_validNumbers.j0 k a1_1 (a1_1 == 4) l0_0 a1_0 a1_1 a1_2 a1_3)) = some r := h
 clear h
 have HC3 := am H
 clear H
 go_enter Try.func86, Try.ntmps86
 go_upto_if 7 with (first | ((with_reducible refine gate_dst (N := 2) rfl ?_); refine bE (N := 2) (cs := #[.slice A0_0 l0_0.length c0_0]) (t := 32) ?_; intro gb108 hg w4 hbox hb; have BK108 := am (hbox); have GW108 := am ((Y11 : w.heap.size ≤ gb108)); have GE108 := am ((Y11 : w.heap.size ≤ gb108)); replace HB := am (below_step (bq) hb); clear hb hbox hg) | ((with_reducible refine gate_dst (N := 3) rfl ?_); refine bE (N := 3) (cs := #[.int .i64 a1_0, .int .i64 a1_1, .int .i64 a1_2, .int .i64 a1_3]) (t := 59) ?_; intro gb109 hg w5 hbox hb; have BK109 := am (hbox); have GW109 := am ((Y106 : w.heap.size ≤ gb109)); have GE109 := am ((Y106 : w.heap.size ≤ gb109)); have NB108_109 := am ((by rw [hg]; exact Nat.ne_of_lt (blk_lt (g := gb108) (o := .cells #[.slice A0_0 l0_0.length c0_0] 32 (0, 0)) (kq BK108.out)) : gb108 ≠ gb109)); have NB109_108 := am ((by rw [hg]; exact Nat.ne_of_gt (blk_lt (g := gb108) (o := .cells #[.slice A0_0 l0_0.length c0_0] 32 (0, 0)) (kq BK108.out)) : gb109 ≠ gb108)); replace BK108 := am (blk_below (g := gb108) (o := .cells #[.slice A0_0 l0_0.length c0_0] 32 (0, 0)) (kq BK108.out) hb); replace HB := am (below_step (by repeat (first | (with_reducible first | exact HB.out | apply below_alloc | apply pw_below_drewN | apply below_drew1 | refine below_set ?_ GE108.out) | exact HB.out)) hb); clear hb hbox hg; have hnb6 := NB109_108.out; have hnc6 := NB108_109.out; have hcz7_0 := bc0 BK109.out; have hcz7_1 := bc1 BK109.out; have hcz7_2 := bc2 BK109.out; have hcz7_3 := bc3 BK109.out; have hfz7_0 := blk_frozen BK109.out 0; have hfz7_1 := blk_frozen BK109.out 1; have hfz7_2 := blk_frozen BK109.out 2; have hfz7_3 := blk_frozen BK109.out 3))
 (try simp only [Act.put, List.setIfInBounds_toArray, List.set_cons_zero, List.set_cons_succ])
 go_cut [7] (fun v7 wc => ∃ (kq : Nat) (x7_2 : Bool), v7 = .bool x7_2 ∧ Aside0 (spec_validNumbers.j0 kq a1_1 x7_2 l0_0 a1_0 a1_1 a1_2 a1_3 = some r) ∧ Aside0 (kq ≤ k) ∧ Aside0 (wc.heap[gb108]? = some (.cells #[(.slice A0_0 l0_0.length c0_0)] 32 (0, 0))) ∧ Aside0 (wc.heap[gb109]? = some (.cells #[.int .i64 a1_0, .int .i64 a1_1, .int .i64 a1_2, .int .i64 a1_3] 59 (0, 0))) ∧ Aside0 (Below w.heap.size w wc))
 case first =>
  have H := HC3.out
  clear HC3
  by_cases c8 : a1_1 = 1
  ·rw [if_pos c8] at H
   have c8b0 : (a1_1 == 1) = true := beq_iff_eq.mpr c8
   have c8b1 : (a1_1 != 1) = false := bne_eq_false_iff_eq.mpr c8
   clear c8
   (first | rw [c8b0] | (simp only [i64_w, i32_w]; rw [c8b0]) | skip)
   have H' := am H
   clear H
   go_wp2
   go_meet
   case rel => exact ⟨_, ((a1_1 == 1)), (sq), H', ⟨Y36⟩, ⟨kq BK108.out⟩, ⟨kq BK109.out⟩, ⟨Y21⟩⟩
  ·rw [if_neg c8] at H
   have c8b0 : (a1_1 == 1) = false := beq_eq_false_iff_ne.mpr c8
   have c8b1 : (a1_1 != 1) = true := bne_iff_ne.mpr c8
   (first | rw [c8b0] | (simp only [i64_w, i32_w]; rw [c8b0]) | skip)
   have H' := am H
   clear H
   go_wp2
   go_meet
   case rel => exact ⟨_, ((a1_1 == 4)), (sq), H', ⟨Y36⟩, ⟨kq BK108.out⟩, ⟨kq BK109.out⟩, ⟨Y21⟩⟩
 case rest =>
  clear HC3
  try clear p2
  try clear c6
  try clear c8
  try clear c8b0
  try clear c8b1
  try clear hcz7_0
  try clear hcz7_1
  try clear hcz7_2
  try clear hcz7_3
  try clear hfz7_0
  try clear hfz7_1
  try clear hfz7_2
  try clear hfz7_3
  obtain ⟨kq, x7_2, rfl, HA, HJ2, BK108, BK109, HB⟩ := hcut
  cases kq with
  | zero => exact absurd HA.out (by simp [spec_validNumbers.j0])
  | succ kj2 =>
   have H := HA.out
   clear HA
   simp only [spec_validNumbers.j0] at H
   by_cases c9 : x7_2 = true
   ·subst c9
    have H1 : ((spec_inRange.f a1_2 0 99).bind fun t110 => (if t110 = true then (some (a1_3 == 0)) else (some false))) = some r := by rw [if_pos rfl] at H; exact H
    clear H
    have H := H1
    clear H1
    replace H := Option.bind_eq_some_iff.mp H
    obtain ⟨t110, A100, H⟩ := H
    replace H : (if t110 = true then (some (a1_3 == 0)) else (some false)) = some r := H
    have A10 := am A100
    clear A100
    by_cases c11 : t110 = true
    ·subst c11
     have H1 : (some (a1_3 == 0)) = some r := by rw [if_pos rfl] at H; exact H
     clear H
     have H := H1
     clear H1
     obtain rfl := Option.some.inj H
     have hnb12 := NB109_108.out
     have hnc12 := NB108_109.out
     have hcz13_0 := bc0 BK109.out
     have hcz13_1 := bc1 BK109.out
     have hcz13_2 := bc2 BK109.out
     have hcz13_3 := bc3 BK109.out
     have hfz13_0 := blk_frozen BK109.out 0
     have hfz13_1 := blk_frozen BK109.out 1
     have hfz13_2 := blk_frozen BK109.out 2
     have hfz13_3 := blk_frozen BK109.out 3
     go_wp2_with (first | ((with_reducible refine gate_callee (f := 60) rfl ?_); refine gL (some 12) Try.func60 #[.int .i64 a1_2, .int .i64 0, .int .i64 99] ?_; (with_reducible refine (spec_inRange.calls a1_2 0 99 true _ A10.out).mono ?_); rintro e w' ⟨rfl, ⟨nd, rfl⟩⟩; refine ⟨_, rfl, ?_⟩))
     go_ret
     exact ⟨Y0, Y21⟩
    ·replace c11 := Bool.eq_false_iff.mpr c11
     subst c11
     have H1 : (some false) = some r := by rw [if_neg (show ¬ (false = true) by decide)] at H; exact H
     clear H
     have H := H1
     clear H1
     obtain rfl := Option.some.inj H
     have hnb14 := NB109_108.out
     have hnc14 := NB108_109.out
     have hcz15_0 := bc0 BK109.out
     have hcz15_1 := bc1 BK109.out
     have hcz15_2 := bc2 BK109.out
     have hcz15_3 := bc3 BK109.out
     have hfz15_0 := blk_frozen BK109.out 0
     have hfz15_1 := blk_frozen BK109.out 1
     have hfz15_2 := blk_frozen BK109.out 2
     have hfz15_3 := blk_frozen BK109.out 3
     go_wp2_with (first | ((with_reducible refine gate_callee (f := 60) rfl ?_); refine gL (some 12) Try.func60 #[.int .i64 a1_2, .int .i64 0, .int .i64 99] ?_; (with_reducible refine (spec_inRange.calls a1_2 0 99 false _ A10.out).mono ?_); rintro e w' ⟨rfl, ⟨nd, rfl⟩⟩; refine ⟨_, rfl, ?_⟩))
     go_ret
     exact ⟨Y0, Y21⟩
   ·replace c9 := Bool.eq_false_iff.mpr c9
    subst c9
    have H1 : (if a1_1 = 2 then ((spec_hasClass.f l0_0 a1_2).bind fun t111 => (if t111 = true then ((spec_inRange.f a1_3 0 99).bind fun t112 => (some t112)) else (some false))) else (if a1_1 = 8 then ((spec_hasClass.f l0_0 a1_2).bind fun t113 => (if t113 = true then (some (a1_3 == 0)) else (some false))) else (if a1_1 = 11 then ((spec_inRange.f a1_2 0 9).bind fun t114 => (if t114 = true then ((spec_inRange.f a1_3 0 1).bind fun t115 => (some t115)) else (some false))) else (if a1_1 = 12 then ((spec_inRange.f a1_2 0 3).bind fun t116 => (if t116 = true then (some (a1_3 == 0)) else (some false))) else ((spec_inRange.f a1_1 0 10).bind fun t117 => (if t117 = true then (if a1_2 = 0 then (some (a1_3 == 0)) else (some false)) else (some false))))))) = some r := by rw [if_neg (show ¬ (false = true) by decide)] at H; exact H
    clear H
    have H := H1
    clear H1
    by_cases c16 : a1_1 = 2
    ·rw [if_pos c16] at H
     have c16b0 : (a1_1 == 2) = true := beq_iff_eq.mpr c16
     have c16b1 : (a1_1 != 2) = false := bne_eq_false_iff_eq.mpr c16
     clear c16
     replace H := Option.bind_eq_some_iff.mp H
     obtain ⟨t111, A170, H⟩ := H
     replace H : (if t111 = true then ((spec_inRange.f a1_3 0 99).bind fun t112 => (some t112)) else (some false)) = some r := H
     have A17 := am A170
     clear A170
     by_cases c18 : t111 = true
     ·subst c18
      have H1 : ((spec_inRange.f a1_3 0 99).bind fun t112 => (some t112)) = some r := by rw [if_pos rfl] at H; exact H
      clear H
      have H := H1
      clear H1
      replace H := Option.bind_eq_some_iff.mp H
      obtain ⟨t112, A190, H⟩ := H
      replace H : (some t112) = some r := H
      have A19 := am A190
      clear A190
      obtain rfl := Option.some.inj H
      have hnb20 := NB108_109.out
      have hnc20 := NB109_108.out
      have hcz21_0 := bc0 BK108.out
      have hfz21_0 := blk_frozen BK108.out 0
      have hcz22_0 := bc0 BK109.out
      have hcz22_1 := bc1 BK109.out
      have hcz22_2 := bc2 BK109.out
      have hcz22_3 := bc3 BK109.out
      have hfz22_0 := blk_frozen BK109.out 0
      have hfz22_1 := blk_frozen BK109.out 1
      have hfz22_2 := blk_frozen BK109.out 2
      have hfz22_3 := blk_frozen BK109.out 3
      go_wp2_with (first | ((with_reducible refine gate_callee (f := 59) rfl ?_); refine gL (some 23) Try.func59 #[.agg #[.slice A0_0 l0_0.length c0_0], .int .i64 a1_2] ?_; (with_reducible refine (spec_hasClass.calls _ _ l0_0 a1_2 true _ ?side1 ?side2 A17.out).mono ?_); (case side1 => exact cq (Kd.C_below HR0_0.out HB.out)); (case side2 => exact HC0_0.out); rintro e w23 ⟨rfl, hb⟩; refine ⟨_, rfl, ?_⟩; replace BK108 := am (blk_below (g := gb108) (o := .cells #[.slice A0_0 l0_0.length c0_0] 32 (0, 0)) (kq BK108.out) hb); replace BK109 := am (blk_below (g := gb109) (o := .cells #[.int .i64 a1_0, .int .i64 a1_1, .int .i64 a1_2, .int .i64 a1_3] 59 (0, 0)) (kq BK109.out) hb); replace HB := am (below_step (Y21) hb); (try clear hb); (try clear hb2); (try clear hk); (try clear hi); have hcz24_0 := bc0 BK109.out; have hcz24_1 := bc1 BK109.out; have hcz24_2 := bc2 BK109.out; have hcz24_3 := bc3 BK109.out; have hfz24_0 := blk_frozen BK109.out 0; have hfz24_1 := blk_frozen BK109.out 1; have hfz24_2 := blk_frozen BK109.out 2; have hfz24_3 := blk_frozen BK109.out 3) | (go_at_call 60; (with_reducible refine (spec_inRange.calls a1_3 0 99 t112 _ A19.out).mono ?_); rintro e w' ⟨rfl, ⟨nd, rfl⟩⟩))
      go_ret
      exact ⟨Y0, Y21⟩
     ·replace c18 := Bool.eq_false_iff.mpr c18
      subst c18
      have H1 : (some false) = some r := by rw [if_neg (show ¬ (false = true) by decide)] at H; exact H
      clear H
      have H := H1
      clear H1
      obtain rfl := Option.some.inj H
      have hnb25 := NB108_109.out
      have hnc25 := NB109_108.out
      have hcz26_0 := bc0 BK108.out
      have hfz26_0 := blk_frozen BK108.out 0
      have hcz27_0 := bc0 BK109.out
      have hcz27_1 := bc1 BK109.out
      have hcz27_2 := bc2 BK109.out
      have hcz27_3 := bc3 BK109.out
      have hfz27_0 := blk_frozen BK109.out 0
      have hfz27_1 := blk_frozen BK109.out 1
      have hfz27_2 := blk_frozen BK109.out 2
      have hfz27_3 := blk_frozen BK109.out 3
      go_wp2_with (first | ((with_reducible refine gate_callee (f := 59) rfl ?_); refine gL (some 23) Try.func59 #[.agg #[.slice A0_0 l0_0.length c0_0], .int .i64 a1_2] ?_; (with_reducible refine (spec_hasClass.calls _ _ l0_0 a1_2 false _ ?side1 ?side2 A17.out).mono ?_); (case side1 => exact cq (Kd.C_below HR0_0.out HB.out)); (case side2 => exact HC0_0.out); rintro e w28 ⟨rfl, hb⟩; refine ⟨_, rfl, ?_⟩; replace BK108 := am (blk_below (g := gb108) (o := .cells #[.slice A0_0 l0_0.length c0_0] 32 (0, 0)) (kq BK108.out) hb); replace BK109 := am (blk_below (g := gb109) (o := .cells #[.int .i64 a1_0, .int .i64 a1_1, .int .i64 a1_2, .int .i64 a1_3] 59 (0, 0)) (kq BK109.out) hb); replace HB := am (below_step (Y21) hb); (try clear hb); (try clear hb2); (try clear hk); (try clear hi)))
      go_ret
      exact ⟨Y0, Y21⟩
    ·rw [if_neg c16] at H
     have c16b0 : (a1_1 == 2) = false := beq_eq_false_iff_ne.mpr c16
     have c16b1 : (a1_1 != 2) = true := bne_iff_ne.mpr c16
     by_cases c29 : a1_1 = 8
     ·rw [if_pos c29] at H
      have c29b0 : (a1_1 == 8) = true := beq_iff_eq.mpr c29
      have c29b1 : (a1_1 != 8) = false := bne_eq_false_iff_eq.mpr c29
      clear c29
      replace H := Option.bind_eq_some_iff.mp H
      obtain ⟨t113, A300, H⟩ := H
      replace H : (if t113 = true then (some (a1_3 == 0)) else (some false)) = some r := H
      have A30 := am A300
      clear A300
      by_cases c31 : t113 = true
      ·subst c31
       have H1 : (some (a1_3 == 0)) = some r := by rw [if_pos rfl] at H; exact H
       clear H
       have H := H1
       clear H1
       obtain rfl := Option.some.inj H
       have hnb32 := NB108_109.out
       have hnc32 := NB109_108.out
       have hcz33_0 := bc0 BK108.out
       have hfz33_0 := blk_frozen BK108.out 0
       have hcz34_0 := bc0 BK109.out
       have hcz34_1 := bc1 BK109.out
       have hcz34_2 := bc2 BK109.out
       have hcz34_3 := bc3 BK109.out
       have hfz34_0 := blk_frozen BK109.out 0
       have hfz34_1 := blk_frozen BK109.out 1
       have hfz34_2 := blk_frozen BK109.out 2
       have hfz34_3 := blk_frozen BK109.out 3
       go_wp2_with (first | ((with_reducible refine gate_callee (f := 59) rfl ?_); refine gL (some 34) Try.func59 #[.agg #[.slice A0_0 l0_0.length c0_0], .int .i64 a1_2] ?_; (with_reducible refine (spec_hasClass.calls _ _ l0_0 a1_2 true _ ?side1 ?side2 A30.out).mono ?_); (case side1 => exact cq (Kd.C_below HR0_0.out HB.out)); (case side2 => exact HC0_0.out); rintro e w35 ⟨rfl, hb⟩; refine ⟨_, rfl, ?_⟩; replace BK108 := am (blk_below (g := gb108) (o := .cells #[.slice A0_0 l0_0.length c0_0] 32 (0, 0)) (kq BK108.out) hb); replace BK109 := am (blk_below (g := gb109) (o := .cells #[.int .i64 a1_0, .int .i64 a1_1, .int .i64 a1_2, .int .i64 a1_3] 59 (0, 0)) (kq BK109.out) hb); replace HB := am (below_step (Y21) hb); (try clear hb); (try clear hb2); (try clear hk); (try clear hi); have hcz36_0 := bc0 BK109.out; have hcz36_1 := bc1 BK109.out; have hcz36_2 := bc2 BK109.out; have hcz36_3 := bc3 BK109.out; have hfz36_0 := blk_frozen BK109.out 0; have hfz36_1 := blk_frozen BK109.out 1; have hfz36_2 := blk_frozen BK109.out 2; have hfz36_3 := blk_frozen BK109.out 3))
       go_ret
       exact ⟨Y0, Y21⟩
      ·replace c31 := Bool.eq_false_iff.mpr c31
       subst c31
       have H1 : (some false) = some r := by rw [if_neg (show ¬ (false = true) by decide)] at H; exact H
       clear H
       have H := H1
       clear H1
       obtain rfl := Option.some.inj H
       have hnb37 := NB108_109.out
       have hnc37 := NB109_108.out
       have hcz38_0 := bc0 BK108.out
       have hfz38_0 := blk_frozen BK108.out 0
       have hcz39_0 := bc0 BK109.out
       have hcz39_1 := bc1 BK109.out
       have hcz39_2 := bc2 BK109.out
       have hcz39_3 := bc3 BK109.out
       have hfz39_0 := blk_frozen BK109.out 0
       have hfz39_1 := blk_frozen BK109.out 1
       have hfz39_2 := blk_frozen BK109.out 2
       have hfz39_3 := blk_frozen BK109.out 3
       go_wp2_with (first | ((with_reducible refine gate_callee (f := 59) rfl ?_); refine gL (some 34) Try.func59 #[.agg #[.slice A0_0 l0_0.length c0_0], .int .i64 a1_2] ?_; (with_reducible refine (spec_hasClass.calls _ _ l0_0 a1_2 false _ ?side1 ?side2 A30.out).mono ?_); (case side1 => exact cq (Kd.C_below HR0_0.out HB.out)); (case side2 => exact HC0_0.out); rintro e w40 ⟨rfl, hb⟩; refine ⟨_, rfl, ?_⟩; replace BK108 := am (blk_below (g := gb108) (o := .cells #[.slice A0_0 l0_0.length c0_0] 32 (0, 0)) (kq BK108.out) hb); replace BK109 := am (blk_below (g := gb109) (o := .cells #[.int .i64 a1_0, .int .i64 a1_1, .int .i64 a1_2, .int .i64 a1_3] 59 (0, 0)) (kq BK109.out) hb); replace HB := am (below_step (Y21) hb); (try clear hb); (try clear hb2); (try clear hk); (try clear hi)))
       go_ret
       exact ⟨Y0, Y21⟩
     ·rw [if_neg c29] at H
      have c29b0 : (a1_1 == 8) = false := beq_eq_false_iff_ne.mpr c29
      have c29b1 : (a1_1 != 8) = true := bne_iff_ne.mpr c29
      by_cases c41 : a1_1 = 11
      ·rw [if_pos c41] at H
       have c41b0 : (a1_1 == 11) = true := beq_iff_eq.mpr c41
       have c41b1 : (a1_1 != 11) = false := bne_eq_false_iff_eq.mpr c41
       clear c41
       replace H := Option.bind_eq_some_iff.mp H
       obtain ⟨t114, A420, H⟩ := H
       replace H : (if t114 = true then ((spec_inRange.f a1_3 0 1).bind fun t115 => (some t115)) else (some false)) = some r := H
       have A42 := am A420
       clear A420
       by_cases c43 : t114 = true
       ·subst c43
        have H1 : ((spec_inRange.f a1_3 0 1).bind fun t115 => (some t115)) = some r := by rw [if_pos rfl] at H; exact H
        clear H
        have H := H1
        clear H1
        replace H := Option.bind_eq_some_iff.mp H
        obtain ⟨t115, A440, H⟩ := H
        replace H : (some t115) = some r := H
        have A44 := am A440
        clear A440
        obtain rfl := Option.some.inj H
        have hnb45 := NB109_108.out
        have hnc45 := NB108_109.out
        have hcz46_0 := bc0 BK109.out
        have hcz46_1 := bc1 BK109.out
        have hcz46_2 := bc2 BK109.out
        have hcz46_3 := bc3 BK109.out
        have hfz46_0 := blk_frozen BK109.out 0
        have hfz46_1 := blk_frozen BK109.out 1
        have hfz46_2 := blk_frozen BK109.out 2
        have hfz46_3 := blk_frozen BK109.out 3
        go_wp2_with (first | ((with_reducible refine gate_callee (f := 60) rfl ?_); refine gL (some 44) Try.func60 #[.int .i64 a1_2, .int .i64 0, .int .i64 9] ?_; (with_reducible refine (spec_inRange.calls a1_2 0 9 true _ A42.out).mono ?_); rintro e w' ⟨rfl, ⟨nd, rfl⟩⟩; refine ⟨_, rfl, ?_⟩) | (go_at_call 60; (with_reducible refine (spec_inRange.calls a1_3 0 1 t115 _ A44.out).mono ?_); rintro e w' ⟨rfl, ⟨nd, rfl⟩⟩))
        go_ret
        exact ⟨Y0, Y21⟩
       ·replace c43 := Bool.eq_false_iff.mpr c43
        subst c43
        have H1 : (some false) = some r := by rw [if_neg (show ¬ (false = true) by decide)] at H; exact H
        clear H
        have H := H1
        clear H1
        obtain rfl := Option.some.inj H
        have hnb47 := NB109_108.out
        have hnc47 := NB108_109.out
        have hcz48_0 := bc0 BK109.out
        have hcz48_1 := bc1 BK109.out
        have hcz48_2 := bc2 BK109.out
        have hcz48_3 := bc3 BK109.out
        have hfz48_0 := blk_frozen BK109.out 0
        have hfz48_1 := blk_frozen BK109.out 1
        have hfz48_2 := blk_frozen BK109.out 2
        have hfz48_3 := blk_frozen BK109.out 3
        go_wp2_with (first | ((with_reducible refine gate_callee (f := 60) rfl ?_); refine gL (some 44) Try.func60 #[.int .i64 a1_2, .int .i64 0, .int .i64 9] ?_; (with_reducible refine (spec_inRange.calls a1_2 0 9 false _ A42.out).mono ?_); rintro e w' ⟨rfl, ⟨nd, rfl⟩⟩; refine ⟨_, rfl, ?_⟩))
        go_ret
        exact ⟨Y0, Y21⟩
      ·rw [if_neg c41] at H
       have c41b0 : (a1_1 == 11) = false := beq_eq_false_iff_ne.mpr c41
       have c41b1 : (a1_1 != 11) = true := bne_iff_ne.mpr c41
       by_cases c49 : a1_1 = 12
       ·rw [if_pos c49] at H
        have c49b0 : (a1_1 == 12) = true := beq_iff_eq.mpr c49
        have c49b1 : (a1_1 != 12) = false := bne_eq_false_iff_eq.mpr c49
        clear c49
        replace H := Option.bind_eq_some_iff.mp H
        obtain ⟨t116, A500, H⟩ := H
        replace H : (if t116 = true then (some (a1_3 == 0)) else (some false)) = some r := H
        have A50 := am A500
        clear A500
        by_cases c51 : t116 = true
        ·subst c51
         have H1 : (some (a1_3 == 0)) = some r := by rw [if_pos rfl] at H; exact H
         clear H
         have H := H1
         clear H1
         obtain rfl := Option.some.inj H
         have hnb52 := NB109_108.out
         have hnc52 := NB108_109.out
         have hcz53_0 := bc0 BK109.out
         have hcz53_1 := bc1 BK109.out
         have hcz53_2 := bc2 BK109.out
         have hcz53_3 := bc3 BK109.out
         have hfz53_0 := blk_frozen BK109.out 0
         have hfz53_1 := blk_frozen BK109.out 1
         have hfz53_2 := blk_frozen BK109.out 2
         have hfz53_3 := blk_frozen BK109.out 3
         go_wp2_with (first | ((with_reducible refine gate_callee (f := 60) rfl ?_); refine gL (some 54) Try.func60 #[.int .i64 a1_2, .int .i64 0, .int .i64 3] ?_; (with_reducible refine (spec_inRange.calls a1_2 0 3 true _ A50.out).mono ?_); rintro e w' ⟨rfl, ⟨nd, rfl⟩⟩; refine ⟨_, rfl, ?_⟩))
         go_ret
         exact ⟨Y0, Y21⟩
        ·replace c51 := Bool.eq_false_iff.mpr c51
         subst c51
         have H1 : (some false) = some r := by rw [if_neg (show ¬ (false = true) by decide)] at H; exact H
         clear H
         have H := H1
         clear H1
         obtain rfl := Option.some.inj H
         have hnb54 := NB109_108.out
         have hnc54 := NB108_109.out
         have hcz55_0 := bc0 BK109.out
         have hcz55_1 := bc1 BK109.out
         have hcz55_2 := bc2 BK109.out
         have hcz55_3 := bc3 BK109.out
         have hfz55_0 := blk_frozen BK109.out 0
         have hfz55_1 := blk_frozen BK109.out 1
         have hfz55_2 := blk_frozen BK109.out 2
         have hfz55_3 := blk_frozen BK109.out 3
         go_wp2_with (first | ((with_reducible refine gate_callee (f := 60) rfl ?_); refine gL (some 54) Try.func60 #[.int .i64 a1_2, .int .i64 0, .int .i64 3] ?_; (with_reducible refine (spec_inRange.calls a1_2 0 3 false _ A50.out).mono ?_); rintro e w' ⟨rfl, ⟨nd, rfl⟩⟩; refine ⟨_, rfl, ?_⟩))
         go_ret
         exact ⟨Y0, Y21⟩
       ·rw [if_neg c49] at H
        have c49b0 : (a1_1 == 12) = false := beq_eq_false_iff_ne.mpr c49
        have c49b1 : (a1_1 != 12) = true := bne_iff_ne.mpr c49
        replace H := Option.bind_eq_some_iff.mp H
        obtain ⟨t117, A560, H⟩ := H
        replace H : (if t117 = true then (if a1_2 = 0 then (some (a1_3 == 0)) else (some false)) else (some false)) = some r := H
        have A56 := am A560
        clear A560
        by_cases c57 : t117 = true
        ·subst c57
         have H1 : (if a1_2 = 0 then (some (a1_3 == 0)) else (some false)) = some r := by rw [if_pos rfl] at H; exact H
         clear H
         have H := H1
         clear H1
         by_cases c58 : a1_2 = 0
         ·rw [if_pos c58] at H
          have c58b0 : (a1_2 == 0) = true := beq_iff_eq.mpr c58
          have c58b1 : (a1_2 != 0) = false := bne_eq_false_iff_eq.mpr c58
          clear c58
          obtain rfl := Option.some.inj H
          have hnb59 := NB109_108.out
          have hnc59 := NB108_109.out
          have hcz60_0 := bc0 BK109.out
          have hcz60_1 := bc1 BK109.out
          have hcz60_2 := bc2 BK109.out
          have hcz60_3 := bc3 BK109.out
          have hfz60_0 := blk_frozen BK109.out 0
          have hfz60_1 := blk_frozen BK109.out 1
          have hfz60_2 := blk_frozen BK109.out 2
          have hfz60_3 := blk_frozen BK109.out 3
          go_wp2_with (first | ((with_reducible refine gate_callee (f := 60) rfl ?_); refine gL (some 62) Try.func60 #[.int .i64 a1_1, .int .i64 0, .int .i64 10] ?_; (with_reducible refine (spec_inRange.calls a1_1 0 10 true _ A56.out).mono ?_); rintro e w' ⟨rfl, ⟨nd, rfl⟩⟩; refine ⟨_, rfl, ?_⟩))
          go_ret
          exact ⟨Y0, Y21⟩
         ·rw [if_neg c58] at H
          have c58b0 : (a1_2 == 0) = false := beq_eq_false_iff_ne.mpr c58
          have c58b1 : (a1_2 != 0) = true := bne_iff_ne.mpr c58
          obtain rfl := Option.some.inj H
          have hnb61 := NB109_108.out
          have hnc61 := NB108_109.out
          have hcz62_0 := bc0 BK109.out
          have hcz62_1 := bc1 BK109.out
          have hcz62_2 := bc2 BK109.out
          have hcz62_3 := bc3 BK109.out
          have hfz62_0 := blk_frozen BK109.out 0
          have hfz62_1 := blk_frozen BK109.out 1
          have hfz62_2 := blk_frozen BK109.out 2
          have hfz62_3 := blk_frozen BK109.out 3
          go_wp2_with (first | ((with_reducible refine gate_callee (f := 60) rfl ?_); refine gL (some 62) Try.func60 #[.int .i64 a1_1, .int .i64 0, .int .i64 10] ?_; (with_reducible refine (spec_inRange.calls a1_1 0 10 true _ A56.out).mono ?_); rintro e w' ⟨rfl, ⟨nd, rfl⟩⟩; refine ⟨_, rfl, ?_⟩))
          go_ret
          exact ⟨Y0, Y21⟩
        ·replace c57 := Bool.eq_false_iff.mpr c57
         subst c57
         have H1 : (some false) = some r := by rw [if_neg (show ¬ (false = true) by decide)] at H; exact H
         clear H
         have H := H1
         clear H1
         obtain rfl := Option.some.inj H
         have hnb63 := NB109_108.out
         have hnc63 := NB108_109.out
         have hcz64_0 := bc0 BK109.out
         have hcz64_1 := bc1 BK109.out
         have hcz64_2 := bc2 BK109.out
         have hcz64_3 := bc3 BK109.out
         have hfz64_0 := blk_frozen BK109.out 0
         have hfz64_1 := blk_frozen BK109.out 1
         have hfz64_2 := blk_frozen BK109.out 2
         have hfz64_3 := blk_frozen BK109.out 3
         go_wp2_with (first | ((with_reducible refine gate_callee (f := 60) rfl ?_); refine gL (some 62) Try.func60 #[.int .i64 a1_1, .int .i64 0, .int .i64 10] ?_; (with_reducible refine (spec_inRange.calls a1_1 0 10 false _ A56.out).mono ?_); rintro e w' ⟨rfl, ⟨nd, rfl⟩⟩; refine ⟨_, rfl, ?_⟩))
         go_ret
         exact ⟨Y0, Y21⟩
end Go.Proofs.Ytbcjbcjpoddkoaa.P
end
