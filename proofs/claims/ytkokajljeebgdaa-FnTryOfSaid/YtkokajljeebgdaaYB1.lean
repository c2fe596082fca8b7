/- One part of the proofs on this program: functions of the program as plain functions, that the code comes to them, and facts on them. -/
import Derived.Test.YtkokajljeebgdaaYAll1
import Derived.Test.YtkokajljeebgdaaYWAuto
section
namespace Go.Proofs.Ytkokajljeebgdaa.P
open Go.RowKit Go.Proofs.YtkokajljeebgdaaW.PrintWords Go.Proofs.YtkokajljeebgdaaW.PrintLast Go.Proofs.YtkokajljeebgdaaW.PrintMore
attribute [local go_sem] max2_int min2_int max_two min_two max_three min_three max_four min_four isSome_cell_setCell
set_option linter.unusedVariables false
set_option linter.unusedSimpArgs false
def laws_equalInts.l0 : Nat → List Int → List Int → Int → Option (Bool)
 | 0, _, _, _ => none
 | k + 1, x0, x1, x5 => if x5 < (x0.length : Int) then (if 0 ≤ x5 then (if x5 < (x1.length : Int) then (if (rd x0 x5) = (rd x1 x5) then (laws_equalInts.l0 k x0 x1 (wrap64 (x5 + 1))) else (some false)) else (none)) else (none)) else (some true)
def laws_equalInts.f (k : Nat) (l0 : List Int) (l1 : List Int) : Option (Bool) := if (l0.length : Int) = (l1.length : Int) then (laws_equalInts.l0 k l0 l1 0) else (some false)
set_option maxHeartbeats 8000000 in
set_option maxRecDepth 100000 in
theorem laws_equalInts.calls (k : Nat) (A0 : Option Addr) (c0 : Nat) (l0 : List Int) (A1 : Option Addr) (c1 : Nat) (l1 : List Int) (r : Bool) (w : World) (hr0 : Kd.C (Kd.int .i64) w A0 l0.length l0) (hc0 : l0.length ≤ c0) (hr1 : Kd.C (Kd.int .i64) w A1 l1.length l1) (hc1 : l1.length ≤ c1) (h : laws_equalInts.f k l0 l1 = some r) :
  Calls Try.prog 27 #[.slice A0 l0.length c0, .slice A1 l1.length c1] w fun e w' => e = .returned (.bool r) ∧ Drawn0 w w' := by
 have HR0 := am hr0
 have HC0 := am hc0
 clear hr0 hc0
 have HR1 := am hr1
 have HC1 := am hc1
 clear hr1 hc1
 have H : (if (l0.length : Int) = (l1.length : Int) then (laws_equalInts.l0 k l0 l1 0) else (some false)) = some r := h
 clear h
 by_cases c3 : (l0.length : Int) = (l1.length : Int)
 ·rw [if_pos c3] at H
  have c3b0 : ((l0.length : Int) == (l1.length : Int)) = true := beq_iff_eq.mpr c3
  have c3b1 : ((l0.length : Int) != (l1.length : Int)) = false := bne_eq_false_iff_eq.mpr c3
  have c3b2 : (l0.length == l1.length) = true := by first | simpa using c3 | (simp at c3 ⊢; omega)
  clear c3
  have H' := am H
  clear H
  go_enter Try.func27, Try.ntmps27
  go_wp2
  repeat (go_quiet (fail); try go_wp2)
  go_loopg [5] k (fun kq v5 w' => ∃ (x5_1 : Int), v5 = .int .i64 x5_1 ∧ Aside0 (laws_equalInts.l0 kq l0 l1 x5_1 = some r) ∧ Aside0 (kq ≤ k) ∧ Drawn0 w w')
  case atStart => exact ⟨(0), (sq), H', ⟨Nat.le_refl _⟩, Y4⟩
  case round =>
   clear H'
   try clear c1
   try clear c2
   try clear p2
   try clear c3
   try clear c3b0
   try clear c3b1
   try clear c3b2
   obtain ⟨x5_1, rfl, HA, HK1, ⟨m1, rfl⟩⟩ := hrel
   cases gk with
   | zero => exact absurd HA.out (by simp [laws_equalInts.l0])
   | succ k1 =>
    have H := HA.out
    clear HA
    simp only [laws_equalInts.l0] at H
    by_cases c4 : x5_1 < (l0.length : Int)
    ·rw [if_pos c4] at H
     have c4b0 : decide (x5_1 < (l0.length : Int)) = true := decide_eq_true c4
     clear c4
     by_cases c5 : 0 ≤ x5_1
     ·rw [if_pos c5] at H
      have c5b0 : decide (0 ≤ x5_1) = true := decide_eq_true c5
      clear c5
      by_cases c6 : x5_1 < (l1.length : Int)
      ·rw [if_pos c6] at H
       have c6b0 : decide (x5_1 < (l1.length : Int)) = true := decide_eq_true c6
       clear c6
       by_cases c7 : (rd l0 x5_1) = (rd l1 x5_1)
       ·rw [if_pos c7] at H
        have c7b0 : ((rd l0 x5_1) == (rd l1 x5_1)) = true := beq_iff_eq.mpr c7
        have c7b1 : ((rd l0 x5_1) != (rd l1 x5_1)) = false := bne_eq_false_iff_eq.mpr c7
        clear c7
        have H' := am H
        clear H
        have p971 : 0 ≤ (x5_1 : Int) := of_decide_eq_true (uq)
        have q971 : x5_1 < (l0.length : Int) := of_decide_eq_true (uq)
        obtain ⟨ad971, e971, hx971_0⟩ := Kd.at_int HR0.out x5_1 p971 q971
        cases e971
        replace p971 := eq_true p971
        replace q971 := eq_true q971
        have p972 : 0 ≤ (x5_1 : Int) := of_decide_eq_true (uq)
        have q972 : x5_1 < (l1.length : Int) := of_decide_eq_true (uq)
        obtain ⟨ad972, e972, hx972_0⟩ := Kd.at_int HR1.out x5_1 p972 q972
        cases e972
        replace p972 := eq_true p972
        replace q972 := eq_true q972
        go_wp2
        repeat (go_quiet (fail); try go_wp2)
        go_roundg k1
        case measure => have := HK1.out; omega
        case rel => exact ⟨(wrap64 (x5_1 + 1)), (sq), H', ⟨by have := HK1.out; omega⟩, Y4⟩
       ·rw [if_neg c7] at H
        have c7b0 : ((rd l0 x5_1) == (rd l1 x5_1)) = false := beq_eq_false_iff_ne.mpr c7
        have c7b1 : ((rd l0 x5_1) != (rd l1 x5_1)) = true := bne_iff_ne.mpr c7
        obtain rfl := Option.some.inj H
        have p971 : 0 ≤ (x5_1 : Int) := of_decide_eq_true (uq)
        have q971 : x5_1 < (l0.length : Int) := of_decide_eq_true (uq)
        obtain ⟨ad971, e971, hx971_0⟩ := Kd.at_int HR0.out x5_1 p971 q971
        cases e971
        replace p971 := eq_true p971
        replace q971 := eq_true q971
        have p972 : 0 ≤ (x5_1 : Int) := of_decide_eq_true (uq)
        have q972 : x5_1 < (l1.length : Int) := of_decide_eq_true (uq)
        obtain ⟨ad972, e972, hx972_0⟩ := Kd.at_int HR1.out x5_1 p972 q972
        cases e972
        replace p972 := eq_true p972
        replace q972 := eq_true q972
        go_wp2
        repeat (go_quiet (fail); try go_wp2)
        go_ret
        exact ⟨sq, Y4⟩
      ·rw [if_neg c6] at H
       exact absurd H (by simp)
     ·rw [if_neg c5] at H
      exact absurd H (by simp)
    ·rw [if_neg c4] at H
     have c4b0 : decide (x5_1 < (l0.length : Int)) = false := decide_eq_false c4
     clear c4
     obtain rfl := Option.some.inj H
     go_wp2
     repeat (go_quiet (fail); try go_wp2)
     go_ret
     exact ⟨sq, Y4⟩
 ·rw [if_neg c3] at H
  have c3b0 : ((l0.length : Int) == (l1.length : Int)) = false := beq_eq_false_iff_ne.mpr c3
  have c3b1 : ((l0.length : Int) != (l1.length : Int)) = true := bne_iff_ne.mpr c3
  have c3b2 : (l0.length == l1.length) = false := by first | simpa using c3 | (simp at c3 ⊢; omega)
  obtain rfl := Option.some.inj H
  go_enter Try.func27, Try.ntmps27
  go_wp2
  repeat (go_quiet (fail); try go_wp2)
  go_ret
  exact ⟨sq, Y4⟩
def laws_isIn.l0 : Nat → List Int → Int → Int → Option (Bool)
 | 0, _, _, _ => none
 | k + 1, x0, x1, x5 => if x5 < (x0.length : Int) then (if 0 ≤ x5 then (if (rd x0 x5) = x1 then (some true) else (laws_isIn.l0 k x0 x1 (wrap64 (x5 + 1)))) else (none)) else (some false)
def laws_isIn.f (k : Nat) (l0 : List Int) (a1 : Int) : Option (Bool) := laws_isIn.l0 k l0 a1 0
set_option maxHeartbeats 8000000 in
set_option maxRecDepth 100000 in
theorem laws_isIn.calls (k : Nat) (A0 : Option Addr) (c0 : Nat) (l0 : List Int) (a1 : Int) (r : Bool) (w : World) (hr0 : Kd.C (Kd.int .i64) w A0 l0.length l0) (hc0 : l0.length ≤ c0) (h : laws_isIn.f k l0 a1 = some r) :
  Calls Try.prog 33 #[.slice A0 l0.length c0, .int .i64 a1] w fun e w' => e = .returned (.bool r) ∧ Drawn0 w w' := by
 have HR0 := am hr0
 have HC0 := am hc0
 clear hr0 hc0
 have H : (laws_isIn.l0 k l0 a1 0) = some r := h
 clear h
 have H' := am H
 clear H
 go_enter Try.func33, Try.ntmps33
 go_wp2
 go_loopg [5] k (fun kq v5 w' => ∃ (x5_1 : Int), v5 = .int .i64 x5_1 ∧ Aside0 (laws_isIn.l0 kq l0 a1 x5_1 = some r) ∧ Aside0 (kq ≤ k) ∧ Drawn0 w w')
 case atStart => exact ⟨(0), (sq), H', ⟨Nat.le_refl _⟩, Y4⟩
 case round =>
  clear H'
  try clear p2
  obtain ⟨x5_1, rfl, HA, HK1, ⟨m1, rfl⟩⟩ := hrel
  cases gk with
  | zero => exact absurd HA.out (by simp [laws_isIn.l0])
  | succ k1 =>
   have H := HA.out
   clear HA
   simp only [laws_isIn.l0] at H
   by_cases c3 : x5_1 < (l0.length : Int)
   ·rw [if_pos c3] at H
    have c3b0 : decide (x5_1 < (l0.length : Int)) = true := decide_eq_true c3
    clear c3
    by_cases c4 : 0 ≤ x5_1
    ·rw [if_pos c4] at H
     have c4b0 : decide (0 ≤ x5_1) = true := decide_eq_true c4
     clear c4
     by_cases c5 : (rd l0 x5_1) = a1
     ·rw [if_pos c5] at H
      have c5b0 : ((rd l0 x5_1) == a1) = true := beq_iff_eq.mpr c5
      have c5b1 : ((rd l0 x5_1) != a1) = false := bne_eq_false_iff_eq.mpr c5
      clear c5
      obtain rfl := Option.some.inj H
      have p1031 : 0 ≤ (x5_1 : Int) := of_decide_eq_true (uq)
      have q1031 : x5_1 < (l0.length : Int) := of_decide_eq_true (uq)
      obtain ⟨ad1031, e1031, hx1031_0⟩ := Kd.at_int HR0.out x5_1 p1031 q1031
      cases e1031
      replace p1031 := eq_true p1031
      replace q1031 := eq_true q1031
      go_wp2
      go_ret
      exact ⟨sq, Y4⟩
     ·rw [if_neg c5] at H
      have c5b0 : ((rd l0 x5_1) == a1) = false := beq_eq_false_iff_ne.mpr c5
      have c5b1 : ((rd l0 x5_1) != a1) = true := bne_iff_ne.mpr c5
      have H' := am H
      clear H
      have p1031 : 0 ≤ (x5_1 : Int) := of_decide_eq_true (uq)
      have q1031 : x5_1 < (l0.length : Int) := of_decide_eq_true (uq)
      obtain ⟨ad1031, e1031, hx1031_0⟩ := Kd.at_int HR0.out x5_1 p1031 q1031
      cases e1031
      replace p1031 := eq_true p1031
      replace q1031 := eq_true q1031
      go_wp2
      go_roundg k1
      case measure => have := HK1.out; omega
      case rel => exact ⟨(wrap64 (x5_1 + 1)), (sq), H', ⟨by have := HK1.out; omega⟩, Y4⟩
    ·rw [if_neg c4] at H
     exact absurd H (by simp)
   ·rw [if_neg c3] at H
    have c3b0 : decide (x5_1 < (l0.length : Int)) = false := decide_eq_false c3
    clear c3
    obtain rfl := Option.some.inj H
    go_wp2
    go_ret
    exact ⟨sq, Y4⟩
def IsS97 (w0 W : World) (g : Nat) (f0 : List Int) (f1 : Int) : Prop := ∃ A0 c0, W.heap[g]? = some (.cells #[.slice A0 f0.length c0, .int .i64 f1] 97 (0, 0)) ∧ w0.heap.size ≤ g ∧ Kd.C (Kd.int .u8) w0 A0 f0.length f0
theorem IsS97.grown {w0 W : World} {g : Nat} {f0 : List Int} {f1 : Int} {W1 : World} {row : Option Nat} (h : IsS97 w0 W g f0 f1) (hw : W.grownBy W1 row) (hne : some g ≠ row) : IsS97 w0 W1 g f0 f1 := by
 obtain ⟨A0, c0, hb, hg, hr0⟩ := h
 exact ⟨A0, c0, blk_grown hb hw hne, hg, hr0⟩
theorem IsS97.kept {w0 W : World} {g : Nat} {f0 : List Int} {f1 : Int} {W1 : World} {S : Nat → Prop} (h : IsS97 w0 W g f0 f1) (hk : Kept W W1 S) (hne : ¬ S g) : IsS97 w0 W1 g f0 f1 := by
 obtain ⟨A0, c0, hb, hg, hr0⟩ := h
 exact ⟨A0, c0, blk_kept hb hk hne, hg, hr0⟩
theorem IsS97.below {w0 W : World} {g : Nat} {f0 : List Int} {f1 : Int} {W1 : World} (h : IsS97 w0 W g f0 f1) (hw : Below W.heap.size W W1) : IsS97 w0 W1 g f0 f1 := h.grown (grown_of_below hw none) (by simp)
theorem IsS97.alloc {w0 W : World} {g : Nat} {f0 : List Int} {f1 : Int} (h : IsS97 w0 W g f0 f1) (o : Obj) : IsS97 w0 (W.alloc o) g f0 f1 := h.below (below_alloc (Below.refl _ _) o)
theorem IsS97.drewN {w0 W : World} {g : Nat} {f0 : List Int} {f1 : Int} (h : IsS97 w0 W g f0 f1) (m : Nat) : IsS97 w0 (W.drewN m) g f0 f1 := h
theorem IsS97.drew {w0 W : World} {g : Nat} {f0 : List Int} {f1 : Int} (h : IsS97 w0 W g f0 f1) : IsS97 w0 W.drew g f0 f1 := h
theorem IsS97.at_ {w0 W : World} {g : Nat} {f0 : List Int} {f1 : Int} {w' : World} {m : Nat} (hq : W.drewN m = w') (h : IsS97 w0 W g f0 f1) : IsS97 w0 w' g f0 f1 := by subst hq; exact IsS97.drewN h m
theorem IsS97.apart {w0 W : World} {g : Nat} {f0 : List Int} {f1 : Int} {α : Type} {d : Kd α} {e : Nat} {base : Nat} {ok : Nat → Prop} {v : Value} {xs : List α} (h : IsS97 w0 W g f0 f1) (ho : d.R e W base ok v xs) (ht : ∀ q, q ∈ e :: d.E → q ≠ 97) : d.R e W base (fun k => ok k ∧ k ≠ g) v xs := by
 obtain ⟨A0, c0, hb, hg, hr0⟩ := h
 exact Kd.R_types ho hb ht
theorem IsS97.own_ne {w0 W : World} {g : Nat} {f0 : List Int} {f1 : Int} {α : Type} {d : Kd α} {e : Nat} {base : Nat} {ok : Nat → Prop} {v : Value} {xs : List α} (h : IsS97 w0 W g f0 f1) (ho : d.R e W base ok v xs) (ht : e ≠ 97) : some g ≠ v.ownBlock := by
 obtain ⟨A0, c0, hb, hg, hr0⟩ := h
 exact Kd.R_ne ho hb ht
theorem IsS97.apartQ {w0 W : World} {g : Nat} {f0 : List Int} {f1 : Int} {α : Type} {d : Kd α} {e : Nat} {base : Nat} {ok : Nat → Prop} {v : Value} {xs : List α} (h : IsS97 w0 W g f0 f1) (ho : d.Q e W base ok v xs) (ht : ∀ q, q ∈ e :: d.E → q ≠ 97) : d.Q e W base (fun k => ok k ∧ k ≠ g) v xs := by
 obtain ⟨A0, c0, hb, hg, hr0⟩ := h
 exact Kd.Q_types ho hb ht
theorem IsS97.lt {w0 W : World} {g : Nat} {f0 : List Int} {f1 : Int} (h : IsS97 w0 W g f0 f1) : g < W.heap.size := by
 obtain ⟨A0, c0, hb, hg, hr0⟩ := h
 exact blk_lt hb
theorem IsS97.ge {w0 W : World} {g : Nat} {f0 : List Int} {f1 : Int} (h : IsS97 w0 W g f0 f1) : w0.heap.size ≤ g := by
 obtain ⟨A0, c0, hb, hg, hr0⟩ := h
 exact hg
theorem IsS97.ne_blk {w0 W : World} {g : Nat} {f0 : List Int} {f1 : Int} {a : Nat} {cs : Array Value} {t : TypeId} {fr : Nat × Nat} (h : IsS97 w0 W g f0 f1) (hb2 : W.heap[a]? = some (.cells cs t fr)) (ht : t ≠ 97) : g ≠ a := by
 obtain ⟨A0, c0, hb, hg, hr0⟩ := h
 rintro rfl
 rw [hb] at hb2
 injection hb2 with hb2
 injection hb2 with _ ht2
 exact ht ht2.symm
theorem IsS97.far {w0 W : World} {g : Nat} {f0 : List Int} {f1 : Int} {p : Addr} (h : IsS97 w0 W g f0 f1) (hne : g ≠ p.block) (u : Value) : IsS97 w0 (W.setCell p u) g f0 f1 := by
 obtain ⟨A0, c0, hb, hg, hr0⟩ := h
 exact ⟨A0, c0, blk_far hb hne u, hg, hr0⟩
theorem cellS97_0 {W : World} {g : Nat} {A0 : Option Addr} {c0 : Nat} {f0 : List Int} {f1 : Int} (h : W.heap[g]? = some (.cells #[.slice A0 f0.length c0, .int .i64 f1] 97 (0, 0))) : W.cell? ⟨g, 0, none⟩ = some (.slice A0 f0.length c0) := (blk_cell h 0).trans rfl
theorem cellS97_1 {W : World} {g : Nat} {A0 : Option Addr} {c0 : Nat} {f0 : List Int} {f1 : Int} (h : W.heap[g]? = some (.cells #[.slice A0 f0.length c0, .int .i64 f1] 97 (0, 0))) : W.cell? ⟨g, 1, none⟩ = some (.int .i64 f1) := (blk_cell h 1).trans rfl
theorem IsS97.set_1 {w0 W : World} {g : Nat} {f0 : List Int} {f1 : Int} (h : IsS97 w0 W g f0 f1) (x : Int) : IsS97 w0 (W.setCell ⟨g, 1, none⟩ (.int .i64 x)) g f0 x := by
 obtain ⟨A0, c0, hb, hg, hr0⟩ := h
 exact ⟨A0, c0, by simpa using blk_set hb 1 (.int .i64 x), hg, hr0⟩
def spec_reader_pick.j0 : Nat → Int → Bool → List Int → Int → Option (Int × Int)
 | 0, _, _, _, _ => none
 | k + 1, x1, x24, x1000, x1001 => if x24 = true then (some (0, x1001)) else (if (wrap64 (x1001 - 1)) < (x1000.length : Int) then (if 0 ≤ (wrap64 (x1001 - 1)) then (if x1 = 0 then (none) else (some (Int.tmod (wrap64 (rd x1000 (wrap64 (x1001 - 1)))) x1, x1001))) else (none)) else (if (x1000.length : Int) = 0 then (none) else (if 0 ≤ (Int.tmod (wrap64 (x1001 - 1)) (x1000.length : Int)) then (if (Int.tmod (wrap64 (x1001 - 1)) (x1000.length : Int)) < (x1000.length : Int) then (if 0 ≤ (Int.tmod (wrap64 ((wrap64 ((wrap64 (x1001 - 1)) * 7)) + 3)) (x1000.length : Int)) then (if (Int.tmod (wrap64 ((wrap64 ((wrap64 (x1001 - 1)) * 7)) + 3)) (x1000.length : Int)) < (x1000.length : Int) then (if x1 = 0 then (none) else (some (Int.tmod (Go.bits .xor .i64 (wrap64 ((wrap64 ((wrap64 ((wrap64 ((wrap64 (rd x1000 (Int.tmod (wrap64 (x1001 - 1)) (x1000.length : Int)))) * 131)) + (wrap64 ((wrap64 (rd x1000 (Int.tmod (wrap64 ((wrap64 ((wrap64 (x1001 - 1)) * 7)) + 3)) (x1000.length : Int)))) * 1117)))) + (wrap64 ((wrap64 (x1001 - 1)) * 29)))) + (wrap64 ((wrap64 (Int.tdiv (wrap64 (x1001 - 1)) (x1000.length : Int))) * 53)))) (wrap64 (Int.tdiv (wrap64 ((wrap64 ((wrap64 ((wrap64 ((wrap64 (rd x1000 (Int.tmod (wrap64 (x1001 - 1)) (x1000.length : Int)))) * 131)) + (wrap64 ((wrap64 (rd x1000 (Int.tmod (wrap64 ((wrap64 ((wrap64 (x1001 - 1)) * 7)) + 3)) (x1000.length : Int)))) * 1117)))) + (wrap64 ((wrap64 (x1001 - 1)) * 29)))) + (wrap64 ((wrap64 (Int.tdiv (wrap64 (x1001 - 1)) (x1000.length : Int))) * 53)))) 64))) x1, x1001))) else (none)) else (none)) else (none)) else (none))))
def spec_reader_pick.f (k : Nat) (s0_0 : List Int) (s0_1 : Int) (a1 : Int) : Option (Int × Int) := if a1 < 1 then (spec_reader_pick.j0 k a1 true s0_0 (wrap64 (s0_1 + 1))) else (spec_reader_pick.j0 k a1 ((s0_0.length : Int) == 0) s0_0 (wrap64 (s0_1 + 1)))
set_option maxHeartbeats 8000000 in
set_option maxRecDepth 100000 in
theorem spec_reader_pick.calls (k : Nat) (g : Nat) (s0_0 : List Int) (s0_1 : Int) (a1 : Int) (r1 : Int) (r2 : Int) (w0 w : World) (hI : IsS97 w0 w g s0_0 s0_1) (hB : Below w0.heap.size w0 w) (h : spec_reader_pick.f k s0_0 s0_1 a1 = some (r1, r2)) :
  Calls Try.prog 71 #[.pointer (some ⟨g, 0, none⟩), .int .i64 a1] w fun e w' => e = .returned (.int .i64 r1) ∧ IsS97 w0 w' g s0_0 r2 ∧ Below w0.heap.size w0 w' ∧ KeepBut w w' g none := by
 have HI0 := am hI
 have HK := am (KeepBut.refl w g none)
 have HL := am hB.size
 clear hI
 have HW0 := am hB.size
 have HB := am hB
 clear hB
 have H : (if a1 < 1 then (spec_reader_pick.j0 k a1 true s0_0 (wrap64 (s0_1 + 1))) else (spec_reader_pick.j0 k a1 ((s0_0.length : Int) == 0) s0_0 (wrap64 (s0_1 + 1)))) = some (r1, r2) := h
 clear h
 have HC3 := am H
 clear H
 obtain ⟨ASz4_0, cSz4_0, HGz4, hgz4, HSz4_0⟩ := HI0.out
 have hcz4_0 := cellS97_0 HGz4
 have hcz4_1 := cellS97_1 HGz4
 have hfz4_1 := blk_frozen HGz4 1
 clear HGz4 hgz4
 go_enter Try.func71, Try.ntmps71
 go_upto_region 2 with (fail)
 repeat (go_quiet (fail); go_upto_region 2 with (fail))
 go_cut [24] (fun v24 wc => ∃ (kq : Nat) (x24_2 : Bool), v24 = .bool x24_2 ∧ Aside0 (spec_reader_pick.j0 kq a1 x24_2 s0_0 (wrap64 (s0_1 + 1)) = some (r1, r2)) ∧ Aside0 (kq ≤ k) ∧ Aside0 (IsS97 w0 wc g s0_0 (wrap64 (s0_1 + 1))) ∧ Aside0 (KeepBut w wc g none) ∧ Aside0 (Below w0.heap.size w0 wc))
 case first =>
  have H := HC3.out
  clear HC3
  by_cases c5 : a1 < 1
  ·rw [if_pos c5] at H
   have c5b0 : decide (a1 < 1) = true := decide_eq_true c5
   clear c5
   (first | rw [c5b0] | (simp only [i64_w, i32_w]; rw [c5b0]) | skip)
   have H' := am H
   clear H
   go_wp2
   repeat (go_quiet (fail); try go_wp2)
   go_meet
   case rel => exact ⟨_, (true), (sq), H', ⟨Y35⟩, ⟨Y17⟩, ⟨Y18⟩, ⟨Y19⟩⟩
  ·rw [if_neg c5] at H
   have c5b0 : decide (a1 < 1) = false := decide_eq_false c5
   clear c5
   (first | rw [c5b0] | (simp only [i64_w, i32_w]; rw [c5b0]) | skip)
   have H' := am H
   clear H
   obtain ⟨ASz6_0, cSz6_0, HGz6, hgz6, HSz6_0⟩ := HI0.out
   have hcz6_0 := cellS97_0 HGz6
   have hcz6_1 := cellS97_1 HGz6
   have hfz6_1 := blk_frozen HGz6 1
   clear HGz6 hgz6
   go_wp2
   repeat (go_quiet (fail); try go_wp2)
   go_meet
   case rel => exact ⟨_, (((s0_0.length : Int) == 0)), (sq), H', ⟨Y35⟩, ⟨Y17⟩, ⟨Y18⟩, ⟨Y19⟩⟩
 case rest =>
  clear HC3
  try clear p2
  try clear c5
  try clear c5b0
  try clear p6
  try clear hcz4_0
  try clear hcz4_1
  try clear hcz6_0
  try clear hcz6_1
  try clear hfz4_1
  try clear hfz6_1
  obtain ⟨kq, x24_2, rfl, HA, HJ2, HI0, HK, HB⟩ := hcut
  cases kq with
  | zero => exact absurd HA.out (by simp [spec_reader_pick.j0])
  | succ kj2 =>
   have H := HA.out
   clear HA
   simp only [spec_reader_pick.j0] at H
   by_cases c7 : x24_2 = true
   ·subst c7
    have H1 : (some (0, (wrap64 (s0_1 + 1)))) = some (r1, r2) := by rw [if_pos rfl] at H; exact H
    clear H
    have H := H1
    clear H1
    simp only [Option.some.injEq, Prod.mk.injEq] at H
    obtain ⟨rfl, rfl⟩ := H
    go_wp2
    repeat (go_quiet (fail); try go_wp2)
    go_ret
    exact ⟨Y0, Y17, Y19, Y18⟩
   ·replace c7 := Bool.eq_false_iff.mpr c7
    subst c7
    have H1 : (if (wrap64 ((wrap64 (s0_1 + 1)) - 1)) < (s0_0.length : Int) then (if 0 ≤ (wrap64 ((wrap64 (s0_1 + 1)) - 1)) then (if a1 = 0 then (none) else (some (Int.tmod (wrap64 (rd s0_0 (wrap64 ((wrap64 (s0_1 + 1)) - 1)))) a1, (wrap64 (s0_1 + 1))))) else (none)) else (if (s0_0.length : Int) = 0 then (none) else (if 0 ≤ (Int.tmod (wrap64 ((wrap64 (s0_1 + 1)) - 1)) (s0_0.length : Int)) then (if (Int.tmod (wrap64 ((wrap64 (s0_1 + 1)) - 1)) (s0_0.length : Int)) < (s0_0.length : Int) then (if 0 ≤ (Int.tmod (wrap64 ((wrap64 ((wrap64 ((wrap64 (s0_1 + 1)) - 1)) * 7)) + 3)) (s0_0.length : Int)) then (if (Int.tmod (wrap64 ((wrap64 ((wrap64 ((wrap64 (s0_1 + 1)) - 1)) * 7)) + 3)) (s0_0.length : Int)) < (s0_0.length : Int) then (if a1 = 0 then (none) else (some (Int.tmod (Go.bits .xor .i64 (wrap64 ((wrap64 ((wrap64 ((wrap64 ((wrap64 (rd s0_0 (Int.tmod (wrap64 ((wrap64 (s0_1 + 1)) - 1)) (s0_0.length : Int)))) * 131)) + (wrap64 ((wrap64 (rd s0_0 (Int.tmod (wrap64 ((wrap64 ((wrap64 ((wrap64 (s0_1 + 1)) - 1)) * 7)) + 3)) (s0_0.length : Int)))) * 1117)))) + (wrap64 ((wrap64 ((wrap64 (s0_1 + 1)) - 1)) * 29)))) + (wrap64 ((wrap64 (Int.tdiv (wrap64 ((wrap64 (s0_1 + 1)) - 1)) (s0_0.length : Int))) * 53)))) (wrap64 (Int.tdiv (wrap64 ((wrap64 ((wrap64 ((wrap64 ((wrap64 (rd s0_0 (Int.tmod (wrap64 ((wrap64 (s0_1 + 1)) - 1)) (s0_0.length : Int)))) * 131)) + (wrap64 ((wrap64 (rd s0_0 (Int.tmod (wrap64 ((wrap64 ((wrap64 ((wrap64 (s0_1 + 1)) - 1)) * 7)) + 3)) (s0_0.length : Int)))) * 1117)))) + (wrap64 ((wrap64 ((wrap64 (s0_1 + 1)) - 1)) * 29)))) + (wrap64 ((wrap64 (Int.tdiv (wrap64 ((wrap64 (s0_1 + 1)) - 1)) (s0_0.length : Int))) * 53)))) 64))) a1, (wrap64 (s0_1 + 1))))) else (none)) else (none)) else (none)) else (none)))) = some (r1, r2) := by rw [if_neg (show ¬ (false = true) by decide)] at H; exact H
    clear H
    have H := H1
    clear H1
    by_cases c8 : (wrap64 ((wrap64 (s0_1 + 1)) - 1)) < (s0_0.length : Int)
    ·rw [if_pos c8] at H
     have c8b0 : decide ((wrap64 ((wrap64 (s0_1 + 1)) - 1)) < (s0_0.length : Int)) = true := decide_eq_true c8
     clear c8
     obtain ⟨ji9, hji9⟩ : ∃ j_ : Int, (wrap64 ((wrap64 (s0_1 + 1)) - 1)) = j_ := ⟨_, rfl⟩
     replace H : (if 0 ≤ (ji9) then (if a1 = 0 then (none) else (some (Int.tmod (wrap64 (rd s0_0 (ji9))) a1, (wrap64 (s0_1 + 1))))) else (none)) = some (r1, r2) := by first | (rw [hji9] at H; exact H) | (simp only [hji9] at H ⊢; exact H)
     (try rw [hji9] at c8b0)
     have hji9w : (IntKind.i64.wrap ((wrap64 (s0_1 + 1)) - 1)) = ji9 := (i64_w _).trans hji9
     by_cases c10 : 0 ≤ (ji9)
     ·rw [if_pos c10] at H
      have c10b0 : decide (0 ≤ (ji9)) = true := decide_eq_true c10
      clear c10
      by_cases c11 : a1 = 0
      ·rw [if_pos c11] at H
       exact absurd H (by simp)
      ·rw [if_neg c11] at H
       have c11b0 : (a1 == 0) = false := beq_eq_false_iff_ne.mpr c11
       have c11b1 : (a1 != 0) = true := bne_iff_ne.mpr c11
       simp only [Option.some.injEq, Prod.mk.injEq] at H
       obtain ⟨rfl, rfl⟩ := H
       obtain ⟨ASz12_0, cSz12_0, HGz12, hgz12, HSz12_0⟩ := HI0.out
       have hcz12_0 := cellS97_0 HGz12
       have hcz12_1 := cellS97_1 HGz12
       have hfz12_1 := blk_frozen HGz12 1
       clear HGz12 hgz12
       have p655 : 0 ≤ ((ji9) : Int) := of_decide_eq_true (uq)
       have q655 : (ji9) < (s0_0.length : Int) := of_decide_eq_true (uq)
       obtain ⟨ad655, e655, hx655_0⟩ := Kd.at_int HSz12_0 (ji9) p655 q655
       cases e655
       replace hx655_0 := pw_cell_below HB.out hx655_0
       replace p655 := eq_true p655
       replace q655 := eq_true q655
       go_wp2
       repeat (go_quiet (fail); try go_wp2)
       go_ret
       exact ⟨by first | rfl | (simp [errW_none, errW_some] <;> rfl) | (simp only [← hji9]; first | rfl | (simp [errW_none, errW_some] <;> rfl)) | (simp [*, errW_none, errW_some] <;> rfl), Y17, Y19, Y18⟩
     ·rw [if_neg c10] at H
      exact absurd H (by simp)
    ·rw [if_neg c8] at H
     have c8b0 : decide ((wrap64 ((wrap64 (s0_1 + 1)) - 1)) < (s0_0.length : Int)) = false := decide_eq_false c8
     clear c8
     by_cases c13 : (s0_0.length : Int) = 0
     ·rw [if_pos c13] at H
      exact absurd H (by simp)
     ·rw [if_neg c13] at H
      have c13b0 : ((s0_0.length : Int) == 0) = false := beq_eq_false_iff_ne.mpr c13
      have c13b1 : ((s0_0.length : Int) != 0) = true := bne_iff_ne.mpr c13
      have c13b2 : ¬ (s0_0 = []) := fun h_ => c13 (by rw [h_]; rfl)
      obtain ⟨ji14, hji14⟩ : ∃ j_ : Int, (Int.tmod (wrap64 ((wrap64 (s0_1 + 1)) - 1)) (s0_0.length : Int)) = j_ := ⟨_, rfl⟩
      replace H : (if 0 ≤ (ji14) then (if (ji14) < (s0_0.length : Int) then (if 0 ≤ (Int.tmod (wrap64 ((wrap64 ((wrap64 ((wrap64 (s0_1 + 1)) - 1)) * 7)) + 3)) (s0_0.length : Int)) then (if (Int.tmod (wrap64 ((wrap64 ((wrap64 ((wrap64 (s0_1 + 1)) - 1)) * 7)) + 3)) (s0_0.length : Int)) < (s0_0.length : Int) then (if a1 = 0 then (none) else (some (Int.tmod (Go.bits .xor .i64 (wrap64 ((wrap64 ((wrap64 ((wrap64 ((wrap64 (rd s0_0 (ji14))) * 131)) + (wrap64 ((wrap64 (rd s0_0 (Int.tmod (wrap64 ((wrap64 ((wrap64 ((wrap64 (s0_1 + 1)) - 1)) * 7)) + 3)) (s0_0.length : Int)))) * 1117)))) + (wrap64 ((wrap64 ((wrap64 (s0_1 + 1)) - 1)) * 29)))) + (wrap64 ((wrap64 (Int.tdiv (wrap64 ((wrap64 (s0_1 + 1)) - 1)) (s0_0.length : Int))) * 53)))) (wrap64 (Int.tdiv (wrap64 ((wrap64 ((wrap64 ((wrap64 ((wrap64 (rd s0_0 (ji14))) * 131)) + (wrap64 ((wrap64 (rd s0_0 (Int.tmod (wrap64 ((wrap64 ((wrap64 ((wrap64 (s0_1 + 1)) - 1)) * 7)) + 3)) (s0_0.length : Int)))) * 1117)))) + (wrap64 ((wrap64 ((wrap64 (s0_1 + 1)) - 1)) * 29)))) + (wrap64 ((wrap64 (Int.tdiv (wrap64 ((wrap64 (s0_1 + 1)) - 1)) (s0_0.length : Int))) * 53)))) 64))) a1, (wrap64 (s0_1 + 1))))) else (none)) else (none)) else (none)) else (none)) = some (r1, r2) := by first | (rw [hji14] at H; exact H) | (simp only [hji14] at H ⊢; exact H)
      by_cases c15 : 0 ≤ (ji14)
      ·rw [if_pos c15] at H
       have c15b0 : decide (0 ≤ (ji14)) = true := decide_eq_true c15
       clear c15
       by_cases c16 : (ji14) < (s0_0.length : Int)
       ·rw [if_pos c16] at H
        have c16b0 : decide ((ji14) < (s0_0.length : Int)) = true := decide_eq_true c16
        clear c16
        obtain ⟨ji17, hji17⟩ : ∃ j_ : Int, (Int.tmod (wrap64 ((wrap64 ((wrap64 ((wrap64 (s0_1 + 1)) - 1)) * 7)) + 3)) (s0_0.length : Int)) = j_ := ⟨_, rfl⟩
        replace H : (if 0 ≤ (ji17) then (if (ji17) < (s0_0.length : Int) then (if a1 = 0 then (none) else (some (Int.tmod (Go.bits .xor .i64 (wrap64 ((wrap64 ((wrap64 ((wrap64 ((wrap64 (rd s0_0 (ji14))) * 131)) + (wrap64 ((wrap64 (rd s0_0 (ji17))) * 1117)))) + (wrap64 ((wrap64 ((wrap64 (s0_1 + 1)) - 1)) * 29)))) + (wrap64 ((wrap64 (Int.tdiv (wrap64 ((wrap64 (s0_1 + 1)) - 1)) (s0_0.length : Int))) * 53)))) (wrap64 (Int.tdiv (wrap64 ((wrap64 ((wrap64 ((wrap64 ((wrap64 (rd s0_0 (ji14))) * 131)) + (wrap64 ((wrap64 (rd s0_0 (ji17))) * 1117)))) + (wrap64 ((wrap64 ((wrap64 (s0_1 + 1)) - 1)) * 29)))) + (wrap64 ((wrap64 (Int.tdiv (wrap64 ((wrap64 (s0_1 + 1)) - 1)) (s0_0.length : Int))) * 53)))) 64))) a1, (wrap64 (s0_1 + 1))))) else (none)) else (none)) = some (r1, r2) := by first | (rw [hji17] at H; exact H) | (simp only [hji17] at H ⊢; exact H)
        by_cases c18 : 0 ≤ (ji17)
        ·rw [if_pos c18] at H
         have c18b0 : decide (0 ≤ (ji17)) = true := decide_eq_true c18
         clear c18
         by_cases c19 : (ji17) < (s0_0.length : Int)
         ·rw [if_pos c19] at H
          have c19b0 : decide ((ji17) < (s0_0.length : Int)) = true := decide_eq_true c19
          clear c19
          by_cases c20 : a1 = 0
          ·rw [if_pos c20] at H
           exact absurd H (by simp)
          ·rw [if_neg c20] at H
           have c20b0 : (a1 == 0) = false := beq_eq_false_iff_ne.mpr c20
           have c20b1 : (a1 != 0) = true := bne_iff_ne.mpr c20
           simp only [Option.some.injEq, Prod.mk.injEq] at H
           obtain ⟨rfl, rfl⟩ := H
           obtain ⟨ASz21_0, cSz21_0, HGz21, hgz21, HSz21_0⟩ := HI0.out
           have hcz21_0 := cellS97_0 HGz21
           have hcz21_1 := cellS97_1 HGz21
           have hfz21_1 := blk_frozen HGz21 1
           clear HGz21 hgz21
           have p656 : 0 ≤ ((ji14) : Int) := of_decide_eq_true (uq)
           have q656 : (ji14) < (s0_0.length : Int) := of_decide_eq_true (uq)
           obtain ⟨ad656, e656, hx656_0⟩ := Kd.at_int HSz21_0 (ji14) p656 q656
           cases e656
           replace hx656_0 := pw_cell_below HB.out hx656_0
           replace p656 := eq_true p656
           replace q656 := eq_true q656
           have p657 : 0 ≤ ((ji17) : Int) := of_decide_eq_true (uq)
           have q657 : (ji17) < (s0_0.length : Int) := of_decide_eq_true (uq)
           obtain ⟨ad657, e657, hx657_0⟩ := Kd.at_int HSz21_0 (ji17) p657 q657
           obtain rfl : ad656 = ad657 := (by injection e657)
           replace hx657_0 := pw_cell_below HB.out hx657_0
           replace p657 := eq_true p657
           replace q657 := eq_true q657
           go_wp2
           repeat (go_quiet (fail); try go_wp2)
           go_ret
           exact ⟨by first | rfl | (simp [errW_none, errW_some] <;> rfl) | (simp only [← hji14, ← hji17]; first | rfl | (simp [errW_none, errW_some] <;> rfl)) | (simp [*, errW_none, errW_some] <;> rfl), Y17, Y19, Y18⟩
         ·rw [if_neg c19] at H
          exact absurd H (by simp)
        ·rw [if_neg c18] at H
         exact absurd H (by simp)
       ·rw [if_neg c16] at H
        exact absurd H (by simp)
      ·rw [if_neg c15] at H
       exact absurd H (by simp)
def spec_reader_one.f (k : Nat) (s0_0 : List Int) (s0_1 : Int) (l1 : List Int) : Option (Int × Int) := (spec_reader_pick.f k s0_0 s0_1 (l1.length : Int)).bind fun bt658 => (if 0 ≤ bt658.1 then (if bt658.1 < (l1.length : Int) then (some (rd l1 bt658.1, bt658.2)) else (none)) else (none))
set_option maxHeartbeats 8000000 in
set_option maxRecDepth 100000 in
theorem spec_reader_one.calls (k : Nat) (g : Nat) (s0_0 : List Int) (s0_1 : Int) (A1 : Option Addr) (c1 : Nat) (l1 : List Int) (r1 : Int) (r2 : Int) (w0 w : World) (hI : IsS97 w0 w g s0_0 s0_1) (hB : Below w0.heap.size w0 w) (hr1 : Kd.C (Kd.int .i64) w A1 l1.length l1) (hc1 : l1.length ≤ c1) (hf1 : ∀ ad, A1 = some ad → 0 < l1.length → ad.block ≠ g) (h : spec_reader_one.f k s0_0 s0_1 l1 = some (r1, r2)) :
  Calls Try.prog 91 #[.pointer (some ⟨g, 0, none⟩), .slice A1 l1.length c1] w fun e w' => e = .returned (.int .i64 r1) ∧ IsS97 w0 w' g s0_0 r2 ∧ Below w0.heap.size w0 w' ∧ KeepBut w w' g none := by
 have HR1 := am hr1
 have HC1 := am hc1
 clear hr1 hc1
 have HI0 := am hI
 have HK := am (KeepBut.refl w g none)
 have HL := am hB.size
 clear hI
 have HW0 := am hB.size
 have HB := am hB
 clear hB
 have H : ((spec_reader_pick.f k s0_0 s0_1 (l1.length : Int)).bind fun bt658 => (if 0 ≤ bt658.1 then (if bt658.1 < (l1.length : Int) then (some (rd l1 bt658.1, bt658.2)) else (none)) else (none))) = some (r1, r2) := h
 clear h
 replace H := Option.bind_eq_some_iff.mp H
 obtain ⟨⟨t658, t659⟩, A30, H⟩ := H
 replace H : (if 0 ≤ t658 then (if t658 < (l1.length : Int) then (some (rd l1 t658, t659)) else (none)) else (none)) = some (r1, r2) := H
 have A3 := am A30
 clear A30
 by_cases c4 : 0 ≤ t658
 ·rw [if_pos c4] at H
  have c4b0 : decide (0 ≤ t658) = true := decide_eq_true c4
  clear c4
  by_cases c5 : t658 < (l1.length : Int)
  ·rw [if_pos c5] at H
   have c5b0 : decide (t658 < (l1.length : Int)) = true := decide_eq_true c5
   clear c5
   simp only [Option.some.injEq, Prod.mk.injEq] at H
   obtain ⟨rfl, rfl⟩ := H
   go_enter Try.func91, Try.ntmps91
   go_wp2_with (first | ((with_reducible refine gate_callee (f := 71) rfl ?_); refine gL (some 9) Try.func71 #[.pointer (some ⟨g, 0, none⟩), .int .i64 (l1.length : Int)] ?_; (with_reducible refine (spec_reader_pick.calls k g s0_0 s0_1 (l1.length : Int) t658 t659 w0 _ ?side1 ?side2 A3.out).mono ?_); (case side1 => exact Y17); (case side2 => exact Y19); rintro e w6 ⟨rfl, hi, hb, hk⟩; refine ⟨_, rfl, ?_⟩; replace HK := am (KeepBut.trans (Y18) hk (.inl rfl)); replace HB := am (hb); replace HI0 := am (hi); (try clear hb); (try clear hb2); (try clear hk); (try clear hi); have p660 : 0 ≤ (t658 : Int) := of_decide_eq_true (uq); have q660 : t658 < (l1.length : Int) := of_decide_eq_true (uq); obtain ⟨ad660, e660, hx660_0⟩ := Kd.at_int HR1.out t658 p660 q660; cases e660; replace hx660_0 := keep_cell HK.out hx660_0 (by first | (rw [add_block]; exact hf1 _ rfl (by omega)) | exact hf1 _ rfl (by omega) | exact hf1 ad660 rfl (by omega)); replace p660 := eq_true p660; replace q660 := eq_true q660))
   go_ret
   exact ⟨Y0, Y17, Y19, Y18⟩
  ·rw [if_neg c5] at H
   exact absurd H (by simp)
 ·rw [if_neg c4] at H
  exact absurd H (by simp)
def spec_goodTree.l0 : Nat → List ByteArray → Int → Int → List Int → Int → List (S87) → Option ((List (S87)) × Int)
 | 0, _, _, _, _, _, _ => none
 | k + 1, x3, x5, x6, x1000, x1001, x669000 => if x6 < x5 then (if 0 ≤ x6 then (if x6 < (x3.length : Int) then ((spec_reader_pick.f k x1000 x1001 x6).bind fun bt675 => ((spec_reader_one.f k x1000 bt675.2 (([0, bt675.1, wrap64 (x6 - 1)] : List Int))).bind fun bt680 => (if x669000.length < 5864062014805 then (spec_goodTree.l0 k x3 x5 (wrap64 (x6 + 1)) x1000 bt680.2 (x669000 ++ [(⟨rdOf ByteArray.empty x3 x6, bt680.1⟩ : S87)])) else (none)))) else (none)) else (none)) else (some (x669000, x1001))
def spec_goodTree.f (k : Nat) (s0_0 : List Int) (s0_1 : Int) : Option ((List (S87)) × Int) := (spec_reader_one.f k s0_0 s0_1 (([4, 5, 3, 6, 2, 1, 8] : List Int))).bind fun bt672 => (spec_goodTree.l0 k (([(⟨#[97, 110, 121]⟩ : ByteArray), (⟨#[105, 111]⟩ : ByteArray), (⟨#[107, 101, 121]⟩ : ByteArray), (⟨#[116, 105, 109, 101]⟩ : ByteArray), (⟨#[110, 101, 116]⟩ : ByteArray), (⟨#[100, 105, 115, 107]⟩ : ByteArray), (⟨#[116, 121, 112, 101]⟩ : ByteArray), (⟨#[111, 100, 100]⟩ : ByteArray)] : List ByteArray)) bt672.1 1 s0_0 bt672.2 (([(⟨(⟨#[97, 110, 121]⟩ : ByteArray), (-1)⟩ : S87)] : List (S87))))
def spec_goodTree.T7 : Bool × List (List Nat × List Nat) := (true, [([], []), ([0], [0]), ([], []), ([], []), ([2, 3], [2, 3]), ([4], [4]), ([], []), ([], []), ([], []), ([7, 8], [7, 8]), ([], []), ([10], [10]), ([9, 11], [9, 11]), ([6, 12, 9], [6, 12]), ([5, 13], [5, 13]), ([14], [14]), ([1, 15, 13], [1, 15]), ([0, 1, 2, 3, 4, 5, 6, 7, 8, 9, 10, 11, 12, 13, 14, 15, 16], []), ([17, 16, 16, 0, 1, 2, 3, 4, 5, 6, 7, 8, 9, 10, 11, 12, 13, 14, 15, 16], [16, 17])])
def spec_goodTree.B7 : List Nat := [0, 1, 0, 0, 12, 28, 0, 0, 0, 384, 0, 1024, 3968, 8128, 16380, 32764, 65535, 131071, 262143]
theorem spec_goodTree.tab7 : rtab .any (opsOf Try.f115 7) = spec_goodTree.T7 := by kernel_rfl
theorem spec_goodTree.bits7 : waitsOk spec_goodTree.T7.2 spec_goodTree.B7 = true := by kernel_rfl
set_option maxHeartbeats 8000000 in
set_option maxRecDepth 100000 in
theorem spec_goodTree.calls (k : Nat) (g : Nat) (s0_0 : List Int) (s0_1 : Int) (r1 : List (S87)) (r2 : Int) (w0 w : World) (hI : IsS97 w0 w g s0_0 s0_1) (hB : Below w0.heap.size w0 w) (h : spec_goodTree.f k s0_0 s0_1 = some (r1, r2)) :
  Calls Try.prog 115 #[.pointer (some ⟨g, 0, none⟩)] w fun e w' => ∃ v0_ : Value, e = .returned (.agg #[v0_]) ∧ Kd.R k87 87 w' w.heap.size (fun _ => True) v0_ r1 ∧ IsS97 w0 w' g s0_0 r2 ∧ Below w0.heap.size w0 w' ∧ KeepBut w w' g none := by
 have hu32 := Try.underlying32
 have hu87 := Try.underlying87
 have HI0 := am hI
 have HK := am (KeepBut.refl w g none)
 have HL := am hB.size
 clear hI
 have HW0 := am hB.size
 have HB := am hB
 clear hB
 have H : ((spec_reader_one.f k s0_0 s0_1 (([4, 5, 3, 6, 2, 1, 8] : List Int))).bind fun bt672 => (spec_goodTree.l0 k (([(⟨#[97, 110, 121]⟩ : ByteArray), (⟨#[105, 111]⟩ : ByteArray), (⟨#[107, 101, 121]⟩ : ByteArray), (⟨#[116, 105, 109, 101]⟩ : ByteArray), (⟨#[110, 101, 116]⟩ : ByteArray), (⟨#[100, 105, 115, 107]⟩ : ByteArray), (⟨#[116, 121, 112, 101]⟩ : ByteArray), (⟨#[111, 100, 100]⟩ : ByteArray)] : List ByteArray)) bt672.1 1 s0_0 bt672.2 (([(⟨(⟨#[97, 110, 121]⟩ : ByteArray), (-1)⟩ : S87)] : List (S87))))) = some (r1, r2) := h
 clear h
 obtain ⟨y662, hy662⟩ : ∃ y_ : List ByteArray, y_ = (([(⟨#[97, 110, 121]⟩ : ByteArray), (⟨#[105, 111]⟩ : ByteArray), (⟨#[107, 101, 121]⟩ : ByteArray), (⟨#[116, 105, 109, 101]⟩ : ByteArray), (⟨#[110, 101, 116]⟩ : ByteArray), (⟨#[100, 105, 115, 107]⟩ : ByteArray), (⟨#[116, 121, 112, 101]⟩ : ByteArray), (⟨#[111, 100, 100]⟩ : ByteArray)] : List ByteArray)) := ⟨_, rfl⟩
 replace H : ((spec_reader_one.f k s0_0 s0_1 (([4, 5, 3, 6, 2, 1, 8] : List Int))).bind fun bt672 => (spec_goodTree.l0 k y662 bt672.1 1 s0_0 bt672.2 (([(⟨(⟨#[97, 110, 121]⟩ : ByteArray), (-1)⟩ : S87)] : List (S87))))) = some (r1, r2) := by first | (rw [hy662]; with_reducible exact H) | (have H2_ := (Option.bind_some _ _).symm.trans H; rw [hy662]; with_reducible exact H2_) | (have H2_ := (Option.bind_some _ _).symm.trans H; with_reducible exact H2_) | with_reducible exact H | (rw [hy662]; exact H) | exact H
 have Ny662 := am hy662
 clear hy662
 obtain ⟨y665, hy665⟩ : ∃ y_ : List (S87), y_ = (([(⟨(⟨#[97, 110, 121]⟩ : ByteArray), (-1)⟩ : S87)] : List (S87))) := ⟨_, rfl⟩
 replace H : ((spec_reader_one.f k s0_0 s0_1 (([4, 5, 3, 6, 2, 1, 8] : List Int))).bind fun bt672 => (spec_goodTree.l0 k y662 bt672.1 1 s0_0 bt672.2 y665)) = some (r1, r2) := by first | (rw [hy665]; with_reducible exact H) | (have H2_ := (Option.bind_some _ _).symm.trans H; rw [hy665]; with_reducible exact H2_) | (have H2_ := (Option.bind_some _ _).symm.trans H; with_reducible exact H2_) | with_reducible exact H | (rw [hy665]; exact H) | exact H
 have Ny665 := am hy665
 clear hy665
 obtain ⟨y669, hy669⟩ : ∃ y_ : List Int, y_ = (([4, 5, 3, 6, 2, 1, 8] : List Int)) := ⟨_, rfl⟩
 replace H : ((spec_reader_one.f k s0_0 s0_1 y669).bind fun bt672 => (spec_goodTree.l0 k y662 bt672.1 1 s0_0 bt672.2 y665)) = some (r1, r2) := by first | (rw [hy669]; with_reducible exact H) | (have H2_ := (Option.bind_some _ _).symm.trans H; rw [hy669]; with_reducible exact H2_) | (have H2_ := (Option.bind_some _ _).symm.trans H; with_reducible exact H2_) | with_reducible exact H | (rw [hy669]; exact H) | exact H
 have Ny669 := am hy669
 clear hy669
 replace H := Option.bind_eq_some_iff.mp H
 obtain ⟨⟨t672, t673⟩, A20, H⟩ := H
 replace H : (spec_goodTree.l0 k y662 t672 1 s0_0 t673 y665) = some (r1, r2) := H
 have A2 := am A20
 clear A20
 have H' := am H
 clear H
 go_enter Try.func115, Try.ntmps115
 go_wp2_with (first | ((with_reducible refine gate_dst (N := 2) rfl ?_); refine bE (N := 2) (cs := #[.slice none 0 0]) (t := 32) ?_; intro gb661 hg w3 hbox hb; have BK661 := am (hbox); have GW661 := am ((Y13 : w.heap.size ≤ gb661)); have GE661 := am ((Nat.le_trans HW0.out (Y13 : w.heap.size ≤ gb661) : w0.heap.size ≤ gb661)); have NB0_661 := am ((Y29 : g ≠ gb661)); have NB661_0 := am ((Y30 : gb661 ≠ g)); replace HK := am (KeepBut.trans (Y18) (KeepBut.of_below hb g none) (.inl rfl)); replace HB := am (below_step (Y19) hb); replace HI0 := am (IsS97.below (Y17) hb); clear hb hbox hg) | ((with_reducible refine gate_dst (N := 7) rfl ?_); refine Kd.R_lit Kd.string _ 9 ?hg (N := 7) ?hd (xs := ([(⟨#[97, 110, 121]⟩ : ByteArray), (⟨#[105, 111]⟩ : ByteArray), (⟨#[107, 101, 121]⟩ : ByteArray), (⟨#[116, 105, 109, 101]⟩ : ByteArray), (⟨#[110, 101, 116]⟩ : ByteArray), (⟨#[100, 105, 115, 107]⟩ : ByteArray), (⟨#[116, 121, 112, 101]⟩ : ByteArray), (⟨#[111, 100, 100]⟩ : ByteArray)] : List ByteArray)) (inner := [.string (⟨#[97, 110, 121]⟩ : ByteArray), .string (⟨#[105, 111]⟩ : ByteArray), .string (⟨#[107, 101, 121]⟩ : ByteArray), .string (⟨#[116, 105, 109, 101]⟩ : ByteArray), .string (⟨#[110, 101, 116]⟩ : ByteArray), .string (⟨#[100, 105, 115, 107]⟩ : ByteArray), .string (⟨#[116, 121, 112, 101]⟩ : ByteArray), .string (⟨#[111, 100, 100]⟩ : ByteArray)]) (ok := fun _ => True) (okp := fun _ => True) ?hr ?hp (fun _ hk => hk) trivial (Below.refl _ _) (Nat.le_refl _) (by simp) ?_; (case hd => rfl); (case hg => rfl); (case hr => exact Y5); (case hp => exact (Reps.one (show Kd.M Kd.string _ _ _ (⟨#[97, 110, 121]⟩ : ByteArray) [.string (⟨#[97, 110, 121]⟩ : ByteArray)] from rfl) (Reps.one (show Kd.M Kd.string _ _ _ (⟨#[105, 111]⟩ : ByteArray) [.string (⟨#[105, 111]⟩ : ByteArray)] from rfl) (Reps.one (show Kd.M Kd.string _ _ _ (⟨#[107, 101, 121]⟩ : ByteArray) [.string (⟨#[107, 101, 121]⟩ : ByteArray)] from rfl) (Reps.one (show Kd.M Kd.string _ _ _ (⟨#[116, 105, 109, 101]⟩ : ByteArray) [.string (⟨#[116, 105, 109, 101]⟩ : ByteArray)] from rfl) (Reps.one (show Kd.M Kd.string _ _ _ (⟨#[110, 101, 116]⟩ : ByteArray) [.string (⟨#[110, 101, 116]⟩ : ByteArray)] from rfl) (Reps.one (show Kd.M Kd.string _ _ _ (⟨#[100, 105, 115, 107]⟩ : ByteArray) [.string (⟨#[100, 105, 115, 107]⟩ : ByteArray)] from rfl) (Reps.one (show Kd.M Kd.string _ _ _ (⟨#[116, 121, 112, 101]⟩ : ByteArray) [.string (⟨#[116, 121, 112, 101]⟩ : ByteArray)] from rfl) (Reps.one (show Kd.M Kd.string _ _ _ (⟨#[111, 100, 100]⟩ : ByteArray) [.string (⟨#[111, 100, 100]⟩ : ByteArray)] from rfl) (Reps.none _ _)))))))))); intro v663 w4 ho5 hb hg_ hnew_; clear hg_ hnew_; (first | rw [← Ny662.out] at ho5 | (simp only [Int.reduceToNat] at ho5; rw [← Ny662.out] at ho5)); have HO664 := am (Kd.R_lower ho5 (keep_size (w := w) (g := g) (row := none) (Y91))); replace BK661 := am (blk_below (g := gb661) (o := .cells #[.slice none 0 0] 32 (0, 0)) (kq BK661.out) hb); replace HK := am (KeepBut.trans (Y91) (KeepBut.of_below hb g none) (.inl rfl)); replace HB := am (below_step (Y126) hb); replace HI0 := am (IsS97.below (Y127) hb); clear hb ho5) | ((with_reducible refine gate_dst (N := 9) rfl ?_); refine Kd.R_lit k87 _ 87 ?hg (N := 9) ?hd (xs := ([(⟨(⟨#[97, 110, 121]⟩ : ByteArray), (-1)⟩ : S87)] : List (S87))) (inner := [.string (⟨#[97, 110, 121]⟩ : ByteArray), .int .i64 (-1)]) (ok := fun _ => True) (okp := fun _ => True) ?hr ?hp (fun _ hk => hk) trivial (Below.refl _ _) (Nat.le_refl _) (by simp) ?_; (case hd => rfl); (case hg => rfl); (case hr => exact Y5); (case hp => exact (Reps.c2 (show Kd.M k87 _ _ _ (⟨(⟨#[97, 110, 121]⟩ : ByteArray), (-1)⟩ : S87) [.string (⟨#[97, 110, 121]⟩ : ByteArray), .int .i64 (-1)] from (k87_mkM _ _ _ (⟨(⟨#[97, 110, 121]⟩ : ByteArray), (-1)⟩ : S87) )) (Reps.none _ _))); intro v666 w6 ho7 hb hg_ hnew_; clear hg_ hnew_; (first | rw [← Ny665.out] at ho7 | (simp only [Int.reduceToNat] at ho7; rw [← Ny665.out] at ho7)); have HO667 := am (Kd.R_lower ho7 (keep_size (w := w) (g := g) (row := none) (Y91))); replace HO664 := am (Kd.R_below (rq HO664.out) hb); replace BK661 := am (blk_below (g := gb661) (o := .cells #[.slice none 0 0] 32 (0, 0)) (kq BK661.out) hb); replace HK := am (KeepBut.trans (Y91) (KeepBut.of_below hb g none) (.inl rfl)); replace HB := am (below_step (Y126) hb); replace HI0 := am (IsS97.below (Y127) hb); clear hb ho7; obtain ⟨Ao8, co8, eo8⟩ := Kd.R_slice HO667.out; subst eo8) | ((with_reducible refine gate_dst (N := 4) rfl ?_); refine bE (N := 4) (cs := #[.slice none 0 0]) (t := 32) ?_; intro gb668 hg w9 hbox hb; have BK668 := am (hbox); have GW668 := am ((Y151 : w.heap.size ≤ gb668)); have GE668 := am ((Nat.le_trans HW0.out (Y151 : w.heap.size ≤ gb668) : w0.heap.size ≤ gb668)); have NB661_668 := am ((by rw [hg]; exact Nat.ne_of_lt (blk_lt (g := gb661) (o := .cells #[.slice none 0 0] 32 (0, 0)) (kq BK661.out)) : gb661 ≠ gb668)); have NB668_661 := am ((by rw [hg]; exact Nat.ne_of_gt (blk_lt (g := gb661) (o := .cells #[.slice none 0 0] 32 (0, 0)) (kq BK661.out)) : gb668 ≠ gb661)); have NB0_668 := am ((by rw [hg]; exact Nat.ne_of_lt (IsS97.lt (show IsS97 w0 _ g s0_0 s0_1 from by repeat (first | (with_reducible first | exact HI0.out | apply IsS97.alloc | apply IsS97.drewN | apply IsS97.drew | apply IsS97.set_1 | refine IsS97.far ?_ NB0_661.out _) | exact HI0.out))) : g ≠ gb668)); have NB668_0 := am ((by rw [hg]; exact Nat.ne_of_gt (IsS97.lt (show IsS97 w0 _ g s0_0 s0_1 from by repeat (first | (with_reducible first | exact HI0.out | apply IsS97.alloc | apply IsS97.drewN | apply IsS97.drew | apply IsS97.set_1 | refine IsS97.far ?_ NB0_661.out _) | exact HI0.out))) : gb668 ≠ g)); replace HO664 := am (Kd.R_below (rq HO664.out) hb); replace HO667 := am (Kd.R_below (rq HO667.out) hb); replace BK661 := am (blk_below (g := gb661) (o := .cells #[.slice none 0 0] 32 (0, 0)) (kq BK661.out) hb); replace HK := am (KeepBut.trans (Y91) (KeepBut.of_below hb g none) (.inl rfl)); replace HB := am (below_step (Y126) hb); replace HI0 := am (IsS97.below (Y127) hb); clear hb hbox hg; have hnb10 := NB668_661.out; have hnc10 := NB661_668.out; have hnb11 := NB668_0.out; have hnc11 := NB0_668.out; have hcz12_0 := bc0 BK668.out; have hfz12_0 := blk_frozen BK668.out 0) | ((with_reducible refine gate_dst (N := 12) rfl ?_); refine Kd.R_lit (Kd.int .i64) _ 3 ?hg (N := 12) ?hd (xs := ([4, 5, 3, 6, 2, 1, 8] : List Int)) (inner := [.int .i64 4, .int .i64 5, .int .i64 3, .int .i64 6, .int .i64 2, .int .i64 1, .int .i64 8]) (ok := fun _ => True) (okp := fun _ => True) ?hr ?hp (fun _ hk => hk) trivial (Below.refl _ _) (Nat.le_refl _) (by simp) ?_; (case hd => rfl); (case hg => rfl); (case hr => exact Y5); (case hp => exact (Reps.one (show Kd.M (Kd.int .i64) _ _ _ 4 [.int .i64 4] from rfl) (Reps.one (show Kd.M (Kd.int .i64) _ _ _ 5 [.int .i64 5] from rfl) (Reps.one (show Kd.M (Kd.int .i64) _ _ _ 3 [.int .i64 3] from rfl) (Reps.one (show Kd.M (Kd.int .i64) _ _ _ 6 [.int .i64 6] from rfl) (Reps.one (show Kd.M (Kd.int .i64) _ _ _ 2 [.int .i64 2] from rfl) (Reps.one (show Kd.M (Kd.int .i64) _ _ _ 1 [.int .i64 1] from rfl) (Reps.one (show Kd.M (Kd.int .i64) _ _ _ 8 [.int .i64 8] from rfl) (Reps.none _ _))))))))); intro v670 w13 ho14 hb hg_ hnew_; clear hg_ hnew_; (first | rw [← Ny669.out] at ho14 | (simp only [Int.reduceToNat] at ho14; rw [← Ny669.out] at ho14)); have HO671 := am (Kd.R_lower ho14 (keep_size (w := w) (g := g) (row := none) (Y45))); replace HO664 := am (Kd.R_below (by (with_reducible repeat (first | apply Kd.R_alloc | apply Kd.R_drewN | apply Kd.R_drew)); exact (Kd.R_mono (Kd.R_far (p := ⟨gb668, 0, none⟩) (Kd.R_types HO664.out BK668.out (by decide)) (fun _ hk => hk.2) (.slice Ao8 y665.length co8)) (fun _ h_ => h_.1))) hb); replace HO667 := am (Kd.R_below (by (with_reducible repeat (first | apply Kd.R_alloc | apply Kd.R_drewN | apply Kd.R_drew)); exact (Kd.R_mono (Kd.R_far (p := ⟨gb668, 0, none⟩) (Kd.R_types HO667.out BK668.out (by decide)) (fun _ hk => hk.2) (.slice Ao8 y665.length co8)) (fun _ h_ => h_.1))) hb); replace BK661 := am (blk_below (g := gb661) (o := .cells #[.slice none 0 0] 32 (0, 0)) (by (with_reducible repeat (first | refine blk_drewN ?_ _ | refine blk_drew ?_ | refine blk_alloc ?_ _)); refine blk_far ?_ NB661_668.out _; (with_reducible repeat (first | refine blk_drewN ?_ _ | refine blk_drew ?_ | refine blk_alloc ?_ _)); exact BK661.out) hb); replace BK668 := am (blk_below (g := gb668) (o := .cells #[.slice Ao8 y665.length co8] 32 (0, 0)) (by (with_reducible repeat (first | refine blk_drewN ?_ _ | refine blk_drew ?_ | refine blk_alloc ?_ _)); refine blk_put (cs := #[.slice none 0 0]) ?_ 0 _ rfl; (with_reducible repeat (first | refine blk_drewN ?_ _ | refine blk_drew ?_ | refine blk_alloc ?_ _)); exact BK668.out) hb); replace HK := am (KeepBut.trans (Y45) (KeepBut.of_below hb g none) (.inl rfl)); replace HB := am (below_step (Y56) hb); replace HI0 := am (IsS97.below (show IsS97 w0 (w9.setCell ⟨gb668, 0, none⟩ (.slice Ao8 y665.length co8)) g s0_0 s0_1 from Y31) hb); clear hb ho14; obtain ⟨Ao15, co15, eo15⟩ := Kd.R_slice HO671.out; subst eo15) | ((with_reducible refine gate_callee (f := 91) rfl ?_); refine gL (some 13) Try.func91 #[.pointer (some ⟨g, 0, none⟩), .slice Ao15 y669.length co15] ?_; (with_reducible refine (spec_reader_one.calls k g s0_0 s0_1 _ _ y669 t672 t673 w0 _ ?side1 ?side2 ?side3 ?side4 ?side5 A2.out).mono ?_); (case side1 => exact Y31); (case side2 => exact Y56); (case side3 => exact cq (Kd.R_reads' HO671.out).2.2); (case side4 => exact (Kd.R_reads' HO671.out).2.1); (case side5 => exact far_slice (IsS97.own_ne HI0.out HO671.out (by decide))); rintro e w16 ⟨rfl, hi, hb, hk⟩; refine ⟨_, rfl, ?_⟩; replace BK661 := am (KeepBut.blk hk (g' := gb661) (o := .cells #[.slice none 0 0] 32 (0, 0)) (kq BK661.out) NB661_0.out (by simp)); replace HO664 := am (Kd.R_mono (Kd.R_keep (IsS97.apart (show IsS97 w0 _ g s0_0 s0_1 from Y31) (rq HO664.out) (by decide)) hk (fun _ h => h.2)) (fun _ h => h.1)); replace HO667 := am (Kd.R_mono (Kd.R_keep (IsS97.apart (show IsS97 w0 _ g s0_0 s0_1 from Y31) (rq HO667.out) (by decide)) hk (fun _ h => h.2)) (fun _ h => h.1)); replace BK668 := am (KeepBut.blk hk (g' := gb668) (o := .cells #[.slice Ao8 y665.length co8] 32 (0, 0)) (kq BK668.out) NB668_0.out (by simp)); replace HO671 := am (Kd.R_mono (Kd.R_keep (IsS97.apart (show IsS97 w0 _ g s0_0 s0_1 from Y31) (rq HO671.out) (by decide)) hk (fun _ h => h.2)) (fun _ h => h.1)); replace HK := am (KeepBut.trans (Y45) hk (.inl rfl)); replace HB := am (hb); replace HI0 := am (hi); (try clear hb); (try clear hb2); (try clear hk); (try clear hi)))
 go_loopg [6] k (fun kq v6 w' => ∃ (x6_1 : Int) (x1001_1 : Int) (x669000_1 : List (S87)) (u669000 : Value), v6 = .int .i64 x6_1 ∧ Aside0 (spec_goodTree.l0 kq y662 t672 x6_1 s0_0 x1001_1 x669000_1 = some (r1, r2)) ∧ Aside0 (kq ≤ k) ∧ Aside0 (Kd.R Kd.string 9 w' w.heap.size (fun _ => True) v663 y662) ∧ Aside0 (Kd.R k87 87 w' w.heap.size (fun _ => True) u669000 x669000_1) ∧ Aside0 (w'.heap[gb661]? = some (.cells #[(.slice none 0 0)] 32 (0, 0))) ∧ Aside0 (w'.heap[gb668]? = some (.cells #[u669000] 32 (0, 0))) ∧ Aside0 (IsS97 w0 w' g s0_0 x1001_1) ∧ Aside0 (KeepBut w w' g none) ∧ Aside0 (Below w0.heap.size w0 w'))
 case atStart => exact ⟨(1), (t673), (y665), (.slice Ao8 y665.length co8), (sq), H', ⟨Nat.le_refl _⟩, ⟨rq HO664.out⟩, ⟨rq HO667.out⟩, ⟨kq BK661.out⟩, ⟨kq BK668.out⟩, ⟨Y31⟩, ⟨Y45⟩, ⟨Y56⟩⟩
 case round =>
  clear H'
  try clear c1
  try clear c2
  try clear p2
  try clear c9
  try clear c10
  try clear c11
  try clear hcz12_0
  try clear hfz12_0
  obtain ⟨x6_1, x1001_1, x669000_1, u669000, rfl, HA, HK1, HO_3, HO_669000, BK661, BK668, HI0, HK, HB⟩ := hrel
  cases gk with
  | zero => exact absurd HA.out (by simp [spec_goodTree.l0])
  | succ k1 =>
   have H := HA.out
   clear HA
   simp only [spec_goodTree.l0] at H
   by_cases c17 : x6_1 < t672
   ·rw [if_pos c17] at H
    have c17b0 : decide (x6_1 < t672) = true := decide_eq_true c17
    clear c17
    by_cases c18 : 0 ≤ x6_1
    ·rw [if_pos c18] at H
     have c18b0 : decide (0 ≤ x6_1) = true := decide_eq_true c18
     clear c18
     by_cases c19 : x6_1 < (y662.length : Int)
     ·rw [if_pos c19] at H
      have c19b0 : decide (x6_1 < (y662.length : Int)) = true := decide_eq_true c19
      clear c19
      replace H := Option.bind_eq_some_iff.mp H
      obtain ⟨⟨t675, t676⟩, A200, H⟩ := H
      replace H : ((spec_reader_one.f k1 s0_0 t676 (([0, t675, wrap64 (x6_1 - 1)] : List Int))).bind fun bt680 => (if x669000_1.length < 5864062014805 then (spec_goodTree.l0 k1 y662 t672 (wrap64 (x6_1 + 1)) s0_0 bt680.2 (x669000_1 ++ [(⟨rdOf ByteArray.empty y662 x6_1, bt680.1⟩ : S87)])) else (none))) = some (r1, r2) := H
      have A20 := am A200
      clear A200
      obtain ⟨y677, hy677⟩ : ∃ y_ : List Int, y_ = (([0, t675, wrap64 (x6_1 - 1)] : List Int)) := ⟨_, rfl⟩
      replace H : ((spec_reader_one.f k1 s0_0 t676 y677).bind fun bt680 => (if x669000_1.length < 5864062014805 then (spec_goodTree.l0 k1 y662 t672 (wrap64 (x6_1 + 1)) s0_0 bt680.2 (x669000_1 ++ [(⟨rdOf ByteArray.empty y662 x6_1, bt680.1⟩ : S87)])) else (none))) = some (r1, r2) := by first | (rw [hy677]; with_reducible exact H) | (have H2_ := (Option.bind_some _ _).symm.trans H; rw [hy677]; with_reducible exact H2_) | (have H2_ := (Option.bind_some _ _).symm.trans H; with_reducible exact H2_) | with_reducible exact H | (rw [hy677]; exact H) | exact H
      have Ny677 := am hy677
      clear hy677
      replace H := Option.bind_eq_some_iff.mp H
      obtain ⟨⟨t680, t681⟩, A210, H⟩ := H
      replace H : (if x669000_1.length < 5864062014805 then (spec_goodTree.l0 k1 y662 t672 (wrap64 (x6_1 + 1)) s0_0 t681 (x669000_1 ++ [(⟨rdOf ByteArray.empty y662 x6_1, t680⟩ : S87)])) else (none)) = some (r1, r2) := H
      have A21 := am A210
      clear A210
      by_cases c22 : x669000_1.length < 5864062014805
      ·rw [if_pos c22] at H
       have LMc22 := am c22
       clear c22
       obtain ⟨y682, hy682⟩ : ∃ y_ : List (S87), y_ = (x669000_1 ++ [(⟨rdOf ByteArray.empty y662 x6_1, t680⟩ : S87)]) := ⟨_, rfl⟩
       replace H : (spec_goodTree.l0 k1 y662 t672 (wrap64 (x6_1 + 1)) s0_0 t681 y682) = some (r1, r2) := by first | (rw [hy682]; with_reducible exact H) | (have H2_ := (Option.bind_some _ _).symm.trans H; rw [hy682]; with_reducible exact H2_) | (have H2_ := (Option.bind_some _ _).symm.trans H; with_reducible exact H2_) | with_reducible exact H | (rw [hy682]; exact H) | exact H
       have Ny682 := am hy682
       clear hy682
       have H' := am H
       clear H
       try go_wp2
       replace HO_3 := am (Kd.R_drew HO_3.out)
       replace HO_669000 := am (Kd.R_drew HO_669000.out)
       replace BK661 := am (blk_drew BK661.out)
       replace BK668 := am (blk_drew BK668.out)
       replace HI0 := am (IsS97.drew HI0.out)
       replace HK := am (keep_drew HK.out)
       replace HB := am (below_drew1 HB.out)
       obtain ⟨Ao24, co24, eo24⟩ := Kd.R_slice HO_3.out
       (first | subst eo24 | (injection eo24 with f1_ f2_ f3_; have f4_ := f1_.symm; have f5_ := f3_.symm; clear f1_ f2_ f3_; subst f4_; subst f5_))
       have p674 : 0 ≤ (x6_1 : Int) := of_decide_eq_true (uq)
       have q674 : x6_1 < (y662.length : Int) := of_decide_eq_true (uq)
       obtain ⟨ad674, e674, hx674_0⟩ := Kd.at_string (Kd.R_reads' HO_3.out).2.2 x6_1 p674 q674
       cases e674
       replace p674 := eq_true p674
       replace q674 := eq_true q674
       refine start_ (n := 19) (S := fun w' => w'.cell? ⟨gb668, 0, none⟩ = some (u669000) ∧ w'.cell? (ad674.add (x6_1).toNat) = some (.string (rdOf ByteArray.empty y662 x6_1))) (ds := [16, 18]) #[false, false, false, false, false, false, false, false, false, false, false, false, false, false, false, false, false, false, false] (by kernel_rfl) rfl rfl ⟨(blk_cell BK668.out 0).trans rfl, hx674_0⟩ (fun hHeld => ?_); refine with_tabW spec_goodTree.tab7 spec_goodTree.bits7 (fun HT_ HW_ => ?_)
       generalize wr.drew = w23 at HO_3 HO_669000 BK661 BK668 HI0 HK HB hx674_0 hHeld ⊢
       refine pq (i := 0) (N := some 19) #[true, false, false, false, false, false, false, false, false, false, false, false, false, false, false, false, false, false, false] ?_
       refine pq (i := 2) (N := some 21) #[true, false, true, false, false, false, false, false, false, false, false, false, false, false, false, false, false, false, false] ?_
       refine pq (i := 3) (N := some 22) #[true, false, true, true, false, false, false, false, false, false, false, false, false, false, false, false, false, false, false] ?_
       refine pq (i := 4) (N := some 23) #[true, false, true, true, true, false, false, false, false, false, false, false, false, false, false, false, false, false, false] ?_
       refine pq (i := 6) (N := some 25) #[true, false, true, true, true, false, true, false, false, false, false, false, false, false, false, false, false, false, false] ?_
       refine pq (i := 7) (N := some 26) #[true, false, true, true, true, false, true, true, false, false, false, false, false, false, false, false, false, false, false] ?_
       refine pq (i := 8) (N := some 27) #[true, false, true, true, true, false, true, true, true, false, false, false, false, false, false, false, false, false, false] ?_
       refine pq (i := 10) (N := some 29) #[true, false, true, true, true, false, true, true, true, false, true, false, false, false, false, false, false, false, false] ?_
       refine pq (i := 11) (N := some 30) #[true, false, true, true, true, false, true, true, true, false, true, true, false, false, false, false, false, false, false] ?_
       refine take_ (i := 1) (N := some 20) (v := ?_) (a' := ?_) #[true, true, true, true, true, false, true, true, true, false, true, true, false, false, false, false, false, false, false] rfl rfl (take_ofW HT_.out HW_.out (by kernel_rfl)) (fun _ _ _ h => h) (Or.inl ⟨by rfl, ?_⟩) hHeld ?_ ?_
       rotate_left
       ·rintro w' ⟨s0, s1⟩
        go_simp
        with_reducible rfl
       rotate_left
       ·exact sa
       refine take_ (i := 5) (N := some 24) (v := ?_) (a' := ?_) #[true, true, true, true, true, true, true, true, true, false, true, true, false, false, false, false, false, false, false] rfl rfl (take_ofW HT_.out HW_.out (by kernel_rfl)) (fun _ _ _ h => h) (Or.inl ⟨by rfl, ?_⟩) hHeld ?_ ?_
       rotate_left
       ·rintro w' ⟨s0, s1⟩
        go_simp
        with_reducible rfl
       rotate_left
       ·exact sa
       refine one_ (i := 9) (N := some 28) #[true, true, true, true, true, true, true, true, true, true, true, true, false, false, false, false, false, false, false] rfl rfl (one_of HT_.out (by kernel_rfl)) (by decide) (fun K hK => ?_)
       refine goes_ Try.func71 (by kernel_rfl) rfl #[.pointer (some ⟨g, 0, none⟩), .int .i64 x6_1] (by rfl) rfl rfl (aq) ?_
       with_reducible refine (spec_reader_pick.calls k1 g s0_0 x1001_1 x6_1 t675 t676 w0 _ ?side1 ?side2 A20.out).mono ?_
       (case side1 => exact Y31)
       (case side2 => exact Y56)
       rintro e w25 ⟨rfl, hi, hb, hk⟩
       have HS1_ := keep_cell hk (hHeld.2) (Y152)
       refine ⟨_, rfl, ?_⟩
       replace HO_3 := am (Kd.R_mono (Kd.R_keep (IsS97.apart (show IsS97 w0 _ g s0_0 x1001_1 from Y31) (rq HO_3.out) (by decide)) hk (fun _ h => h.2)) (fun _ h => h.1))
       replace HO_669000 := am (Kd.R_mono (Kd.R_keep (IsS97.apart (show IsS97 w0 _ g s0_0 x1001_1 from Y31) (rq HO_669000.out) (by decide)) hk (fun _ h => h.2)) (fun _ h => h.1))
       replace BK661 := am (KeepBut.blk hk (g' := gb661) (o := .cells #[.slice none 0 0] 32 (0, 0)) (kq BK661.out) NB661_0.out (by simp))
       replace BK668 := am (KeepBut.blk hk (g' := gb668) (o := .cells #[u669000] 32 (0, 0)) (kq BK668.out) NB668_0.out (by simp))
       replace HK := am (KeepBut.trans (Y45) hk (.inl rfl))
       replace HB := am (hb)
       replace HI0 := am (hi)
       (try clear hb)
       (try clear hb2)
       (try clear hk)
       (try clear hi)
       refine hK.out _ _ ⟨(blk_cell BK668.out 0).trans rfl, HS1_⟩ (fun hHeld => ?_)
       clear hK K
       refine norm_ (a' := ?_) ?_ ?_
       rotate_left
       ·show Act.put _ (some 28) _ = _
        simp only [Act.put, List.setIfInBounds_toArray, List.set_cons_zero, List.set_cons_succ, i64_w, i32_w]
        rfl
       refine one_ (i := 12) (N := some 31) #[true, true, true, true, true, true, true, true, true, true, true, true, true, false, false, false, false, false, false] rfl rfl (one_of HT_.out (by kernel_rfl)) (by decide) (fun K hK => ?_)
       refine Kd.R_lit_step (Kd.int .i64) _ 3 ?hg (N := 31) ?hd (xs := ([0, t675, wrap64 (x6_1 - 1)] : List Int)) (inner := [.int .i64 0, .int .i64 t675, .int .i64 (wrap64 (x6_1 - 1))]) (ok := fun _ => True) (okp := fun _ => True) ?hr ?hp (fun _ hk => hk) trivial (Below.refl _ _) (Nat.le_refl _) (by simp) ?_; (case hd => rfl); (case hg => rfl); (case hr => exact Y5); (case hp => exact (Reps.one (show Kd.M (Kd.int .i64) _ _ _ 0 [.int .i64 0] from rfl) (Reps.one (show Kd.M (Kd.int .i64) _ _ _ t675 [.int .i64 t675] from rfl) (Reps.one (show Kd.M (Kd.int .i64) _ _ _ (wrap64 (x6_1 - 1)) [.int .i64 (wrap64 (x6_1 - 1))] from rfl) (Reps.none _ _)))))
       intro v678 w26 ho27 hb hg_ hnew_
       have HS1_ := (hb.cell (World.block_lt_of_cell? _ _ (hHeld.2))).trans (hHeld.2)
       clear hg_ hnew_
       (first | rw [← Ny677.out] at ho27 | (simp only [Int.reduceToNat] at ho27; rw [← Ny677.out] at ho27))
       have HO679 := am (Kd.R_lower ho27 (keep_size (w := w) (g := g) (row := none) (Y45)))
       replace HO_3 := am (Kd.R_below (rq HO_3.out) hb)
       replace HO_669000 := am (Kd.R_below (rq HO_669000.out) hb)
       replace BK661 := am (blk_below (g := gb661) (o := .cells #[.slice none 0 0] 32 (0, 0)) (kq BK661.out) hb)
       replace BK668 := am (blk_below (g := gb668) (o := .cells #[u669000] 32 (0, 0)) (kq BK668.out) hb)
       replace HK := am (KeepBut.trans (Y45) (KeepBut.of_below hb g none) (.inl rfl))
       replace HB := am (below_step (Y56) hb)
       replace HI0 := am (IsS97.below (Y31) hb)
       clear hb ho27
       obtain ⟨Ao28, co28, eo28⟩ := Kd.R_slice HO679.out
       (first | subst eo28 | (injection eo28 with f1_ f2_ f3_; have f4_ := f1_.symm; have f5_ := f3_.symm; clear f1_ f2_ f3_; subst f4_; subst f5_))
       refine hK.out _ _ ⟨(blk_cell BK668.out 0).trans rfl, HS1_⟩ (fun hHeld => ?_)
       clear hK K
       refine norm_ (a' := ?_) ?_ ?_
       rotate_left
       ·show Act.put _ (some 31) _ = _
        simp only [Act.put, List.setIfInBounds_toArray, List.set_cons_zero, List.set_cons_succ, i64_w, i32_w]
        rfl
       refine one_ (i := 13) (N := some 32) #[true, true, true, true, true, true, true, true, true, true, true, true, true, true, false, false, false, false, false] rfl rfl (one_of HT_.out (by kernel_rfl)) (by decide) (fun K hK => ?_)
       refine goes_ Try.func91 (by kernel_rfl) rfl #[.pointer (some ⟨g, 0, none⟩), .slice Ao28 y677.length co28] (by rfl) rfl rfl (aq) ?_
       with_reducible refine (spec_reader_one.calls k1 g s0_0 t676 _ _ y677 t680 t681 w0 _ ?side1 ?side2 ?side3 ?side4 ?side5 A21.out).mono ?_
       (case side1 => exact Y31)
       (case side2 => exact Y56)
       (case side3 => exact cq (Kd.R_reads' HO679.out).2.2)
       (case side4 => exact (Kd.R_reads' HO679.out).2.1)
       (case side5 => exact far_slice (IsS97.own_ne HI0.out HO679.out (by decide)))
       rintro e w29 ⟨rfl, hi, hb, hk⟩
       have HS1_ := keep_cell hk (hHeld.2) (Y152)
       refine ⟨_, rfl, ?_⟩
       replace HO_3 := am (Kd.R_mono (Kd.R_keep (IsS97.apart (show IsS97 w0 _ g s0_0 t676 from Y31) (rq HO_3.out) (by decide)) hk (fun _ h => h.2)) (fun _ h => h.1))
       replace HO_669000 := am (Kd.R_mono (Kd.R_keep (IsS97.apart (show IsS97 w0 _ g s0_0 t676 from Y31) (rq HO_669000.out) (by decide)) hk (fun _ h => h.2)) (fun _ h => h.1))
       replace BK661 := am (KeepBut.blk hk (g' := gb661) (o := .cells #[.slice none 0 0] 32 (0, 0)) (kq BK661.out) NB661_0.out (by simp))
       replace BK668 := am (KeepBut.blk hk (g' := gb668) (o := .cells #[u669000] 32 (0, 0)) (kq BK668.out) NB668_0.out (by simp))
       replace HO679 := am (Kd.R_mono (Kd.R_keep (IsS97.apart (show IsS97 w0 _ g s0_0 t676 from Y31) (rq HO679.out) (by decide)) hk (fun _ h => h.2)) (fun _ h => h.1))
       replace HK := am (KeepBut.trans (Y45) hk (.inl rfl))
       replace HB := am (hb)
       replace HI0 := am (hi)
       (try clear hb)
       (try clear hb2)
       (try clear hk)
       (try clear hi)
       refine hK.out _ _ ⟨(blk_cell BK668.out 0).trans rfl, HS1_⟩ (fun hHeld => ?_)
       clear hK K
       refine norm_ (a' := ?_) ?_ ?_
       rotate_left
       ·show Act.put _ (some 32) _ = _
        simp only [Act.put, List.setIfInBounds_toArray, List.set_cons_zero, List.set_cons_succ, i64_w, i32_w]
        rfl
       refine pq (i := 14) (N := some 33) #[true, true, true, true, true, true, true, true, true, true, true, true, true, true, true, false, false, false, false] ?_
       refine one_ (i := 15) (N := some 34) #[true, true, true, true, true, true, true, true, true, true, true, true, true, true, true, true, false, false, false] rfl rfl (one_of HT_.out (by kernel_rfl)) (by decide) (fun K hK => ?_)
       refine value_ (w1 := ?_) (v := ?_) (by rfl) rfl ?_ ?_
       rotate_left 2
       ·go_simp
        constructor
        ·rfl
        ·rfl
       refine hK.out _ _ ⟨(blk_cell (blk_alloc BK668.out _) 0).trans rfl, (World.cell?_alloc_lt _ _ _ (World.block_lt_of_cell? _ _ (hHeld.2))).trans (hHeld.2)⟩ (fun hHeld => ?_)
       clear hK K
       refine norm_ (a' := ?_) ?_ ?_
       rotate_left
       ·show Act.put _ (some 34) _ = _
        simp only [Act.put, List.setIfInBounds_toArray, List.set_cons_zero, List.set_cons_succ, i64_w, i32_w]
        rfl
       refine last_ (i := 16) (N := some 35) #[true, true, true, true, true, true, true, true, true, true, true, true, true, true, true, true, true, false, false] rfl rfl (one_of HT_.out (by kernel_rfl)) (by decide) (fun K hK => ?_)
       refine Kd.R_append_step k87 w.heap.size (by rfl) (.tmp 20) (.tmp 34) 30 87 (.agg #[(.string ⟨#[]⟩), (.int .i64 0)]) 24 rfl Try.underlying30 info87 rfl (by decide) (by omega) u669000 x669000_1 (⟨rdOf ByteArray.empty y662 x6_1, t680⟩ : S87) [.string (rdOf ByteArray.empty y662 x6_1), .int .i64 t680] (fun _ => True) (fun _ => False) rfl rfl ?aP (fun _ hk => hk.elim) ?aF ?aO (Below.refl _ _) ?aS ?aL ?_
       (case aP => exact k87_mkM _ _ _ (⟨rdOf ByteArray.empty y662 x6_1, t680⟩ : S87))
       (case aF => exact (fun _ _ => trivial))
       (case aO => exact (rq HO_669000.out))
       (case aS => exact (keep_size (w := w) (g := g) (row := none) (Y45)))
       (case aL => have := LMc22.out; omega)
       intro v683 w30 ho hb hg hat
       rw [← Ny682.out] at ho
       have n0_ := am (Kd.R_over' (rq HO_3.out) (Kd.R_typed (rq HO_669000.out)) (by decide) hg)
       have n1_ := am (blk_grown (g := gb661) (o := .cells #[.slice none 0 0] 32 (0, 0)) (kq BK661.out) hg (Kd.R_ne HO_669000.out BK661.out (by decide)))
       have n2_ := am (blk_grown (g := gb668) (o := .cells #[u669000] 32 (0, 0)) (kq BK668.out) hg (Kd.R_ne HO_669000.out BK668.out (by decide)))
       have n3_ := am (IsS97.grown (Y31) hg (IsS97.own_ne HI0.out HO_669000.out (by decide)))
       have n4_ := am (Kd.R_over' (rq HO679.out) (Kd.R_typed (rq HO_669000.out)) (by decide) hg)
       have n5_ := am (below_weaken (Y56) HL.out hb)
       have n6_ := am (KeepBut.trans (Y45) (KeepBut.of_grown hg g) (Kd.R_base2 HO_669000.out))
       have n7_ := am (ho)
       clear HO_3
       clear BK661
       clear BK668
       clear HI0
       clear HO679
       clear HB
       clear HK
       clear HO_669000
       have HO_3 := n0_
       have BK661 := n1_
       have BK668 := n2_
       have HI0 := n3_
       have HO679 := n4_
       have HB := n5_
       have HK := n6_
       have HO684 := n7_
       clear n0_ n1_ n2_ n3_ n4_ n5_ n6_ n7_
       clear ho hb hg hat
       obtain ⟨Ao31, co31, eo31⟩ := Kd.R_slice HO684.out
       (first | subst eo31 | (injection eo31 with f1_ f2_ f3_; have f4_ := f1_.symm; have f5_ := f3_.symm; clear f1_ f2_ f3_; subst f4_; subst f5_))
       refine hK.out _ _ ?_
       clear hK K
       refine norm_ (a' := ?_) ?_ ?_
       rotate_left
       ·show Act.put _ (some 35) _ = _
        simp only [Act.put, List.setIfInBounds_toArray, List.set_cons_zero, List.set_cons_succ, i64_w, i32_w]
        rfl
       refine pq (i := 17) (N := some 36) #[true, true, true, true, true, true, true, true, true, true, true, true, true, true, true, true, true, true, false] ?_
       refine last_ (i := 18) (N := none) #[true, true, true, true, true, true, true, true, true, true, true, true, true, true, true, true, true, true, true] rfl rfl (one_of HT_.out (by kernel_rfl)) (by decide) (fun K hK => ?_)
       have hs32 : w30.cell? ⟨gb668, 0, none⟩ = some (u669000) := (blk_cell BK668.out 0).trans rfl
       have hfs32 := blk_frozen BK668.out 0
       have hns32_0 := NB661_668.out
       have hms32_0 := NB668_661.out
       refine skip_ (w1 := ?_) (by rfl) rfl ?_ ?_
       rotate_left
       ·go_simp
        rfl
       refine hK.out _ _ ?_
       clear hK K
       refine done_ (done_of HT_.out (by kernel_rfl)) ?_
       try go_wp2
       go_roundg k1
       case measure => have := HK1.out; omega
       case rel => exact ⟨(wrap64 (x6_1 + 1)), (t681), (y682), (.slice Ao31 y682.length co31), (sq), H', ⟨by have := HK1.out; omega⟩, ⟨by (with_reducible repeat (first | apply Kd.R_alloc | apply Kd.R_drewN | apply Kd.R_drew)); exact Kd.R_mono (Kd.R_far (p := ⟨gb668, 0, none⟩) (Kd.R_types HO_3.out BK668.out (by decide)) (fun _ hk => hk.2) (.slice Ao31 y682.length co31)) (fun _ hk => trivial)⟩, ⟨by (with_reducible repeat (first | apply Kd.R_alloc | apply Kd.R_drewN | apply Kd.R_drew)); exact Kd.R_mono (Kd.R_far (p := ⟨gb668, 0, none⟩) (Kd.R_types HO684.out BK668.out (by decide)) (fun _ hk => hk.2) (.slice Ao31 y682.length co31)) (fun _ hk => trivial)⟩, ⟨by (with_reducible repeat (first | refine blk_drewN ?_ _ | refine blk_drew ?_ | refine blk_alloc ?_ _)); refine blk_far ?_ NB661_668.out _; (with_reducible repeat (first | refine blk_drewN ?_ _ | refine blk_drew ?_ | refine blk_alloc ?_ _)); exact BK661.out⟩, ⟨by (with_reducible repeat (first | refine blk_drewN ?_ _ | refine blk_drew ?_ | refine blk_alloc ?_ _)); refine blk_put (cs := #[u669000]) ?_ 0 _ rfl; (with_reducible repeat (first | refine blk_drewN ?_ _ | refine blk_drew ?_ | refine blk_alloc ?_ _)); exact BK668.out⟩, ⟨Y31⟩, ⟨Y45⟩, ⟨Y56⟩⟩
      ·rw [if_neg c22] at H
       exact absurd H (by simp)
     ·rw [if_neg c19] at H
      exact absurd H (by simp)
    ·rw [if_neg c18] at H
     exact absurd H (by simp)
   ·rw [if_neg c17] at H
    have c17b0 : decide (x6_1 < t672) = false := decide_eq_false c17
    clear c17
    simp only [Option.some.injEq, Prod.mk.injEq] at H
    obtain ⟨rfl, rfl⟩ := H
    have hnb33 := NB668_661.out
    have hnc33 := NB661_668.out
    have hnb34 := NB668_0.out
    have hnc34 := NB0_668.out
    have hcz35_0 := bc0 BK668.out
    have hfz35_0 := blk_frozen BK668.out 0
    obtain ⟨Ao36, co36, eo36⟩ := Kd.R_slice HO_669000.out
    subst eo36
    have hnb37 := NB661_0.out
    have hnc37 := NB0_661.out
    have hcz38_0 := bc0 BK661.out
    have hfz38_0 := blk_frozen BK661.out 0
    go_wp2
    refine bodyPost_ret (results_cell_row rfl _ _ gb661 32 #[.slice Ao36 x669000_1.length co36] (0, 0) _ rfl (by (with_reducible repeat (first | refine blk_drewN ?_ _ | refine blk_drew ?_ | refine blk_alloc ?_ _)); refine blk_put (cs := #[.slice none 0 0]) ?_ 0 _ rfl; (with_reducible repeat (first | refine blk_drewN ?_ _ | refine blk_drew ?_ | refine blk_alloc ?_ _)); exact BK661.out) Try.underlying32 rfl (by kernel_rfl)) rfl ?_
    exact ⟨_, Y0, by (with_reducible repeat (first | apply Kd.R_alloc | apply Kd.R_drewN | apply Kd.R_drew)); exact Kd.R_mono (Kd.R_far (p := ⟨gb661, 0, none⟩) (Kd.R_types HO_669000.out BK661.out (by decide)) (fun _ hk => hk.2) (.slice Ao36 x669000_1.length co36)) (fun _ hk => trivial), Y31, Y56, Y45⟩
def spec_reader_of.f (k : Nat) (s0_0 : List Int) (s0_1 : Int) (l1 : List ByteArray) : Option (ByteArray × Int) := (spec_reader_pick.f k s0_0 s0_1 (l1.length : Int)).bind fun bt685 => (if 0 ≤ bt685.1 then (if bt685.1 < (l1.length : Int) then (some (rdOf ByteArray.empty l1 bt685.1, bt685.2)) else (none)) else (none))
set_option maxHeartbeats 8000000 in
set_option maxRecDepth 100000 in
theorem spec_reader_of.calls (k : Nat) (g : Nat) (s0_0 : List Int) (s0_1 : Int) (A1 : Option Addr) (c1 : Nat) (l1 : List ByteArray) (r1 : ByteArray) (r2 : Int) (w0 w : World) (hI : IsS97 w0 w g s0_0 s0_1) (hB : Below w0.heap.size w0 w) (hr1 : Kd.C Kd.string w A1 l1.length l1) (hc1 : l1.length ≤ c1) (hf1 : ∀ ad, A1 = some ad → 0 < l1.length → ad.block ≠ g) (h : spec_reader_of.f k s0_0 s0_1 l1 = some (r1, r2)) :
  Calls Try.prog 116 #[.pointer (some ⟨g, 0, none⟩), .slice A1 l1.length c1] w fun e w' => e = .returned (.string r1) ∧ IsS97 w0 w' g s0_0 r2 ∧ Below w0.heap.size w0 w' ∧ KeepBut w w' g none := by
 have HR1 := am hr1
 have HC1 := am hc1
 clear hr1 hc1
 have HI0 := am hI
 have HK := am (KeepBut.refl w g none)
 have HL := am hB.size
 clear hI
 have HW0 := am hB.size
 have HB := am hB
 clear hB
 have H : ((spec_reader_pick.f k s0_0 s0_1 (l1.length : Int)).bind fun bt685 => (if 0 ≤ bt685.1 then (if bt685.1 < (l1.length : Int) then (some (rdOf ByteArray.empty l1 bt685.1, bt685.2)) else (none)) else (none))) = some (r1, r2) := h
 clear h
 replace H := Option.bind_eq_some_iff.mp H
 obtain ⟨⟨t685, t686⟩, A30, H⟩ := H
 replace H : (if 0 ≤ t685 then (if t685 < (l1.length : Int) then (some (rdOf ByteArray.empty l1 t685, t686)) else (none)) else (none)) = some (r1, r2) := H
 have A3 := am A30
 clear A30
 by_cases c4 : 0 ≤ t685
 ·rw [if_pos c4] at H
  have c4b0 : decide (0 ≤ t685) = true := decide_eq_true c4
  clear c4
  by_cases c5 : t685 < (l1.length : Int)
  ·rw [if_pos c5] at H
   have c5b0 : decide (t685 < (l1.length : Int)) = true := decide_eq_true c5
   clear c5
   simp only [Option.some.injEq, Prod.mk.injEq] at H
   obtain ⟨rfl, rfl⟩ := H
   go_enter Try.func116, Try.ntmps116
   go_wp2_with (first | ((with_reducible refine gate_callee (f := 71) rfl ?_); refine gL (some 9) Try.func71 #[.pointer (some ⟨g, 0, none⟩), .int .i64 (l1.length : Int)] ?_; (with_reducible refine (spec_reader_pick.calls k g s0_0 s0_1 (l1.length : Int) t685 t686 w0 _ ?side1 ?side2 A3.out).mono ?_); (case side1 => exact Y17); (case side2 => exact Y19); rintro e w6 ⟨rfl, hi, hb, hk⟩; refine ⟨_, rfl, ?_⟩; replace HK := am (KeepBut.trans (Y18) hk (.inl rfl)); replace HB := am (hb); replace HI0 := am (hi); (try clear hb); (try clear hb2); (try clear hk); (try clear hi); have p687 : 0 ≤ (t685 : Int) := of_decide_eq_true (uq); have q687 : t685 < (l1.length : Int) := of_decide_eq_true (uq); obtain ⟨ad687, e687, hx687_0⟩ := Kd.at_string HR1.out t685 p687 q687; cases e687; replace hx687_0 := keep_cell HK.out hx687_0 (by first | (rw [add_block]; exact hf1 _ rfl (by omega)) | exact hf1 _ rfl (by omega) | exact hf1 ad687 rfl (by omega)); replace p687 := eq_true p687; replace q687 := eq_true q687))
   go_ret
   exact ⟨Y0, Y17, Y19, Y18⟩
  ·rw [if_neg c5] at H
   exact absurd H (by simp)
 ·rw [if_neg c4] at H
  exact absurd H (by simp)
def spec_someTree.f (k : Nat) (s0_0 : List Int) (s0_1 : Int) : Option ((List (S87)) × Int) := (spec_goodTree.f k s0_0 s0_1).bind fun bt689 => ((spec_reader_pick.f k s0_0 bt689.2 (bt689.1.length : Int)).bind fun bt694 => ((spec_reader_pick.f k s0_0 bt694.2 24).bind fun bt696 => (if bt696.1 = 0 then ((spec_reader_of.f k s0_0 bt696.2 (([(⟨#[]⟩ : ByteArray), (⟨#[97, 110, 121]⟩ : ByteArray), (⟨#[65]⟩ : ByteArray), (⟨#[116, 111, 111, 108, 111, 110, 103]⟩ : ByteArray)] : List ByteArray))).bind fun bt701 => (if 0 ≤ bt694.1 then (if bt694.1 < (bt689.1.length : Int) then (some ((bt689.1.set (bt694.1 : Int).toNat (⟨bt701.1, (rd_T87 bt689.1 bt694.1).f1⟩ : S87)), bt701.2)) else (none)) else (none))) else (if bt696.1 = 1 then ((spec_reader_one.f k s0_0 bt696.2 (([bt694.1, (-1), 8, (-2)] : List Int))).bind fun bt707 => (if 0 ≤ bt694.1 then (if bt694.1 < (bt689.1.length : Int) then (some ((bt689.1.set (bt694.1 : Int).toNat (⟨(rd_T87 bt689.1 bt694.1).f0, bt707.1⟩ : S87)), bt707.2)) else (none)) else (none))) else (if bt696.1 = 2 then (some (([] : List (S87)), bt696.2)) else (some (bt689.1, bt696.2)))))))
def spec_someTree.T5 : Bool × List (List Nat × List Nat) := (true, [([], []), ([0], [0]), ([], []), ([], []), ([], []), ([3, 4], [3, 4]), ([1, 2, 0, 1, 2, 3, 4, 5], [1, 2]), ([6, 0, 1, 2, 3, 4, 5], [6]), ([7, 5, 5, 0, 1, 2, 3, 4, 5], [5, 7])])
def spec_someTree.B5 : List Nat := [0, 1, 0, 0, 0, 24, 63, 127, 255]
theorem spec_someTree.tab5 : rtab .any (opsOf Try.f110 5) = spec_someTree.T5 := by kernel_rfl
theorem spec_someTree.bits5 : waitsOk spec_someTree.T5.2 spec_someTree.B5 = true := by kernel_rfl
def spec_someTree.T7 : Bool × List (List Nat × List Nat) := (true, [([], []), ([0], [0]), ([], []), ([], []), ([], []), ([4], [4]), ([3, 5], [3, 5]), ([1, 2, 0, 1, 2, 3, 4, 5, 6], [1, 2]), ([7, 0, 1, 2, 3, 4, 5, 6], [7]), ([8, 6, 6, 0, 1, 2, 3, 4, 5, 6], [6, 8])])
def spec_someTree.B7 : List Nat := [0, 1, 0, 0, 0, 16, 56, 127, 255, 511]
theorem spec_someTree.tab7 : rtab .any (opsOf Try.f110 7) = spec_someTree.T7 := by kernel_rfl
theorem spec_someTree.bits7 : waitsOk spec_someTree.T7.2 spec_someTree.B7 = true := by kernel_rfl
set_option maxHeartbeats 8000000 in
set_option maxRecDepth 100000 in
theorem spec_someTree.calls (k : Nat) (g : Nat) (s0_0 : List Int) (s0_1 : Int) (r1 : List (S87)) (r2 : Int) (w0 w : World) (hI : IsS97 w0 w g s0_0 s0_1) (hB : Below w0.heap.size w0 w) (h : spec_someTree.f k s0_0 s0_1 = some (r1, r2)) :
  Calls Try.prog 110 #[.pointer (some ⟨g, 0, none⟩)] w fun e w' => ∃ v0_ : Value, e = .returned (.agg #[v0_]) ∧ Kd.R k87 87 w' w.heap.size (fun _ => True) v0_ r1 ∧ IsS97 w0 w' g s0_0 r2 ∧ Below w0.heap.size w0 w' ∧ KeepBut w w' g none := by
 have hu32 := Try.underlying32
 have HI0 := am hI
 have HK := am (KeepBut.refl w g none)
 have HL := am hB.size
 clear hI
 have HW0 := am hB.size
 have HB := am hB
 clear hB
 have H : ((spec_goodTree.f k s0_0 s0_1).bind fun bt689 => ((spec_reader_pick.f k s0_0 bt689.2 (bt689.1.length : Int)).bind fun bt694 => ((spec_reader_pick.f k s0_0 bt694.2 24).bind fun bt696 => (if bt696.1 = 0 then ((spec_reader_of.f k s0_0 bt696.2 (([(⟨#[]⟩ : ByteArray), (⟨#[97, 110, 121]⟩ : ByteArray), (⟨#[65]⟩ : ByteArray), (⟨#[116, 111, 111, 108, 111, 110, 103]⟩ : ByteArray)] : List ByteArray))).bind fun bt701 => (if 0 ≤ bt694.1 then (if bt694.1 < (bt689.1.length : Int) then (some ((bt689.1.set (bt694.1 : Int).toNat (⟨bt701.1, (rd_T87 bt689.1 bt694.1).f1⟩ : S87)), bt701.2)) else (none)) else (none))) else (if bt696.1 = 1 then ((spec_reader_one.f k s0_0 bt696.2 (([bt694.1, (-1), 8, (-2)] : List Int))).bind fun bt707 => (if 0 ≤ bt694.1 then (if bt694.1 < (bt689.1.length : Int) then (some ((bt689.1.set (bt694.1 : Int).toNat (⟨(rd_T87 bt689.1 bt694.1).f0, bt707.1⟩ : S87)), bt707.2)) else (none)) else (none))) else (if bt696.1 = 2 then (some (([] : List (S87)), bt696.2)) else (some (bt689.1, bt696.2)))))))) = some (r1, r2) := h
 clear h
 replace H := Option.bind_eq_some_iff.mp H
 obtain ⟨⟨t689, t692⟩, A20, H⟩ := H
 replace H : ((spec_reader_pick.f k s0_0 t692 (t689.length : Int)).bind fun bt694 => ((spec_reader_pick.f k s0_0 bt694.2 24).bind fun bt696 => (if bt696.1 = 0 then ((spec_reader_of.f k s0_0 bt696.2 (([(⟨#[]⟩ : ByteArray), (⟨#[97, 110, 121]⟩ : ByteArray), (⟨#[65]⟩ : ByteArray), (⟨#[116, 111, 111, 108, 111, 110, 103]⟩ : ByteArray)] : List ByteArray))).bind fun bt701 => (if 0 ≤ bt694.1 then (if bt694.1 < (t689.length : Int) then (some ((t689.set (bt694.1 : Int).toNat (⟨bt701.1, (rd_T87 t689 bt694.1).f1⟩ : S87)), bt701.2)) else (none)) else (none))) else (if bt696.1 = 1 then ((spec_reader_one.f k s0_0 bt696.2 (([bt694.1, (-1), 8, (-2)] : List Int))).bind fun bt707 => (if 0 ≤ bt694.1 then (if bt694.1 < (t689.length : Int) then (some ((t689.set (bt694.1 : Int).toNat (⟨(rd_T87 t689 bt694.1).f0, bt707.1⟩ : S87)), bt707.2)) else (none)) else (none))) else (if bt696.1 = 2 then (some (([] : List (S87)), bt696.2)) else (some (t689, bt696.2))))))) = some (r1, r2) := H
 have A2 := am A20
 clear A20
 replace H := Option.bind_eq_some_iff.mp H
 obtain ⟨⟨t694, t695⟩, A30, H⟩ := H
 replace H : ((spec_reader_pick.f k s0_0 t695 24).bind fun bt696 => (if bt696.1 = 0 then ((spec_reader_of.f k s0_0 bt696.2 (([(⟨#[]⟩ : ByteArray), (⟨#[97, 110, 121]⟩ : ByteArray), (⟨#[65]⟩ : ByteArray), (⟨#[116, 111, 111, 108, 111, 110, 103]⟩ : ByteArray)] : List ByteArray))).bind fun bt701 => (if 0 ≤ t694 then (if t694 < (t689.length : Int) then (some ((t689.set (t694 : Int).toNat (⟨bt701.1, (rd_T87 t689 t694).f1⟩ : S87)), bt701.2)) else (none)) else (none))) else (if bt696.1 = 1 then ((spec_reader_one.f k s0_0 bt696.2 (([t694, (-1), 8, (-2)] : List Int))).bind fun bt707 => (if 0 ≤ t694 then (if t694 < (t689.length : Int) then (some ((t689.set (t694 : Int).toNat (⟨(rd_T87 t689 t694).f0, bt707.1⟩ : S87)), bt707.2)) else (none)) else (none))) else (if bt696.1 = 2 then (some (([] : List (S87)), bt696.2)) else (some (t689, bt696.2)))))) = some (r1, r2) := H
 have A3 := am A30
 clear A30
 replace H := Option.bind_eq_some_iff.mp H
 obtain ⟨⟨t696, t697⟩, A40, H⟩ := H
 replace H : (if t696 = 0 then ((spec_reader_of.f k s0_0 t697 (([(⟨#[]⟩ : ByteArray), (⟨#[97, 110, 121]⟩ : ByteArray), (⟨#[65]⟩ : ByteArray), (⟨#[116, 111, 111, 108, 111, 110, 103]⟩ : ByteArray)] : List ByteArray))).bind fun bt701 => (if 0 ≤ t694 then (if t694 < (t689.length : Int) then (some ((t689.set (t694 : Int).toNat (⟨bt701.1, (rd_T87 t689 t694).f1⟩ : S87)), bt701.2)) else (none)) else (none))) else (if t696 = 1 then ((spec_reader_one.f k s0_0 t697 (([t694, (-1), 8, (-2)] : List Int))).bind fun bt707 => (if 0 ≤ t694 then (if t694 < (t689.length : Int) then (some ((t689.set (t694 : Int).toNat (⟨(rd_T87 t689 t694).f0, bt707.1⟩ : S87)), bt707.2)) else (none)) else (none))) else (if t696 = 2 then (some (([] : List (S87)), t697)) else (some (t689, t697))))) = some (r1, r2) := H
 have A4 := am A40
 clear A40
 by_cases c5 : t696 = 0
 ·rw [if_pos c5] at H
  have c5b0 : (t696 == 0) = true := beq_iff_eq.mpr c5
  have c5b1 : (t696 != 0) = false := bne_eq_false_iff_eq.mpr c5
  clear c5
  obtain ⟨y698, hy698⟩ : ∃ y_ : List ByteArray, y_ = (([(⟨#[]⟩ : ByteArray), (⟨#[97, 110, 121]⟩ : ByteArray), (⟨#[65]⟩ : ByteArray), (⟨#[116, 111, 111, 108, 111, 110, 103]⟩ : ByteArray)] : List ByteArray)) := ⟨_, rfl⟩
  replace H : ((spec_reader_of.f k s0_0 t697 y698).bind fun bt701 => (if 0 ≤ t694 then (if t694 < (t689.length : Int) then (some ((t689.set (t694 : Int).toNat (⟨bt701.1, (rd_T87 t689 t694).f1⟩ : S87)), bt701.2)) else (none)) else (none))) = some (r1, r2) := by first | (rw [hy698]; with_reducible exact H) | (have H2_ := (Option.bind_some _ _).symm.trans H; rw [hy698]; with_reducible exact H2_) | (have H2_ := (Option.bind_some _ _).symm.trans H; with_reducible exact H2_) | with_reducible exact H | (rw [hy698]; exact H) | exact H
  have Ny698 := am hy698
  clear hy698
  replace H := Option.bind_eq_some_iff.mp H
  obtain ⟨⟨t701, t702⟩, A60, H⟩ := H
  replace H : (if 0 ≤ t694 then (if t694 < (t689.length : Int) then (some ((t689.set (t694 : Int).toNat (⟨t701, (rd_T87 t689 t694).f1⟩ : S87)), t702)) else (none)) else (none)) = some (r1, r2) := H
  have A6 := am A60
  clear A60
  by_cases c7 : 0 ≤ t694
  ·rw [if_pos c7] at H
   have c7b0 : decide (0 ≤ t694) = true := decide_eq_true c7
   clear c7
   by_cases c8 : t694 < (t689.length : Int)
   ·rw [if_pos c8] at H
    have c8b0 : decide (t694 < (t689.length : Int)) = true := decide_eq_true c8
    clear c8
    obtain ⟨y703, hy703⟩ : ∃ y_ : List (S87), y_ = (t689.set (t694 : Int).toNat (⟨t701, (rd_T87 t689 t694).f1⟩ : S87)) := ⟨_, rfl⟩
    replace H : (some (y703, t702)) = some (r1, r2) := by first | (rw [hy703]; with_reducible exact H) | (have H2_ := (Option.bind_some _ _).symm.trans H; rw [hy703]; with_reducible exact H2_) | (have H2_ := (Option.bind_some _ _).symm.trans H; with_reducible exact H2_) | with_reducible exact H | (rw [hy703]; exact H) | exact H
    have Ny703 := am hy703
    clear hy703
    simp only [Option.some.injEq, Prod.mk.injEq] at H
    obtain ⟨rfl, rfl⟩ := H
    go_enter Try.func110, Try.ntmps110
    try go_wp2_with (first | ((with_reducible refine gate_dst (N := 2) rfl ?_); refine bE (N := 2) (cs := #[.slice none 0 0]) (t := 32) ?_; intro gb688 hg w10 hbox hb; have BK688 := am (hbox); have GW688 := am ((Y13 : w.heap.size ≤ gb688)); have GE688 := am ((Nat.le_trans HW0.out (Y13 : w.heap.size ≤ gb688) : w0.heap.size ≤ gb688)); have NB0_688 := am ((Y29 : g ≠ gb688)); have NB688_0 := am ((Y30 : gb688 ≠ g)); replace HK := am (KeepBut.trans (Y18) (KeepBut.of_below hb g none) (.inl rfl)); replace HB := am (below_step (Y19) hb); replace HI0 := am (IsS97.below (Y17) hb); clear hb hbox hg) | ((with_reducible refine gate_callee (f := 115) rfl ?_); refine gL (some 6) Try.func115 #[.pointer (some ⟨g, 0, none⟩)] ?_; (with_reducible refine (spec_goodTree.calls k g s0_0 s0_1 t689 t692 w0 _ ?side1 ?side2 A2.out).mono ?_); (case side1 => exact Y60); (case side2 => exact Y61); rintro e w11 ⟨v690, rfl, ho0, hi, hb, hk⟩; refine ⟨_, rfl, ?_⟩; have HO691 := am (Kd.R_lower ho0 (keep_size (w := w) (g := g) (row := none) (Y46))); replace BK688 := am (KeepBut.blk hk (g' := gb688) (o := .cells #[.slice none 0 0] 32 (0, 0)) (kq BK688.out) NB688_0.out (by simp)); replace HK := am (KeepBut.trans (Y46) hk (.inl rfl)); replace HB := am (hb); replace HI0 := am (hi); (try clear hb); (try clear hb2); (try clear hk); (try clear hi); (try clear ho0)) | ((with_reducible refine gate_dst (N := 3) rfl ?_); refine bE (N := 3) (cs := #[.slice none 0 0]) (t := 32) ?_; intro gb693 hg w12 hbox hb; have BK693 := am (hbox); have GW693 := am ((Y62 : w.heap.size ≤ gb693)); have GE693 := am ((Nat.le_trans HW0.out (Y62 : w.heap.size ≤ gb693) : w0.heap.size ≤ gb693)); have NB688_693 := am ((Y98 : gb688 ≠ gb693)); have NB693_688 := am ((Y99 : gb693 ≠ gb688)); have NB0_693 := am ((Y100 : g ≠ gb693)); have NB693_0 := am ((Y101 : gb693 ≠ g)); replace HO691 := am (Kd.R_below (rq HO691.out) hb); replace BK688 := am (blk_below (g := gb688) (o := .cells #[.slice none 0 0] 32 (0, 0)) (kq BK688.out) hb); replace HK := am (KeepBut.trans (Y46) (KeepBut.of_below hb g none) (.inl rfl)); replace HB := am (below_step (Y61) hb); replace HI0 := am (IsS97.below (Y60) hb); clear hb hbox hg; obtain ⟨Ao13, co13, eo13⟩ := Kd.R_slice HO691.out; subst eo13; have hnb14 := NB693_688.out; have hnc14 := NB688_693.out; have hnb15 := NB693_0.out; have hnc15 := NB0_693.out; have hcz16_0 := bc0 BK693.out; have hfz16_0 := blk_frozen BK693.out 0) | ((with_reducible refine gate_callee (f := 71) rfl ?_); refine gL (some 11) Try.func71 #[.pointer (some ⟨g, 0, none⟩), .int .i64 (t689.length : Int)] ?_; (with_reducible refine (spec_reader_pick.calls k g s0_0 t692 (t689.length : Int) t694 t695 w0 _ ?side1 ?side2 A3.out).mono ?_); (case side1 => exact Y15); (case side2 => exact Y32); rintro e w17 ⟨rfl, hi, hb, hk⟩; refine ⟨_, rfl, ?_⟩; replace BK688 := am (KeepBut.blk hk (g' := gb688) (o := .cells #[.slice none 0 0] 32 (0, 0)) (Y102) NB688_0.out (by simp)); replace HO691 := am (Kd.R_mono (Kd.R_keep (IsS97.apart (show IsS97 w0 _ g s0_0 t692 from Y15) (by (with_reducible repeat (first | apply Kd.R_alloc | apply Kd.R_drewN | apply Kd.R_drew)); exact (Kd.R_mono (Kd.R_far (p := ⟨gb693, 0, none⟩) (Kd.R_types HO691.out BK693.out (by decide)) (fun _ hk => hk.2) (.slice Ao13 t689.length co13)) (fun _ h_ => h_.1))) (by decide)) hk (fun _ h => h.2)) (fun _ h => h.1)); replace BK693 := am (KeepBut.blk hk (g' := gb693) (o := .cells #[.slice Ao13 t689.length co13] 32 (0, 0)) (Y103) NB693_0.out (by simp)); replace HK := am (KeepBut.trans (Y27) hk (.inl rfl)); replace HB := am (hb); replace HI0 := am (hi); (try clear hb); (try clear hb2); (try clear hk); (try clear hi)) | ((with_reducible refine gate_callee (f := 71) rfl ?_); refine gL (some 13) Try.func71 #[.pointer (some ⟨g, 0, none⟩), .int .i64 24] ?_; (with_reducible refine (spec_reader_pick.calls k g s0_0 t695 24 t696 t697 w0 _ ?side1 ?side2 A4.out).mono ?_); (case side1 => exact Y15); (case side2 => exact Y32); rintro e w18 ⟨rfl, hi, hb, hk⟩; refine ⟨_, rfl, ?_⟩; replace BK688 := am (KeepBut.blk hk (g' := gb688) (o := .cells #[.slice none 0 0] 32 (0, 0)) (kq BK688.out) NB688_0.out (by simp)); replace HO691 := am (Kd.R_mono (Kd.R_keep (IsS97.apart (show IsS97 w0 _ g s0_0 t695 from Y15) (rq HO691.out) (by decide)) hk (fun _ h => h.2)) (fun _ h => h.1)); replace BK693 := am (KeepBut.blk hk (g' := gb693) (o := .cells #[.slice Ao13 t689.length co13] 32 (0, 0)) (kq BK693.out) NB693_0.out (by simp)); replace HK := am (KeepBut.trans (Y27) hk (.inl rfl)); replace HB := am (hb); replace HI0 := am (hi); (try clear hb); (try clear hb2); (try clear hk); (try clear hi)))
    replace HO691 := am (Kd.R_drew HO691.out)
    replace BK688 := am (blk_drew BK688.out)
    replace BK693 := am (blk_drew BK693.out)
    replace HI0 := am (IsS97.drew HI0.out)
    replace HK := am (keep_drew HK.out)
    replace HB := am (below_drew1 HB.out)
    refine start_ (n := 9) (S := fun w' => w'.cell? ⟨gb693, 0, none⟩ = some (.slice Ao13 t689.length co13)) (ds := [8]) #[false, false, false, false, false, false, false, false, false] (by kernel_rfl) rfl rfl ((blk_cell BK693.out 0).trans rfl) (fun hHeld => ?_); refine with_tabW spec_someTree.tab5 spec_someTree.bits5 (fun HT_ HW_ => ?_)
    generalize w18.drew = w19 at HO691 BK688 BK693 HI0 HK HB hHeld ⊢
    refine pq (i := 0) (N := some 16) #[true, false, false, false, false, false, false, false, false] ?_
    refine pq (i := 2) (N := some 18) #[true, false, true, false, false, false, false, false, false] ?_
    refine pq (i := 3) (N := some 19) #[true, false, true, true, false, false, false, false, false] ?_
    refine take_ (i := 1) (N := some 17) (v := ?_) (a' := ?_) #[true, true, true, true, false, false, false, false, false] rfl rfl (take_ofW HT_.out HW_.out (by kernel_rfl)) (fun _ _ _ h => h) (Or.inl ⟨by rfl, ?_⟩) hHeld ?_ ?_
    rotate_left
    ·intro w' s0
     go_simp
     with_reducible rfl
    rotate_left
    ·exact sa
    refine one_ (i := 4) (N := some 20) #[true, true, true, true, true, false, false, false, false] rfl rfl (one_of HT_.out (by kernel_rfl)) (by decide) (fun K hK => ?_)
    refine Kd.R_lit_step Kd.string _ 9 ?hg (N := 20) ?hd (xs := ([(⟨#[]⟩ : ByteArray), (⟨#[97, 110, 121]⟩ : ByteArray), (⟨#[65]⟩ : ByteArray), (⟨#[116, 111, 111, 108, 111, 110, 103]⟩ : ByteArray)] : List ByteArray)) (inner := [.string (⟨#[]⟩ : ByteArray), .string (⟨#[97, 110, 121]⟩ : ByteArray), .string (⟨#[65]⟩ : ByteArray), .string (⟨#[116, 111, 111, 108, 111, 110, 103]⟩ : ByteArray)]) (ok := fun _ => True) (okp := fun _ => True) ?hr ?hp (fun _ hk => hk) trivial (Below.refl _ _) (Nat.le_refl _) (by simp) ?_; (case hd => rfl); (case hg => rfl); (case hr => exact Y5); (case hp => exact (Reps.one (show Kd.M Kd.string _ _ _ (⟨#[]⟩ : ByteArray) [.string (⟨#[]⟩ : ByteArray)] from rfl) (Reps.one (show Kd.M Kd.string _ _ _ (⟨#[97, 110, 121]⟩ : ByteArray) [.string (⟨#[97, 110, 121]⟩ : ByteArray)] from rfl) (Reps.one (show Kd.M Kd.string _ _ _ (⟨#[65]⟩ : ByteArray) [.string (⟨#[65]⟩ : ByteArray)] from rfl) (Reps.one (show Kd.M Kd.string _ _ _ (⟨#[116, 111, 111, 108, 111, 110, 103]⟩ : ByteArray) [.string (⟨#[116, 111, 111, 108, 111, 110, 103]⟩ : ByteArray)] from rfl) (Reps.none _ _))))))
    intro v699 w20 ho21 hb hg_ hnew_
    clear hg_ hnew_
    (first | rw [← Ny698.out] at ho21 | (simp only [Int.reduceToNat] at ho21; rw [← Ny698.out] at ho21))
    have HO700 := am (Kd.R_lower ho21 (keep_size (w := w) (g := g) (row := none) (Y27)))
    replace HO691 := am (Kd.R_below (rq HO691.out) hb)
    replace BK688 := am (blk_below (g := gb688) (o := .cells #[.slice none 0 0] 32 (0, 0)) (kq BK688.out) hb)
    replace BK693 := am (blk_below (g := gb693) (o := .cells #[.slice Ao13 t689.length co13] 32 (0, 0)) (kq BK693.out) hb)
    replace HK := am (KeepBut.trans (Y27) (KeepBut.of_below hb g none) (.inl rfl))
    replace HB := am (below_step (Y32) hb)
    replace HI0 := am (IsS97.below (Y15) hb)
    clear hb ho21
    obtain ⟨Ao22, co22, eo22⟩ := Kd.R_slice HO700.out
    (first | subst eo22 | (injection eo22 with f1_ f2_ f3_; have f4_ := f1_.symm; have f5_ := f3_.symm; clear f1_ f2_ f3_; subst f4_; subst f5_))
    refine hK.out _ _ ((blk_cell BK693.out 0).trans rfl) (fun hHeld => ?_)
    clear hK K
    refine norm_ (a' := ?_) ?_ ?_
    rotate_left
    ·show Act.put _ (some 20) _ = _
     simp only [Act.put, List.setIfInBounds_toArray, List.set_cons_zero, List.set_cons_succ, i64_w, i32_w]
     rfl
    refine one_ (i := 5) (N := some 21) #[true, true, true, true, true, true, false, false, false] rfl rfl (one_of HT_.out (by kernel_rfl)) (by decide) (fun K hK => ?_)
    refine goes_ Try.func116 (by kernel_rfl) rfl #[.pointer (some ⟨g, 0, none⟩), .slice Ao22 y698.length co22] (by rfl) rfl rfl (aq) ?_
    with_reducible refine (spec_reader_of.calls k g s0_0 t697 _ _ y698 t701 t702 w0 _ ?side1 ?side2 ?side3 ?side4 ?side5 A6.out).mono ?_
    (case side1 => exact Y15)
    (case side2 => exact Y32)
    (case side3 => exact cq (Kd.R_reads' HO700.out).2.2)
    (case side4 => exact (Kd.R_reads' HO700.out).2.1)
    (case side5 => exact far_slice (IsS97.own_ne HI0.out HO700.out (by decide)))
    rintro e w23 ⟨rfl, hi, hb, hk⟩
    refine ⟨_, rfl, ?_⟩
    replace BK688 := am (KeepBut.blk hk (g' := gb688) (o := .cells #[.slice none 0 0] 32 (0, 0)) (kq BK688.out) NB688_0.out (by simp))
    replace HO691 := am (Kd.R_mono (Kd.R_keep (IsS97.apart (show IsS97 w0 _ g s0_0 t697 from Y15) (rq HO691.out) (by decide)) hk (fun _ h => h.2)) (fun _ h => h.1))
    replace BK693 := am (KeepBut.blk hk (g' := gb693) (o := .cells #[.slice Ao13 t689.length co13] 32 (0, 0)) (kq BK693.out) NB693_0.out (by simp))
    replace HO700 := am (Kd.R_mono (Kd.R_keep (IsS97.apart (show IsS97 w0 _ g s0_0 t697 from Y15) (rq HO700.out) (by decide)) hk (fun _ h => h.2)) (fun _ h => h.1))
    replace HK := am (KeepBut.trans (Y27) hk (.inl rfl))
    replace HB := am (hb)
    replace HI0 := am (hi)
    (try clear hb)
    (try clear hb2)
    (try clear hk)
    (try clear hi)
    have p9 : 0 ≤ (t694 : Int) := of_decide_eq_true (uq)
    have q9 : (t694 : Int) < ((t689.length : Int) : Int) := of_decide_eq_true (uq)
    obtain ⟨go9, co9, eo9, gb9, gl9, cl9, HG9⟩ := Kd.R_form HO691.out (by omega)
    (first | cases eo9 | (injection eo9 with ea_ en_ ec_; (first | subst ea_ | (injection ea_ with ea_; subst ea_)); subst ec_; clear en_))
    have GB9 := am gb9
    have GG9 := am HG9
    clear gb9 gl9 HG9
    obtain ⟨ce9, hcl9, hM9, hcc9, hfr9⟩ := Kd.R_elem HO691.out z87 (t694 : Int) p9 q9
    obtain rfl := k87_openM hM9
    have hx9_0 : World.cell? _ ⟨go9, (t694 : Int).toNat * 2, none⟩ = some (.string ((rd_T87 t689 t694).f0)) := hcc9 0 _ rfl
    have hx9_1 : World.cell? _ ⟨go9, (t694 : Int).toNat * 2 + 1, none⟩ = some (.int .i64 ((rd_T87 t689 t694).f1)) := hcc9 1 _ rfl
    have hf9_0 : World.frozen? _ ⟨go9, (t694 : Int).toNat * 2, none⟩ = false := hfr9 0
    have hf9_1 : World.frozen? _ ⟨go9, (t694 : Int).toNat * 2 + 1, none⟩ = false := hfr9 1
    clear hcl9 hcc9 hfr9 hM9
    replace p9 := eq_true p9
    replace q9 := eq_true q9
    have HN0_go9 := am (show g ≠ go9 from by have h_ := IsS97.own_ne HI0.out HO691.out (by decide); intro e_; exact h_ (by rw [e_]; rfl))
    obtain ⟨ce24, hcl24, hM24, hcc24, hfr24⟩ := Kd.R_elem HO691.out z87 (t694 : Int) (of_decide_eq_true (uq)) (by have h_ : (t694 : Int) < ((t689.length : Int) : Int) := of_decide_eq_true (uq); first | exact h_ | (have e_ := (Kd.R_reads' HO691.out).1; omega) | simpa using h_)
    obtain rfl := k87_openM hM24
    have HP24 := (Kd.R_seg HO691.out (t694 : Int) (of_decide_eq_true (uq)) (by have h_ : (t694 : Int) < ((t689.length : Int) : Int) := of_decide_eq_true (uq); first | exact h_ | (have e_ := (Kd.R_reads' HO691.out).1; omega) | simpa using h_) (seg := [.string t701]) (j := 0) hcl24 hcc24 (show 1 ≤ 2 from by decide) (x' := (⟨t701, (rd_T87 t689 t694).f1⟩ : S87)) (k87_mkM _ _ _ (⟨t701, (rd_T87 t689 t694).f1⟩ : S87) ) (fun _ hk => hk)).1
    rw [← Ny703.out] at HP24
    have HQ24 := am HP24
    clear hcl24 hcc24 hfr24 hM24 HP24
    refine hK.out _ _ ((blk_cell BK693.out 0).trans rfl) (fun hHeld => ?_)
    clear hK K
    refine norm_ (a' := ?_) ?_ ?_
    rotate_left
    ·show Act.put _ (some 21) _ = _
     simp only [Act.put, List.setIfInBounds_toArray, List.set_cons_zero, List.set_cons_succ, i64_w, i32_w]
     rfl
    refine pq (i := 6) (N := some 22) #[true, true, true, true, true, true, true, false, false] ?_
    refine pq (i := 7) (N := some 23) #[true, true, true, true, true, true, true, true, false] ?_
    refine last_ (i := 8) (N := none) #[true, true, true, true, true, true, true, true, true] rfl rfl (one_of HT_.out (by kernel_rfl)) (by decide) (fun K hK => ?_)
    refine skip_ (w1 := ?_) (by rfl) rfl ?_ ?_
    rotate_left
    ·go_simp
     rfl
    refine hK.out _ _ ?_
    clear hK K
    refine done_ (done_of HT_.out (by kernel_rfl)) ?_
    have n0_ : Aside0 (Kd.R k87 87 (w23.setCell ⟨go9, (t694 : Int).toNat * 2, none⟩ (.string t701)) w.heap.size (fun _ => True) (.slice (some ⟨go9, 0, none⟩) t689.length co13) y703) := ⟨rq HQ24.out⟩
    have n1_ : Aside0 (Kd.R Kd.string 9 (w23.setCell ⟨go9, (t694 : Int).toNat * 2, none⟩ (.string t701)) w.heap.size (fun _ => True) (.slice Ao22 y698.length co22) y698) := ⟨by (with_reducible repeat (first | apply Kd.R_alloc | apply Kd.R_drewN | apply Kd.R_drew)); exact Kd.R_mono (Kd.R_far (p := ⟨go9, (t694 : Int).toNat * 2, none⟩) (Kd.R_types HO700.out GG9.out (by decide)) (fun _ hk => hk.2) (.string t701)) (fun _ hk => trivial)⟩
    have n2_ : Aside0 ((w23.setCell ⟨go9, (t694 : Int).toNat * 2, none⟩ (.string t701)).heap[gb688]? = some (.cells #[.slice none 0 0] 32 (0, 0))) := ⟨by (with_reducible repeat (first | refine blk_drewN ?_ _ | refine blk_drew ?_ | refine blk_alloc ?_ _)); refine blk_far ?_ (by have h_ := Kd.R_ne HO691.out BK688.out (by decide); intro e_; exact h_ (by rw [e_]; rfl)) _; (with_reducible repeat (first | refine blk_drewN ?_ _ | refine blk_drew ?_ | refine blk_alloc ?_ _)); exact BK688.out⟩
    have n3_ : Aside0 ((w23.setCell ⟨go9, (t694 : Int).toNat * 2, none⟩ (.string t701)).heap[gb693]? = some (.cells #[.slice (some ⟨go9, 0, none⟩) t689.length co13] 32 (0, 0))) := ⟨by (with_reducible repeat (first | refine blk_drewN ?_ _ | refine blk_drew ?_ | refine blk_alloc ?_ _)); refine blk_far ?_ (by have h_ := Kd.R_ne HO691.out BK693.out (by decide); intro e_; exact h_ (by rw [e_]; rfl)) _; (with_reducible repeat (first | refine blk_drewN ?_ _ | refine blk_drew ?_ | refine blk_alloc ?_ _)); exact BK693.out⟩
    have n4_ : Aside0 (IsS97 w0 (w23.setCell ⟨go9, (t694 : Int).toNat * 2, none⟩ (.string t701)) g s0_0 t702) := ⟨by repeat (first | (with_reducible first | exact HI0.out | apply IsS97.alloc | apply IsS97.drewN | apply IsS97.drew | apply IsS97.set_1 | refine IsS97.far ?_ HN0_go9.out _ | refine IsS97.far ?_ NB0_688.out _ | refine IsS97.far ?_ NB0_693.out _) | exact HI0.out)⟩
    have n5_ : Aside0 (KeepBut w (w23.setCell ⟨go9, (t694 : Int).toNat * 2, none⟩ (.string t701)) g none) := ⟨by repeat (first | (with_reducible first | exact HK.out | apply KeepBut.set_ | apply keep_drewN | apply keep_drew | apply keep_alloc | refine keep_far ?_ GB9.out _ | refine keep_far ?_ GW688.out _ | refine keep_far ?_ GW693.out _) | exact HK.out)⟩
    have n6_ : Aside0 (Below w0.heap.size w0 (w23.setCell ⟨go9, (t694 : Int).toNat * 2, none⟩ (.string t701))) := ⟨by repeat (first | (with_reducible first | exact HB.out | apply below_alloc | apply pw_below_drewN | apply below_drew1 | refine below_set ?_ (Nat.le_trans HL.out GB9.out) | refine below_set ?_ (IsS97.ge HI0.out) | refine below_set ?_ GE688.out | refine below_set ?_ GE693.out) | exact HB.out)⟩
    (try clear HO691)
    (try clear HO700)
    (try clear BK688)
    (try clear BK693)
    (try clear HI0)
    (try clear HK)
    (try clear HB)
    generalize (w23.setCell ⟨go9, (t694 : Int).toNat * 2, none⟩ (.string t701)) = w25 at n0_ n1_ n2_ n3_ n4_ n5_ n6_ ⊢
    have HO691 := n0_
    have HO700 := n1_
    have BK688 := n2_
    have BK693 := n3_
    have HI0 := n4_
    have HK := n5_
    have HB := n6_
    clear n0_ n1_ n2_ n3_ n4_ n5_ n6_
    have hcz26_0 := bc0 BK693.out
    have hfz26_0 := blk_frozen BK693.out 0
    have hnb27 := NB688_0.out
    have hnc27 := NB0_688.out
    have hcz28_0 := bc0 BK688.out
    have hfz28_0 := blk_frozen BK688.out 0
    try go_wp2
    refine bodyPost_ret (results_cell_row rfl _ _ gb688 32 #[.slice (some ⟨go9, 0, none⟩) t689.length co13] (0, 0) _ rfl (Y104) Try.underlying32 rfl (by kernel_rfl)) rfl ?_
    exact ⟨_, Y0, by (with_reducible repeat (first | apply Kd.R_alloc | apply Kd.R_drewN | apply Kd.R_drew)); exact Kd.R_mono (Kd.R_far (p := ⟨gb688, 0, none⟩) (Kd.R_types HO691.out BK688.out (by decide)) (fun _ hk => hk.2) (.slice (some ⟨go9, 0, none⟩) t689.length co13)) (fun _ hk => trivial), Y15, Y32, Y27⟩
   ·rw [if_neg c8] at H
    exact absurd H (by simp)
  ·rw [if_neg c7] at H
   exact absurd H (by simp)
 ·rw [if_neg c5] at H
  have c5b0 : (t696 == 0) = false := beq_eq_false_iff_ne.mpr c5
  have c5b1 : (t696 != 0) = true := bne_iff_ne.mpr c5
  by_cases c29 : t696 = 1
  ·rw [if_pos c29] at H
   have c29b0 : (t696 == 1) = true := beq_iff_eq.mpr c29
   have c29b1 : (t696 != 1) = false := bne_eq_false_iff_eq.mpr c29
   clear c29
   obtain ⟨y704, hy704⟩ : ∃ y_ : List Int, y_ = (([t694, (-1), 8, (-2)] : List Int)) := ⟨_, rfl⟩
   replace H : ((spec_reader_one.f k s0_0 t697 y704).bind fun bt707 => (if 0 ≤ t694 then (if t694 < (t689.length : Int) then (some ((t689.set (t694 : Int).toNat (⟨(rd_T87 t689 t694).f0, bt707.1⟩ : S87)), bt707.2)) else (none)) else (none))) = some (r1, r2) := by first | (rw [hy704]; with_reducible exact H) | (have H2_ := (Option.bind_some _ _).symm.trans H; rw [hy704]; with_reducible exact H2_) | (have H2_ := (Option.bind_some _ _).symm.trans H; with_reducible exact H2_) | with_reducible exact H | (rw [hy704]; exact H) | exact H
   have Ny704 := am hy704
   clear hy704
   replace H := Option.bind_eq_some_iff.mp H
   obtain ⟨⟨t707, t708⟩, A300, H⟩ := H
   replace H : (if 0 ≤ t694 then (if t694 < (t689.length : Int) then (some ((t689.set (t694 : Int).toNat (⟨(rd_T87 t689 t694).f0, t707⟩ : S87)), t708)) else (none)) else (none)) = some (r1, r2) := H
   have A30 := am A300
   clear A300
   by_cases c31 : 0 ≤ t694
   ·rw [if_pos c31] at H
    have c31b0 : decide (0 ≤ t694) = true := decide_eq_true c31
    clear c31
    by_cases c32 : t694 < (t689.length : Int)
    ·rw [if_pos c32] at H
     have c32b0 : decide (t694 < (t689.length : Int)) = true := decide_eq_true c32
     clear c32
     obtain ⟨y709, hy709⟩ : ∃ y_ : List (S87), y_ = (t689.set (t694 : Int).toNat (⟨(rd_T87 t689 t694).f0, t707⟩ : S87)) := ⟨_, rfl⟩
     replace H : (some (y709, t708)) = some (r1, r2) := by first | (rw [hy709]; with_reducible exact H) | (have H2_ := (Option.bind_some _ _).symm.trans H; rw [hy709]; with_reducible exact H2_) | (have H2_ := (Option.bind_some _ _).symm.trans H; with_reducible exact H2_) | with_reducible exact H | (rw [hy709]; exact H) | exact H
     have Ny709 := am hy709
     clear hy709
     simp only [Option.some.injEq, Prod.mk.injEq] at H
     obtain ⟨rfl, rfl⟩ := H
     go_enter Try.func110, Try.ntmps110
     try go_wp2_with (first | ((with_reducible refine gate_dst (N := 2) rfl ?_); refine bE (N := 2) (cs := #[.slice none 0 0]) (t := 32) ?_; intro gb688 hg w34 hbox hb; have BK688 := am (hbox); have GW688 := am ((Y13 : w.heap.size ≤ gb688)); have GE688 := am ((Nat.le_trans HW0.out (Y13 : w.heap.size ≤ gb688) : w0.heap.size ≤ gb688)); have NB0_688 := am ((Y29 : g ≠ gb688)); have NB688_0 := am ((Y30 : gb688 ≠ g)); replace HK := am (KeepBut.trans (Y18) (KeepBut.of_below hb g none) (.inl rfl)); replace HB := am (below_step (Y19) hb); replace HI0 := am (IsS97.below (Y17) hb); clear hb hbox hg) | ((with_reducible refine gate_callee (f := 115) rfl ?_); refine gL (some 6) Try.func115 #[.pointer (some ⟨g, 0, none⟩)] ?_; (with_reducible refine (spec_goodTree.calls k g s0_0 s0_1 t689 t692 w0 _ ?side1 ?side2 A2.out).mono ?_); (case side1 => exact Y60); (case side2 => exact Y61); rintro e w35 ⟨v690, rfl, ho0, hi, hb, hk⟩; refine ⟨_, rfl, ?_⟩; have HO691 := am (Kd.R_lower ho0 (keep_size (w := w) (g := g) (row := none) (Y46))); replace BK688 := am (KeepBut.blk hk (g' := gb688) (o := .cells #[.slice none 0 0] 32 (0, 0)) (kq BK688.out) NB688_0.out (by simp)); replace HK := am (KeepBut.trans (Y46) hk (.inl rfl)); replace HB := am (hb); replace HI0 := am (hi); (try clear hb); (try clear hb2); (try clear hk); (try clear hi); (try clear ho0)) | ((with_reducible refine gate_dst (N := 3) rfl ?_); refine bE (N := 3) (cs := #[.slice none 0 0]) (t := 32) ?_; intro gb693 hg w36 hbox hb; have BK693 := am (hbox); have GW693 := am ((Y62 : w.heap.size ≤ gb693)); have GE693 := am ((Nat.le_trans HW0.out (Y62 : w.heap.size ≤ gb693) : w0.heap.size ≤ gb693)); have NB688_693 := am ((Y98 : gb688 ≠ gb693)); have NB693_688 := am ((Y99 : gb693 ≠ gb688)); have NB0_693 := am ((Y100 : g ≠ gb693)); have NB693_0 := am ((Y101 : gb693 ≠ g)); replace HO691 := am (Kd.R_below (rq HO691.out) hb); replace BK688 := am (blk_below (g := gb688) (o := .cells #[.slice none 0 0] 32 (0, 0)) (kq BK688.out) hb); replace HK := am (KeepBut.trans (Y46) (KeepBut.of_below hb g none) (.inl rfl)); replace HB := am (below_step (Y61) hb); replace HI0 := am (IsS97.below (Y60) hb); clear hb hbox hg; obtain ⟨Ao37, co37, eo37⟩ := Kd.R_slice HO691.out; subst eo37; have hnb38 := NB693_688.out; have hnc38 := NB688_693.out; have hnb39 := NB693_0.out; have hnc39 := NB0_693.out; have hcz40_0 := bc0 BK693.out; have hfz40_0 := blk_frozen BK693.out 0) | ((with_reducible refine gate_callee (f := 71) rfl ?_); refine gL (some 11) Try.func71 #[.pointer (some ⟨g, 0, none⟩), .int .i64 (t689.length : Int)] ?_; (with_reducible refine (spec_reader_pick.calls k g s0_0 t692 (t689.length : Int) t694 t695 w0 _ ?side1 ?side2 A3.out).mono ?_); (case side1 => exact Y15); (case side2 => exact Y32); rintro e w41 ⟨rfl, hi, hb, hk⟩; refine ⟨_, rfl, ?_⟩; replace BK688 := am (KeepBut.blk hk (g' := gb688) (o := .cells #[.slice none 0 0] 32 (0, 0)) (Y102) NB688_0.out (by simp)); replace HO691 := am (Kd.R_mono (Kd.R_keep (IsS97.apart (show IsS97 w0 _ g s0_0 t692 from Y15) (by (with_reducible repeat (first | apply Kd.R_alloc | apply Kd.R_drewN | apply Kd.R_drew)); exact (Kd.R_mono (Kd.R_far (p := ⟨gb693, 0, none⟩) (Kd.R_types HO691.out BK693.out (by decide)) (fun _ hk => hk.2) (.slice Ao37 t689.length co37)) (fun _ h_ => h_.1))) (by decide)) hk (fun _ h => h.2)) (fun _ h => h.1)); replace BK693 := am (KeepBut.blk hk (g' := gb693) (o := .cells #[.slice Ao37 t689.length co37] 32 (0, 0)) (Y103) NB693_0.out (by simp)); replace HK := am (KeepBut.trans (Y27) hk (.inl rfl)); replace HB := am (hb); replace HI0 := am (hi); (try clear hb); (try clear hb2); (try clear hk); (try clear hi)) | ((with_reducible refine gate_callee (f := 71) rfl ?_); refine gL (some 13) Try.func71 #[.pointer (some ⟨g, 0, none⟩), .int .i64 24] ?_; (with_reducible refine (spec_reader_pick.calls k g s0_0 t695 24 t696 t697 w0 _ ?side1 ?side2 A4.out).mono ?_); (case side1 => exact Y15); (case side2 => exact Y32); rintro e w42 ⟨rfl, hi, hb, hk⟩; refine ⟨_, rfl, ?_⟩; replace BK688 := am (KeepBut.blk hk (g' := gb688) (o := .cells #[.slice none 0 0] 32 (0, 0)) (kq BK688.out) NB688_0.out (by simp)); replace HO691 := am (Kd.R_mono (Kd.R_keep (IsS97.apart (show IsS97 w0 _ g s0_0 t695 from Y15) (rq HO691.out) (by decide)) hk (fun _ h => h.2)) (fun _ h => h.1)); replace BK693 := am (KeepBut.blk hk (g' := gb693) (o := .cells #[.slice Ao37 t689.length co37] 32 (0, 0)) (kq BK693.out) NB693_0.out (by simp)); replace HK := am (KeepBut.trans (Y27) hk (.inl rfl)); replace HB := am (hb); replace HI0 := am (hi); (try clear hb); (try clear hb2); (try clear hk); (try clear hi)))
     replace HO691 := am (Kd.R_drew HO691.out)
     replace BK688 := am (blk_drew BK688.out)
     replace BK693 := am (blk_drew BK693.out)
     replace HI0 := am (IsS97.drew HI0.out)
     replace HK := am (keep_drew HK.out)
     replace HB := am (below_drew1 HB.out)
     refine start_ (n := 10) (S := fun w' => w'.cell? ⟨gb693, 0, none⟩ = some (.slice Ao37 t689.length co37)) (ds := [9]) #[false, false, false, false, false, false, false, false, false, false] (by kernel_rfl) rfl rfl ((blk_cell BK693.out 0).trans rfl) (fun hHeld => ?_); refine with_tabW spec_someTree.tab7 spec_someTree.bits7 (fun HT_ HW_ => ?_)
     generalize w42.drew = w43 at HO691 BK688 BK693 HI0 HK HB hHeld ⊢
     refine pq (i := 0) (N := some 26) #[true, false, false, false, false, false, false, false, false, false] ?_
     refine pq (i := 2) (N := some 28) #[true, false, true, false, false, false, false, false, false, false] ?_
     refine pq (i := 3) (N := some 29) #[true, false, true, true, false, false, false, false, false, false] ?_
     refine pq (i := 4) (N := some 30) #[true, false, true, true, true, false, false, false, false, false] ?_
     refine take_ (i := 1) (N := some 27) (v := ?_) (a' := ?_) #[true, true, true, true, true, false, false, false, false, false] rfl rfl (take_ofW HT_.out HW_.out (by kernel_rfl)) (fun _ _ _ h => h) (Or.inl ⟨by rfl, ?_⟩) hHeld ?_ ?_
     rotate_left
     ·intro w' s0
      go_simp
      with_reducible rfl
     rotate_left
     ·exact sa
     refine one_ (i := 5) (N := some 31) #[true, true, true, true, true, true, false, false, false, false] rfl rfl (one_of HT_.out (by kernel_rfl)) (by decide) (fun K hK => ?_)
     refine Kd.R_lit_step (Kd.int .i64) _ 3 ?hg (N := 31) ?hd (xs := ([t694, (-1), 8, (-2)] : List Int)) (inner := [.int .i64 t694, .int .i64 (-1), .int .i64 8, .int .i64 (-2)]) (ok := fun _ => True) (okp := fun _ => True) ?hr ?hp (fun _ hk => hk) trivial (Below.refl _ _) (Nat.le_refl _) (by simp) ?_; (case hd => rfl); (case hg => rfl); (case hr => exact Y5); (case hp => exact (Reps.one (show Kd.M (Kd.int .i64) _ _ _ t694 [.int .i64 t694] from rfl) (Reps.one (show Kd.M (Kd.int .i64) _ _ _ (-1) [.int .i64 (-1)] from rfl) (Reps.one (show Kd.M (Kd.int .i64) _ _ _ 8 [.int .i64 8] from rfl) (Reps.one (show Kd.M (Kd.int .i64) _ _ _ (-2) [.int .i64 (-2)] from rfl) (Reps.none _ _))))))
     intro v705 w44 ho45 hb hg_ hnew_
     clear hg_ hnew_
     (first | rw [← Ny704.out] at ho45 | (simp only [Int.reduceToNat] at ho45; rw [← Ny704.out] at ho45))
     have HO706 := am (Kd.R_lower ho45 (keep_size (w := w) (g := g) (row := none) (Y27)))
     replace HO691 := am (Kd.R_below (rq HO691.out) hb)
     replace BK688 := am (blk_below (g := gb688) (o := .cells #[.slice none 0 0] 32 (0, 0)) (kq BK688.out) hb)
     replace BK693 := am (blk_below (g := gb693) (o := .cells #[.slice Ao37 t689.length co37] 32 (0, 0)) (kq BK693.out) hb)
     replace HK := am (KeepBut.trans (Y27) (KeepBut.of_below hb g none) (.inl rfl))
     replace HB := am (below_step (Y32) hb)
     replace HI0 := am (IsS97.below (Y15) hb)
     clear hb ho45
     obtain ⟨Ao46, co46, eo46⟩ := Kd.R_slice HO706.out
     (first | subst eo46 | (injection eo46 with f1_ f2_ f3_; have f4_ := f1_.symm; have f5_ := f3_.symm; clear f1_ f2_ f3_; subst f4_; subst f5_))
     refine hK.out _ _ ((blk_cell BK693.out 0).trans rfl) (fun hHeld => ?_)
     clear hK K
     refine norm_ (a' := ?_) ?_ ?_
     rotate_left
     ·show Act.put _ (some 31) _ = _
      simp only [Act.put, List.setIfInBounds_toArray, List.set_cons_zero, List.set_cons_succ, i64_w, i32_w]
      rfl
     refine one_ (i := 6) (N := some 32) #[true, true, true, true, true, true, true, false, false, false] rfl rfl (one_of HT_.out (by kernel_rfl)) (by decide) (fun K hK => ?_)
     refine goes_ Try.func91 (by kernel_rfl) rfl #[.pointer (some ⟨g, 0, none⟩), .slice Ao46 y704.length co46] (by rfl) rfl rfl (aq) ?_
     with_reducible refine (spec_reader_one.calls k g s0_0 t697 _ _ y704 t707 t708 w0 _ ?side1 ?side2 ?side3 ?side4 ?side5 A30.out).mono ?_
     (case side1 => exact Y15)
     (case side2 => exact Y32)
     (case side3 => exact cq (Kd.R_reads' HO706.out).2.2)
     (case side4 => exact (Kd.R_reads' HO706.out).2.1)
     (case side5 => exact far_slice (IsS97.own_ne HI0.out HO706.out (by decide)))
     rintro e w47 ⟨rfl, hi, hb, hk⟩
     refine ⟨_, rfl, ?_⟩
     replace BK688 := am (KeepBut.blk hk (g' := gb688) (o := .cells #[.slice none 0 0] 32 (0, 0)) (kq BK688.out) NB688_0.out (by simp))
     replace HO691 := am (Kd.R_mono (Kd.R_keep (IsS97.apart (show IsS97 w0 _ g s0_0 t697 from Y15) (rq HO691.out) (by decide)) hk (fun _ h => h.2)) (fun _ h => h.1))
     replace BK693 := am (KeepBut.blk hk (g' := gb693) (o := .cells #[.slice Ao37 t689.length co37] 32 (0, 0)) (kq BK693.out) NB693_0.out (by simp))
     replace HO706 := am (Kd.R_mono (Kd.R_keep (IsS97.apart (show IsS97 w0 _ g s0_0 t697 from Y15) (rq HO706.out) (by decide)) hk (fun _ h => h.2)) (fun _ h => h.1))
     replace HK := am (KeepBut.trans (Y27) hk (.inl rfl))
     replace HB := am (hb)
     replace HI0 := am (hi)
     (try clear hb)
     (try clear hb2)
     (try clear hk)
     (try clear hi)
     have p33 : 0 ≤ (t694 : Int) := of_decide_eq_true (uq)
     have q33 : (t694 : Int) < ((t689.length : Int) : Int) := of_decide_eq_true (uq)
     obtain ⟨go33, co33, eo33, gb33, gl33, cl33, HG33⟩ := Kd.R_form HO691.out (by omega)
     (first | cases eo33 | (injection eo33 with ea_ en_ ec_; (first | subst ea_ | (injection ea_ with ea_; subst ea_)); subst ec_; clear en_))
     have GB33 := am gb33
     have GG33 := am HG33
     clear gb33 gl33 HG33
     obtain ⟨ce33, hcl33, hM33, hcc33, hfr33⟩ := Kd.R_elem HO691.out z87 (t694 : Int) p33 q33
     obtain rfl := k87_openM hM33
     have hx33_0 : World.cell? _ ⟨go33, (t694 : Int).toNat * 2, none⟩ = some (.string ((rd_T87 t689 t694).f0)) := hcc33 0 _ rfl
     have hx33_1 : World.cell? _ ⟨go33, (t694 : Int).toNat * 2 + 1, none⟩ = some (.int .i64 ((rd_T87 t689 t694).f1)) := hcc33 1 _ rfl
     have hf33_0 : World.frozen? _ ⟨go33, (t694 : Int).toNat * 2, none⟩ = false := hfr33 0
     have hf33_1 : World.frozen? _ ⟨go33, (t694 : Int).toNat * 2 + 1, none⟩ = false := hfr33 1
     clear hcl33 hcc33 hfr33 hM33
     replace p33 := eq_true p33
     replace q33 := eq_true q33
     have HN0_go33 := am (show g ≠ go33 from by have h_ := IsS97.own_ne HI0.out HO691.out (by decide); intro e_; exact h_ (by rw [e_]; rfl))
     obtain ⟨ce48, hcl48, hM48, hcc48, hfr48⟩ := Kd.R_elem HO691.out z87 (t694 : Int) (of_decide_eq_true (uq)) (by have h_ : (t694 : Int) < ((t689.length : Int) : Int) := of_decide_eq_true (uq); first | exact h_ | (have e_ := (Kd.R_reads' HO691.out).1; omega) | simpa using h_)
     obtain rfl := k87_openM hM48
     have HP48 := (Kd.R_seg HO691.out (t694 : Int) (of_decide_eq_true (uq)) (by have h_ : (t694 : Int) < ((t689.length : Int) : Int) := of_decide_eq_true (uq); first | exact h_ | (have e_ := (Kd.R_reads' HO691.out).1; omega) | simpa using h_) (seg := [.int .i64 t707]) (j := 1) hcl48 hcc48 (show 2 ≤ 2 from by decide) (x' := (⟨(rd_T87 t689 t694).f0, t707⟩ : S87)) (k87_mkM _ _ _ (⟨(rd_T87 t689 t694).f0, t707⟩ : S87) ) (fun _ hk => hk)).1
     rw [← Ny709.out] at HP48
     have HQ48 := am HP48
     clear hcl48 hcc48 hfr48 hM48 HP48
     refine hK.out _ _ ((blk_cell BK693.out 0).trans rfl) (fun hHeld => ?_)
     clear hK K
     refine norm_ (a' := ?_) ?_ ?_
     rotate_left
     ·show Act.put _ (some 32) _ = _
      simp only [Act.put, List.setIfInBounds_toArray, List.set_cons_zero, List.set_cons_succ, i64_w, i32_w]
      rfl
     refine pq (i := 7) (N := some 33) #[true, true, true, true, true, true, true, true, false, false] ?_
     refine pq (i := 8) (N := some 34) #[true, true, true, true, true, true, true, true, true, false] ?_
     refine last_ (i := 9) (N := none) #[true, true, true, true, true, true, true, true, true, true] rfl rfl (one_of HT_.out (by kernel_rfl)) (by decide) (fun K hK => ?_)
     refine skip_ (w1 := ?_) (by rfl) rfl ?_ ?_
     rotate_left
     ·go_simp
      rfl
     refine hK.out _ _ ?_
     clear hK K
     refine done_ (done_of HT_.out (by kernel_rfl)) ?_
     have n0_ : Aside0 (Kd.R k87 87 (w47.setCell ⟨go33, (t694 : Int).toNat * 2 + 1, none⟩ (.int .i64 t707)) w.heap.size (fun _ => True) (.slice (some ⟨go33, 0, none⟩) t689.length co37) y709) := ⟨rq HQ48.out⟩
     have n1_ : Aside0 (Kd.R (Kd.int .i64) 3 (w47.setCell ⟨go33, (t694 : Int).toNat * 2 + 1, none⟩ (.int .i64 t707)) w.heap.size (fun _ => True) (.slice Ao46 y704.length co46) y704) := ⟨by (with_reducible repeat (first | apply Kd.R_alloc | apply Kd.R_drewN | apply Kd.R_drew)); exact Kd.R_mono (Kd.R_far (p := ⟨go33, (t694 : Int).toNat * 2 + 1, none⟩) (Kd.R_types HO706.out GG33.out (by decide)) (fun _ hk => hk.2) (.int .i64 t707)) (fun _ hk => trivial)⟩
     have n2_ : Aside0 ((w47.setCell ⟨go33, (t694 : Int).toNat * 2 + 1, none⟩ (.int .i64 t707)).heap[gb688]? = some (.cells #[.slice none 0 0] 32 (0, 0))) := ⟨by (with_reducible repeat (first | refine blk_drewN ?_ _ | refine blk_drew ?_ | refine blk_alloc ?_ _)); refine blk_far ?_ (by have h_ := Kd.R_ne HO691.out BK688.out (by decide); intro e_; exact h_ (by rw [e_]; rfl)) _; (with_reducible repeat (first | refine blk_drewN ?_ _ | refine blk_drew ?_ | refine blk_alloc ?_ _)); exact BK688.out⟩
     have n3_ : Aside0 ((w47.setCell ⟨go33, (t694 : Int).toNat * 2 + 1, none⟩ (.int .i64 t707)).heap[gb693]? = some (.cells #[.slice (some ⟨go33, 0, none⟩) t689.length co37] 32 (0, 0))) := ⟨by (with_reducible repeat (first | refine blk_drewN ?_ _ | refine blk_drew ?_ | refine blk_alloc ?_ _)); refine blk_far ?_ (by have h_ := Kd.R_ne HO691.out BK693.out (by decide); intro e_; exact h_ (by rw [e_]; rfl)) _; (with_reducible repeat (first | refine blk_drewN ?_ _ | refine blk_drew ?_ | refine blk_alloc ?_ _)); exact BK693.out⟩
     have n4_ : Aside0 (IsS97 w0 (w47.setCell ⟨go33, (t694 : Int).toNat * 2 + 1, none⟩ (.int .i64 t707)) g s0_0 t708) := ⟨by repeat (first | (with_reducible first | exact HI0.out | apply IsS97.alloc | apply IsS97.drewN | apply IsS97.drew | apply IsS97.set_1 | refine IsS97.far ?_ HN0_go33.out _ | refine IsS97.far ?_ NB0_688.out _ | refine IsS97.far ?_ NB0_693.out _) | exact HI0.out)⟩
     have n5_ : Aside0 (KeepBut w (w47.setCell ⟨go33, (t694 : Int).toNat * 2 + 1, none⟩ (.int .i64 t707)) g none) := ⟨by repeat (first | (with_reducible first | exact HK.out | apply KeepBut.set_ | apply keep_drewN | apply keep_drew | apply keep_alloc | refine keep_far ?_ GB33.out _ | refine keep_far ?_ GW688.out _ | refine keep_far ?_ GW693.out _) | exact HK.out)⟩
     have n6_ : Aside0 (Below w0.heap.size w0 (w47.setCell ⟨go33, (t694 : Int).toNat * 2 + 1, none⟩ (.int .i64 t707))) := ⟨by repeat (first | (with_reducible first | exact HB.out | apply below_alloc | apply pw_below_drewN | apply below_drew1 | refine below_set ?_ (Nat.le_trans HL.out GB33.out) | refine below_set ?_ (IsS97.ge HI0.out) | refine below_set ?_ GE688.out | refine below_set ?_ GE693.out) | exact HB.out)⟩
     (try clear HO691)
     (try clear HO706)
     (try clear BK688)
     (try clear BK693)
     (try clear HI0)
     (try clear HK)
     (try clear HB)
     generalize (w47.setCell ⟨go33, (t694 : Int).toNat * 2 + 1, none⟩ (.int .i64 t707)) = w49 at n0_ n1_ n2_ n3_ n4_ n5_ n6_ ⊢
     have HO691 := n0_
     have HO706 := n1_
     have BK688 := n2_
     have BK693 := n3_
     have HI0 := n4_
     have HK := n5_
     have HB := n6_
     clear n0_ n1_ n2_ n3_ n4_ n5_ n6_
     have hcz50_0 := bc0 BK693.out
     have hfz50_0 := blk_frozen BK693.out 0
     have hnb51 := NB688_0.out
     have hnc51 := NB0_688.out
     have hcz52_0 := bc0 BK688.out
     have hfz52_0 := blk_frozen BK688.out 0
     try go_wp2
     refine bodyPost_ret (results_cell_row rfl _ _ gb688 32 #[.slice (some ⟨go33, 0, none⟩) t689.length co37] (0, 0) _ rfl (Y104) Try.underlying32 rfl (by kernel_rfl)) rfl ?_
     exact ⟨_, Y0, by (with_reducible repeat (first | apply Kd.R_alloc | apply Kd.R_drewN | apply Kd.R_drew)); exact Kd.R_mono (Kd.R_far (p := ⟨gb688, 0, none⟩) (Kd.R_types HO691.out BK688.out (by decide)) (fun _ hk => hk.2) (.slice (some ⟨go33, 0, none⟩) t689.length co37)) (fun _ hk => trivial), Y15, Y32, Y27⟩
    ·rw [if_neg c32] at H
     exact absurd H (by simp)
   ·rw [if_neg c31] at H
    exact absurd H (by simp)
  ·rw [if_neg c29] at H
   have c29b0 : (t696 == 1) = false := beq_eq_false_iff_ne.mpr c29
   have c29b1 : (t696 != 1) = true := bne_iff_ne.mpr c29
   by_cases c53 : t696 = 2
   ·rw [if_pos c53] at H
    have c53b0 : (t696 == 2) = true := beq_iff_eq.mpr c53
    have c53b1 : (t696 != 2) = false := bne_eq_false_iff_eq.mpr c53
    clear c53
    simp only [Option.some.injEq, Prod.mk.injEq] at H
    obtain ⟨rfl, rfl⟩ := H
    go_enter Try.func110, Try.ntmps110
    go_wp2_with (first | ((with_reducible refine gate_dst (N := 2) rfl ?_); refine bE (N := 2) (cs := #[.slice none 0 0]) (t := 32) ?_; intro gb688 hg w54 hbox hb; have BK688 := am (hbox); have GW688 := am ((Y13 : w.heap.size ≤ gb688)); have GE688 := am ((Nat.le_trans HW0.out (Y13 : w.heap.size ≤ gb688) : w0.heap.size ≤ gb688)); have NB0_688 := am ((Y29 : g ≠ gb688)); have NB688_0 := am ((Y30 : gb688 ≠ g)); replace HK := am (KeepBut.trans (Y18) (KeepBut.of_below hb g none) (.inl rfl)); replace HB := am (below_step (Y19) hb); replace HI0 := am (IsS97.below (Y17) hb); clear hb hbox hg) | ((with_reducible refine gate_callee (f := 115) rfl ?_); refine gL (some 6) Try.func115 #[.pointer (some ⟨g, 0, none⟩)] ?_; (with_reducible refine (spec_goodTree.calls k g s0_0 s0_1 t689 t692 w0 _ ?side1 ?side2 A2.out).mono ?_); (case side1 => exact Y60); (case side2 => exact Y61); rintro e w55 ⟨v690, rfl, ho0, hi, hb, hk⟩; refine ⟨_, rfl, ?_⟩; have HO691 := am (Kd.R_lower ho0 (keep_size (w := w) (g := g) (row := none) (Y46))); replace BK688 := am (KeepBut.blk hk (g' := gb688) (o := .cells #[.slice none 0 0] 32 (0, 0)) (kq BK688.out) NB688_0.out (by simp)); replace HK := am (KeepBut.trans (Y46) hk (.inl rfl)); replace HB := am (hb); replace HI0 := am (hi); (try clear hb); (try clear hb2); (try clear hk); (try clear hi); (try clear ho0)) | ((with_reducible refine gate_dst (N := 3) rfl ?_); refine bE (N := 3) (cs := #[.slice none 0 0]) (t := 32) ?_; intro gb693 hg w56 hbox hb; have BK693 := am (hbox); have GW693 := am ((Y62 : w.heap.size ≤ gb693)); have GE693 := am ((Nat.le_trans HW0.out (Y62 : w.heap.size ≤ gb693) : w0.heap.size ≤ gb693)); have NB688_693 := am ((Y98 : gb688 ≠ gb693)); have NB693_688 := am ((Y99 : gb693 ≠ gb688)); have NB0_693 := am ((Y100 : g ≠ gb693)); have NB693_0 := am ((Y101 : gb693 ≠ g)); replace HO691 := am (Kd.R_below (rq HO691.out) hb); replace BK688 := am (blk_below (g := gb688) (o := .cells #[.slice none 0 0] 32 (0, 0)) (kq BK688.out) hb); replace HK := am (KeepBut.trans (Y46) (KeepBut.of_below hb g none) (.inl rfl)); replace HB := am (below_step (Y61) hb); replace HI0 := am (IsS97.below (Y60) hb); clear hb hbox hg; obtain ⟨Ao57, co57, eo57⟩ := Kd.R_slice HO691.out; subst eo57; have hnb58 := NB693_688.out; have hnc58 := NB688_693.out; have hnb59 := NB693_0.out; have hnc59 := NB0_693.out; have hcz60_0 := bc0 BK693.out; have hfz60_0 := blk_frozen BK693.out 0) | ((with_reducible refine gate_callee (f := 71) rfl ?_); refine gL (some 11) Try.func71 #[.pointer (some ⟨g, 0, none⟩), .int .i64 (t689.length : Int)] ?_; (with_reducible refine (spec_reader_pick.calls k g s0_0 t692 (t689.length : Int) t694 t695 w0 _ ?side1 ?side2 A3.out).mono ?_); (case side1 => exact Y15); (case side2 => exact Y32); rintro e w61 ⟨rfl, hi, hb, hk⟩; refine ⟨_, rfl, ?_⟩; replace BK688 := am (KeepBut.blk hk (g' := gb688) (o := .cells #[.slice none 0 0] 32 (0, 0)) (Y102) NB688_0.out (by simp)); replace HO691 := am (Kd.R_mono (Kd.R_keep (IsS97.apart (show IsS97 w0 _ g s0_0 t692 from Y15) (by (with_reducible repeat (first | apply Kd.R_alloc | apply Kd.R_drewN | apply Kd.R_drew)); exact (Kd.R_mono (Kd.R_far (p := ⟨gb693, 0, none⟩) (Kd.R_types HO691.out BK693.out (by decide)) (fun _ hk => hk.2) (.slice Ao57 t689.length co57)) (fun _ h_ => h_.1))) (by decide)) hk (fun _ h => h.2)) (fun _ h => h.1)); replace BK693 := am (KeepBut.blk hk (g' := gb693) (o := .cells #[.slice Ao57 t689.length co57] 32 (0, 0)) (Y103) NB693_0.out (by simp)); replace HK := am (KeepBut.trans (Y27) hk (.inl rfl)); replace HB := am (hb); replace HI0 := am (hi); (try clear hb); (try clear hb2); (try clear hk); (try clear hi)) | ((with_reducible refine gate_callee (f := 71) rfl ?_); refine gL (some 13) Try.func71 #[.pointer (some ⟨g, 0, none⟩), .int .i64 24] ?_; (with_reducible refine (spec_reader_pick.calls k g s0_0 t695 24 t696 t697 w0 _ ?side1 ?side2 A4.out).mono ?_); (case side1 => exact Y15); (case side2 => exact Y32); rintro e w62 ⟨rfl, hi, hb, hk⟩; refine ⟨_, rfl, ?_⟩; replace BK688 := am (KeepBut.blk hk (g' := gb688) (o := .cells #[.slice none 0 0] 32 (0, 0)) (kq BK688.out) NB688_0.out (by simp)); replace HO691 := am (Kd.R_mono (Kd.R_keep (IsS97.apart (show IsS97 w0 _ g s0_0 t695 from Y15) (rq HO691.out) (by decide)) hk (fun _ h => h.2)) (fun _ h => h.1)); replace BK693 := am (KeepBut.blk hk (g' := gb693) (o := .cells #[.slice Ao57 t689.length co57] 32 (0, 0)) (kq BK693.out) NB693_0.out (by simp)); replace HK := am (KeepBut.trans (Y27) hk (.inl rfl)); replace HB := am (hb); replace HI0 := am (hi); (try clear hb); (try clear hb2); (try clear hk); (try clear hi); have hnb63 := NB688_0.out; have hnc63 := NB0_688.out; have hcz64_0 := bc0 BK688.out; have hfz64_0 := blk_frozen BK688.out 0))
    refine bodyPost_ret (results_cell_row rfl _ _ gb688 32 #[.slice none 0 0] (0, 0) _ rfl (Y104) Try.underlying32 rfl (by kernel_rfl)) rfl ?_
    exact ⟨_, Y0, Y55, Y15, Y32, Y27⟩
   ·rw [if_neg c53] at H
    have c53b0 : (t696 == 2) = false := beq_eq_false_iff_ne.mpr c53
    have c53b1 : (t696 != 2) = true := bne_iff_ne.mpr c53
    simp only [Option.some.injEq, Prod.mk.injEq] at H
    obtain ⟨rfl, rfl⟩ := H
    go_enter Try.func110, Try.ntmps110
    go_wp2_with (first | ((with_reducible refine gate_dst (N := 2) rfl ?_); refine bE (N := 2) (cs := #[.slice none 0 0]) (t := 32) ?_; intro gb688 hg w65 hbox hb; have BK688 := am (hbox); have GW688 := am ((Y13 : w.heap.size ≤ gb688)); have GE688 := am ((Nat.le_trans HW0.out (Y13 : w.heap.size ≤ gb688) : w0.heap.size ≤ gb688)); have NB0_688 := am ((Y29 : g ≠ gb688)); have NB688_0 := am ((Y30 : gb688 ≠ g)); replace HK := am (KeepBut.trans (Y18) (KeepBut.of_below hb g none) (.inl rfl)); replace HB := am (below_step (Y19) hb); replace HI0 := am (IsS97.below (Y17) hb); clear hb hbox hg) | ((with_reducible refine gate_callee (f := 115) rfl ?_); refine gL (some 6) Try.func115 #[.pointer (some ⟨g, 0, none⟩)] ?_; (with_reducible refine (spec_goodTree.calls k g s0_0 s0_1 t689 t692 w0 _ ?side1 ?side2 A2.out).mono ?_); (case side1 => exact Y60); (case side2 => exact Y61); rintro e w66 ⟨v690, rfl, ho0, hi, hb, hk⟩; refine ⟨_, rfl, ?_⟩; have HO691 := am (Kd.R_lower ho0 (keep_size (w := w) (g := g) (row := none) (Y46))); replace BK688 := am (KeepBut.blk hk (g' := gb688) (o := .cells #[.slice none 0 0] 32 (0, 0)) (kq BK688.out) NB688_0.out (by simp)); replace HK := am (KeepBut.trans (Y46) hk (.inl rfl)); replace HB := am (hb); replace HI0 := am (hi); (try clear hb); (try clear hb2); (try clear hk); (try clear hi); (try clear ho0)) | ((with_reducible refine gate_dst (N := 3) rfl ?_); refine bE (N := 3) (cs := #[.slice none 0 0]) (t := 32) ?_; intro gb693 hg w67 hbox hb; have BK693 := am (hbox); have GW693 := am ((Y62 : w.heap.size ≤ gb693)); have GE693 := am ((Nat.le_trans HW0.out (Y62 : w.heap.size ≤ gb693) : w0.heap.size ≤ gb693)); have NB688_693 := am ((Y98 : gb688 ≠ gb693)); have NB693_688 := am ((Y99 : gb693 ≠ gb688)); have NB0_693 := am ((Y100 : g ≠ gb693)); have NB693_0 := am ((Y101 : gb693 ≠ g)); replace HO691 := am (Kd.R_below (rq HO691.out) hb); replace BK688 := am (blk_below (g := gb688) (o := .cells #[.slice none 0 0] 32 (0, 0)) (kq BK688.out) hb); replace HK := am (KeepBut.trans (Y46) (KeepBut.of_below hb g none) (.inl rfl)); replace HB := am (below_step (Y61) hb); replace HI0 := am (IsS97.below (Y60) hb); clear hb hbox hg; obtain ⟨Ao68, co68, eo68⟩ := Kd.R_slice HO691.out; subst eo68; have hnb69 := NB693_688.out; have hnc69 := NB688_693.out; have hnb70 := NB693_0.out; have hnc70 := NB0_693.out; have hcz71_0 := bc0 BK693.out; have hfz71_0 := blk_frozen BK693.out 0) | ((with_reducible refine gate_callee (f := 71) rfl ?_); refine gL (some 11) Try.func71 #[.pointer (some ⟨g, 0, none⟩), .int .i64 (t689.length : Int)] ?_; (with_reducible refine (spec_reader_pick.calls k g s0_0 t692 (t689.length : Int) t694 t695 w0 _ ?side1 ?side2 A3.out).mono ?_); (case side1 => exact Y15); (case side2 => exact Y32); rintro e w72 ⟨rfl, hi, hb, hk⟩; refine ⟨_, rfl, ?_⟩; replace BK688 := am (KeepBut.blk hk (g' := gb688) (o := .cells #[.slice none 0 0] 32 (0, 0)) (Y102) NB688_0.out (by simp)); replace HO691 := am (Kd.R_mono (Kd.R_keep (IsS97.apart (show IsS97 w0 _ g s0_0 t692 from Y15) (by (with_reducible repeat (first | apply Kd.R_alloc | apply Kd.R_drewN | apply Kd.R_drew)); exact (Kd.R_mono (Kd.R_far (p := ⟨gb693, 0, none⟩) (Kd.R_types HO691.out BK693.out (by decide)) (fun _ hk => hk.2) (.slice Ao68 t689.length co68)) (fun _ h_ => h_.1))) (by decide)) hk (fun _ h => h.2)) (fun _ h => h.1)); replace BK693 := am (KeepBut.blk hk (g' := gb693) (o := .cells #[.slice Ao68 t689.length co68] 32 (0, 0)) (Y103) NB693_0.out (by simp)); replace HK := am (KeepBut.trans (Y27) hk (.inl rfl)); replace HB := am (hb); replace HI0 := am (hi); (try clear hb); (try clear hb2); (try clear hk); (try clear hi)) | ((with_reducible refine gate_callee (f := 71) rfl ?_); refine gL (some 13) Try.func71 #[.pointer (some ⟨g, 0, none⟩), .int .i64 24] ?_; (with_reducible refine (spec_reader_pick.calls k g s0_0 t695 24 t696 t697 w0 _ ?side1 ?side2 A4.out).mono ?_); (case side1 => exact Y15); (case side2 => exact Y32); rintro e w73 ⟨rfl, hi, hb, hk⟩; refine ⟨_, rfl, ?_⟩; replace BK688 := am (KeepBut.blk hk (g' := gb688) (o := .cells #[.slice none 0 0] 32 (0, 0)) (kq BK688.out) NB688_0.out (by simp)); replace HO691 := am (Kd.R_mono (Kd.R_keep (IsS97.apart (show IsS97 w0 _ g s0_0 t695 from Y15) (rq HO691.out) (by decide)) hk (fun _ h => h.2)) (fun _ h => h.1)); replace BK693 := am (KeepBut.blk hk (g' := gb693) (o := .cells #[.slice Ao68 t689.length co68] 32 (0, 0)) (kq BK693.out) NB693_0.out (by simp)); replace HK := am (KeepBut.trans (Y27) hk (.inl rfl)); replace HB := am (hb); replace HI0 := am (hi); (try clear hb); (try clear hb2); (try clear hk); (try clear hi); have hcz74_0 := bc0 BK693.out; have hfz74_0 := blk_frozen BK693.out 0; have hnb75 := NB688_0.out; have hnc75 := NB0_688.out; have hcz76_0 := bc0 BK688.out; have hfz76_0 := blk_frozen BK688.out 0))
    refine bodyPost_ret (results_cell_row rfl _ _ gb688 32 #[.slice Ao68 t689.length co68] (0, 0) _ rfl (Y104) Try.underlying32 rfl (by kernel_rfl)) rfl ?_
    exact ⟨_, Y0, by (with_reducible repeat (first | apply Kd.R_alloc | apply Kd.R_drewN | apply Kd.R_drew)); exact Kd.R_mono (Kd.R_far (p := ⟨gb688, 0, none⟩) (Kd.R_types HO691.out BK688.out (by decide)) (fun _ hk => hk.2) (.slice Ao68 t689.length co68)) (fun _ hk => trivial), Y15, Y32, Y27⟩
mutual
def spec_aStatement.j0 : Nat → Int → Bool → Int → List Int → Int → List (S87) → Option ((List (S52)) × Int)
 | 0, _, _, _, _, _, _ => none
 | k + 1, x2, x3, x9, x1000, x1001, x711000 => if x9 < 4 then ((spec_reader_one.f k x1000 x1001 (([1, 2, 3, 4, 5] : List Int))).bind fun bt719 => (some ((([(⟨x2, 1, bt719.1, 0⟩ : S52)] : List (S52))), bt719.2))) else (if x9 < 6 then ((spec_reader_pick.f k x1000 x1001 (x711000.length : Int)).bind fun bt724 => ((spec_reader_one.f k x1000 bt724.2 (([1, 2, 3] : List Int))).bind fun bt729 => (some ((([(⟨x2, 2, bt724.1, bt729.1⟩ : S52)] : List (S52))), bt729.2)))) else (if x9 = 6 then (some ((([(⟨x2, 3, 0, 0⟩ : S52)] : List (S52))), x1001)) else (if x9 = 7 then (spec_aStatement.j1 k x2 x3 x9 x3 x1000 x1001 x711000 x2 0 0 0) else (spec_aStatement.j1 k x2 x3 x9 false x1000 x1001 x711000 x2 0 0 0))))
def spec_aStatement.j1 : Nat → Int → Bool → Int → Bool → List Int → Int → List (S87) → Int → Int → Int → Int → Option ((List (S52)) × Int)
 | 0, _, _, _, _, _, _, _, _, _, _, _ => none
 | k + 1, x2, x3, x9, x50, x1000, x1001, x711000, x716000, x716001, x716002, x716003 => if x50 = true then ((spec_reader_one.f k x1000 x1001 (([5, 6] : List Int))).bind fun bt740 => (some ((([(⟨x716000, bt740.1, x716002, x716003⟩ : S52)] : List (S52))), bt740.2))) else (if x9 = 7 then ((spec_reader_one.f k x1000 x1001 (([7, 8] : List Int))).bind fun bt748 => (some ((([(⟨x716000, 4, bt748.1, x716003⟩ : S52)] : List (S52))), bt748.2))) else (if x9 = 8 then (some ((([(⟨x716000, 0, x716002, x716003⟩ : S52)] : List (S52))), x1001)) else (if x9 < 11 then ((spec_reader_pick.f k x1000 x1001 4).bind fun bt756 => ((spec_reader_pick.f k x1000 bt756.2 2).bind fun bt758 => ((some (([(⟨x716000, 11, bt756.1, bt758.1⟩ : S52)] : List (S52)) : List (S52))).bind fun y760 => ((spec_aBlock.f k x1000 bt758.2 x711000 (wrap64 (x2 + 1)) x3).bind fun bt763 => (if y760.length + bt763.1.length < 4398046511104 then (some ((y760 ++ bt763.1), bt763.2)) else (none)))))) else (if x9 = 11 then ((spec_reader_one.f k x1000 x1001 (([2, 1, 3, 0] : List Int))).bind fun bt773 => ((some (([(⟨x716000, 12, bt773.1, x716003⟩ : S52)] : List (S52)) : List (S52))).bind fun y775 => ((spec_aBlock.f k x1000 bt773.2 x711000 (wrap64 (x2 + 1)) true).bind fun bt778 => (if y775.length + bt778.1.length < 4398046511104 then (some ((y775 ++ bt778.1), bt778.2)) else (none))))) else ((spec_aTry.f k x1000 x1001 x711000 x2 x3).bind fun bt785 => (some (bt785.1, bt785.2)))))))
def spec_aStatement.f : Nat → List Int → Int → List (S87) → Int → Bool → Option ((List (S52)) × Int)
 | 0, _, _, _, _, _ => none
 | k + 1, s0_0, s0_1, l1_0, a2, a3 => (spec_reader_pick.f k s0_0 s0_1 16).bind fun bt711 => (if a2 ≥ 3 then ((spec_reader_pick.f k s0_0 bt711.2 9).bind fun bt713 => (spec_aStatement.j0 k a2 a3 bt713.1 s0_0 bt713.2 l1_0)) else (spec_aStatement.j0 k a2 a3 bt711.1 s0_0 bt711.2 l1_0))
def spec_aBlock.l0 : Nat → Int → Bool → List (S52) → Int → List Int → Int → List (S87) → Option ((List (S52)) × Int)
 | 0, _, _, _, _, _, _, _ => none
 | k + 1, x2, x3, x9, x10, x1000, x1001, x790000 => if x10 > 0 then ((spec_aStatement.f k x1000 x1001 x790000 x2 x3).bind fun bt798 => (if x9.length + bt798.1.length < 4398046511104 then (spec_aBlock.l0 k x2 x3 (x9 ++ bt798.1) (wrap64 (x10 - 1)) x1000 bt798.2 x790000) else (none))) else (some (x9, x1001))
def spec_aBlock.f : Nat → List Int → Int → List (S87) → Int → Bool → Option ((List (S52)) × Int)
 | 0, _, _, _, _, _ => none
 | k + 1, s0_0, s0_1, l1_0, a2, a3 => (spec_reader_one.f k s0_0 s0_1 (([1, 2, 1, 2, 3] : List Int))).bind fun bt796 => (spec_aBlock.l0 k a2 a3 (([] : List (S52))) bt796.1 s0_0 bt796.2 l1_0)
def spec_aTry.l0 : Nat → Int → Bool → List (S52) → Int → Int → List Int → Int → List (S87) → Option ((List (S52)) × Int)
 | 0, _, _, _, _, _, _, _, _ => none
 | k + 1, x2, x3, x9, x10, x11, x1000, x1001, x806000 => if x11 > 0 then ((spec_reader_pick.f k x1000 x1001 (x806000.length : Int)).bind fun bt821 => ((spec_reader_one.f k x1000 bt821.2 (([bt821.1, 0] : List Int))).bind fun bt826 => (if x9.length < 4398046511104 then ((some (x9 ++ [(⟨x2, 8, bt826.1, 0⟩ : S52)] : List (S52))).bind fun y828 => ((spec_aBlock.f k x1000 bt826.2 x806000 (wrap64 (x2 + 1)) x3).bind fun bt831 => (if y828.length + bt831.1.length < 4398046511104 then (spec_aTry.l0 k x2 x3 (y828 ++ bt831.1) x10 (wrap64 (x11 - 1)) x1000 bt831.2 x806000) else (none)))) else (none)))) else (if x10 > 0 then ((spec_reader_pick.f k x1000 x1001 3).bind fun bt838 => (spec_aTry.j1 k x2 x3 x9 x10 (bt838.1 == 0) x1000 bt838.2 x806000)) else (spec_aTry.j1 k x2 x3 x9 x10 false x1000 x1001 x806000))
def spec_aTry.j1 : Nat → Int → Bool → List (S52) → Int → Bool → List Int → Int → List (S87) → Option ((List (S52)) × Int)
 | 0, _, _, _, _, _, _, _, _ => none
 | k + 1, x2, x3, x9, x10, x57, x1000, x1001, x806000 => if x57 = true then (if x9.length < 4398046511104 then ((some (x9 ++ [(⟨x2, 9, 0, 0⟩ : S52)] : List (S52))).bind fun y840 => ((spec_aBlock.f k x1000 x1001 x806000 (wrap64 (x2 + 1)) x3).bind fun bt843 => (if y840.length + bt843.1.length < 4398046511104 then (spec_aTry.j2 k x2 x3 (y840 ++ bt843.1) x10 x1000 bt843.2 x806000) else (none)))) else (none)) else (spec_aTry.j2 k x2 x3 x9 x10 x1000 x1001 x806000)
def spec_aTry.j2 : Nat → Int → Bool → List (S52) → Int → List Int → Int → List (S87) → Option ((List (S52)) × Int)
 | 0, _, _, _, _, _, _, _ => none
 | k + 1, x2, x3, x9, x10, x1000, x1001, x806000 => if x10 = 0 then (if x9.length < 4398046511104 then ((some (x9 ++ [(⟨x2, 10, 0, 0⟩ : S52)] : List (S52))).bind fun y852 => ((spec_aBlock.f k x1000 x1001 x806000 (wrap64 (x2 + 1)) x3).bind fun bt855 => (if y852.length + bt855.1.length < 4398046511104 then (some ((y852 ++ bt855.1), bt855.2)) else (none)))) else (none)) else ((spec_reader_pick.f k x1000 x1001 2).bind fun bt850 => (if bt850.1 = 0 then (if x9.length < 4398046511104 then ((some (x9 ++ [(⟨x2, 10, 0, 0⟩ : S52)] : List (S52))).bind fun y862 => ((spec_aBlock.f k x1000 bt850.2 x806000 (wrap64 (x2 + 1)) x3).bind fun bt865 => (if y862.length + bt865.1.length < 4398046511104 then (some ((y862 ++ bt865.1), bt865.2)) else (none)))) else (none)) else (some (x9, bt850.2))))
def spec_aTry.f : Nat → List Int → Int → List (S87) → Int → Bool → Option ((List (S52)) × Int)
 | 0, _, _, _, _, _ => none
 | k + 1, s0_0, s0_1, l1_0, a2, a3 => (some (([(⟨a2, 7, 0, 0⟩ : S52)] : List (S52)) : List (S52))).bind fun y806 => ((spec_aBlock.f k s0_0 s0_1 l1_0 (wrap64 (a2 + 1)) a3).bind fun bt809 => (if y806.length + bt809.1.length < 4398046511104 then ((spec_reader_one.f k s0_0 bt809.2 (([1, 2, 0, 1] : List Int))).bind fun bt819 => (spec_aTry.l0 k a2 a3 (y806 ++ bt809.1) bt819.1 bt819.1 s0_0 bt819.2 l1_0)) else (none)))
end
end Go.Proofs.Ytkokajljeebgdaa.P
end
