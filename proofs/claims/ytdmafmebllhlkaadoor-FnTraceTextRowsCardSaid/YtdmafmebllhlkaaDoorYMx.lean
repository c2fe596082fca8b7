/- One part of the proofs on this program: functions of the program as plain functions, that the code comes to them, and facts on them. -/
import Derived.Test.YtdmafmebllhlkaaDoorYAll1
section
set_option linter.unusedSimpArgs false
set_option linter.unusedVariables false
namespace Go.Proofs.YtdmafmebllhlkaaDoor.Pure
open Go Go.RowKit Go.Proofs.YtdmafmebllhlkaaDoor.P Go.Proofs.YtdmafmebllhlkaaDoorW.PrintWords
set_option linter.unusedVariables false
theorem Ev.pos {α : Type} {c : Prop} [Decidable c] {f g : Nat → Option α} {r : α} (h : c) (e : Ev f r) : Ev (fun k => if c then f k else g k) r := by simpa only [if_pos h] using e
theorem Ev.neg {α : Type} {c : Prop} [Decidable c] {f g : Nat → Option α} {r : α} (h : ¬ c) (e : Ev g r) : Ev (fun k => if c then f k else g k) r := by simpa only [if_neg h] using e
theorem Ev.both {α : Type} {c : Prop} [Decidable c] {f g : Nat → Option α} {r : α} (h1 : c → Ev f r) (h2 : ¬ c → Ev g r) : Ev (fun k => if c then f k else g k) r := by
 by_cases h:c
 ·exact Ev.pos h (h1 h)
 ·exact Ev.neg h (h2 h)
theorem wr {x : Int} (h : -9223372036854775808 ≤ x ∧ x ≤ 9223372036854775807) : wrap64 x = x := by unfold wrap64; omega
theorem wS {i : Nat} (h : i ≤ 4611686018427387904) : wrap64 ((i : Int) + 1) = ((i + 1 : Nat) : Int) := by rw [wr (by omega)]; omega
theorem wP {i : Nat} (h : i ≤ 4611686018427387904) : wrap64 (((i + 1 : Nat) : Int) - 1) = (i : Int) := by rw [wr (by omega)]; omega
theorem inR (a b c : Int) : jZ.f a b c = some (decide (b ≤ a) && decide (a ≤ c)) := by
 unfold jZ.f
 by_cases h:b≤a <;> simp [h]
theorem inW (a b c : Int) : jsa.f a b c = some (decide (b ≤ a) && decide (a ≤ c)) := by
 unfold jsa.f
 by_cases h:b≤a
 ·rw [if_pos h];simp [h]
 ·rw [if_neg h];simp [h]
def bw (a lo hi : Int) : Bool := decide (lo ≤ a) && decide (a ≤ hi)
theorem bw_iff {a lo hi : Int} : bw a lo hi = true ↔ lo ≤ a ∧ a ≤ hi := by simp [bw]
theorem iR (a b c : Int) : jZ.f a b c = some (bw a b c) := inR a b c
theorem iW (a b c : Int) : jsa.f a b c = some (bw a b c) := inW a b c
theorem eqd (a z : Int) : (a == z) = decide (a = z) := by rw [Bool.eq_iff_iff]; simp
end Go.Proofs.YtdmafmebllhlkaaDoor.Pure
end
