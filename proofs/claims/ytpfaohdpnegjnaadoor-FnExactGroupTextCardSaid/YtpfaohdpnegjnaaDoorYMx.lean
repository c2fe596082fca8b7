/- One part of the proofs on this program: functions of the program as plain functions, that the code comes to them, and facts on them. -/
import Derived.Test.YtpfaohdpnegjnaaDoorYAll1
import Derived.Test.YtpfaohdpnegjnaaDoorYAll3
section
set_option linter.unusedSimpArgs false
set_option linter.unusedVariables false
namespace Go.Proofs.YtpfaohdpnegjnaaDoor.Pure
open Go Go.RowKit Go.Proofs.YtpfaohdpnegjnaaDoor.P Go.Proofs.YtpfaohdpnegjnaaDoorW.PrintWords
set_option linter.unusedVariables false
theorem Ev.pos {α : Type} {c : Prop} [Decidable c] {f g : Nat → Option α} {r : α} (h : c) (e : Ev f r) : Ev (fun k => if c then f k else g k) r := by simpa only [if_pos h] using e
theorem Ev.neg {α : Type} {c : Prop} [Decidable c] {f g : Nat → Option α} {r : α} (h : ¬ c) (e : Ev g r) : Ev (fun k => if c then f k else g k) r := by simpa only [if_neg h] using e
theorem wr {x : Int} (h : -9223372036854775808 ≤ x ∧ x ≤ 9223372036854775807) : wrap64 x = x := by unfold wrap64; omega
theorem wS {i : Nat} (h : i ≤ 4611686018427387904) : wrap64 ((i : Int) + 1) = ((i + 1 : Nat) : Int) := by rw [wr (by omega)]; omega
theorem wP {i : Nat} (h : i ≤ 4611686018427387904) : wrap64 (((i + 1 : Nat) : Int) - 1) = (i : Int) := by rw [wr (by omega)]; omega
theorem inR (a b c : Int) : jr.f a b c = some (decide (b ≤ a) && decide (a ≤ c)) := by
 unfold jr.f
 by_cases h:b≤a <;> simp [h]
theorem inW (a b c : Int) : jI.f a b c = some (decide (b ≤ a) && decide (a ≤ c)) := by
 unfold jI.f
 by_cases h:b≤a
 ·rw [if_pos h];simp [h]
 ·rw [if_neg h];simp [h]
def bw (a lo hi : Int) : Bool := decide (lo ≤ a) && decide (a ≤ hi)
theorem bw_iff {a lo hi : Int} : bw a lo hi = true ↔ lo ≤ a ∧ a ≤ hi := by simp [bw]
theorem iR (a b c : Int) : jr.f a b c = some (bw a b c) := inR a b c
theorem iW (a b c : Int) : jI.f a b c = some (bw a b c) := inW a b c
theorem eqd (a z : Int) : (a == z) = decide (a = z) := by rw [Bool.eq_iff_iff]; simp
theorem fill_set {α β : Type} (f : α → β) (z : β) (l : List α) (i : Nat) (hi : i < l.length) :
  ((l.take i).map f ++ List.replicate (l.length - i) z).set i (f l[i])=(l.take (i+1)).map f ++ List.replicate (l.length - (i+1)) z:=by
 have hl:((l.take i).map f).length=i:=by rw [List.length_map,List.length_take];omega
 rw [List.set_append_right _ _ (by omega),hl,Nat.sub_self,show l.length - i=(l.length - (i+1))+1 from by omega,List.replicate_succ,List.set_cons_zero,List.take_succ_eq_append_getElem hi,List.map_append,List.append_assoc]
 rfl
theorem fill_len {α β : Type} (f : α → β) (z : β) (l : List α) (i : Nat) (hi : i ≤ l.length) : ((l.take i).map f ++ List.replicate (l.length - i) z).length = l.length := by
 rw [List.length_append,List.length_map,List.length_take,List.length_replicate];omega
theorem fill_end {α β : Type} (f : α → β) (z : β) (l : List α) (i : Nat) (hi : l.length ≤ i) : (l.take i).map f ++ List.replicate (l.length - i) z = l.map f := by
 rw [List.take_of_length_le hi,show l.length - i=0 from by omega];simp
end Go.Proofs.YtpfaohdpnegjnaaDoor.Pure
end
