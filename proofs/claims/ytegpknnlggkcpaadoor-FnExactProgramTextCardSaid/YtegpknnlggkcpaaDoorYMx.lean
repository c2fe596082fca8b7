/- One part of the proofs on this program: functions of the program as plain functions, that the code comes to them, and facts on them. -/
import Derived.Test.YtegpknnlggkcpaaDoorYAll1
import Derived.Test.YtegpknnlggkcpaaDoorYAll3
section
set_option linter.unusedSimpArgs false
set_option linter.unusedVariables false
namespace Go.Proofs.YtegpknnlggkcpaaDoor.Pure
open Go Go.RowKit Go.Proofs.YtegpknnlggkcpaaDoor.P Go.Proofs.YtegpknnlggkcpaaDoorW.PrintWords
set_option linter.unusedVariables false
theorem Ev.pos {α : Type} {c : Prop} [Decidable c] {f g : Nat → Option α} {r : α} (h : c) (e : Ev f r) : Ev (fun k => if c then f k else g k) r := by simpa only [if_pos h] using e
theorem Ev.neg {α : Type} {c : Prop} [Decidable c] {f g : Nat → Option α} {r : α} (h : ¬ c) (e : Ev g r) : Ev (fun k => if c then f k else g k) r := by simpa only [if_neg h] using e
theorem Ev.both {α : Type} {c : Prop} [Decidable c] {f g : Nat → Option α} {r : α} (h1 : c → Ev f r) (h2 : ¬ c → Ev g r) : Ev (fun k => if c then f k else g k) r := by
 by_cases h:c
 ·exact Ev.pos h (h1 h)
 ·exact Ev.neg h (h2 h)
theorem wr {x : Int} (h : -9223372036854775808 ≤ x ∧ x ≤ 9223372036854775807) : wrap64 x = x := by unfold wrap64; omega
theorem wS {i : Nat} (h : i ≤ 4611686018427387904) : wrap64 ((i : Int) + 1) = ((i + 1 : Nat) : Int) := by rw [wr (by omega)]; omega
def ci (l : List Nat) : List Int := l.map fun n : Nat => (n : Int)
theorem jIb (l : List Nat) : (ci l).length = l.length := by simp [ci]
theorem ci_snoc (l : List Nat) (k : Nat) : ci l ++ [(k : Int)] = ci (l ++ [k]) := by simp [ci]
theorem ci_cons (k : Nat) (l : List Nat) : ci (k :: l) = (k : Int) :: ci l := rfl
theorem ci_drop {l r : List Nat} {j a : Nat} (h : l.drop j = a :: r) : j < l.length ∧ rd (ci l) (j : Int) = (a : Int) ∧ l.drop (j + 1) = r := by
 have hj:j<l.length:=by
  rcases Nat.lt_or_ge j l.length with h1 | h1
  ·exact h1
  ·rw [List.drop_eq_nil_of_le h1] at h;cases h
 rw [List.drop_eq_getElem_cons hj] at h
 injection h with h1 h2
 refine ⟨hj,?_,h2⟩
 simp [rd,ci,List.getD_eq_getElem?_getD,hj,h1]
theorem ci_end {l : List Nat} {j : Nat} (h : l.drop j = []) : l.length ≤ j := by simpa using h
theorem inR (a b c : Int) : jq.f a b c = some (decide (b ≤ a) && decide (a ≤ c)) := by
 unfold jq.f
 by_cases h:b≤a <;> simp [h]
theorem inW (a b c : Int) : jv.f a b c = some (decide (b ≤ a) && decide (a ≤ c)) := by
 unfold jv.f
 by_cases h:b≤a
 ·rw [if_pos h];simp [h]
 ·rw [if_neg h];simp [h]
def bw (a lo hi : Int) : Bool := decide (lo ≤ a) && decide (a ≤ hi)
theorem bw_iff {a lo hi : Int} : bw a lo hi = true ↔ lo ≤ a ∧ a ≤ hi := by simp [bw]
theorem iR (a b c : Int) : jq.f a b c = some (bw a b c) := inR a b c
theorem iW (a b c : Int) : jv.f a b c = some (bw a b c) := inW a b c
theorem eqd (a z : Int) : (a == z) = decide (a = z) := by rw [Bool.eq_iff_iff]; simp
theorem Ev.andB {b c : Bool} : Ev (fun _ : Nat => if b = true then some c else some false) (b && c) := by
 cases b with
 | true=>exact Ev.pos rfl (by simpa using Ev.now c)
 | false=>exact Ev.neg (by simp) (by simpa using Ev.now false)
theorem iP (m : Nat) : ((m + 1 : Nat) : Int) - 1 = (m : Int) := by omega
theorem iM {m : Nat} (h : m ≤ 1048576) : wrap64 ((m : Int) - 1) = (m : Int) - 1 := wr (by omega)
theorem fill_set {α β : Type} (f : α → β) (z : β) (l : List α) (i : Nat) (hi : i < l.length) :
  ((l.take i).map f ++ List.replicate (l.length - i) z).set i (f l[i])=(l.take (i+1)).map f ++ List.replicate (l.length - (i+1)) z:=by
 have hl:((l.take i).map f).length=i:=by rw [List.length_map,List.length_take];omega
 rw [List.set_append_right _ _ (by omega),hl,Nat.sub_self,show l.length - i=(l.length - (i+1))+1 from by omega,List.replicate_succ,List.set_cons_zero,List.take_succ_eq_append_getElem hi,List.map_append,List.append_assoc]
 rfl
theorem fill_len {α β : Type} (f : α → β) (z : β) (l : List α) (i : Nat) (hi : i ≤ l.length) : ((l.take i).map f ++ List.replicate (l.length - i) z).length = l.length := by
 rw [List.length_append,List.length_map,List.length_take,List.length_replicate];omega
theorem fill_end {α β : Type} (f : α → β) (z : β) (l : List α) (i : Nat) (hi : l.length ≤ i) : (l.take i).map f ++ List.replicate (l.length - i) z = l.map f := by
 rw [List.take_of_length_le hi,show l.length - i=0 from by omega];simp
end Go.Proofs.YtegpknnlggkcpaaDoor.Pure
end
