/- One part of the proofs on this program: functions of the program as plain functions, that the code comes to them, and facts on them. -/
import Derived.Test.YtlhfcmbkjddgiaaYAll1
import Derived.Test.YtlhfcmbkjddgiaaYAll4
section
set_option linter.unusedSimpArgs false
set_option linter.unusedVariables false
namespace Go.Proofs.Ytlhfcmbkjddgiaa.Pure
open Go Go.RowKit Go.Proofs.Ytlhfcmbkjddgiaa.P Go.Proofs.YtlhfcmbkjddgiaaW.PrintWords
set_option linter.unusedVariables false
theorem Ev.pos {α : Type} {c : Prop} [Decidable c] {f g : Nat → Option α} {r : α} (h : c) (e : Ev f r) : Ev (fun k => if c then f k else g k) r := by simpa only [if_pos h] using e
theorem Ev.neg {α : Type} {c : Prop} [Decidable c] {f g : Nat → Option α} {r : α} (h : ¬ c) (e : Ev g r) : Ev (fun k => if c then f k else g k) r := by simpa only [if_neg h] using e
theorem Ev.both {α : Type} {c : Prop} [Decidable c] {f g : Nat → Option α} {r : α} (h1 : c → Ev f r) (h2 : ¬ c → Ev g r) : Ev (fun k => if c then f k else g k) r := by
 by_cases h:c
 ·exact Ev.pos h (h1 h)
 ·exact Ev.neg h (h2 h)
theorem wr {x : Int} (h : -9223372036854775808 ≤ x ∧ x ≤ 9223372036854775807) : wrap64 x = x := by unfold wrap64; omega
theorem wS {i : Nat} (h : i ≤ 4611686018427387904) : wrap64 ((i : Int) + 1) = ((i + 1 : Nat) : Int) := by rw [wr (by omega)]; omega
def ci (l : List Nat) : List Int := l.map fun n : Nat => (n : Int)
theorem jzb (l : List Nat) : (ci l).length = l.length := by simp [ci]
theorem ci_snoc (l : List Nat) (k : Nat) : ci l ++ [(k : Int)] = ci (l ++ [k]) := by simp [ci]
theorem ci_drop {l r : List Nat} {j a : Nat} (h : l.drop j = a :: r) : j < l.length ∧ rd (ci l) (j : Int) = (a : Int) ∧ l.drop (j + 1) = r := by
 have hj:j<l.length:=by
  rcases Nat.lt_or_ge j l.length with h1 | h1
  ·exact h1
  ·rw [List.drop_eq_nil_of_le h1] at h;cases h
 rw [List.drop_eq_getElem_cons hj] at h
 injection h with h1 h2
 refine ⟨hj,?_,h2⟩
 simp [rd,ci,List.getD_eq_getElem?_getD,hj,h1]
theorem ci_end {l : List Nat} {j : Nat} (h : l.drop j = []) : l.length ≤ j := by simpa using h
theorem inR (a b c : Int) : jwa.f a b c = some (decide (b ≤ a) && decide (a ≤ c)) := by
 unfold jwa.f
 by_cases h:b≤a <;> simp [h]
theorem inW (a b c : Int) : jza.f a b c = some (decide (b ≤ a) && decide (a ≤ c)) := by
 unfold jza.f
 by_cases h:b≤a
 ·rw [if_pos h];simp [h]
 ·rw [if_neg h];simp [h]
def bw (a lo hi : Int) : Bool := decide (lo ≤ a) && decide (a ≤ hi)
theorem bw_iff {a lo hi : Int} : bw a lo hi = true ↔ lo ≤ a ∧ a ≤ hi := by simp [bw]
theorem iR (a b c : Int) : jwa.f a b c = some (bw a b c) := inR a b c
theorem iW (a b c : Int) : jza.f a b c = some (bw a b c) := inW a b c
theorem eqd (a z : Int) : (a == z) = decide (a = z) := by rw [Bool.eq_iff_iff]; simp
theorem Ev.andB {b c : Bool} : Ev (fun _ : Nat => if b = true then some c else some false) (b && c) := by
 cases b with
 | true=>exact Ev.pos rfl (by simpa using Ev.now c)
 | false=>exact Ev.neg (by simp) (by simpa using Ev.now false)
def hasN (b : Int) : List Nat → Bool
 | []=>false
 | a :: r=>if (a:Int)=b then true else hasN b r
theorem hasN_iff (b : Int) : ∀ l : List Nat, hasN b l = true ↔ ∃ a ∈ l, (a : Int) = b
 | []=>by simp [hasN]
 | a :: r=>by
  rw [hasN]
  split
  ·rename_i h;exact ⟨fun _=>⟨a,by simp,h⟩,fun _=>rfl⟩
  ·rename_i h
   rw [hasN_iff b r]
   constructor
   ·rintro ⟨c,h1,h2⟩;exact ⟨c,by simp [h1],h2⟩
   ·rintro ⟨c,h1,h2⟩
    rcases List.mem_cons.mp h1 with rfl | h1
    ·exact absurd h2 h
    ·exact ⟨c,h1,h2⟩
end Go.Proofs.Ytlhfcmbkjddgiaa.Pure
end
