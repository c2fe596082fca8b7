/- One part of the proofs on this program: functions of the program as plain functions, that the code comes to them, and facts on them. -/
import Derived.Test.YtpfaohdpnegjnaaDoorYWWords
section
namespace Go.Proofs.YtpfaohdpnegjnaaDoorW.PrintWords
def idxFrom {α : Type} (p : α → Option Bool) : List α → Nat → Option Int
 | [], _ => some (-1)
 | x :: xs, i => (p x).bind fun b => if b then some (i : Int) else idxFrom p xs (i + 1)
theorem idxFrom_step {α : Type} {p : α → Option Bool} {l : List α} {k : Nat} {r : Int} (hk : k < l.length) (h : idxFrom p (l.drop k) k = some r) :
  ∃ b, p l[k] = some b ∧ (if b then some (k : Int) else idxFrom p (l.drop (k + 1)) (k + 1)) = some r := by
 rw [List.drop_eq_getElem_cons hk] at h
 simp only [idxFrom] at h
 obtain ⟨b, h1, h2⟩ := Option.bind_eq_some_iff.mp h
 exact ⟨b, h1, h2⟩
theorem idxFrom_end {α : Type} {p : α → Option Bool} {l : List α} {k : Nat} {r : Int} (hk : l.length ≤ k) (h : idxFrom p (l.drop k) k = some r) : r = -1 := by
 rw [List.drop_eq_nil_of_le hk] at h
 simpa [idxFrom] using h.symm
end Go.Proofs.YtpfaohdpnegjnaaDoorW.PrintWords
end
