/- One part of the proofs on this program: functions of the program as plain functions, that the code comes to them, and facts on them. -/
import Derived.Test.YtbcjbcjpoddkoaaYMx
section
set_option linter.unusedSimpArgs false
set_option linter.unusedVariables false
namespace Go.Proofs.Ytbcjbcjpoddkoaa.Pure
open Go Go.RowKit Go.Proofs.Ytbcjbcjpoddkoaa.P Go.Proofs.YtbcjbcjpoddkoaaW.PrintWords
set_option linter.unusedVariables false
abbrev Ln := S59
def dp (p : List Ln) (i : Nat) : Int := (p.getD i z59).f0
def kd (p : List Ln) (i : Nat) : Int := (p.getD i z59).f1
def la (p : List Ln) (i : Nat) : Int := (p.getD i z59).f2
def lb (p : List Ln) (i : Nat) : Int := (p.getD i z59).f3
def isF (k : Int) : Bool := decide (8 ≤ k) && decide (k ≤ 10)
def isO (k : Int) : Bool := decide (7 ≤ k) && decide (k ≤ 12)
def endN (p : List Ln) (d : Int) : Nat → Nat → Nat
 | 0, k => k
 | n + 1, k => if k < p.length then (if dp p k > d then endN p d n (k + 1) else k) else k
def bEnd (p : List Ln) (i : Nat) : Nat := endN p (dp p i) p.length (i + 1)
theorem endN_spec (p : List Ln) (d : Int) : ∀ (n k : Nat), p.length ≤ n + k →
  k ≤ endN p d n k ∧ (k ≤ p.length → endN p d n k ≤ p.length) ∧ (∀ j, k ≤ j → j < endN p d n k → d < dp p j) ∧ (endN p d n k < p.length → dp p (endN p d n k) ≤ d)
 | 0, k, h => ⟨Nat.le_refl _, fun h => h, fun j h1 h2 => absurd h2 (by simp only [endN]; omega), fun h2 => absurd h2 (by simp only [endN]; omega)⟩
 | n + 1, k, h => by
  simp only [endN]
  by_cases h1 : k < p.length
  ·rw [if_pos h1]
   by_cases h2 : dp p k > d
   ·rw [if_pos h2]
    obtain ⟨a, b, c, e⟩ := endN_spec p d n (k + 1) (by omega)
    refine ⟨by omega, fun _ => b h1, fun j hj1 hj2 => ?_, e⟩
    by_cases hj : j = k
    ·rw [hj]; exact h2
    ·exact c j (by omega) hj2
   ·rw [if_neg h2]
    exact ⟨Nat.le_refl _, fun h => h, fun j h1 h2 => absurd h2 (by omega), fun _ => by omega⟩
  ·rw [if_neg h1]
   exact ⟨Nat.le_refl _, fun h => h, fun j h1 h2 => absurd h2 (by omega), fun h => absurd h h1⟩
theorem bEnd_gt (p : List Ln) (i : Nat) : i < bEnd p i := (endN_spec p (dp p i) p.length (i + 1) (by omega)).1
theorem bEnd_le {p : List Ln} {i : Nat} (h : i < p.length) : bEnd p i ≤ p.length := (endN_spec p (dp p i) p.length (i + 1) (by omega)).2.1 h
theorem bEnd_in {p : List Ln} {i j : Nat} (h1 : i < j) (h2 : j < bEnd p i) : dp p i < dp p j := (endN_spec p (dp p i) p.length (i + 1) (by omega)).2.2.1 j h1 h2
theorem bEnd_at {p : List Ln} {i : Nat} (h : bEnd p i < p.length) : dp p (bEnd p i) ≤ dp p i := (endN_spec p (dp p i) p.length (i + 1) (by omega)).2.2.2 h
theorem bEnd_uniq {p : List Ln} {i e : Nat} (h1 : i < e) (h2 : e ≤ p.length) (h3 : ∀ j, i < j → j < e → dp p i < dp p j) (h4 : e < p.length → dp p e ≤ dp p i) : bEnd p i = e := by
 have g := bEnd_gt p i
 have l : bEnd p i ≤ p.length := bEnd_le (by omega)
 rcases Nat.lt_trichotomy (bEnd p i) e with h | h | h
 ·have a := h3 (bEnd p i) g h
  have b := bEnd_at (p := p) (i := i) (by omega)
  omega
 ·exact h
 ·have a := bEnd_in (p := p) h1 h
  have b := h4 (by omega)
  omega
theorem bEnd_lt_iff {p : List Ln} {k i : Nat} (h : k < i) (hi : i < p.length) : i < bEnd p k ↔ ∀ j, k < j → j ≤ i → dp p k < dp p j := by
 constructor
 ·intro h1 j h2 h3
  exact bEnd_in h2 (by omega)
 ·intro h1
  rcases Nat.lt_or_ge i (bEnd p k) with h2 | h2
  ·exact h2
  ·have g := bEnd_gt p k
   have a := h1 (bEnd p k) g h2
   have b := bEnd_at (p := p) (i := k) (by omega)
   omega
def chainN (p : List Ln) (d : Int) : Nat → Nat → List Nat
 | 0, _ => []
 | n + 1, k => if k < p.length ∧ dp p k = d ∧ isF (kd p k) = true then k :: chainN p d n (bEnd p k) else []
def chainT (p : List Ln) (i : Nat) : List Nat := chainN p (dp p i) p.length (bEnd p i)
def chain (p : List Ln) (i : Nat) : List Nat := i :: chainT p i
theorem chainN_mem {p : List Ln} {d : Int} : ∀ {n k j : Nat}, j ∈ chainN p d n k → k ≤ j ∧ j < p.length ∧ dp p j = d ∧ isF (kd p j) = true
 | 0, _, _, h => by simp [chainN] at h
 | n + 1, k, j, h => by
  simp only [chainN] at h
  split at h
  ·rename_i hc
   rcases List.mem_cons.mp h with rfl | h
   ·exact ⟨Nat.le_refl _, hc⟩
   ·have := chainN_mem h
    have g := bEnd_gt p k
    exact ⟨by omega, this.2⟩
  ·simp at h
def finB (n : Nat) (o : Option Int) : Bool := match o with | none => false | some ex => decide (1 ≤ n) && decide (ex ≤ 6)
def badK (k ex : Int) (q : Option Int) : Bool := (match q with | some q => decide (k < q) || (decide (k = q) && decide (k ≠ 8)) | none => false) || (decide (k = 9) && decide (ex = 0))
def vcGo : List Int → Int → Option Int → Option Int
 | [], ex, _ => some ex
 | k :: ks, ex, q => if badK k (if k = 8 then ex + 1 else ex) q = true then none else vcGo ks (if k = 8 then ex + 1 else ex) (some k)
def vcB (ks : List Int) : Bool := finB ks.length (vcGo ks 0 none)
structure DR (p : List Ln) : Prop where
 first : 0 < p.length → dp p 0 = 0
 deeper : ∀ i, i + 1 < p.length → isO (kd p i) = true → dp p (i + 1) = dp p i + 1
 none : ∀ i, i + 1 < p.length → isO (kd p i) = false → dp p (i + 1) ≤ dp p i
 last : ∀ i, i + 1 = p.length → isO (kd p i) = false
structure Blk (p : List Ln) (d : Int) (a i b : Nat) : Prop where
 ai : a ≤ i
 ib : i ≤ b
 bl : b ≤ p.length
 low : ∀ j, a ≤ j → j < b → d ≤ dp p j
 at_ : i < b → dp p i = d
 out : b < p.length → dp p b < d
theorem Blk.inner {p : List Ln} {d : Int} {a i b : Nat} (hr : DR p) (h : Blk p d a i b) (hi : i < b) : Blk p (d + 1) (i + 1) (i + 1) (bEnd p i) := by
 have hd := h.at_ hi
 have h1 := h.bl
 have g := bEnd_gt p i
 have l := bEnd_le (p := p) (i := i) (by omega)
 refine ⟨Nat.le_refl _, g, l, fun j h2 h3 => ?_, fun h2 => ?_, fun h2 => ?_⟩
 ·have := bEnd_in (p := p) (i := i) (j := j) (by omega) h3
  omega
 ·have a1 := bEnd_in (p := p) (i := i) (j := i + 1) (by omega) h2
  cases ho : isO (kd p i) with
  | true => rw [hr.deeper i (by omega) ho, hd]
  | false => have := hr.none i (by omega) ho; omega
 ·have := bEnd_at (p := p) (i := i) h2
  omega
def Good (p : List Ln) (a : Nat) (lp : Bool) (i : Nat) : Prop :=
 (kd p i = 7 → vcB ((chainT p i).map (kd p)) = true) ∧
 ((kd p i = 5 ∨ kd p i = 6) → lp = true ∨ ∃ m, a ≤ m ∧ m < i ∧ kd p m = 12 ∧ i < bEnd p m) ∧
 (isF (kd p i) = true → ∃ m, a ≤ m ∧ m < i ∧ bEnd p m = i ∧ dp p m = dp p i ∧ (kd p m = 7 ∨ isF (kd p m) = true))
end Go.Proofs.Ytbcjbcjpoddkoaa.Pure
end
