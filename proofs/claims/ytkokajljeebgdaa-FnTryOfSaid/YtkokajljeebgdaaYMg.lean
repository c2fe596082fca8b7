/- One part of the proofs on this program: functions of the program as plain functions, that the code comes to them, and facts on them. -/
import Derived.Test.YtkokajljeebgdaaYB4
import Derived.Test.YtkokajljeebgdaaYB5
import Derived.Test.YtkokajljeebgdaaYMe
section
set_option linter.unusedSimpArgs false
set_option linter.unusedVariables false
namespace Go.Proofs.Ytkokajljeebgdaa.Pure
open Go Go.RowKit Go.Proofs.Ytkokajljeebgdaa.P Go.Proofs.YtkokajljeebgdaaW.PrintWords
set_option linter.unusedVariables false
def encN (p : List Ln) : Nat → Int → List Nat
 | 0, _ => []
 | i + 1, d => if dp p i < d then i :: encN p i (dp p i) else encN p i d
def enc (p : List Ln) (a : Nat) : List Nat := encN p a (dp p a)
def At (t : List Cl) (p : List Ln) (a : Int) : Prop := ValidP t p ∧ 0 ≤ a ∧ a < (p.length : Int)
theorem ev_goods {t : List Cl} {p : List Ln} (hp : p.length ≤ 1048576) (ht : TS t) (a : Int) :
  ∃ b, Ev (fun k => spec_goodLine.f k t p a) b ∧ Ev (fun k => impl_lineIn.f k t p a) b ∧ (b = true ↔ At t p a) := by
 refine ⟨vB t p && bw a 0 ((p.length : Int) - 1), ?_, ?_, ?_⟩
 ·unfold spec_goodLine.f
  refine Ev.bind (sValid hp ht) ?_
  rw [wr (by omega), iR]
  cases vB t p with
  | true => exact Ev.pos rfl (by simpa using Ev.now _)
  | false => exact Ev.neg (by simp) (by simpa using Ev.now false)
 ·unfold impl_lineIn.f
  refine Ev.bind (iValid hp ht) ?_
  rw [wr (by omega), iW]
  cases vB t p with
  | true => exact Ev.pos rfl (by simpa using Ev.now _)
  | false => exact Ev.neg (by simp) (by simpa using Ev.now false)
 ·rw [Bool.and_eq_true, vB_iff, bw_iff]
  unfold At
  constructor
  ·rintro ⟨x, y, z⟩; exact ⟨x, y, by omega⟩
  ·rintro ⟨x, y, z⟩; exact ⟨x, y, by omega⟩
theorem At.nat {t : List Cl} {p : List Ln} {a : Int} (h : At t p a) : ∃ n : Nat, a = (n : Int) ∧ n < p.length := ⟨a.toNat, by have := h.2.1; omega, by have := h.2.1; have := h.2.2; omega⟩
end Go.Proofs.Ytkokajljeebgdaa.Pure
end
