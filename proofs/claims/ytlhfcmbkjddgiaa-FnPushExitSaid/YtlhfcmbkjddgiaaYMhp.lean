/- One part of the proofs on this program: functions of the program as plain functions, that the code comes to them, and facts on them. -/
import Derived.Test.YtlhfcmbkjddgiaaYAll1
import Derived.Test.YtlhfcmbkjddgiaaYAll8
import Derived.Test.YtlhfcmbkjddgiaaYMj
section
set_option linter.unusedSimpArgs false
set_option linter.unusedVariables false
namespace Go.Proofs.Ytlhfcmbkjddgiaa.Pure
open Go Go.RowKit Go.Proofs.Ytlhfcmbkjddgiaa.P Go.Proofs.YtlhfcmbkjddgiaaW.PrintWords
set_option linter.unusedVariables false
abbrev Ft := S90
def fcl (h : List Ft) (i : Nat) : Int := (h.getD i z90).f0
def fcd (h : List Ft) (i : Nat) : Int := (h.getD i z90).f1
def fca (h : List Ft) (i : Nat) : Int := (h.getD i z90).f2
def fcx (h : List Ft) (i : Nat) : Int := (h.getD i z90).f3
theorem u0 (h : List Ft) (i : Nat) : (jw h (i : Int)).f0 = fcl h i := rfl
theorem u1 (h : List Ft) (i : Nat) : (jw h (i : Int)).f1 = fcd h i := rfl
def LO (h : List Ft) : Prop := ∀ i, i < h.length → (-1 ≤ fca h i ∧ fca h i < (h.length : Int)) ∧ (-1 ≤ fcx h i ∧ fcx h i < (h.length : Int))
theorem hasN_nat (a : Nat) (l : List Nat) : hasN (a : Int) l = true ↔ a ∈ l := by
 rw [hasN_iff]
 constructor
 ·rintro ⟨b,h1,h2⟩
  rw [← Int.ofNat.inj h2];exact h1
 ·exact fun h=>⟨a,h,rfl⟩
theorem nodup_lt {l : List Nat} {n : Nat} (h : l.Nodup) (hl : ∀ a ∈ l, a < n) : l.length ≤ n := by
 have:=h.length_le_of_subset (l₂:=List.range n) (fun a ha=>List.mem_range.mpr (hl a ha))
 simpa using this
def wlk (nx : Nat → Int) : Nat → Int → List Nat → List Nat
 | 0,_,acc=>acc
 | n+1,f,acc=>if 0≤f then (if f.toNat ∈ acc then acc else wlk nx n (nx f.toNat) (acc ++ [f.toNat])) else acc
def cxL (h : List Ft) (f : Int) : List Nat := wlk (fcx h) (h.length + 1) f []
def LkP (m i : Nat) (z : Int) : Prop := -1 ≤ z ∧ z < (m : Int) ∧ z ≠ (i : Int)
def FOk (t : List Cl) (h : List Ft) (i : Nat) : Prop := hasB t (fcl h i) = true ∧ bw (fcd h i) 0 99 = true ∧ LkP h.length i (fca h i) ∧ LkP h.length i (fcx h i)
def lastD (l : List Nat) : Nat := l.getLastD 0
def Ends (h : List Ft) (i : Nat) : Prop := fcx h (lastD (cxL h (i : Int))) = -1
def HV (t : List Cl) (h : List Ft) : Prop := (∀ i, i < h.length → FOk t h i) ∧ (∀ i, i < h.length → Ends h i) ∧ treeB t = true ∧ h.length ≤ 24
noncomputable def hB (t : List Cl) (h : List Ft) : Bool := @decide (HV t h) (Classical.propDecidable _)
end Go.Proofs.Ytlhfcmbkjddgiaa.Pure
end
