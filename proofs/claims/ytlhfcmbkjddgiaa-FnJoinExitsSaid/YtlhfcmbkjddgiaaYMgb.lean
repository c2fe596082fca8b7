/- One part of the proofs on this program: functions of the program as plain functions, that the code comes to them, and facts on them. -/
import Derived.Test.YtlhfcmbkjddgiaaYAll4
import Derived.Test.YtlhfcmbkjddgiaaYMhp
section
set_option linter.unusedSimpArgs false
set_option linter.unusedVariables false
namespace Go.Proofs.Ytlhfcmbkjddgiaa.Pure
open Go Go.RowKit Go.Proofs.Ytlhfcmbkjddgiaa.P Go.Proofs.YtlhfcmbkjddgiaaW.PrintWords
set_option linter.unusedVariables false
noncomputable def gB (t : List Cl) (h : List Ft) (a : Int) : Bool := hB t h && bw a 0 ((h.length : Int) - 1)
theorem gB_iff {t : List Cl} {h : List Ft} {a : Int} : gB t h a = true ↔ HV t h ∧ ∃ f : Nat, a = (f : Int) ∧ f < h.length := by
 unfold gB
 rw [Bool.and_eq_true,hB_iff,bw_iff]
 exact ⟨fun ⟨x,y,z⟩=>⟨x,a.toNat,by omega,by omega⟩,fun ⟨x,f,y,z⟩=>⟨x,by omega,by omega⟩⟩
theorem HV.lo {t : List Cl} {h : List Ft} (hv : HV t h) : LO h := fun i hi => ⟨⟨(hv.1 i hi).2.2.1.1, (hv.1 i hi).2.2.1.2.1⟩, ⟨(hv.1 i hi).2.2.2.1, (hv.1 i hi).2.2.2.2.1⟩⟩
theorem iGood {t : List Cl} {h : List Ft} (ht : TS t) (hn : h.length ≤ 1048576) (a : Int) : Ev (fun k => jdb.f k t h [a]) (gB t h a) := by
 unfold jdb.f gB
 refine Ev.bind (iHV ht (by omega)) ?_
 cases hB t h with
 | true =>
  refine Ev.pos rfl ?_
  simp only [idxFrom,hpIn_bw,Option.bind_some]
  cases bw a 0 ((h.length:Int) - 1) with
  | true=>exact Ev.now _
  | false=>exact Ev.now _
 | false=>exact Ev.neg (by simp) (Ev.now _)
end Go.Proofs.Ytlhfcmbkjddgiaa.Pure
end
