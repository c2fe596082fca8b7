/- One part of the proofs on this program: functions of the program as plain functions, that the code comes to them, and facts on them. -/
import Derived.Test.YtlhfcmbkjddgiaaYAll7
import Derived.Test.YtlhfcmbkjddgiaaYMj
section
set_option linter.unusedSimpArgs false
set_option linter.unusedVariables false
namespace Go.Proofs.Ytlhfcmbkjddgiaa.Pure
open Go Go.RowKit Go.Proofs.Ytlhfcmbkjddgiaa.P Go.Proofs.YtlhfcmbkjddgiaaW.PrintWords
set_option linter.unusedVariables false
theorem hasC {t : List Cl} {c : Int} : hasB t c = true ↔ 0 ≤ c ∧ c < t.length := by unfold hasB; rw [bw_iff]; omega
theorem ev_classesIn {t : List Cl} (ht : TS t) (a : Int) : Ev (fun k => jeb.f k t [a]) (jOb t && hasB t a) := by
 unfold jeb.f
 refine Ev.bind (jhc ht) ?_
 cases jOb t with
 | false=>exact Ev.neg (by simp) (Ev.now _)
 | true =>
  refine Ev.pos rfl ?_
  simp only [idxFrom,iHas ht.1,Option.map_some,Option.bind_some]
  cases hasB t a with
  | true=>simpa using Ev.now true
  | false=>simpa using Ev.now false
end Go.Proofs.Ytlhfcmbkjddgiaa.Pure
end
