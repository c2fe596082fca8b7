/- One part of the proofs on this program: functions of the program as plain functions, that the code comes to them, and facts on them. -/
import Derived.Test.YtlhfcmbkjddgiaaYAll6
import Derived.Test.YtlhfcmbkjddgiaaYMj
section
set_option linter.unusedSimpArgs false
set_option linter.unusedVariables false
namespace Go.Proofs.Ytlhfcmbkjddgiaa.Pure
open Go Go.RowKit Go.Proofs.Ytlhfcmbkjddgiaa.P Go.Proofs.YtlhfcmbkjddgiaaW.PrintWords
set_option linter.unusedVariables false
theorem hasC {t : List Cl} {c : Int} : hasB t c = true ↔ 0 ≤ c ∧ c < t.length := by unfold hasB; rw [bw_iff]; omega
end Go.Proofs.Ytlhfcmbkjddgiaa.Pure
end
