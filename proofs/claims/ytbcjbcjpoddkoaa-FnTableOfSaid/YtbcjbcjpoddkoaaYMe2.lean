/- One part of the proofs on this program: functions of the program as plain functions, that the code comes to them, and facts on them. -/
import Derived.Test.YtbcjbcjpoddkoaaYMh0
section
set_option linter.unusedSimpArgs false
set_option linter.unusedVariables false
namespace Go.Proofs.Ytbcjbcjpoddkoaa.Pure
open Go Go.RowKit Go.Proofs.Ytbcjbcjpoddkoaa.P Go.Proofs.YtbcjbcjpoddkoaaW.PrintWords
set_option linter.unusedVariables false
theorem jPb.low {t : List Cl} {p : List Ln} (hv : jPb t p) {i : Nat} (hi : i < p.length) : 0 ≤ dp p i ∧ dp p i ≤ 5 := jLc.mp (hv.2.2 i hi).2.1
end Go.Proofs.Ytbcjbcjpoddkoaa.Pure
end
