/- One part of the proofs on this program: functions of the program as plain functions, that the code comes to them, and facts on them. -/
import Derived.Test.YtkhiiiddbmgiaaaYMh0
section
set_option linter.unusedSimpArgs false
set_option linter.unusedVariables false
namespace Go.Proofs.Ytkhiiiddbmgiaaa.Pure
open Go Go.RowKit Go.Proofs.Ytkhiiiddbmgiaaa.P Go.Proofs.YtkhiiiddbmgiaaaW.PrintWords
set_option linter.unusedVariables false
theorem jyb.low {t : List Cl} {p : List Ln} (hv : jyb t p) {i : Nat} (hi : i < p.length) : 0 ≤ dp p i ∧ dp p i ≤ 5 := bw_iff.mp (hv.2.2 i hi).2.1
end Go.Proofs.Ytkhiiiddbmgiaaa.Pure
end
