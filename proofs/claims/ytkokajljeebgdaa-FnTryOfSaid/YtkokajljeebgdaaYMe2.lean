/- One part of the proofs on this program: functions of the program as plain functions, that the code comes to them, and facts on them. -/
import Derived.Test.YtkokajljeebgdaaYMh0
section
set_option linter.unusedSimpArgs false
set_option linter.unusedVariables false
namespace Go.Proofs.Ytkokajljeebgdaa.Pure
open Go Go.RowKit Go.Proofs.Ytkokajljeebgdaa.P Go.Proofs.YtkokajljeebgdaaW.PrintWords
set_option linter.unusedVariables false
theorem ValidP.low {t : List Cl} {p : List Ln} (hv : ValidP t p) {i : Nat} (hi : i < p.length) : 0 ≤ dp p i ∧ dp p i ≤ 5 := bw_iff.mp (hv.2.2 i hi).2.1
theorem hasN_mem {l : List Nat} {m : Nat} (h : m ∈ l) : hasN (m : Int) l = true := (hasN_iff _ l).mpr ⟨m, h, rfl⟩
end Go.Proofs.Ytkokajljeebgdaa.Pure
end
