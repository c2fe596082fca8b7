/- One part of the proofs on this program: functions of the program as plain functions, that the code comes to them, and facts on them. -/
import Derived.Test.YtkokajljeebgdaaYB5
import Derived.Test.YtkokajljeebgdaaYMi
section
set_option linter.unusedSimpArgs false
set_option linter.unusedVariables false
namespace Go.Proofs.Ytkokajljeebgdaa.Pure
open Go Go.RowKit Go.Proofs.Ytkokajljeebgdaa.P Go.Proofs.YtkokajljeebgdaaW.PrintWords
set_option linter.unusedVariables false
theorem IsTry.lt {p : List Ln} {i T : Nat} (h : IsTry p i T) (hi : i < p.length) : T < p.length := by have := h.le; omega
noncomputable def rTry (t : List Cl) (p : List Ln) (a : Int) : List Int := @ite _ (At t p a ∧ inTry p a.toNat) (Classical.propDecidable _) (ci (chain p (thd p a.toNat))) []
end Go.Proofs.Ytkokajljeebgdaa.Pure
end
