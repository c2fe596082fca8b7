/- One part of the proofs on this program: functions of the program as plain functions, that the code comes to them, and facts on them. -/
import Derived.Test.YtkokajljeebgdaaYMg
section
set_option linter.unusedSimpArgs false
set_option linter.unusedVariables false
namespace Go.Proofs.Ytkokajljeebgdaa.Pure
open Go Go.RowKit Go.Proofs.Ytkokajljeebgdaa.P Go.Proofs.YtkokajljeebgdaaW.PrintWords
set_option linter.unusedVariables false
theorem enc_lt {p : List Ln} {a : Nat} (ha : a < p.length) : ∀ j ∈ enc p a, j < p.length := fun j hj => by have := encN_lt p a _ j hj; omega
end Go.Proofs.Ytkokajljeebgdaa.Pure
end
