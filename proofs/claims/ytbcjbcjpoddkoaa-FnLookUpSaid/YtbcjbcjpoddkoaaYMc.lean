/- One part of the proofs on this program: functions of the program as plain functions, that the code comes to them, and facts on them. -/
import Derived.Test.YtbcjbcjpoddkoaaYAll9
import Derived.Test.YtbcjbcjpoddkoaaYMb
section
set_option linter.unusedSimpArgs false
set_option linter.unusedVariables false
namespace Go.Proofs.Ytbcjbcjpoddkoaa.Pure
open Go Go.RowKit Go.Proofs.Ytbcjbcjpoddkoaa.P Go.Proofs.YtbcjbcjpoddkoaaW.PrintWords
set_option linter.unusedVariables false
theorem Blk.all {p : List Ln} (hr : DR p) (hl : ∀ j, j < p.length → 0 ≤ dp p j) : Blk p 0 0 0 p.length :=
 ⟨Nat.le_refl _, by omega, Nat.le_refl _, fun j _ h => hl j h, fun h => hr.first h, fun h => by omega⟩
end Go.Proofs.Ytbcjbcjpoddkoaa.Pure
end
