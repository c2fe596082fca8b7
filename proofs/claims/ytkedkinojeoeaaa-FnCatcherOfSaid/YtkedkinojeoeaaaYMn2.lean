/- One part of the proofs on this program: functions of the program as plain functions, that the code comes to them, and facts on them. -/
import Derived.Test.YtkedkinojeoeaaaYAll9
import Derived.Test.YtkedkinojeoeaaaYMcl
section
set_option linter.unusedSimpArgs false
set_option linter.unusedVariables false
namespace Go.Proofs.Ytkedkinojeoeaaa.Pure
open Go Go.RowKit Go.Proofs.Ytkedkinojeoeaaa.P Go.Proofs.YtkedkinojeoeaaaW.PrintWords
set_option linter.unusedVariables false
theorem laws_has_eq2 (t : List Cl) (c : Int) : jmc.f t c = some (hasB t c) := by
 unfold jmc.f
 by_cases h:c≥0
 ·rw [if_pos h]
  congr 1
  rw [Bool.eq_iff_iff,hasB_iff,decide_eq_true_eq];omega
 ·rw [if_neg h]
  congr 1
  rw [eq_comm,Bool.eq_false_iff]
  intro h2
  have:=hasB_iff.mp h2
  omega
end Go.Proofs.Ytkedkinojeoeaaa.Pure
end
