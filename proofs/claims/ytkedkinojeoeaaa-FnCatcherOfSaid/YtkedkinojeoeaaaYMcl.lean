/- One part of the proofs on this program: functions of the program as plain functions, that the code comes to them, and facts on them. -/
import Derived.Test.YtkedkinojeoeaaaYAll7
import Derived.Test.YtkedkinojeoeaaaYAll8
import Derived.Test.YtkedkinojeoeaaaYMs0
section
set_option linter.unusedSimpArgs false
set_option linter.unusedVariables false
namespace Go.Proofs.Ytkedkinojeoeaaa.Pure
open Go Go.RowKit Go.Proofs.Ytkedkinojeoeaaa.P Go.Proofs.YtkedkinojeoeaaaW.PrintWords
set_option linter.unusedVariables false
theorem hasB_iff {t : List Cl} {c : Int} : hasB t c = true ↔ 0 ≤ c ∧ c < t.length := by unfold hasB; rw [bw_iff]; omega
theorem ev_goodRaise {t : List Cl} {p : List Ln} (ht : TS t) {a : Int} {b : Bool} (h : Ev (fun k => jGb.f k t p a) b) (c : Int) : Ev (fun k => jIb.f k t p a c) (b && hasB t c) := by
 unfold jIb.f
 refine Ev.bind h ?_
 rw [sHas ht.1]
 cases b with
 | true=>exact Ev.pos rfl (by simpa using Ev.now _)
 | false=>exact Ev.neg (by simp) (by simpa using Ev.now false)
end Go.Proofs.Ytkedkinojeoeaaa.Pure
end
