/- One part of the proofs on this program: functions of the program as plain functions, that the code comes to them, and facts on them. -/
import Derived.Test.YtbbmgiloikkpiaaYAll6
import Derived.Test.YtbbmgiloikkpiaaYMe
import Derived.Test.YtbbmgiloikkpiaaYMft
import Derived.Test.YtbbmgiloikkpiaaYOpen
section
set_option linter.unusedSimpArgs false
set_option linter.unusedVariables false
namespace Go.Proofs.Ytbbmgiloikkpiaa.Pure
open Go Go.RowKit Go.Proofs.Ytbbmgiloikkpiaa.P Go.Proofs.YtbbmgiloikkpiaaW.PrintWords
set_option linter.unusedVariables false
theorem ev_eqLineS {l : List Ln} (hl : l.length ≤ 1048576) : Ev (fun k => jD.f k l l) true := by
 have go:∀ (n i:Nat),l.length≤n+i→Ev (fun k=>jD.l0 k l l i) true:=by
  intro n
  induction n with
  | zero =>
   intro i h
   refine Ev.step (fun k=>by rw [jD.l0]) ?_
   exact Ev.neg (by omega) (Ev.now _)
  | succ n ih =>
   intro i h
   refine Ev.step (fun k=>by rw [jD.l0]) ?_
   by_cases hi:i<l.length
   ·simp only [jgc.f,if_true,Option.bind_some]
    rw [wS (by omega)]
    exact Ev.pos (by omega) (Ev.pos (by omega) (Ev.pos (by omega) (ih (i+1) (by omega))))
   ·exact Ev.neg (by omega) (Ev.now _)
 unfold jD.f
 exact Ev.pos rfl (go l.length 0 (by omega))
end Go.Proofs.Ytbbmgiloikkpiaa.Pure
end
