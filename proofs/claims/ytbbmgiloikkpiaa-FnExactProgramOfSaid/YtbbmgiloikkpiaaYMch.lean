/- One part of the proofs on this program: functions of the program as plain functions, that the code comes to them, and facts on them. -/
import Derived.Test.YtbbmgiloikkpiaaYAll3
import Derived.Test.YtbbmgiloikkpiaaYAll5
import Derived.Test.YtbbmgiloikkpiaaYMe
section
set_option linter.unusedSimpArgs false
set_option linter.unusedVariables false
namespace Go.Proofs.Ytbbmgiloikkpiaa.Pure
open Go Go.RowKit Go.Proofs.Ytbbmgiloikkpiaa.P Go.Proofs.YtbbmgiloikkpiaaW.PrintWords
set_option linter.unusedVariables false
noncomputable def okP (t : List Cl) (p : List Ln) : List Ln × Bool := if vB t p = true then (p, true) else ([], false)
theorem okP_len {t : List Cl} {p : List Ln} : (okP t p).1.length ≤ p.length := by unfold okP; split <;> simp
theorem ev_checked {t : List Cl} {p : List Ln} (hp : p.length ≤ 1048576) (ht : TS t) : Ev (fun k => jeb.f k t p) (okP t p) := by
 unfold jeb.f okP
 refine Ev.bind (sValid hp ht) ?_
 cases vB t p with
 | true=>exact Ev.pos rfl (Ev.now _)
 | false=>exact Ev.neg (by simp) (Ev.now _)
theorem ev_made {t : List Cl} {p : List Ln} (hp : p.length ≤ 1048576) (ht : TS t) : Ev (fun k => jib.f k t p) (okP t p) := by
 unfold jib.f okP
 refine Ev.bind (iValid hp ht) ?_
 simp only [jzb.f,Option.bind_some]
 cases vB t p with
 | true=>exact Ev.pos rfl (Ev.now _)
 | false=>exact Ev.neg (by simp) (Ev.now _)
end Go.Proofs.Ytbbmgiloikkpiaa.Pure
end
