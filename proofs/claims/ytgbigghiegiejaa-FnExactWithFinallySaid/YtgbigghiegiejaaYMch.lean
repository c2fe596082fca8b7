/- One part of the proofs on this program: functions of the program as plain functions, that the code comes to them, and facts on them. -/
import Derived.Test.YtgbigghiegiejaaYAll2
import Derived.Test.YtgbigghiegiejaaYAll4
import Derived.Test.YtgbigghiegiejaaYMe
section
set_option linter.unusedSimpArgs false
set_option linter.unusedVariables false
namespace Go.Proofs.Ytgbigghiegiejaa.Pure
open Go Go.RowKit Go.Proofs.Ytgbigghiegiejaa.P Go.Proofs.YtgbigghiegiejaaW.PrintWords
set_option linter.unusedVariables false
noncomputable def okP (t : List Cl) (p : List Ln) : List Ln × Bool := if vB t p = true then (p, true) else ([], false)
theorem okP_len {t : List Cl} {p : List Ln} : (okP t p).1.length ≤ p.length := by unfold okP; split <;> simp
theorem ev_checked {t : List Cl} {p : List Ln} (hp : p.length ≤ 1048576) (ht : TS t) : Ev (fun k => spec_checkedProgram.f k t p) (okP t p) := by
 unfold spec_checkedProgram.f okP
 refine Ev.bind (sValid hp ht) ?_
 cases vB t p with
 | true => exact Ev.pos rfl (Ev.now _)
 | false => exact Ev.neg (by simp) (Ev.now _)
theorem ev_made {t : List Cl} {p : List Ln} (hp : p.length ≤ 1048576) (ht : TS t) : Ev (fun k => impl_programMade.f k t p) (okP t p) := by
 unfold impl_programMade.f okP
 refine Ev.bind (iValid hp ht) ?_
 simp only [impl_Line_41.f, Option.bind_some]
 cases vB t p with
 | true => exact Ev.pos rfl (Ev.now _)
 | false => exact Ev.neg (by simp) (Ev.now _)
end Go.Proofs.Ytgbigghiegiejaa.Pure
end
