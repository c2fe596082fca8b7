/- One part of the proofs on this program: functions of the program as plain functions, that the code comes to them, and facts on them. -/
import Derived.Test.YtlhfcmbkjddgiaaYAll2
import Derived.Test.YtlhfcmbkjddgiaaYMx
section
set_option linter.unusedSimpArgs false
set_option linter.unusedVariables false
namespace Go.Proofs.Ytlhfcmbkjddgiaa.Pure
open Go Go.RowKit Go.Proofs.Ytlhfcmbkjddgiaa.P Go.Proofs.YtlhfcmbkjddgiaaW.PrintWords
set_option linter.unusedVariables false
theorem ev_equalInts {r : List Int} (hr : r.length ≤ 1048577) : Ev (fun k => jma.f k r r) true := by
 have go:∀ (n i:Nat),r.length≤n+i→Ev (fun k=>jma.l0 k r r i) true:=by
  intro n
  induction n with
  | zero =>
   intro i h
   refine Ev.step (fun k=>by rw [jma.l0]) ?_
   exact Ev.neg (by omega) (Ev.now _)
  | succ n ih =>
   intro i h
   refine Ev.step (fun k=>by rw [jma.l0]) ?_
   by_cases hi:i<r.length
   ·rw [wS (by omega)]
    exact Ev.pos (by omega) (Ev.pos (by omega) (Ev.pos (by omega) (Ev.pos rfl (ih (i+1) (by omega)))))
   ·exact Ev.neg (by omega) (Ev.now _)
 unfold jma.f
 exact Ev.pos rfl (go r.length 0 (by omega))
end Go.Proofs.Ytlhfcmbkjddgiaa.Pure
end
