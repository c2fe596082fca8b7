/- One part of the proofs on this program: functions of the program as plain functions, that the code comes to them, and facts on them. -/
import Derived.Test.YtlhfcmbkjddgiaaYAll7
import Derived.Test.YtlhfcmbkjddgiaaYMx
section
set_option linter.unusedSimpArgs false
set_option linter.unusedVariables false
namespace Go.Proofs.Ytlhfcmbkjddgiaa.Pure
open Go Go.RowKit Go.Proofs.Ytlhfcmbkjddgiaa.P Go.Proofs.YtlhfcmbkjddgiaaW.PrintWords
set_option linter.unusedVariables false
theorem ev_isIn (L : List Nat) (hl : L.length ≤ 1048577) (b : Int) : Ev (fun k => jkb.f k (ci L) b) (hasN b L) := by
 have:∀ (r:List Nat) (j:Nat),L.drop j=r→Ev (fun k=>jkb.l0 k (ci L) b j) (hasN b r):=by
  intro r
  induction r with
  | nil =>
   intro j h
   have:=ci_end h
   refine Ev.step (fun k=>by rw [jkb.l0]) ?_
   rw [jbb,hasN]
   exact Ev.neg (by omega) (Ev.now _)
  | cons a r ih =>
   intro j h
   obtain ⟨h1,h2,h3⟩:=ci_drop h
   refine Ev.step (fun k=>by rw [jkb.l0]) ?_
   rw [h2,wS (by omega),jbb,hasN]
   refine Ev.pos (by omega) (Ev.pos (by omega) ?_)
   by_cases hs:(a:Int)=b
   ·rw [if_pos hs];exact Ev.pos hs (Ev.now _)
   ·rw [if_neg hs];exact Ev.neg hs (ih (j+1) h3)
 exact this L 0 rfl
end Go.Proofs.Ytlhfcmbkjddgiaa.Pure
end
