/- One part of the proofs on this program: functions of the program as plain functions, that the code comes to them, and facts on them. -/
import Derived.Test.YtdmafmebllhlkaaDoorYAll2
import Derived.Test.YtdmafmebllhlkaaDoorYMtf
section
set_option linter.unusedSimpArgs false
set_option linter.unusedVariables false
namespace Go.Proofs.YtdmafmebllhlkaaDoor.Pure
open Go Go.RowKit Go.Proofs.YtdmafmebllhlkaaDoor.P Go.Proofs.YtdmafmebllhlkaaDoorW.PrintWords
set_option linter.unusedVariables false
theorem FnExactTraceText : ∀ (l0 : List S37), l0.length ≤ 9223372036854775807 → (∀ y ∈ l0, good37 y) → ∃ k, jR.f k l0 = some true := by
 intro p hp hpg
 refine Ev.rounds (g:=fun k=>jR.f k p) ?_
 obtain ⟨r,h1,h2⟩:=ev_szFrS hp hpg (a:=1048576) (by omega) (by omega)
 unfold jR.f
 by_cases hr:r<0
 ·exact Ev.bind h1 (Ev.pos hr (Ev.now _))
 rcases h2 with h2 | ⟨_,_,hT⟩
 ·exact absurd h2 hr
 have hp3:p.length≤1048576:=by simpa [tFs] using hT.1
 have eP:=ev_toFrameS hp3
 obtain ⟨z1,z2⟩:=ev_TraceText hT
 refine Ev.bind h1 (Ev.neg hr (Ev.bind eP (Ev.bind z1 (Ev.bind eP (Ev.bind z2 ?_)))))
 exact Ev.pos rfl (Ev.bind eP (Ev.bind (ev_eqFrameS hT.1) (Ev.pos rfl (Ev.now _))))
end Go.Proofs.YtdmafmebllhlkaaDoor.Pure
end
