/- One part of the proofs on this program: functions of the program as plain functions, that the code comes to them, and facts on them. -/
import Derived.Test.YtkedkinojeoeaaaYAll6
import Derived.Test.YtkedkinojeoeaaaYDc
import Derived.Test.YtkedkinojeoeaaaYDp
section
set_option linter.unusedSimpArgs false
set_option linter.unusedVariables false
namespace Go.Proofs.Ytkedkinojeoeaaa.Pure
open Go Go.RowKit Go.Proofs.Ytkedkinojeoeaaa.P Go.Proofs.YtkedkinojeoeaaaW.PrintWords
set_option linter.unusedVariables false
theorem ev_DrawCatcherOf {code : List Int} (hc : ∀ x ∈ code, 0 ≤ x ∧ x ≤ 255) : ∃ t p a c, Ev (fun k => jwa.f k code) (t, p, a, c) ∧ TO t ∧ p.length ≤ 24 := by
 obtain ⟨s,e0,hs⟩:=newReader_eq hc
 obtain ⟨t,p,a,q,e1,_,_,hT,hp⟩:=ev_lineIn hs (p:=0) (by omega) (by omega)
 obtain ⟨c,e2⟩:=ev_aClass hs (p:=q) (by omega) (by omega) hT.1
 refine ⟨t,p,a,c,?_,hT,hp⟩
 unfold jwa.f
 rw [e0]
 simp only [Option.bind_some]
 exact Ev.bind e1 (Ev.bind e2 (Ev.now _))
end Go.Proofs.Ytkedkinojeoeaaa.Pure
end
