/- One part of the proofs on this program: functions of the program as plain functions, that the code comes to them, and facts on them. -/
import Derived.Test.YteibechlncphnaaDoorYAll5
import Derived.Test.YteibechlncphnaaDoorYMct
import Derived.Test.YteibechlncphnaaDoorYMfh
section
set_option linter.unusedSimpArgs false
set_option linter.unusedVariables false
namespace Go.Proofs.YteibechlncphnaaDoor.Pure
open Go Go.RowKit Go.Proofs.YteibechlncphnaaDoor.P Go.Proofs.YteibechlncphnaaDoorW.PrintWords
set_option linter.unusedVariables false
theorem FnExactChainText : ∀ (l0_0 : List S98) (l1_0 : List S102) (a2 : Int), l0_0.length ≤ 9223372036854775807 → (∀ y ∈ l0_0, good98 y) → l1_0.length ≤ 9223372036854775807 → (∀ y ∈ l1_0, good102 y) → (Lit.int .i64 a2).wf = true → ∃ k, jza.f k l0_0 l1_0 a2 = some true := by
 intro t p a ht htg hp hpg _
 refine Ev.rounds (g:=fun k=>jza.f k t p a) ?_
 obtain ⟨r,h1,h2⟩:=ev_szTree ht htg (a:=1048576) (by omega) (by omega)
 unfold jza.f
 by_cases hr:r<0
 ·exact Ev.bind h1 (Ev.pos hr (Ev.now _))
 rcases h2 with h2 | ⟨h20,h21,hT⟩
 ·exact absurd h2 hr
 refine Ev.bind h1 (Ev.neg hr ?_)
 obtain ⟨q,h3,h4⟩:=szHeap_eq (l:=p) hp (a:=r) (by omega) (by omega)
 rw [h3]
 simp only [Option.bind_some]
 by_cases hq:q<0
 ·exact Ev.pos hq (Ev.now _)
 rcases h4 with h4 | ⟨_,_,hP⟩
 ·exact absurd h4 hq
 have ht2:=hT.1
 have hp2:p.length≤1048576:=by simpa [tH] using hP
 have ht3:t.length≤1048576:=by simpa [tT] using ht2
 have eT:=ev_toTree ht3
 have eP:=ev_toHeap (l:=p) (by omega)
 obtain ⟨z1,z2⟩:=ev_ChainText hT hP a
 have hE:=ev_eqHeap hP
 generalize ctL (tT t) (tH p) a=z at *
 refine Ev.neg hq (Ev.bind eT (Ev.bind eP (Ev.bind z1 (Ev.bind eT (Ev.bind eP (Ev.bind z2 ?_))))))
 refine Ev.pos rfl (Ev.bind eT (Ev.bind (ev_eqTree ht2) (Ev.pos rfl (Ev.bind eP (Ev.bind hE (Ev.pos rfl (Ev.now _)))))))
end Go.Proofs.YteibechlncphnaaDoor.Pure
end
