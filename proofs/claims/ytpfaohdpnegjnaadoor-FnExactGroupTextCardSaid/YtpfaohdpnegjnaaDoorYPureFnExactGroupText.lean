/- One part of the proofs on this program: functions of the program as plain functions, that the code comes to them, and facts on them. -/
import Derived.Test.YtpfaohdpnegjnaaDoorYAll5
import Derived.Test.YtpfaohdpnegjnaaDoorYMgt
import Derived.Test.YtpfaohdpnegjnaaDoorYMpf
section
set_option linter.unusedSimpArgs false
set_option linter.unusedVariables false
namespace Go.Proofs.YtpfaohdpnegjnaaDoor.Pure
open Go Go.RowKit Go.Proofs.YtpfaohdpnegjnaaDoor.P Go.Proofs.YtpfaohdpnegjnaaDoorW.PrintWords
set_option linter.unusedVariables false
theorem FnExactGroupText : ∀ (l0_0 : List S50) (l1 : List S44), l0_0.length ≤ 9223372036854775807 → (∀ y ∈ l0_0, good50 y) → l1.length ≤ 9223372036854775807 → (∀ y ∈ l1, good44 y) → ∃ k, jta.f k l0_0 l1 = some true := by
 intro t p ht htg hp hpg
 refine Ev.rounds (g:=fun k=>jta.f k t p) ?_
 obtain ⟨r,h1,h2⟩:=ev_szTree ht htg (a:=1048576) (by omega) (by omega)
 unfold jta.f
 by_cases hr:r<0
 ·exact Ev.bind h1 (Ev.pos hr (Ev.now _))
 obtain ⟨q,h3,h4⟩:=szPartS_eq (l:=p) hp (a:=r) (by omega) (by omega)
 rcases h2 with h2 | ⟨_,_,hT⟩
 ·exact absurd h2 hr
 refine Ev.bind h1 (Ev.neg hr ?_)
 rw [h3]
 simp only [Option.bind_some]
 by_cases hq:q<0
 ·exact Ev.pos hq (Ev.now _)
 rcases h4 with h4 | ⟨_,_,hP⟩
 ·exact absurd h4 hq
 have ht2:=hT.1
 have hp2:p.length≤1048576:=by simpa [tQs] using hP
 have ht3:t.length≤1048576:=by simpa [tT] using ht2
 have eT:=ev_toTree ht3
 have eP:=ev_toPartS (l:=p) hp2
 obtain ⟨z1,z2⟩:=ev_GroupText hT hP
 have hE:=ev_eqPartS hP
 generalize grT (tT t) (tQs p)=z at *
 refine Ev.neg hq (Ev.bind eT (Ev.bind eP (Ev.bind z1 (Ev.bind eT (Ev.bind eP (Ev.bind z2 ?_))))))
 refine Ev.pos rfl (Ev.bind eT (Ev.bind (ev_eqTree ht2) (Ev.pos rfl (Ev.bind eP (Ev.bind hE (Ev.pos rfl (Ev.now _)))))))
end Go.Proofs.YtpfaohdpnegjnaaDoor.Pure
end
