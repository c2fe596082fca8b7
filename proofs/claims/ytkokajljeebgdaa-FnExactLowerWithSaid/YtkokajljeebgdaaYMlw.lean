/- One part of the proofs on this program: functions of the program as plain functions, that the code comes to them, and facts on them. -/
import Derived.Test.YtkokajljeebgdaaYA2
import Derived.Test.YtkokajljeebgdaaYA3
import Derived.Test.YtkokajljeebgdaaYMch
import Derived.Test.YtkokajljeebgdaaYMlo
section
set_option linter.unusedSimpArgs false
set_option linter.unusedVariables false
namespace Go.Proofs.Ytkokajljeebgdaa.Pure
open Go Go.RowKit Go.Proofs.Ytkokajljeebgdaa.P Go.Proofs.YtkokajljeebgdaaW.PrintWords
set_option linter.unusedVariables false
theorem ev_LowerWith {p : List Ln} {t : List Cl} (hp : p.length ≤ 1048576) (ht : TS t) : ∃ r, Ev (fun k => spec_LowerWith.f k t p) r ∧ Ev (fun k => impl_LowerWith.f k t p) r ∧ r.1.length ≤ 1048576 := by
 unfold spec_LowerWith.f impl_LowerWith.f
 cases hv : vB t p with
 | false =>
  have h1 := sValid hp ht
  have h2 := iValid hp ht
  rw [hv] at h1 h2
  exact ⟨([], false), Ev.bind h1 (Ev.neg (by simp) (Ev.now _)), Ev.bind h2 (Ev.neg (by simp) (Ev.now _)), by simp⟩
 | true =>
  have h1 := sValid hp ht
  have h2 := iValid hp ht
  rw [hv] at h1 h2
  have hV := vB_iff.mp hv
  have hl := lowS_len p.length p
  have h24 := hV.2.1
  have hi := ev_iLow p.length p (Nat.le_refl _) hp hV.fit
  rw [low_eq _ _ (Nat.le_refl _)] at hi
  refine ⟨okP t (lowS p.length p), Ev.bind h1 (Ev.pos rfl (Ev.bind (ev_sLow p.length p (Nat.le_refl _) hp hV.fit) (Ev.bind (ev_checked (by omega) ht) (Ev.now _)))), Ev.bind h2 (Ev.pos rfl (Ev.bind hi (Ev.bind (ev_made (by omega) ht) (Ev.now _)))), ?_⟩
  have := okP_len (t := t) (p := lowS p.length p)
  omega
end Go.Proofs.Ytkokajljeebgdaa.Pure
end
