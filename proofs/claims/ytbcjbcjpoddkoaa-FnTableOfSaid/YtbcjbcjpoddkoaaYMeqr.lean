/- One part of the proofs on this program: functions of the program as plain functions, that the code comes to them, and facts on them. -/
import Derived.Test.YtbcjbcjpoddkoaaYAll4
import Derived.Test.YtbcjbcjpoddkoaaYDp
import Derived.Test.YtbcjbcjpoddkoaaYMtb
section
set_option linter.unusedSimpArgs false
set_option linter.unusedVariables false
namespace Go.Proofs.Ytbcjbcjpoddkoaa.Pure
open Go Go.RowKit Go.Proofs.Ytbcjbcjpoddkoaa.P Go.Proofs.YtbcjbcjpoddkoaaW.PrintWords
set_option linter.unusedVariables false
theorem ev_equalRanges {r : List Rg} (hr : r.length ≤ 1048576) : Ev (fun k => jfa.f k r r) true := by
 have go:∀ (n i:Nat),r.length≤n+i→Ev (fun k=>jfa.l0 k r r i) true:=by
  intro n
  induction n with
  | zero =>
   intro i h
   refine Ev.step (fun k=>by rw [jfa.l0]) ?_
   exact Ev.neg (by omega) (Ev.now _)
  | succ n ih =>
   intro i h
   refine Ev.step (fun k=>by rw [jfa.l0]) ?_
   by_cases hi:i<r.length
   ·rw [wS (by omega)]
    exact Ev.pos (by omega) (Ev.pos (by omega) (Ev.pos (by omega) (Ev.neg (by simp) (ih (i+1) (by omega)))))
   ·exact Ev.neg (by omega) (Ev.now _)
 unfold jfa.f
 exact Ev.pos rfl (go r.length 0 (by omega))
theorem ev_DrawTableOf {code : List Int} (hc : ∀ x ∈ code, 0 ≤ x ∧ x ≤ 255) : ∃ t p, Ev (fun k => jvb.f k code) (t, p) ∧ TO t ∧ p.length ≤ 24 := by
 obtain ⟨s,e0,hs⟩:=newReader_eq hc
 obtain ⟨t,p,q,e1,_,_,hT,hp⟩:=ev_someProgram hs (p:=0) (by omega) (by omega)
 refine ⟨t,p,?_,hT,hp⟩
 unfold jvb.f
 rw [e0]
 simp only [Option.bind_some]
 exact Ev.bind e1 (Ev.now _)
end Go.Proofs.Ytbcjbcjpoddkoaa.Pure
end
