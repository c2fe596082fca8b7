/- One part of the proofs on this program: functions of the program as plain functions, that the code comes to them, and facts on them. -/
import Derived.Test.YtkhiiiddbmgiaaaYD8
import Derived.Test.YtkhiiiddbmgiaaaYDp
import Derived.Test.YtkhiiiddbmgiaaaYMpe
section
set_option linter.unusedSimpArgs false
set_option linter.unusedVariables false
namespace Go.Proofs.Ytkhiiiddbmgiaaa.Pure
open Go Go.RowKit Go.Proofs.Ytkhiiiddbmgiaaa.P Go.Proofs.YtkhiiiddbmgiaaaW.PrintWords
set_option linter.unusedVariables false
theorem ev_DrawPruneLines {code : List Int} (hc : ∀ x ∈ code, 0 ≤ x ∧ x ≤ 255) : ∃ t p, Ev (fun k => jhb.f k code) (t, p) ∧ TO t ∧ p.length ≤ 24 := by
 obtain ⟨s,e0,hs⟩:=newReader_eq hc
 obtain ⟨t,p,q,e1,_,_,hT,hp⟩:=ev_someProgram hs (p:=0) (by omega) (by omega)
 refine ⟨t,p,?_,hT,hp⟩
 unfold jhb.f
 rw [e0]
 simp only [Option.bind_some]
 exact Ev.bind e1 (Ev.now _)
theorem FnPruneLinesDead : jo.Pure := by
 intro code _ _ hc
 refine Ev.rounds (g:=fun k=>jo.f k code) ?_
 unfold jo.f
 refine Ev.both (fun _=>Ev.now _) (fun _=>?_)
 obtain ⟨t,p,eD,hT,hp⟩:=ev_DrawPruneLines (bytes_of hc)
 have hP:p.length≤1048576:=by omega
 have hS:=hT.ts
 obtain ⟨z1,z2⟩:=ev_PruneLines hP hS
 have hl:=prP_len t p
 have hE:=ev_equalLines (r:=prP t p) (by omega)
 have stop:Ev (fun k=>jo.j0 k p (prP t p) true t) true:=by
  refine Ev.step (fun k=>by rw [jo.j0]) ?_
  exact Ev.pos rfl (Ev.bind z1 (Ev.bind hE (Ev.now _)))
 refine Ev.bind eD (Ev.bind z2 (Ev.bind z1 (Ev.bind hE (Ev.pos rfl (Ev.bind (iValid hP hS) ?_)))))
 cases hv:vB t p with
 | false=>exact stop
 | true =>
 have hV:=vB_iff.mp hv
 have hd:=drP_len t p
 have hd2:=drP_len t (prP t p)
 refine Ev.step (fun k=>by rw [jo.j0]) ?_
 refine Ev.neg (by simp) (Ev.bind (ev_DropDead hP hS).2 (Ev.bind (ev_PruneLines (p:=drP t p) (by omega) hS).2 (Ev.bind (ev_DropDead (p:=prP t p) (by omega) hS).2 ?_)))
 rw [prune_drop hV]
 exact Ev.bind (ev_equalLines (by omega)) (Ev.now _)
end Go.Proofs.Ytkhiiiddbmgiaaa.Pure
end
