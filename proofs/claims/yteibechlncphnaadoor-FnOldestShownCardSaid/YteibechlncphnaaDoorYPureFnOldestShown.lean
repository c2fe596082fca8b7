/- One part of the proofs on this program: functions of the program as plain functions, that the code comes to them, and facts on them. -/
import Derived.Test.YteibechlncphnaaDoorYAll5
import Derived.Test.YteibechlncphnaaDoorYAll8
import Derived.Test.YteibechlncphnaaDoorYDh
import Derived.Test.YteibechlncphnaaDoorYMsc
section
set_option linter.unusedSimpArgs false
set_option linter.unusedVariables false
namespace Go.Proofs.YteibechlncphnaaDoor.Pure
open Go Go.RowKit Go.Proofs.YteibechlncphnaaDoor.P Go.Proofs.YteibechlncphnaaDoorW.PrintWords
set_option linter.unusedVariables false
theorem ev_DrawOldestShown {code : List Int} (hc : ∀ x ∈ code, 0 ≤ x ∧ x ≤ 255) : ∃ t h a, Ev (fun k => jUa.f k code) (t, h, a) ∧ TO t ∧ h.length ≤ 6 := by
 obtain ⟨s,e0,hs⟩:=newReader_eq hc
 obtain ⟨t,h,a,q,e1,hT,hl⟩:=ev_faultIn hs (p:=0) (by omega) (by omega)
 refine ⟨t,h,a,?_,hT,hl⟩
 unfold jUa.f
 rw [e0]
 simp only [Option.bind_some]
 exact Ev.bind e1 (Ev.now _)
theorem FnOldestShown : jP.Pure := by
 intro code _ _ hc
 refine Ev.rounds (g:=fun k=>jP.f k code) ?_
 unfold jP.f
 refine Ev.both (fun _=>Ev.now _) (fun _=>?_)
 obtain ⟨t,h,a,eD,hT,hl⟩:=ev_DrawOldestShown (bytes_of hc)
 have hS:=hT.ts
 obtain ⟨z1,z2⟩:=ev_OldestShown hS (h:=h) (by omega) a
 refine Ev.bind eD (Ev.bind z2 (Ev.bind z1 (Ev.pos rfl ?_)))
 refine Ev.step (fun k=>by rw [jP.j0]) ?_
 cases hg:gB t h a with
 | false =>
  have e:oL t h a = -1:=by unfold oL;rw [hg];rfl
  refine Ev.pos (by rw [e];rfl) (Ev.bind z1 ?_)
  rw [beq_self_eq_true]
  exact Ev.now _
 | true =>
  obtain ⟨hv,f,rfl,hf⟩:=gB_iff.mp hg
  have hp:=shL_pos hv.lo hf
  have hl2:=shL_len hv.lo hf
  obtain ⟨r,hm⟩:=rd_lastD hp
  obtain ⟨_,_,h3,_⟩:=shL_spec hv.lo hf
  have e:oL t h (f:Int)=(jpc (shL h (f:Int)):Int):=by unfold oL;rw [hg];rfl
  have hx:=h3 _ hm
  rw [e]
  have s1:=stC_sm hx (Or.inl rfl:fca h (jpc (shL h (f:Int)))=fca h (jpc (shL h (f:Int)))∨_)
  have hv1:=s1.hv hv
  have hx1:jpc (shL h (f:Int))<(stC h (jpc (shL h (f:Int))) (fca h (jpc (shL h (f:Int))))).length:=by rw [stC_len];exact hx
  have s2:=stC_sm hx1 (Or.inr rfl:(-1:Int)=fca _ _∨(-1:Int) = -1)
  have hv2:=s2.hv hv1
  have c0:=ev_ShownChain hS hv hf
  have c1:=ev_iChain' hS hv hf
  have c2:=ev_HideContext hS hv hx
  have c3:=ev_SetCause hS hv1 hx1
  have c4:=ev_iChain' hS hv2 (f:=jpc (shL h (f:Int))) (by rw [stC_len];exact hx1)
  rw [cTx_one s1 hx1] at c4
  obtain ⟨rest,e5⟩:=sT_pre t h (shL h (f:Int)) ((shL h (f:Int)).length - 1)
  have e6:cTx t h f=fTx t (fcl h (jpc (shL h (f:Int)))).toNat (fcd h (jpc (shL h (f:Int)))).toNat ++ rest:=by
   unfold cTx
   rw [e5]
   unfold tX
   rw [getD_lastD hp]
  refine Ev.neg (by simp) (Ev.bind c0 (Ev.bind c1 (Ev.bind c2 (Ev.bind c3 (Ev.bind c4 ?_)))))
  rw [jKb,wr (by omega),r,e6]
  refine Ev.pos (by omega) (Ev.pos (by omega) (Ev.pos rfl (Ev.pos rfl (Ev.pos rfl (Ev.pos (by rw [ByteArray.size_append];omega) (Ev.pos (by omega) ?_))))))
  rw [Int.toNat_natCast,ByteArray.extract_append_eq_left rfl,beq_self_eq_true]
  exact Ev.now _
end Go.Proofs.YteibechlncphnaaDoor.Pure
end
