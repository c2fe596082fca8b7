/- One part of the proofs on this program: functions of the program as plain functions, that the code comes to them, and facts on them. -/
import Derived.Test.YtecdfgejmbpclaaYAll1
import Derived.Test.YtecdfgejmbpclaaYAll6
import Derived.Test.YtecdfgejmbpclaaYAll7
import Derived.Test.YtecdfgejmbpclaaYDh
import Derived.Test.YtecdfgejmbpclaaYMhl
section
set_option linter.unusedSimpArgs false
set_option linter.unusedVariables false
namespace Go.Proofs.Ytecdfgejmbpclaa.Pure
open Go Go.RowKit Go.Proofs.Ytecdfgejmbpclaa.P Go.Proofs.YtecdfgejmbpclaaW.PrintWords
set_option linter.unusedVariables false
theorem ev_DrawShownNext {code : List Int} (hc : ∀ x ∈ code, 0 ≤ x ∧ x ≤ 255) : ∃ t h a, Ev (fun k => jSa.f k code) (t, h, a) ∧ TO t ∧ h.length ≤ 6 := by
 obtain ⟨s,e0,hs⟩:=newReader_eq hc
 obtain ⟨t,h,a,q,e1,hT,hl⟩:=ev_faultIn hs (p:=0) (by omega) (by omega)
 refine ⟨t,h,a,?_,hT,hl⟩
 unfold jSa.f
 rw [e0]
 simp only [Option.bind_some]
 exact Ev.bind e1 (Ev.now _)
theorem FnShownNext : jQ.Pure := by
 intro code _ _ hc
 refine Ev.rounds (g:=fun k=>jQ.f k code) ?_
 unfold jQ.f
 refine Ev.both (fun _=>Ev.now _) (fun _=>?_)
 obtain ⟨t,h,a,eD,hT,hl⟩:=ev_DrawShownNext (bytes_of hc)
 have hS:=hT.ts
 obtain ⟨z1,z2⟩:=ev_ShownNext hS (h:=h) (by omega) a
 refine Ev.bind eD (Ev.bind z2 (Ev.bind z1 (Ev.pos rfl ?_)))
 refine Ev.step (fun k=>by rw [jQ.j0]) ?_
 by_cases c:snL t h a<0
 ·rw [decide_eq_true c]
  exact Ev.pos rfl (Ev.bind z1 (by rw [show (snL t h a == snL t h a)=true by simp];exact Ev.now _))
 ·rw [decide_eq_false c]
  have hg:gB t h a=true:=by
   cases hg:gB t h a with
   | true=>rfl
   | false=>exfalso;unfold snL at c;rw [hg] at c;simp at c
  obtain ⟨hv,f,rfl,hf⟩:=gB_iff.mp hg
  have e:snL t h (f:Int)=snF h f:=by unfold snL;rw [hg];rfl
  have e2:rcL t h (f:Int)=rchL h f:=by unfold rcL;rw [hg];rfl
  have hr:=ev_iReachOf hS (h:=h) (by omega) (f:Int)
  have hrl:=rchL_len h f
  rw [e2] at hr
  rw [e] at c ⊢
  have fin:Rc h f (snF h f).toNat→Ev (fun k=>(jRa.f k t h (f:Int)).bind fun t800=>(jHa.f k t800 (snF h f)).bind fun t803=>some t803) true:=fun rr=>by
   refine Ev.bind hr ?_
   have hin:=ev_isIn (rchL h f) (by omega) (snF h f)
   have hN:hasN (snF h f) (rchL h f)=true:=by
    have hh:=(jYb (snF h f).toNat (rchL h f)).mpr ((mem_rchL hv.lo hf).mpr rr)
    rwa [show (((snF h f).toNat:Nat):Int)=snF h f by omega] at hh
   rw [hN] at hin
   exact Ev.bind hin (Ev.now _)
  refine Ev.neg (by simp) (Ev.pos (show (0:Int)≤(f:Int) by omega) (Ev.pos (show (f:Int)<(h.length:Int) by omega) ?_))
  by_cases c1:fca h f≥0
  ·have es:snF h f=fca h f:=by unfold snF;rw [if_pos c1]
   refine Ev.pos es (fin (.ca .here (by omega)))
  ·by_cases c2:(h.getD f z54).f4=true
   ·exfalso
    have es:snF h f = -1:=by unfold snF;rw [if_neg c1,if_pos c2]
    omega
   ·have es:snF h f=fcx h f:=by unfold snF;rw [if_neg c1,if_neg c2]
    refine Ev.neg (show ¬ snF h f=fca h f by omega) (Ev.pos es (Ev.pos (show fca h f<0 by omega) (Ev.neg c2 (fin (.cx .here (by omega))))))
end Go.Proofs.Ytecdfgejmbpclaa.Pure
end
