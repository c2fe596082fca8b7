/- One part of the proofs on this program: functions of the program as plain functions, that the code comes to them, and facts on them. -/
import Derived.Test.YtecdfgejmbpclaaYAll6
import Derived.Test.YtecdfgejmbpclaaYAll8
import Derived.Test.YtecdfgejmbpclaaYDh
import Derived.Test.YtecdfgejmbpclaaYMhl
section
set_option linter.unusedSimpArgs false
set_option linter.unusedVariables false
namespace Go.Proofs.Ytecdfgejmbpclaa.Pure
open Go Go.RowKit Go.Proofs.Ytecdfgejmbpclaa.P Go.Proofs.YtecdfgejmbpclaaW.PrintWords
set_option linter.unusedVariables false
theorem ev_DrawContextChain {code : List Int} (hc : ∀ x ∈ code, 0 ≤ x ∧ x ≤ 255) : ∃ t h a, Ev (fun k => jza.f k code) (t, h, a) ∧ TO t ∧ h.length ≤ 6 := by
 obtain ⟨s,e0,hs⟩:=newReader_eq hc
 obtain ⟨t,h,a,q,e1,hT,hl⟩:=ev_faultIn hs (p:=0) (by omega) (by omega)
 refine ⟨t,h,a,?_,hT,hl⟩
 unfold jza.f
 rw [e0]
 simp only [Option.bind_some]
 exact Ev.bind e1 (Ev.now _)
theorem FnContextChain : jo.Pure := by
 intro code _ _ hc
 refine Ev.rounds (g:=fun k=>jo.f k code) ?_
 unfold jo.f
 refine Ev.both (fun _=>Ev.now _) (fun _=>?_)
 obtain ⟨t,h,a,eD,hT,hl⟩:=ev_DrawContextChain (bytes_of hc)
 have hS:=hT.ts
 obtain ⟨z1,z2⟩:=ev_ContextChain hS (h:=h) (by omega) a
 have hlen:(ccL t h a).length≤6:=by
  unfold ccL
  split
  ·rename_i hg
   obtain ⟨hv,f,rfl,hf⟩:=gB_iff.mp hg
   have:=cxL_len (LO_of hv.1) hf
   omega
  ·simp
 have hE:=ev_equalInts (r:=ci (ccL t h a)) (by rw [jnb];omega)
 refine Ev.bind eD (Ev.bind z2 (Ev.bind z1 (Ev.bind hE (Ev.pos rfl ?_))))
 refine Ev.step (fun k=>by rw [jo.j0]) ?_
 cases hg:gB t h a with
 | false =>
  have e:ccL t h a=[]:=by unfold ccL;rw [hg];rfl
  refine Ev.pos (by rw [e];rfl) (Ev.bind z1 (Ev.bind hE (Ev.now _)))
 | true =>
 obtain ⟨hv,f,rfl,hf⟩:=gB_iff.mp hg
 have hL:=LO_of hv.1
 have e:ccL t h (f:Int)=cxL h (f:Int):=by unfold ccL;rw [hg];rfl
 have e2:rcL t h (f:Int)=rchL h f:=by unfold rcL;rw [hg];rfl
 have hr:=ev_iReachOf hS (h:=h) (by omega) (f:Int)
 obtain ⟨⟨r,e3⟩,c2,c3,c4⟩:=cxL_spec hL hf
 have hne:=cxL_ne hL hf
 have hend:=hv.2.1 f hf
 unfold Ends at hend
 obtain ⟨l1,l2⟩:=rd_lastD hne
 rw [e] at hlen ⊢
 rw [e2] at hr
 have hrl:=rchL_len h f
 have hreach:∀ k,k<(cxL h (f:Int)).length→Rc h f ((cxL h (f:Int)).getD k 0):=by
  intro k
  induction k with
  | zero=>intro _;rw [e3];exact .here
  | succ k ih=>intro hk;exact .cx (ih (by omega)) (c4 k hk)
 generalize cxL h (f:Int)=L at *
 refine Ev.neg (by rw [jnb,beq_iff_eq];omega) (Ev.bind hr ?_)
 have l0:∀ (n k:Nat),L.length≤n+k→Ev (fun q=>jo.l0 q (ci L) (ci (rchL h f)) k h) true:=by
  intro n
  induction n with
  | zero =>
   intro k hk
   refine Ev.step (fun q=>by rw [jo.l0]) ?_
   refine Ev.neg (by rw [jnb];omega) ?_
   rw [jnb,wr (by omega),l1]
   have hx:=c3 _ l2
   exact Ev.pos (by omega) (Ev.pos (by omega) (Ev.pos (by omega) (Ev.pos (by omega) (by rw [u3,hend];exact Ev.now _))))
  | succ n ih =>
   intro k hk
   refine Ev.step (fun q=>by rw [jo.l0]) ?_
   by_cases hkl:k<L.length
   ·rw [rd_ci hkl,Int.toNat_natCast,ci_take]
    have nx:Ev (fun q=>jo.j2 q (ci L) (ci (rchL h f)) k false h) true:=by
     refine Ev.step (fun q=>by rw [jo.j2]) ?_
     rw [wS (by omega)]
     exact Ev.neg (by simp) (ih (k+1) (by omega))
    refine Ev.pos (by rw [jnb];omega) (Ev.pos (by omega) (Ev.pos (by rw [jnb];omega) (Ev.bind (ev_isIn (L.take k) (by rw [List.length_take];omega) _) ?_)))
    refine Ev.neg (fun hh=>nodup_take c2 hkl ((jVb _ _).mp hh)) (Ev.bind (ev_isIn (rchL h f) (by omega) _) (Ev.pos ((jVb _ _).mpr ((mem_rchL hv.lo hf).mpr (hreach k hkl))) ?_))
    by_cases k0:(k:Int) > 0
    ·obtain ⟨m,rfl⟩:∃ m,k=m+1:=⟨k - 1,by omega⟩
     have hm:m<L.length:=by omega
     have hx:=c3 _ (getD_mem hm)
     rw [wP (by omega),rd_ci hm,jnb,u3,c4 m hkl]
     refine Ev.pos k0 (Ev.pos (by omega) (Ev.pos (by omega) (Ev.pos (by omega) (Ev.pos (by omega) ?_))))
     rw [show (((L.getD (m+1) 0:Nat):Int) != ((L.getD (m+1) 0:Nat):Int))=false by simp]
     exact nx
    ·exact Ev.neg k0 nx
   ·refine Ev.neg (by rw [jnb];omega) ?_
    rw [jnb,wr (by omega),l1]
    have hx:=c3 _ l2
    exact Ev.pos (by omega) (Ev.pos (by omega) (Ev.pos (by omega) (Ev.pos (by omega) (by rw [u3,hend];exact Ev.now _))))
 exact l0 L.length 0 (by omega)
end Go.Proofs.Ytecdfgejmbpclaa.Pure
end
