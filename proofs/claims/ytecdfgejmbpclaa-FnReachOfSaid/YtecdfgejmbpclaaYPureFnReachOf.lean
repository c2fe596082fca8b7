/- One part of the proofs on this program: functions of the program as plain functions, that the code comes to them, and facts on them. -/
import Derived.Test.YtecdfgejmbpclaaYAll3
import Derived.Test.YtecdfgejmbpclaaYAll7
import Derived.Test.YtecdfgejmbpclaaYAll8
import Derived.Test.YtecdfgejmbpclaaYDh
import Derived.Test.YtecdfgejmbpclaaYMrs
section
set_option linter.unusedSimpArgs false
set_option linter.unusedVariables false
namespace Go.Proofs.Ytecdfgejmbpclaa.Pure
open Go Go.RowKit Go.Proofs.Ytecdfgejmbpclaa.P Go.Proofs.YtecdfgejmbpclaaW.PrintWords
set_option linter.unusedVariables false
theorem ev_DrawReachOf {code : List Int} (hc : ∀ x ∈ code, 0 ≤ x ∧ x ≤ 255) : ∃ t h a, Ev (fun k => jbb.f k code) (t, h, a) ∧ TO t ∧ h.length ≤ 6 := by
 obtain ⟨s,e0,hs⟩:=newReader_eq hc
 obtain ⟨t,h,a,q,e1,hT,hl⟩:=ev_faultIn hs (p:=0) (by omega) (by omega)
 refine ⟨t,h,a,?_,hT,hl⟩
 unfold jbb.f
 rw [e0]
 simp only [Option.bind_some]
 exact Ev.bind e1 (Ev.now _)
theorem ev_ascends {L : List Nat} (hl : L.length ≤ 1048576) (ha : L.Pairwise (· < ·)) : Ev (fun k => jKa.f k (ci L)) true := by
 have hp:=List.pairwise_iff_getElem.mp ha
 have go:∀ (n i:Nat),L.length≤n+i→1≤i→Ev (fun k=>jKa.l0 k (ci L) i) true:=by
  intro n
  induction n with
  | zero =>
   intro i h h1
   refine Ev.step (fun k=>by rw [jKa.l0]) ?_
   exact Ev.neg (by rw [jkb];omega) (Ev.now _)
  | succ n ih =>
   intro i h h1
   refine Ev.step (fun k=>by rw [jKa.l0]) ?_
   by_cases hi:i<L.length
   ·obtain ⟨m,rfl⟩:∃ m,i=m+1:=⟨i - 1,by omega⟩
    have hm:m<L.length:=by omega
    have:=hp m (m+1) hm hi (by omega)
    have e1:L.getD (m+1) 0=L[m+1]:=by simp [List.getD_eq_getElem?_getD,hi]
    have e2:L.getD m 0=L[m]:=by simp [List.getD_eq_getElem?_getD,hm]
    rw [wP (by omega),rd_ci hi,rd_ci hm,wS (i:=m+1) (by omega),jkb]
    exact Ev.pos (by omega) (Ev.pos (by omega) (Ev.pos (by omega) (Ev.pos (by omega) (Ev.neg (by omega) (ih (m+1+1) (by omega) (by omega))))))
   ·exact Ev.neg (by rw [jkb];omega) (Ev.now _)
 exact go L.length 1 (by omega) (Nat.le_refl _)
theorem FnReachOf : jo.Pure := by
 intro code _ _ hc
 refine Ev.rounds (g:=fun k=>jo.f k code) ?_
 unfold jo.f
 refine Ev.both (fun _=>Ev.now _) (fun _=>?_)
 obtain ⟨t,h,a,eD,hT,hl⟩:=ev_DrawReachOf (bytes_of hc)
 have hS:=hT.ts
 obtain ⟨z1,z2⟩:=ev_ReachOf hS (h:=h) (by omega) a
 have hlen:(rcL t h a).length≤6:=by
  unfold rcL
  split
  ·have:=rchL_len h a.toNat;omega
  ·simp
 have hE:=ev_equalInts (r:=ci (rcL t h a)) (by rw [jkb];omega)
 refine Ev.bind eD (Ev.bind z2 (Ev.bind z1 (Ev.bind hE (Ev.pos rfl ?_))))
 refine Ev.step (fun k=>by rw [jo.j0]) ?_
 cases hg:gB t h a with
 | false =>
  have e:rcL t h a=[]:=by unfold rcL;rw [hg];rfl
  refine Ev.pos (by rw [e];rfl) (Ev.bind z1 (Ev.bind hE (Ev.now _)))
 | true =>
 obtain ⟨hv,f,rfl,hf⟩:=gB_iff.mp hg
 have hL:=hv.lo
 have e2:rcL t h (f:Int)=rchL h f:=by unfold rcL;rw [hg];rfl
 have hasc:=rchL_asc h f
 have hmem:=fun a=>mem_rchL hL hf (a:=a)
 rw [e2] at hlen ⊢
 generalize rchL h f=L at *
 have hfm:=(hmem f).mpr .here
 have hlt:∀ a ∈ L,a<h.length:=fun a ha=>((hmem a).mp ha).lt hL hf
 refine Ev.neg (by rw [jkb,beq_iff_eq];have:=List.length_pos_of_mem hfm;omega) ?_
 have inN:∀ (g:Nat),Rc h f g→hasN (g:Int) L=true:=fun g r=>(jVb g L).mpr ((hmem g).mpr r)
 have l0:∀ (n k:Nat),L.length≤n+k→Ev (fun q=>jo.l0 q (f:Int) (ci L) k t h) true:=by
  intro n
  have stop:∀ k:Nat,L.length≤k→Ev (fun q=>jo.l0 q (f:Int) (ci L) k t h) true:=fun k hk=>by
   refine Ev.step (fun q=>by rw [jo.l0]) ?_
   have hin:=ev_isIn L (by omega) (f:Int)
   rw [inN f .here] at hin
   exact Ev.neg (by rw [jkb];omega) (Ev.bind (ev_ascends (by omega) hasc) (Ev.pos rfl (Ev.bind hin (Ev.now _))))
  induction n with
  | zero=>intro k hk;exact stop k (by omega)
  | succ n ih =>
   intro k hk
   by_cases hkl:k<L.length
   ·have hgm:=getD_mem hkl
    have hgl:=hlt _ hgm
    have hgr:=(hmem _).mp hgm
    have hg2:gB t h ((L.getD k 0:Nat):Int)=true:=gB_iff.mpr ⟨hv,_,rfl,hgl⟩
    have e3:rcL t h ((L.getD k 0:Nat):Int)=rchL h (L.getD k 0):=by unfold rcL;rw [hg2];rfl
    have hr2:=ev_iReachOf hS (h:=h) (by omega) ((L.getD k 0:Nat):Int)
    rw [e3] at hr2
    have hrl:=rchL_len h (L.getD k 0)
    have l1:∀ (m i:Nat),(rchL h (L.getD k 0)).length≤m+i→Ev (fun q=>jo.l1 q (f:Int) (ci L) k (ci (rchL h (L.getD k 0))) i t h) true:=by
     intro m
     have stop1:∀ i:Nat,(rchL h (L.getD k 0)).length≤i→Ev (fun q=>jo.l1 q (f:Int) (ci L) k (ci (rchL h (L.getD k 0))) i t h) true:=fun i hi=>by
      refine Ev.step (fun q=>by rw [jo.l1]) ?_
      rw [wS (i:=k) (by omega)]
      exact Ev.neg (by rw [jkb];omega) (ih (k+1) (by omega))
     induction m with
     | zero=>intro i hi;exact stop1 i (by omega)
     | succ m ihm =>
      intro i hi
      by_cases hil:i<(rchL h (L.getD k 0)).length
      ·refine Ev.step (fun q=>by rw [jo.l1]) ?_
       have hin:=ev_isIn L (by omega) (((rchL h (L.getD k 0)).getD i 0:Nat):Int)
       rw [inN _ (hgr.trans ((mem_rchL hL hgl).mp (getD_mem hil)))] at hin
       rw [rd_ci hil,wS (i:=i) (by omega)]
       exact Ev.pos (by rw [jkb];omega) (Ev.pos (by omega) (Ev.bind hin (Ev.pos rfl (ihm (i+1) (by omega)))))
      ·exact stop1 i (by omega)
    have j2:Ev (fun q=>jo.j2 q (f:Int) (ci L) k false t h) true:=by
     refine Ev.step (fun q=>by rw [jo.j2]) ?_
     rw [rd_ci hkl]
     exact Ev.neg (by simp) (Ev.pos (by omega) (Ev.pos (by rw [jkb];omega) (Ev.bind hr2 (l1 _ 0 (by omega)))))
    have hx:fcx h (L.getD k 0)≥0→Ev (fun q=>(jBa.f q (ci L) (fcx h (L.getD k 0))).bind fun t905=>jo.j2 q (f:Int) (ci L) k (!t905) t h) true:=fun c=>by
     have hin:=ev_isIn L (by omega) (fcx h (L.getD k 0))
     obtain ⟨j,hj⟩:∃ j:Nat,fcx h (L.getD k 0)=(j:Int):=⟨(fcx h (L.getD k 0)).toNat,by omega⟩
     rw [hj,inN j (.cx hgr hj)] at hin
     rw [hj]
     exact Ev.bind hin j2
    refine Ev.step (fun q=>by rw [jo.l0]) ?_
    rw [rd_ci hkl,u2,u3]
    refine Ev.pos (by rw [jkb];omega) (Ev.pos (by omega) (Ev.pos (by omega) (Ev.pos (by omega) (Ev.both (fun c=>?_) (fun c=>?_)))))
    ·have hin:=ev_isIn L (by omega) (fca h (L.getD k 0))
     obtain ⟨j,hj⟩:∃ j:Nat,fca h (L.getD k 0)=(j:Int):=⟨(fca h (L.getD k 0)).toNat,by omega⟩
     rw [hj,inN j (.ca hgr hj)] at hin
     rw [hj]
     exact Ev.bind hin (Ev.pos rfl (Ev.both hx (fun _=>j2)))
    ·exact Ev.both hx (fun _=>j2)
   ·exact stop k (by omega)
 exact l0 L.length 0 (by omega)
end Go.Proofs.Ytecdfgejmbpclaa.Pure
end
