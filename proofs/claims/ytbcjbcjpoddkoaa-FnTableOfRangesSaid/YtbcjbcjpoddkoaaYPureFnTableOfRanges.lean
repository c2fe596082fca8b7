/- One part of the proofs on this program: functions of the program as plain functions, that the code comes to them, and facts on them. -/
import Derived.Test.YtbcjbcjpoddkoaaYAll9
import Derived.Test.YtbcjbcjpoddkoaaYMeqr
import Derived.Test.YtbcjbcjpoddkoaaYMtb3
section
set_option linter.unusedSimpArgs false
set_option linter.unusedVariables false
namespace Go.Proofs.Ytbcjbcjpoddkoaa.Pure
open Go Go.RowKit Go.Proofs.Ytbcjbcjpoddkoaa.P Go.Proofs.YtbcjbcjpoddkoaaW.PrintWords
set_option linter.unusedVariables false
theorem rdR {l : List Rg} {i : Nat} (h : i < l.length) : jna l (i : Int) = l[i] := by simp [jna, List.getD_eq_getElem?_getD, h]
theorem FnTableOfRanges : je.Pure := by
 intro code _ _ hc
 refine Ev.rounds (g:=fun k=>je.f k code) ?_
 unfold je.f
 refine Ev.both (fun _=>Ev.now _) (fun _=>?_)
 obtain ⟨t,p,eD,hT,hp⟩:=ev_DrawTableOf (bytes_of hc)
 have hP:p.length≤1048576:=by omega
 have hS:=hT.ts
 obtain ⟨z1,z2⟩:=ev_TableOf hP hS
 have hz:=rTab_len (t:=t) (p:=p)
 have hE:=ev_equalRanges hz
 have stop:Ev (fun k=>je.j0 k p (rTab t p) true t) true:=by
  refine Ev.step (fun k=>by rw [je.j0]) ?_
  exact Ev.pos rfl (Ev.bind z1 (Ev.bind hE (Ev.now _)))
 refine Ev.bind eD (Ev.bind z2 (Ev.bind z1 (Ev.bind hE (Ev.pos rfl (Ev.bind (iValid hP hS) ?_)))))
 cases hv:vB t p with
 | false=>exact stop
 | true =>
 have hV:=vB_iff.mp hv
 have er:rTab t p=tbN p p.length:=by rw [rTab,if_pos hv]
 have hpair:=tb_lam (p:=p) p.length (Nat.le_refl _)
 have hft:∀ x ∈ rTab t p,x.f0<x.f1∧x.f1≤(p.length:Int):=fun x hx=>tb_from_to ((off_DR p).mp fun i hi=>(hV.2.2 i hi).2.2.1) (by rw [← er];exact hx)
 rw [← er] at hpair
 generalize rTab t p=l at *
 refine Ev.step (fun k=>by rw [je.j0]) ?_
 refine Ev.neg (by simp) ?_
 have hget:=List.pairwise_iff_getElem.mp hpair
 have l0:∀ (n k:Nat),l.length≤n+k→Ev (fun q=>je.l0 q p l k) true:=by
  intro n
  induction n with
  | zero =>
   intro k h
   refine Ev.step (fun q=>by rw [je.l0]) ?_
   exact Ev.neg (by omega) (Ev.now _)
  | succ n ih =>
   intro k h
   refine Ev.step (fun q=>by rw [je.l0]) ?_
   by_cases hk:k<l.length
   ·have hx:=hft l[k] (List.getElem_mem hk)
    rw [rdR hk]
    have inner:∀ (m i:Nat),k≤m+i→Ev (fun q=>je.l1 q p l k i) true:=by
     intro m
     induction m with
     | zero =>
      intro i h2
      refine Ev.step (fun q=>by rw [je.l1]) ?_
      rw [wS (i:=k) (by omega)]
      exact Ev.neg (by omega) (ih (k+1) (by omega))
     | succ m ihm =>
      intro i h2
      refine Ev.step (fun q=>by rw [je.l1]) ?_
      by_cases hi:i<k
      ·have hl:=hget i k (by omega) hk hi
       rw [rdR hk,rdR (show i<l.length by omega),wS (i:=i) (by omega)]
       have nx:=ihm (i+1) (by omega)
       have j4:Ev (fun q=>je.j4 q p l k i false) true:=by
        refine Ev.step (fun q=>by rw [je.j4]) ?_
        rw [wS (i:=i) (by omega)]
        exact Ev.neg (by simp) nx
       refine Ev.pos (by omega) (Ev.pos (by omega) (Ev.pos (by omega) (Ev.pos (by omega) (Ev.pos (by omega) ?_))))
       obtain ⟨w1,w2⟩:=hl
       refine Ev.both (fun c=>Ev.neg (by omega) nx) (fun c=>Ev.neg (by omega) (Ev.both (fun c2=>j4) (fun c2=>?_)))
       rw [decide_eq_false (by omega)]
       exact j4
      ·rw [wS (i:=k) (by omega)]
       exact Ev.neg (by omega) (ih (k+1) (by omega))
    have j2:Ev (fun q=>je.j2 q p l k false) true:=by
     refine Ev.step (fun q=>by rw [je.j2]) ?_
     exact Ev.neg (by simp) (inner k 0 (by omega))
    refine Ev.pos (by omega) (Ev.pos (by omega) (Ev.neg (by omega) ?_))
    rw [decide_eq_false (by omega)]
    exact j2
   ·exact Ev.neg (by omega) (Ev.now _)
 exact l0 l.length 0 (by omega)
end Go.Proofs.Ytbcjbcjpoddkoaa.Pure
end
