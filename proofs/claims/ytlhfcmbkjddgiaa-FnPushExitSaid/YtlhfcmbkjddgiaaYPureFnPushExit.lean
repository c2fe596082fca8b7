/- One part of the proofs on this program: functions of the program as plain functions, that the code comes to them, and facts on them. -/
import Derived.Test.YtlhfcmbkjddgiaaYAll6
import Derived.Test.YtlhfcmbkjddgiaaYAll8
import Derived.Test.YtlhfcmbkjddgiaaYDe
import Derived.Test.YtlhfcmbkjddgiaaYMce
import Derived.Test.YtlhfcmbkjddgiaaYMje
import Derived.Test.YtlhfcmbkjddgiaaYMy
section
set_option linter.unusedSimpArgs false
set_option linter.unusedVariables false
namespace Go.Proofs.Ytlhfcmbkjddgiaa.Pure
open Go Go.RowKit Go.Proofs.Ytlhfcmbkjddgiaa.P Go.Proofs.YtlhfcmbkjddgiaaW.PrintWords
set_option linter.unusedVariables false
theorem ev_DrawPushExit {code : List Int} (hc : ∀ x ∈ code, 0 ≤ x ∧ x ≤ 255) : ∃ t l, ∃ x : Ex, Ev (fun k => jPa.f k code) (t, l, x.f0, x.f1, x.f2) ∧ TO t ∧ l.length ≤ 8 := by
 obtain ⟨s,e0,hs⟩:=newReader_eq hc
 obtain ⟨t,l,q,e1,q0,q1,hT,hl⟩:=ev_someExits hs (p:=0) (by omega) (by omega)
 obtain ⟨a,b,c,r,e2,r0,r1⟩:=ev_anExit hs (p:=q) (by omega) (by omega) hT.1
 obtain ⟨v,e3,_,_,_⟩:=jgc hs (p:=r) (by omega) (by omega) 12 (by omega)
 unfold jPa.f
 rw [e0]
 simp only [Option.bind_some]
 by_cases hv:v=0
 ·exact ⟨t,l,⟨a, -1,c⟩,Ev.bind e1 (Ev.bind e2 (Ev.bind e3 (Ev.pos hv (Ev.now _)))),hT,hl⟩
 ·exact ⟨t,l,⟨a,b,c⟩,Ev.bind e1 (Ev.bind e2 (Ev.bind e3 (Ev.neg hv (Ev.now _)))),hT,hl⟩
theorem push_sim {t : List Cl} {l : List Ex} {x : Ex} (h0 : x.f0 = 0) : Sim [x.f1] (clF t (l ++ [x]) false 0 0) (clF t l false 0 0) := by
 rw [clF_app]
 refine foldl_sim l.reverse _ _ ?_
 have e:clF t [x] false 0 0=([x.f1],[], -1):=by
  show stT (isAB t) (st0 false 0 0) x=_
  unfold stT
  rw [if_pos h0]
  rfl
 rw [e]
 exact ⟨rfl, .inl ⟨by simp,by simp [st0]⟩⟩
theorem FnPushExit : jK.Pure := by
 intro code _ _ hc
 refine Ev.rounds (g:=fun k=>jK.f k code) ?_
 unfold jK.f
 refine Ev.both (fun _=>Ev.now _) (fun _=>?_)
 obtain ⟨t,l,x,eD,hT,hl⟩:=ev_DrawPushExit (bytes_of hc)
 have hS:=hT.ts
 have z1:=ev_iPush hS (p:=l) (by omega) x
 have z2:=ev_sPush hS (p:=l) (by omega) x
 obtain ⟨R,hR⟩:∃ R,R=(if exsB t l=true∧exsB t (l ++ [x])=true then (l ++ [x],true) else (([]:List Ex),false)):=⟨_,rfl⟩
 rw [← hR] at z1 z2
 have hlen:R.1.length≤9:=by
  rw [hR];split
  ·simp only [List.length_append,List.length_singleton];omega
  ·simp
 have z3:=ev_equalExits (r:=R.1) (by omega)
 refine Ev.bind eD (Ev.bind z1 (Ev.bind z2 (Ev.bind z3 (Ev.pos rfl (Ev.neg (by simp) ?_)))))
 refine Ev.step (fun k=>by rw [jK.j0]) ?_
 by_cases hv:exsB t l=true∧exsB t (l ++ [x])=true
 ·rw [if_pos hv] at hR
  subst hR
  have c1:=ev_CloseExits hS hv.1 (a:=false) (b:=0) (c:=0) rfl
  have c2:=ev_CloseExits hS hv.2 (a:=false) (b:=0) (c:=0) rfl
  refine Ev.neg (by simp) (Ev.bind c1 (Ev.bind c2 ?_))
  by_cases h0:x.f0=0
  ·refine Ev.pos h0 ?_
   obtain ⟨s1,s2⟩:=clE_sim (push_sim (t:=t) (l:=l) h0)
   have hg:=clF_log hv.1 (a:=false) (b:=0) (c:=0) rfl
   rw [s1,s2]
   generalize (clE (clF t l false 0 0))=A at *
   have e:([x.f1] ++ A.1).drop 1=A.1:=rfl
   rw [e]
   refine Ev.pos ?_ (Ev.pos ?_ (Ev.pos rfl (Ev.pos ?_ (Ev.bind (ev_equalInts (by omega)) (Ev.pos rfl ?_)))))
   ·rw [List.length_append,List.length_singleton,wr (by omega)];omega
   ·rw [List.length_append,List.length_singleton];omega
   ·rw [List.length_append,List.length_singleton];omega
   ·rw [beq_self_eq_true];exact Ev.now _
  ·refine Ev.neg h0 ?_
   simp only
   rw [List.length_append,List.length_singleton,wr (by omega),show (((l.length+1:Nat):Int) == (l.length:Int)+1)=true by simp]
   exact Ev.now _
 ·rw [if_neg hv] at hR
  subst hR
  refine Ev.pos rfl (Ev.bind z3 (Ev.pos rfl ?_))
  exact Ev.now _
end Go.Proofs.Ytlhfcmbkjddgiaa.Pure
end
