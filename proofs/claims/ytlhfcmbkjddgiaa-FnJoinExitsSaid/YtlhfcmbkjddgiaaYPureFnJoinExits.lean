/- One part of the proofs on this program: functions of the program as plain functions, that the code comes to them, and facts on them. -/
import Derived.Test.YtlhfcmbkjddgiaaYAll4
import Derived.Test.YtlhfcmbkjddgiaaYAll5
import Derived.Test.YtlhfcmbkjddgiaaYDe
import Derived.Test.YtlhfcmbkjddgiaaYMce
import Derived.Test.YtlhfcmbkjddgiaaYMje
import Derived.Test.YtlhfcmbkjddgiaaYMy
section
set_option linter.unusedSimpArgs false
set_option linter.unusedVariables false
namespace Go.Proofs.Ytlhfcmbkjddgiaa.Pure
open Go Go.RowKit Go.Proofs.Ytlhfcmbkjddgiaa.P Go.Proofs.YtlhfcmbkjddgiaaW.PrintWords
set_option linter.unusedVariables false
theorem ev_DrawJoinExits {code : List Int} (hc : ∀ x ∈ code, 0 ≤ x ∧ x ≤ 255) : ∃ t p q, Ev (fun k => jva.f k code) (t, p, q) ∧ TO t ∧ p.length ≤ 8 ∧ q.length ≤ 8 := by
 obtain ⟨s,e0,hs⟩:=newReader_eq hc
 obtain ⟨t,l,q,e1,q0,q1,hT,hl⟩:=ev_someExits hs (p:=0) (by omega) (by omega)
 obtain ⟨r,q',e2,_,_,hr⟩:=ev_goodExits hs hT.1 (p:=q) (by omega) (by omega)
 unfold jva.f
 rw [e0]
 simp only [Option.bind_some]
 exact ⟨t,l,r,Ev.bind e1 (Ev.bind e2 (Ev.now _)),hT,hl,hr⟩
theorem ev_joinRound {t : List Cl} (hS : TS t) {p q : List Ex} (hp : exsB t p = true) (hq : exsB t q = true) (hpq : exsB t (p ++ q) = true) {i : Int} {a : Bool} {b c : Int} (hs : stV t a b c = true) (h : Ev (fun k => jf.j3 k p q (p ++ q) i false t) true) : Ev (fun k => jf.j2 k p q (p ++ q) i t a b c) true := by
 have c1:=jCc hS hpq hs
 have c2:=jCc hS hq hs
 have o1:=ev_StartOf hS hpq hs
 have o2:=ev_StartOf hS hq hs
 have hm:=stO_stV hq hs
 have c3:=jCc hS hp hm
 have o3:=ev_StartOf hS hp hm
 have hsim:Sim (clF t q a b c).1 (clF t (p ++ q) a b c) (clF t p (stO (clF t q a b c)).1 (stO (clF t q a b c)).2.1 (stO (clF t q a b c)).2.2.1):=by
  rw [clF_app]
  exact foldl_sim p.reverse _ _ (sim_start _)
 have l1:=clF_log hq hs
 have l2:=clF_log hpq hs
 have l3:=clF_log hp hm
 have e1:=(clE_sim hsim).1
 rw [← clE_log] at e1
 have e2:=stO_sim hsim
 have f1:=stO_four (clF t (p ++ q) a b c)
 have f2:=stO_four (clF t q a b c)
 have f3:=stO_four (clF t p (stO (clF t q a b c)).1 (stO (clF t q a b c)).2.1 (stO (clF t q a b c)).2.2.1)
 refine Ev.step (fun k=>by rw [jf.j2]) ?_
 refine Ev.bind c1 (Ev.bind c2 (Ev.bind o2 (Ev.bind c3 (Ev.bind o1 (Ev.bind o3 ?_)))))
 generalize (clF t p (stO (clF t q a b c)).1 (stO (clF t q a b c)).2.1 (stO (clF t q a b c)).2.2.1)=r at *
 rw [e1,e2]
 refine Ev.pos f2 (Ev.pos f3 (Ev.pos f3 (Ev.neg (by simp) ?_)))
 refine Ev.bind (Ev.now _) ?_
 rw [List.nil_append]
 refine Ev.pos (by rw [List.length_nil];omega) (Ev.bind (Ev.now _) (Ev.pos (by omega) (Ev.bind (ev_equalInts (by rw [List.length_append];omega)) ?_)))
 exact h
theorem FnJoinExits : jf.Pure := by
 intro code _ _ hc
 refine Ev.rounds (g:=fun k=>jf.f k code) ?_
 unfold jf.f
 refine Ev.both (fun _=>Ev.now _) (fun _=>?_)
 obtain ⟨t,p,q,eD,hT,hp,hq⟩:=ev_DrawJoinExits (bytes_of hc)
 have hS:=hT.ts
 have hT8:=hT.1
 have z1:=ev_JoinExits hS (p:=p) (q:=q) (by omega) (by omega)
 have z2:=ev_sJoinExits hS (p:=p) (q:=q) (by omega) (by omega)
 obtain ⟨R,hR⟩:∃ R,R=(if exsB t p=true∧exsB t q=true∧exsB t (p ++ q)=true then (p ++ q,true) else (([]:List Ex),false)):=⟨_,rfl⟩
 rw [← hR] at z1 z2
 have hlen:R.1.length≤16:=by
  rw [hR];split
  ·simp only [List.length_append];omega
  ·simp
 have z3:=ev_equalExits (r:=R.1) (by omega)
 refine Ev.bind eD (Ev.bind z1 (Ev.bind z2 (Ev.bind z3 (Ev.pos rfl (Ev.neg (by simp) ?_)))))
 refine Ev.step (fun k=>by rw [jf.j0]) ?_
 by_cases hv:exsB t p=true∧exsB t q=true∧exsB t (p ++ q)=true
 ·rw [if_pos hv] at hR
  subst hR
  obtain ⟨v1,v2,v3⟩:=hv
  refine Ev.neg (by simp) ?_
  have go:∀ (n:Nat) (i:Int),i+n=t.length→-1≤i→Ev (fun k=>jf.l0 k p q (p ++ q) i t) true:=by
   intro n
   induction n with
   | zero =>
    intro i h h1
    refine Ev.step (fun k=>by rw [jf.l0]) ?_
    exact Ev.neg (by omega) (Ev.now _)
   | succ n ih =>
    intro i h h1
    have next:Ev (fun k=>jf.j3 k p q (p ++ q) i false t) true:=by
     refine Ev.step (fun k=>by rw [jf.j3]) ?_
     rw [wr (by omega)]
     exact Ev.neg (by simp) (ih (i+1) (by omega) (by omega))
    refine Ev.step (fun k=>by rw [jf.l0]) ?_
    refine Ev.pos (by omega) ?_
    by_cases h0:0≤i
    ·refine Ev.pos h0 (ev_joinRound hS v1 v2 v3 ?_ next)
     unfold stV
     rw [if_pos rfl,show hasB t i=true from hasC.mpr ⟨h0,by omega⟩]
     rfl
    ·exact Ev.neg h0 (ev_joinRound hS v1 v2 v3 rfl next)
  exact go (t.length+1) (-1) (by omega) (by omega)
 ·rw [if_neg hv] at hR
  subst hR
  refine Ev.pos rfl (Ev.bind z3 (Ev.pos rfl ?_))
  exact Ev.now _
end Go.Proofs.Ytlhfcmbkjddgiaa.Pure
end
