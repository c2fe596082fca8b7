/- One part of the proofs on this program: functions of the program as plain functions, that the code comes to them, and facts on them. -/
import Derived.Test.YtkokajljeebgdaaYAll6
import Derived.Test.YtkokajljeebgdaaYAll9
import Derived.Test.YtkokajljeebgdaaYDp
import Derived.Test.YtkokajljeebgdaaYMr
import Derived.Test.YtkokajljeebgdaaYMw2
import Derived.Test.YtkokajljeebgdaaYMy
import Derived.Test.YtkokajljeebgdaaYMz
section
set_option linter.unusedSimpArgs false
set_option linter.unusedVariables false
namespace Go.Proofs.Ytkokajljeebgdaa.Pure
open Go Go.RowKit Go.Proofs.Ytkokajljeebgdaa.P Go.Proofs.YtkokajljeebgdaaW.PrintWords
set_option linter.unusedVariables false
theorem ci_take' (l : List Nat) (n : Nat) : (ci l).take n = ci (l.take n) := by simp [ci, List.map_take]
theorem FnWayOut : jl.Pure := by
 intro code _ _ hc
 refine Ev.rounds (g:=fun k=>jl.f k code) ?_
 unfold jl.f
 refine Ev.both (fun _=>Ev.now _) (fun _=>?_)
 obtain ⟨s,e0,hs⟩:=newReader_eq (bytes_of hc)
 obtain ⟨t,p,a,q,e1,_,_,hT,hp⟩:=ev_lineIn hs (p:=0) (by omega) (by omega)
 have eD:Ev (fun k=>jrb.f k code) (t,p,a):=by
  unfold jrb.f
  rw [e0]
  simp only [Option.bind_some]
  exact Ev.bind e1 (Ev.now _)
 have hP:p.length≤1048576:=by omega
 have hS:=hT.ts
 obtain ⟨z1,z2,z3⟩:=ev_WayOut' hP hS a
 have hE:=ev_equalInts (r:=rWay t p a) (by omega)
 have stop:Ev (fun k=>jl.j0 k p a (rWay t p a) true t) true:=by
  refine Ev.step (fun k=>by rw [jl.j0]) ?_
  exact Ev.pos rfl (Ev.bind z1 (Ev.bind hE (Ev.now _)))
 refine Ev.bind eD (Ev.bind z2 (Ev.bind z1 (Ev.bind hE (Ev.pos rfl (Ev.bind (iValid hP hS) ?_)))))
 cases hv:vB t p with
 | false=>exact Ev.neg (by simp) stop
 | true =>
 refine Ev.pos rfl (Ev.both (fun _=>stop) (fun h0=>?_))
 replace h0:¬ a<0:=h0
 simp only []
 by_cases h1:a≥(p.length:Int)
 ·rw [decide_eq_true h1];exact stop
 rw [decide_eq_false h1]
 have hV:=vB_iff.mp hv
 obtain ⟨n,rfl⟩:=Int.eq_ofNat_of_zero_le (show 0≤a by omega)
 have hn:n<p.length:=by omega
 have hA:At t p n:=⟨hV,by omega,by omega⟩
 have er:rWay t p n=ci (wayL p (enc p n)):=by rw [rWay,if_pos hA,Int.toNat_natCast]
 rw [er]
 obtain ⟨w1,w2⟩:=wayL_deep hV (enc p n) (enc_ok hV hn) (enc_pair hV hn)
 have hlen:(enc p n).length≤n:=encN_len p n (dp p n)
 have hwl:=wayL_len p (enc p n)
 have hdl:=(enc_deep hV hn).1
 have hsh:=enc_shallow hV hn
 have henc:=fun m hm=>encN_lt p n (dp p n) m hm
 generalize hL:wayL p (enc p n)=L at *
 refine Ev.step (fun k=>by rw [jl.j0]) ?_
 refine Ev.neg (by simp) ?_
 have fin:∀ j:Nat,L.length≤j→Ev (fun k=>jl.l0 k p n (ci L) j) true:=by
  intro j hj
  refine Ev.step (fun k=>by rw [jl.l0]) ?_
  rw [jKb]
  refine Ev.neg (by omega) (Ev.pos (by omega) (Ev.pos (by omega) ?_))
  rw [r0,show decide ((L.length:Int)≤dp p n)=true from by rw [decide_eq_true_eq];omega]
  exact Ev.now _
 have go:∀ (m j:Nat),L.length≤m+j→Ev (fun k=>jl.l0 k p n (ci L) j) true:=by
  intro m
  induction m with
  | zero=>intro j h;exact fin j (by omega)
  | succ m ih =>
   intro j h
   by_cases hj:j<L.length
   ·have hr:=ci_drop (l:=L) (j:=j) (List.drop_eq_getElem_cons hj)
    obtain ⟨x,hx,x1,x2,x3⟩:=w1 L[j] (List.getElem_mem hj)
    have hxs:=hsh x hx
    have hxn:=henc x hx
    have hnot:hasN ((L[j]:Nat):Int) (L.take j)=false:=by
     cases hh:hasN ((L[j]:Nat):Int) (L.take j) with
     | false=>rfl
     | true =>
      obtain ⟨b,hb,e⟩:=(hasN_iff _ _).mp hh
      obtain ⟨i,hi,rfl⟩:=List.mem_iff_getElem.mp hb
      rw [List.length_take] at hi
      rw [List.getElem_take] at e
      have:=List.pairwise_iff_getElem.mp w2 i j (by omega) hj (by omega)
      rw [show L[i]=L[j] from by omega] at this
      omega
    have next:Ev (fun k=>jl.j2 k p n (ci L) j false) true:=by
     refine Ev.step (fun k=>by rw [jl.j2]) ?_
     rw [wS (by omega)]
     exact Ev.neg (by simp) (ih (j+1) (by omega))
    refine Ev.step (fun k=>by rw [jl.l0]) ?_
    rw [hr.2.1,jKb,show (j:Int).toNat=j from rfl,ci_take']
    refine Ev.pos (by omega) (Ev.pos (by omega) (Ev.pos (by omega) (Ev.pos (by omega) (Ev.pos (by omega) (Ev.bind (ev_isIn _ (by rw [List.length_take];omega) _) ?_)))))
    rw [hnot]
    have hd:decide ((jc p ((L[j]:Nat):Int)).f0≥(jc p (n:Int)).f0)=false:=by
     rw [decide_eq_false_iff_not,r0,r0,x2];omega
    rw [hd]
    refine Ev.neg (by simp) ?_
    rcases x3 with ⟨k11,rfl⟩ | k10
    ·exact Ev.pos k11 (Ev.neg (by omega) (Ev.pos (by omega) (Ev.pos (by omega) next)))
    ·exact Ev.neg (fun h=>by have:kd p L[j]=11:=h;omega) (Ev.pos k10 (Ev.pos (by omega) (Ev.pos (by omega) next)))
   ·exact fin j (by omega)
 exact go _ 0 (by omega)
end Go.Proofs.Ytkokajljeebgdaa.Pure
end
