/- One part of the proofs on this program: functions of the program as plain functions, that the code comes to them, and facts on them. -/
import Derived.Test.YtecdfgejmbpclaaYAll3
import Derived.Test.YtecdfgejmbpclaaYAll7
import Derived.Test.YtecdfgejmbpclaaYAll8
import Derived.Test.YtecdfgejmbpclaaYDh
import Derived.Test.YtecdfgejmbpclaaYMjh
section
set_option linter.unusedSimpArgs false
set_option linter.unusedVariables false
namespace Go.Proofs.Ytecdfgejmbpclaa.Pure
open Go Go.RowKit Go.Proofs.Ytecdfgejmbpclaa.P Go.Proofs.YtecdfgejmbpclaaW.PrintWords
set_option linter.unusedVariables false
theorem map_jh {k : List Ft} (b : LO k) {n : Nat} (hn : n ≤ 1048576) (hk : k.length ≤ 1048576) : k.map (jhF (n : Int)) = k.map (jnF n) :=
 List.map_congr_left (fun x hx=>by
  obtain ⟨i,hi,rfl⟩:=List.getElem_of_mem hx
  have h0:=b i hi
  have e2:fca k i=k[i].f2:=by simp [fca,List.getD_eq_getElem?_getD,hi]
  have e3:fcx k i=k[i].f3:=by simp [fcx,List.getD_eq_getElem?_getD,hi]
  rw [e2,e3] at h0
  have key:∀ z:Int, -1≤z∧z<(k.length:Int)→jhL (n:Int) z=sh n z:=fun z hz=>by
   unfold jhL
   by_cases c:0≤z
   ·rw [if_pos c,jec c,wr (by omega)]
   ·rw [if_neg c,sh_neg c]
  unfold jhF jnF
  rw [key _ h0.1,key _ h0.2])
theorem ev_sJoin_l0 {t : List Cl} {h k : List Ft} (ht : TS t) (b : LO k) (hk : k.length ≤ 1000) (hh : h.length ≤ 1000) : ∀ (n j : Nat), n + j = k.length → Ev (fun q => jO.l0 q (h.length : Int) j t k (h ++ (k.take j).map (jnF h.length))) (if hB t (jn h k) = true then (jn h k, true) else ([], false))
 | 0,j,e=>by
  refine Ev.step (fun q=>by rw [jO.l0]) ?_
  have:k.take j=k:=List.take_of_length_le (by omega)
  rw [this]
  refine Ev.neg (by omega) (Ev.bind (sHV (h:=jn h k) ht (by rw [jn_len];omega)) ?_)
  cases hb:hB t (jn h k) with
  | true=>exact Ev.pos rfl (Ev.now _)
  | false=>exact Ev.neg (by simp) (Ev.now _)
 | n+1,j,e=>by
  have hj:j<k.length:=by omega
  have hb:=b j hj
  have hT:(k.take (j+1)).map (jnF h.length)=(k.take j).map (jnF h.length) ++ [jnF h.length (ja k (j:Int))]:=by
   have e:ja k (j:Int)=k[j]:=by simp [ja,List.getD_eq_getElem?_getD,hj]
   rw [e,List.take_succ_eq_append_getElem hj,List.map_append];rfl
  have ih:=ev_sJoin_l0 (t:=t) (h:=h) ht b hk hh n (j+1) (by omega)
  rw [hT,← List.append_assoc] at ih
  have hlen:(h ++ (k.take j).map (jnF h.length)).length≤3000:=by rw [List.length_append,List.length_map,List.length_take];omega
  rw [← u2 k j,← u3 k j] at hb
  generalize h ++ (k.take j).map (jnF h.length)=acc at *
  obtain ⟨x,hx⟩:∃ x,x=ja k (j:Int):=⟨_,rfl⟩
  rw [← hx] at ih hb
  have j2:Ev (fun q=>jO.j2 q (h.length:Int) j t k acc x.f0 x.f1 (sh h.length x.f2) x.f3 x.f4) (if hB t (jn h k)=true then (jn h k,true) else ([],false)):=by
   refine Ev.step (fun q=>by rw [jO.j2]) ?_
   rw [wS (i:=j) (by omega)]
   by_cases c:0≤x.f3
   ·rw [wr (x:=x.f3+(h.length:Int)) (by omega)]
    refine Ev.pos c (Ev.pos (by omega) ?_)
    have e:jnF h.length x=⟨x.f0,x.f1,sh h.length x.f2,x.f3+(h.length:Int),x.f4⟩:=by unfold jnF;rw [jec c]
    rw [e] at ih;exact ih
   ·refine Ev.neg c (Ev.pos (by omega) ?_)
    have e:jnF h.length x=⟨x.f0,x.f1,sh h.length x.f2,x.f3,x.f4⟩:=by unfold jnF;rw [sh_neg c]
    rw [e] at ih;exact ih
  refine Ev.step (fun q=>by rw [jO.l0]) ?_
  refine Ev.pos (by omega) (Ev.pos (by omega) ?_)
  rw [← hx]
  by_cases c:0≤x.f2
  ·rw [wr (x:=x.f2+(h.length:Int)) (by omega)]
   rw [jec c] at j2
   exact Ev.pos c j2
  ·rw [sh_neg c] at j2
   exact Ev.neg c j2
noncomputable def jnR (t : List Cl) (h k : List Ft) : List Ft × Bool := if hB t h = true then (if hB t k = true then (if hB t (jn h k) = true then (jn h k, true) else ([], false)) else ([], false)) else ([], false)
theorem ev_sJoin {t : List Cl} {h k : List Ft} (ht : TS t) (hh : h.length ≤ 1000) (hk : k.length ≤ 1000) : Ev (fun q => jO.f q t h k) (jnR t h k) := by
 have bad:Ev (fun q=>jO.j0 q true t h k) ([],false):=by
  refine Ev.step (fun q=>by rw [jO.j0]) ?_
  exact Ev.pos rfl (Ev.now _)
 unfold jO.f jnR
 refine Ev.bind (sHV ht (by omega)) ?_
 cases a:hB t h with
 | false=>rw [if_neg (by simp)];exact Ev.neg (by simp) bad
 | true =>
  rw [if_pos rfl]
  refine Ev.pos rfl (Ev.bind (sHV ht (by omega)) ?_)
  cases b:hB t k with
  | false=>rw [if_neg (by simp)];exact bad
  | true =>
   rw [if_pos rfl]
   refine Ev.step (fun q=>by rw [jO.j0]) ?_
   have hc:jIa.f h=some h:=by
    unfold jIa.f
    simp only [Option.bind_some,List.length_nil,List.nil_append]
    rw [if_pos (by omega)]
   rw [hc]
   refine Ev.neg (by simp) (Ev.bind (Ev.now _) ?_)
   have:=ev_sJoin_l0 (t:=t) (h:=h) ht (jac.mp b).lo hk hh k.length 0 (by omega)
   simpa using this
theorem ev_iJoin {t : List Cl} {h k : List Ft} (ht : TS t) (hh : h.length ≤ 1000) (hk : k.length ≤ 1000) : Ev (fun q => jcb.f q t h k) (jnR t h k) := by
 unfold jcb.f
 refine Ev.bind (iHV ht (by omega)) ?_
 by_cases a:hB t h=true
 ·refine Ev.pos a (Ev.bind (iHV ht (by omega)) ?_)
  by_cases b:hB t k=true
  ·have e0:jnR t h k=if hB t (jn h k)=true then (jn h k,true) else ([],false):=by unfold jnR;rw [if_pos a,if_pos b]
   rw [e0]
   refine Ev.pos b (Ev.pos (by omega) ?_)
   rw [map_jh (jac.mp b).lo (by omega) (by omega)]
   have e:=HV_jn (jac.mp a) (jac.mp b)
   show Ev (fun _=>if ((jn h k).length:Int) > 24 then some ([],false) else some (jn h k,true)) _
   by_cases c:(jn h k).length≤24
   ·have e1:(if hB t (jn h k)=true then (jn h k,true) else (([]:List Ft),false))=(jn h k,true):=if_pos (jac.mpr (e.mpr c))
    rw [e1];exact Ev.neg (by omega) (Ev.now _)
   ·have e1:(if hB t (jn h k)=true then (jn h k,true) else (([]:List Ft),false))=([],false):=if_neg (fun g=>c (e.mp (jac.mp g)))
    rw [e1];exact Ev.pos (by omega) (Ev.now _)
  ·have e0:jnR t h k=([],false):=by unfold jnR;rw [if_pos a,if_neg b]
   rw [e0];exact Ev.neg b (Ev.now _)
 ·have e0:jnR t h k=([],false):=by unfold jnR;rw [if_neg a]
  rw [e0];exact Ev.neg a (Ev.now _)
theorem ev_equalHeap {l : List Ft} (hl : l.length ≤ 1048576) : Ev (fun k => jda.f k l l) true := by
 have go:∀ (n i:Nat),l.length≤n+i→Ev (fun k=>jda.l0 k i l l) true:=by
  intro n
  induction n with
  | zero =>
   intro i h
   refine Ev.step (fun k=>by rw [jda.l0]) ?_
   exact Ev.neg (by omega) (Ev.now _)
  | succ n ih =>
   intro i h
   refine Ev.step (fun k=>by rw [jda.l0]) ?_
   by_cases hi:i<l.length
   ·rw [wS (by omega)]
    exact Ev.pos (by omega) (Ev.pos (by omega) (Ev.pos (by omega) (Ev.neg (by simp) (ih (i+1) (by omega)))))
   ·exact Ev.neg (by omega) (Ev.now _)
 unfold jda.f
 exact Ev.pos rfl (go l.length 0 (by omega))
theorem ev_iIsolated {t : List Cl} {h : List Ft} (ht : TS t) (hn : h.length ≤ 1048575) (hv : HV t h) {f : Nat} (hf : f < h.length) : Ev (fun k => jxa.f k t h (f : Int)) (isoH h (rchL h f), ixOf (rchL h f) (f : Int)) := by
 unfold jxa.f
 have h2:=iGood ht (show h.length≤1048576 by omega) (f:Int)
 rw [gB_iff.mpr ⟨hv,f,rfl,hf⟩] at h2
 exact Ev.bind h2 (Ev.pos rfl (Ev.bind (ev_isolated hv.lo hn hf).2 (Ev.now _)))
theorem ev_iIsolated_no {t : List Cl} {h : List Ft} (ht : TS t) (hn : h.length ≤ 1048575) {f : Nat} (hf : h.length ≤ f) : Ev (fun k => jxa.f k t h (f : Int)) ([], -1) := by
 unfold jxa.f
 have h2:=iGood ht (show h.length≤1048576 by omega) (f:Int)
 rw [show gB t h (f:Int)=false from by
  cases e:gB t h (f:Int) with
  | false=>rfl
  | true=>obtain ⟨_,g,h3,h4⟩:=gB_iff.mp e;omega] at h2
 exact Ev.bind h2 (Ev.neg (by simp) (Ev.now _))
theorem ev_jhi_l0 {t : List Cl} {h k : List Ft} (ht : TS t) (a : HV t h) (b : HV t k) (v : HV t (jn h k)) : ∀ (n i : Nat), n + i = (jn h k).length → Ev (fun q => jm.l0 q (h.length : Int) i t h k (jn h k)) true
 | 0,i,e=>by
  refine Ev.step (fun q=>by rw [jm.l0]) ?_
  exact Ev.neg (by omega) (Ev.now _)
 | n+1,i,e=>by
  have hA:=a.lo
  have hB':=b.lo
  have l1:=a.2.2.2
  have l2:=b.2.2.2
  have l3:=jn_len h k
  have ih:=ev_jhi_l0 ht a b v n (i+1) (by omega)
  have nx:∀ (z:List Ft) (c:Int),z.length≤1048576→Ev (fun q=>jm.j2 q (h.length:Int) i c c t h k (jn h k) z z) true:=by
   intro z c hz
   refine Ev.step (fun q=>by rw [jm.j2]) ?_
   rw [wS (i:=i) (by omega)]
   exact Ev.bind (ev_equalHeap hz) (Ev.pos rfl (Ev.pos rfl ih))
  have zlen:∀ (g:List Ft) (f:Nat),g.length≤24→(isoH g (rchL g f)).length≤1048576:=fun g f hg=>by
   have:=rchL_len g f
   unfold isoH
   rw [List.length_map];omega
  have e1:=ev_iIsolated ht (by omega) v (f:=i) (by omega)
  refine Ev.step (fun q=>by rw [jm.l0]) ?_
  refine Ev.pos (by omega) (Ev.bind e1 ?_)
  rcases Nat.lt_or_ge i h.length with c | c
  ·have e2:=ev_iIsolated ht (by omega) a c
   refine Ev.bind e2 (Ev.neg (by omega) ?_)
   rw [rchL_lo hA hB' c,isoH_lo (fun x hx=>((jSb hA c).mp hx).lt hA c)]
   exact nx _ _ (zlen h i l1)
  ·obtain ⟨j,rfl⟩:∃ j,i=j+h.length:=⟨i - h.length,by omega⟩
   have hj:j<k.length:=by omega
   have e2:=ev_iIsolated_no (t:=t) ht (by omega) (h:=h) (f:=j+h.length) (by omega)
   have e3:=ev_iIsolated ht (by omega) b hj
   refine Ev.bind e2 (Ev.pos (by omega) ?_)
   rw [wr (x:=((j+h.length:Nat):Int) - (h.length:Int)) (by omega),show ((j+h.length:Nat):Int) - (h.length:Int)=(j:Int) by omega]
   refine Ev.bind e3 ?_
   have ei:ixOf ((rchL k j).map (·+h.length)) ((j+h.length:Nat):Int)=ixOf (rchL k j) (j:Int):=by
    have:=ixN_sh h.length (j:Int) (by omega) (rchL k j) 0
    rw [jec (by omega)] at this
    exact this
   rw [rchL_hi hA hB' hj,isoH_hi hB' (fun x hx=>((jSb hB' hj).mp hx).lt hB' hj),ei]
   exact nx _ _ (zlen k j l2)
theorem FnJoinHeapsIsolate : jm.Pure := by
 intro code _ _ hc
 refine Ev.rounds (g:=fun k=>jm.f k code) ?_
 unfold jm.f
 refine Ev.both (fun _=>Ev.now _) (fun _=>?_)
 obtain ⟨s,e0,hs⟩:=newReader_eq (bytes_of hc)
 obtain ⟨t,h,q,e1,q0,q1,hT,hl⟩:=ev_someHeap hs (p:=0) (by omega) (by omega)
 obtain ⟨k,q2,e2,_,_,hl2⟩:=ev_goodHeap hs hT.1 (p:=q) (by omega) (by omega)
 have eD:Ev (fun n=>jna.f n code) (t,h,k):=by
  unfold jna.f
  rw [e0]
  simp only [Option.bind_some]
  exact Ev.bind e1 (Ev.bind e2 (Ev.now _))
 have hS:=hT.ts
 have z1:=ev_sJoin hS (h:=h) (k:=k) (by omega) (by omega)
 have z2:=ev_iJoin hS (h:=h) (k:=k) (by omega) (by omega)
 have hz:(jnR t h k).1.length≤1048576:=by
  unfold jnR
  split
  ·split
   ·split
    ·simp only [jn_len];omega
    ·simp
   ·simp
  ·simp
 have hE:=ev_equalHeap hz
 refine Ev.bind eD (Ev.bind z2 (Ev.bind z1 (Ev.bind hE (Ev.pos rfl (Ev.neg (by simp) ?_)))))
 have stop:(jnR t h k).2=false→Ev (fun q=>jm.j0 q (jnR t h k).2 (jnR t h k).2 (!(jnR t h k).2) t h k (jnR t h k).1 (jnR t h k).1) true:=by
  intro e
  refine Ev.step (fun q=>by rw [jm.j0]) ?_
  rw [e]
  refine Ev.pos rfl (Ev.bind hE (Ev.pos rfl ?_))
  exact Ev.now _
 by_cases a:hB t h=true
 ·by_cases b:hB t k=true
  ·by_cases c:hB t (jn h k)=true
   ·have e:jnR t h k=(jn h k,true):=by unfold jnR;rw [if_pos a,if_pos b,if_pos c]
    rw [e]
    refine Ev.step (fun q=>by rw [jm.j0]) ?_
    exact Ev.neg (by simp) (ev_jhi_l0 hS (jac.mp a) (jac.mp b) (jac.mp c) (jn h k).length 0 (by omega))
   ·exact stop (by unfold jnR;rw [if_pos a,if_pos b,if_neg c])
  ·exact stop (by unfold jnR;rw [if_pos a,if_neg b])
 ·exact stop (by unfold jnR;rw [if_neg a])
end Go.Proofs.Ytecdfgejmbpclaa.Pure
end
