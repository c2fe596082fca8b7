/- One part of the proofs on this program: functions of the program as plain functions, that the code comes to them, and facts on them. -/
import Derived.Test.YteibechlncphnaaDoorYAll1
import Derived.Test.YteibechlncphnaaDoorYAll6
import Derived.Test.YteibechlncphnaaDoorYAll8
import Derived.Test.YteibechlncphnaaDoorYMj1
section
set_option linter.unusedSimpArgs false
set_option linter.unusedVariables false
namespace Go.Proofs.YteibechlncphnaaDoor.Pure
open Go Go.RowKit Go.Proofs.YteibechlncphnaaDoor.P Go.Proofs.YteibechlncphnaaDoorW.PrintWords
set_option linter.unusedVariables false
theorem map_jh {k : List Ft} (b : LO k) {n : Nat} (hn : n ≤ 1048576) (hk : k.length ≤ 1048576) : k.map (jhF (n : Int)) = k.map (jnF n) :=
 List.map_congr_left (fun x hx=>by
  obtain ⟨i,hi,rfl⟩:=List.getElem_of_mem hx
  have h0:=b i hi
  have e2:fca k i=k[i].f2:=by simp [fca,List.getD_eq_getElem?_getD,hi]
  have e3:fcx k i=k[i].f3:=by simp [fcx,List.getD_eq_getElem?_getD,hi]
  rw [e2,e3] at h0
  have key:∀ z:Int, -1≤z∧z<(k.length:Int)→jhL (n:Int) z=sh n z:=fun z hz=>by
   unfold jhL
   by_cases c:0≤z
   ·rw [if_pos c,sh_pos c,wr (by omega)]
   ·rw [if_neg c,sh_neg c]
  unfold jhF jnF
  rw [key _ h0.1,key _ h0.2])
theorem ev_sJoin_l0 {t : List Cl} {h k : List Ft} (ht : TS t) (b : LO k) (hk : k.length ≤ 1000) (hh : h.length ≤ 1000) : ∀ (n j : Nat), n + j = k.length → Ev (fun q => jK.l0 q (h.length : Int) j t k (h ++ (k.take j).map (jnF h.length))) (if hB t (jn h k) = true then (jn h k, true) else ([], false))
 | 0,j,e=>by
  refine Ev.step (fun q=>by rw [jK.l0]) ?_
  have:k.take j=k:=List.take_of_length_le (by omega)
  rw [this]
  refine Ev.neg (by omega) (Ev.bind (sHV (h:=jn h k) ht (by rw [jn_len];omega)) ?_)
  cases hb:hB t (jn h k) with
  | true=>exact Ev.pos rfl (Ev.now _)
  | false=>exact Ev.neg (by simp) (Ev.now _)
 | n+1,j,e=>by
  have hj:j<k.length:=by omega
  have hb:=b j hj
  have hT:(k.take (j+1)).map (jnF h.length)=(k.take j).map (jnF h.length) ++ [jnF h.length (ja k (j:Int))]:=by
   have e:ja k (j:Int)=k[j]:=by simp [ja,List.getD_eq_getElem?_getD,hj]
   rw [e,List.take_succ_eq_append_getElem hj,List.map_append];rfl
  have ih:=ev_sJoin_l0 (t:=t) (h:=h) ht b hk hh n (j+1) (by omega)
  rw [hT,← List.append_assoc] at ih
  have hlen:(h ++ (k.take j).map (jnF h.length)).length≤3000:=by rw [List.length_append,List.length_map,List.length_take];omega
  rw [← u2 k j,← u3 k j] at hb
  generalize h ++ (k.take j).map (jnF h.length)=acc at *
  obtain ⟨x,hx⟩:∃ x,x=ja k (j:Int):=⟨_,rfl⟩
  rw [← hx] at ih hb
  have j2:Ev (fun q=>jK.j2 q (h.length:Int) j t k acc x.f0 x.f1 (sh h.length x.f2) x.f3 x.f4) (if hB t (jn h k)=true then (jn h k,true) else ([],false)):=by
   refine Ev.step (fun q=>by rw [jK.j2]) ?_
   rw [wS (i:=j) (by omega)]
   by_cases c:0≤x.f3
   ·rw [wr (x:=x.f3+(h.length:Int)) (by omega)]
    refine Ev.pos c (Ev.pos (by omega) ?_)
    have e:jnF h.length x=⟨x.f0,x.f1,sh h.length x.f2,x.f3+(h.length:Int),x.f4⟩:=by unfold jnF;rw [sh_pos c]
    rw [e] at ih;exact ih
   ·refine Ev.neg c (Ev.pos (by omega) ?_)
    have e:jnF h.length x=⟨x.f0,x.f1,sh h.length x.f2,x.f3,x.f4⟩:=by unfold jnF;rw [sh_neg c]
    rw [e] at ih;exact ih
  refine Ev.step (fun q=>by rw [jK.l0]) ?_
  refine Ev.pos (by omega) (Ev.pos (by omega) ?_)
  rw [← hx]
  by_cases c:0≤x.f2
  ·rw [wr (x:=x.f2+(h.length:Int)) (by omega)]
   rw [sh_pos c] at j2
   exact Ev.pos c j2
  ·rw [sh_neg c] at j2
   exact Ev.neg c j2
noncomputable def jnR (t : List Cl) (h k : List Ft) : List Ft × Bool := if hB t h = true then (if hB t k = true then (if hB t (jn h k) = true then (jn h k, true) else ([], false)) else ([], false)) else ([], false)
theorem ev_sJoin {t : List Cl} {h k : List Ft} (ht : TS t) (hh : h.length ≤ 1000) (hk : k.length ≤ 1000) : Ev (fun q => jK.f q t h k) (jnR t h k) := by
 have bad:Ev (fun q=>jK.j0 q true t h k) ([],false):=by
  refine Ev.step (fun q=>by rw [jK.j0]) ?_
  exact Ev.pos rfl (Ev.now _)
 unfold jK.f jnR
 refine Ev.bind (sHV ht (by omega)) ?_
 cases a:hB t h with
 | false=>rw [if_neg (by simp)];exact Ev.neg (by simp) bad
 | true =>
  rw [if_pos rfl]
  refine Ev.pos rfl (Ev.bind (sHV ht (by omega)) ?_)
  cases b:hB t k with
  | false=>rw [if_neg (by simp)];exact bad
  | true =>
   rw [if_pos rfl]
   refine Ev.step (fun q=>by rw [jK.j0]) ?_
   have hc:jKa.f h=some h:=by
    unfold jKa.f
    simp only [Option.bind_some,List.length_nil,List.nil_append]
    rw [if_pos (by omega)]
   rw [hc]
   refine Ev.neg (by simp) (Ev.bind (Ev.now _) ?_)
   have:=ev_sJoin_l0 (t:=t) (h:=h) ht (jac.mp b).lo hk hh k.length 0 (by omega)
   simpa using this
theorem ev_iJoin {t : List Cl} {h k : List Ft} (ht : TS t) (hh : h.length ≤ 1000) (hk : k.length ≤ 1000) : Ev (fun q => jdb.f q t h k) (jnR t h k) := by
 unfold jdb.f
 refine Ev.bind (iHV ht (by omega)) ?_
 by_cases a:hB t h=true
 ·refine Ev.pos a (Ev.bind (iHV ht (by omega)) ?_)
  by_cases b:hB t k=true
  ·have e0:jnR t h k=if hB t (jn h k)=true then (jn h k,true) else ([],false):=by unfold jnR;rw [if_pos a,if_pos b]
   rw [e0]
   refine Ev.pos b (Ev.pos (by omega) ?_)
   rw [map_jh (jac.mp b).lo (by omega) (by omega)]
   have e:=HV_jn (jac.mp a) (jac.mp b)
   show Ev (fun _=>if ((jn h k).length:Int) > 24 then some ([],false) else some (jn h k,true)) _
   by_cases c:(jn h k).length≤24
   ·have e1:(if hB t (jn h k)=true then (jn h k,true) else (([]:List Ft),false))=(jn h k,true):=if_pos (jac.mpr (e.mpr c))
    rw [e1];exact Ev.neg (by omega) (Ev.now _)
   ·have e1:(if hB t (jn h k)=true then (jn h k,true) else (([]:List Ft),false))=([],false):=if_neg (fun g=>c (e.mp (jac.mp g)))
    rw [e1];exact Ev.pos (by omega) (Ev.now _)
  ·have e0:jnR t h k=([],false):=by unfold jnR;rw [if_pos a,if_neg b]
   rw [e0];exact Ev.neg b (Ev.now _)
 ·have e0:jnR t h k=([],false):=by unfold jnR;rw [if_neg a]
  rw [e0];exact Ev.neg a (Ev.now _)
theorem ev_equalHeap {l : List Ft} (hl : l.length ≤ 1048576) : Ev (fun k => jda.f k l l) true := by
 have go:∀ (n i:Nat),l.length≤n+i→Ev (fun k=>jda.l0 k i l l) true:=by
  intro n
  induction n with
  | zero =>
   intro i h
   refine Ev.step (fun k=>by rw [jda.l0]) ?_
   exact Ev.neg (by omega) (Ev.now _)
  | succ n ih =>
   intro i h
   refine Ev.step (fun k=>by rw [jda.l0]) ?_
   by_cases hi:i<l.length
   ·rw [wS (by omega)]
    exact Ev.pos (by omega) (Ev.pos (by omega) (Ev.pos (by omega) (Ev.neg (by simp) (ih (i+1) (by omega)))))
   ·exact Ev.neg (by omega) (Ev.now _)
 unfold jda.f
 exact Ev.pos rfl (go l.length 0 (by omega))
end Go.Proofs.YteibechlncphnaaDoor.Pure
end
