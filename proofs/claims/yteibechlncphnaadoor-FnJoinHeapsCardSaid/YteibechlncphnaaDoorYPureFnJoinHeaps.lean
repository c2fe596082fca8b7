/- One part of the proofs on this program: functions of the program as plain functions, that the code comes to them, and facts on them. -/
import Derived.Test.YteibechlncphnaaDoorYAll6
import Derived.Test.YteibechlncphnaaDoorYAll9
import Derived.Test.YteibechlncphnaaDoorYDh
import Derived.Test.YteibechlncphnaaDoorYMct
import Derived.Test.YteibechlncphnaaDoorYMjr
section
set_option linter.unusedSimpArgs false
set_option linter.unusedVariables false
namespace Go.Proofs.YteibechlncphnaaDoor.Pure
open Go Go.RowKit Go.Proofs.YteibechlncphnaaDoor.P Go.Proofs.YteibechlncphnaaDoorW.PrintWords
set_option linter.unusedVariables false
theorem snF_lo {h k : List Ft} {i : Nat} (hi : i < h.length) : snF (jn h k) i = snF h i := by unfold snF; rw [fca_lo hi, fcx_lo hi, jn_lo hi]
theorem snF_hi {h k : List Ft} (b : LO k) {i : Nat} (hi : i < k.length) : snF (jn h k) (i + h.length) = sh h.length (snF k i) := by
 have hb:=b i hi
 unfold snF
 rw [fca_hi hi,fcx_hi hi,jn_hi hi]
 have e4:(jnF h.length (k.getD i z66)).f4=(k.getD i z66).f4:=rfl
 rw [e4]
 by_cases c:fca k i≥0
 ·rw [sh_pos c,if_pos c,if_pos (by omega),sh_pos c]
 ·rw [sh_neg c,if_neg c,if_neg c]
  split
  ·rw [sh_neg (by omega)]
  ·rfl
theorem shL_lo {h k : List Ft} (a : LO h) {f : Nat} (hf : f < h.length) : shL (jn h k) (f : Int) = shL h (f : Int) := by
 unfold shL
 rw [jn_len,wlk_lo (nx:=snF h) (N:=h.length) (fun i hi=>(snF_lt a hi).2) (fun i hi=>snF_lo hi) _ _ _ (by omega),show h.length+k.length+1=h.length+1+k.length by omega,wlk_more (fun i hi=>(snF_lt a hi).2) (by omega)]
theorem shL_hi {h k : List Ft} (b : LO k) {f : Nat} (hf : f < k.length) : shL (jn h k) ((f + h.length : Nat) : Int) = (shL k (f : Int)).map (· + h.length) := by
 have e:=wlk_hi (nx:=snF k) (ny:=snF (jn h k)) (N:=k.length) (m:=h.length) (fun i hi=>(snF_lt b hi).2) (fun i hi=>snF_hi b hi) (h.length+k.length+1) (f:Int) [] (by omega)
 rw [sh_pos (by omega),List.map_nil] at e
 unfold shL
 rw [jn_len,show ((f+h.length:Nat):Int)=(f:Int)+(h.length:Int) by omega,show h.length+k.length+1=k.length+1+h.length by omega] at *
 rw [e,wlk_more (fun i hi=>(snF_lt b hi).2) (by omega)]
theorem sT_lo {t : List Cl} {h k : List Ft} {L : List Nat} (hL : ∀ i, i < L.length → L.getD i 0 < h.length) : ∀ i, i < L.length → sT t (jn h k) L i = sT t h L i
 | 0,hi=>by
  show tX t (jn h k) L 0=tX t h L 0
  unfold tX;rw [fcl_lo (hL 0 hi),fcd_lo (hL 0 hi)]
 | i+1,hi=>by
  have ih:=sT_lo (t:=t) (k:=k) hL i (by omega)
  show tX t (jn h k) L (i+1) ++ (sgX (jn h k) L i ++ sT t (jn h k) L i)=tX t h L (i+1) ++ (sgX h L i ++ sT t h L i)
  rw [ih]
  unfold tX sgX
  rw [fcl_lo (hL _ hi),fcd_lo (hL _ hi),fca_lo (hL i (by omega))]
theorem getD_map {L : List Nat} {m i : Nat} (hi : i < L.length) : (L.map (· + m)).getD i 0 = L.getD i 0 + m := by simp [List.getD_eq_getElem?_getD, hi]
theorem sT_hi {t : List Cl} {h k : List Ft} {L : List Nat} (hL : ∀ i, i < L.length → L.getD i 0 < k.length) : ∀ i, i < L.length → sT t (jn h k) (L.map (· + h.length)) i = sT t k L i
 | 0,hi=>by
  show tX t (jn h k) _ 0=tX t k L 0
  unfold tX;rw [getD_map hi,fcl_hi (hL 0 hi),fcd_hi (hL 0 hi)]
 | i+1,hi=>by
  have ih:=sT_hi (t:=t) (h:=h) hL i (by omega)
  show tX t (jn h k) _ (i+1) ++ (sgX (jn h k) _ i ++ sT t (jn h k) _ i)=tX t k L (i+1) ++ (sgX k L i ++ sT t k L i)
  rw [ih]
  have hi0:i<L.length:=by omega
  unfold tX sgX
  rw [getD_map hi,getD_map hi0,fcl_hi (hL _ hi),fcd_hi (hL _ hi),fca_hi (hL i hi0)]
  by_cases c:0≤fca k (L.getD i 0)
  ·rw [sh_pos c,if_pos c,if_pos (by omega)]
  ·rw [sh_neg c,if_neg c]
theorem cTx_lo {t : List Cl} {h k : List Ft} (a : LO h) {f : Nat} (hf : f < h.length) : cTx t (jn h k) f = cTx t h f := by
 obtain ⟨_,_,h3,_⟩:=shL_spec a hf
 have hp:=shL_pos a hf
 unfold cTx
 rw [shL_lo a hf]
 exact sT_lo (fun i hi=>h3 _ (getD_mem hi)) _ (by omega)
theorem cTx_hi {t : List Cl} {h k : List Ft} (b : LO k) {f : Nat} (hf : f < k.length) : cTx t (jn h k) (f + h.length) = cTx t k f := by
 obtain ⟨_,_,h3,_⟩:=shL_spec b hf
 have hp:=shL_pos b hf
 unfold cTx
 rw [shL_hi b hf,List.length_map]
 exact sT_hi (fun i hi=>h3 _ (getD_mem hi)) _ (by omega)
theorem ev_iCT {t : List Cl} {h : List Ft} (ht : TS t) (hv : HV t h) {f : Nat} (hf : f < h.length) : Ev (fun k => jJa.f k t h (f : Int)) (cTx t h f) := by
 have h1:=(ev_ChainText ht (by have:=hv.2.2.2;omega) (h:=h) (f:Int)).2
 have e:ctL t h (f:Int)=cTx t h f:=by
  unfold ctL
  rw [if_pos (gB_iff.mpr ⟨hv,f,rfl,hf⟩),Int.toNat_natCast]
 rw [e] at h1;exact h1
theorem ev_jh_l1 {t : List Cl} {h k : List Ft} (ht : TS t) (a : HV t h) (b : HV t k) (v : HV t (jn h k)) : ∀ (n i : Nat), n + i = k.length → Ev (fun q => jq.l1 q (h.length : Int) i t k (jn h k)) true
 | 0,i,e=>by
  have l1:=a.2.2.2
  have l2:=b.2.2.2
  refine Ev.step (fun q=>by rw [jq.l1]) ?_
  rw [wr (x:=(h.length:Int)+(k.length:Int)) (by omega),jn_len]
  refine Ev.neg (by omega) ?_
  have e2:((((h.length+k.length:Nat):Int)) == ((h.length:Int)+(k.length:Int)))=true:=by rw [beq_iff_eq];omega
  rw [e2]
  exact Ev.now _
 | n+1,i,e=>by
  have l1:=a.2.2.2
  have l2:=b.2.2.2
  have l3:=jn_len h k
  have ih:=ev_jh_l1 ht a b v n (i+1) (by omega)
  have e1:=ev_iCT ht v (f:=i+h.length) (by omega)
  have e2:=ev_iCT ht b (f:=i) (by omega)
  rw [cTx_hi b.lo (by omega)] at e1
  refine Ev.step (fun q=>by rw [jq.l1]) ?_
  rw [wr (x:=(h.length:Int)+(i:Int)) (by omega),show (h.length:Int)+(i:Int)=((i+h.length:Nat):Int) by omega,wS (i:=i) (by omega)]
  exact Ev.pos (by omega) (Ev.bind e1 (Ev.bind e2 (Ev.pos rfl ih)))
theorem ev_jh_l0 {t : List Cl} {h k : List Ft} (ht : TS t) (a : HV t h) (b : HV t k) (v : HV t (jn h k)) : ∀ (n i : Nat), n + i = h.length → Ev (fun q => jq.l0 q (h.length : Int) i t h k (jn h k)) true
 | 0,i,e=>by
  refine Ev.step (fun q=>by rw [jq.l0]) ?_
  exact Ev.neg (by omega) (ev_jh_l1 ht a b v k.length 0 (by omega))
 | n+1,i,e=>by
  have l1:=a.2.2.2
  have l3:=jn_len h k
  have ih:=ev_jh_l0 ht a b v n (i+1) (by omega)
  have e1:=ev_iCT ht v (f:=i) (by omega)
  have e2:=ev_iCT ht a (f:=i) (by omega)
  rw [cTx_lo a.lo (by omega)] at e1
  refine Ev.step (fun q=>by rw [jq.l0]) ?_
  rw [wS (i:=i) (by omega)]
  exact Ev.pos (by omega) (Ev.bind e1 (Ev.bind e2 (Ev.pos rfl ih)))
theorem FnJoinHeaps : jq.Pure := by
 intro code _ _ hc
 refine Ev.rounds (g:=fun k=>jq.f k code) ?_
 unfold jq.f
 refine Ev.both (fun _=>Ev.now _) (fun _=>?_)
 obtain ⟨s,e0,hs⟩:=newReader_eq (bytes_of hc)
 obtain ⟨t,h,q,e1,q0,q1,hT,hl⟩:=ev_someHeap hs (p:=0) (by omega) (by omega)
 obtain ⟨k,q2,e2,_,_,hl2⟩:=ev_goodHeap hs hT.1 (p:=q) (by omega) (by omega)
 have eD:Ev (fun n=>jja.f n code) (t,h,k):=by
  unfold jja.f
  rw [e0]
  simp only [Option.bind_some]
  exact Ev.bind e1 (Ev.bind e2 (Ev.now _))
 have hS:=hT.ts
 have z1:=ev_sJoin hS (h:=h) (k:=k) (by omega) (by omega)
 have z2:=ev_iJoin hS (h:=h) (k:=k) (by omega) (by omega)
 have hz:(jnR t h k).1.length≤1048576:=by
  unfold jnR
  split
  ·split
   ·split
    ·simp only [jn_len];omega
    ·simp
   ·simp
  ·simp
 have hE:=ev_equalHeap hz
 refine Ev.bind eD (Ev.bind z2 (Ev.bind z1 (Ev.bind hE (Ev.pos rfl (Ev.neg (by simp) ?_)))))
 have stop:(jnR t h k).2=false→Ev (fun q=>jq.j0 q (jnR t h k).2 (jnR t h k).2 (!(jnR t h k).2) t h k (jnR t h k).1 (jnR t h k).1) true:=by
  intro e
  refine Ev.step (fun q=>by rw [jq.j0]) ?_
  rw [e]
  refine Ev.pos rfl (Ev.bind hE (Ev.pos rfl ?_))
  exact Ev.now _
 by_cases a:hB t h=true
 ·by_cases b:hB t k=true
  ·by_cases c:hB t (jn h k)=true
   ·have e:jnR t h k=(jn h k,true):=by unfold jnR;rw [if_pos a,if_pos b,if_pos c]
    rw [e]
    refine Ev.step (fun q=>by rw [jq.j0]) ?_
    exact Ev.neg (by simp) (ev_jh_l0 hS (jac.mp a) (jac.mp b) (jac.mp c) h.length 0 (by omega))
   ·exact stop (by unfold jnR;rw [if_pos a,if_pos b,if_neg c])
  ·exact stop (by unfold jnR;rw [if_pos a,if_neg b])
 ·exact stop (by unfold jnR;rw [if_neg a])
end Go.Proofs.YteibechlncphnaaDoor.Pure
end
