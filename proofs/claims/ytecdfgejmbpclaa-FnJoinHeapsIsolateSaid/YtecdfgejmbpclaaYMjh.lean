/- One part of the proofs on this program: functions of the program as plain functions, that the code comes to them, and facts on them. -/
import Derived.Test.YtecdfgejmbpclaaYMri
section
set_option linter.unusedSimpArgs false
set_option linter.unusedVariables false
namespace Go.Proofs.Ytecdfgejmbpclaa.Pure
open Go Go.RowKit Go.Proofs.Ytecdfgejmbpclaa.P Go.Proofs.YtecdfgejmbpclaaW.PrintWords
set_option linter.unusedVariables false
def sh (n : Nat) (z : Int) : Int := if 0 ≤ z then z + n else z
def jnF (n : Nat) (x : Ft) : Ft := ⟨x.f0, x.f1, sh n x.f2, sh n x.f3, x.f4⟩
def jn (h k : List Ft) : List Ft := h ++ k.map (jnF h.length)
theorem jn_len (h k : List Ft) : (jn h k).length = h.length + k.length := by simp [jn]
theorem jn_lo {h k : List Ft} {i : Nat} (hi : i < h.length) : (jn h k).getD i z54 = h.getD i z54 := by
 simp [jn,List.getD_eq_getElem?_getD,List.getElem?_append_left hi]
theorem jn_hi {h k : List Ft} {i : Nat} (hi : i < k.length) : (jn h k).getD (i + h.length) z54 = jnF h.length (k.getD i z54) := by
 simp [jn,List.getD_eq_getElem?_getD,List.getElem?_append_right,hi]
theorem fcl_lo {h k : List Ft} {i : Nat} (hi : i < h.length) : fcl (jn h k) i = fcl h i := by unfold fcl; rw [jn_lo hi]
theorem fcd_lo {h k : List Ft} {i : Nat} (hi : i < h.length) : fcd (jn h k) i = fcd h i := by unfold fcd; rw [jn_lo hi]
theorem fca_lo {h k : List Ft} {i : Nat} (hi : i < h.length) : fca (jn h k) i = fca h i := by unfold fca; rw [jn_lo hi]
theorem fcx_lo {h k : List Ft} {i : Nat} (hi : i < h.length) : fcx (jn h k) i = fcx h i := by unfold fcx; rw [jn_lo hi]
theorem fcl_hi {h k : List Ft} {i : Nat} (hi : i < k.length) : fcl (jn h k) (i + h.length) = fcl k i := by unfold fcl; rw [jn_hi hi]; rfl
theorem fcd_hi {h k : List Ft} {i : Nat} (hi : i < k.length) : fcd (jn h k) (i + h.length) = fcd k i := by unfold fcd; rw [jn_hi hi]; rfl
theorem fca_hi {h k : List Ft} {i : Nat} (hi : i < k.length) : fca (jn h k) (i + h.length) = sh h.length (fca k i) := by unfold fca; rw [jn_hi hi]; rfl
theorem fcx_hi {h k : List Ft} {i : Nat} (hi : i < k.length) : fcx (jn h k) (i + h.length) = sh h.length (fcx k i) := by unfold fcx; rw [jn_hi hi]; rfl
theorem jec {n : Nat} {z : Int} (h : 0 ≤ z) : sh n z = z + n := by unfold sh; rw [if_pos h]
theorem sh_neg {n : Nat} {z : Int} (h : ¬ 0 ≤ z) : sh n z = z := by unfold sh; rw [if_neg h]
theorem sh_bd {n m : Nat} {z : Int} (h : -1 ≤ z ∧ z < (m : Int)) : -1 ≤ sh n z ∧ sh n z < ((n + m : Nat) : Int) := by
 by_cases c:0≤z
 ·rw [jec c];omega
 ·rw [sh_neg c];omega
theorem jn_LO {h k : List Ft} (a : LO h) (b : LO k) : LO (jn h k) := by
 intro i hi
 rw [jn_len] at hi ⊢
 rcases Nat.lt_or_ge i h.length with g | g
 ·have:=a i g;rw [fca_lo g,fcx_lo g];omega
 ·obtain ⟨j,rfl⟩:∃ j,i=j+h.length:=⟨i - h.length,by omega⟩
  have:=b j (by omega)
  rw [fca_hi (by omega),fcx_hi (by omega)]
  exact ⟨sh_bd this.1,sh_bd this.2⟩
theorem Rc_lo {h k : List Ft} (a : LO h) {f : Nat} (hf : f < h.length) {b : Nat} : Rc (jn h k) f b ↔ Rc h f b := by
 constructor
 ·intro r
  induction r with
  | here=>exact .here
  | ca r e ih=>exact .ca ih (by rw [fca_lo (ih.lt a hf)] at e;exact e)
  | cx r e ih=>exact .cx ih (by rw [fcx_lo (ih.lt a hf)] at e;exact e)
 ·intro r
  induction r with
  | here=>exact .here
  | ca r e ih=>exact .ca ih (by rw [fca_lo (r.lt a hf)];exact e)
  | cx r e ih=>exact .cx ih (by rw [fcx_lo (r.lt a hf)];exact e)
theorem Rc_hi {h k : List Ft} (b : LO k) {f : Nat} (hf : f < k.length) {c : Nat} : Rc (jn h k) (f + h.length) c ↔ ∃ a, c = a + h.length ∧ Rc k f a := by
 constructor
 ·intro r
  induction r with
  | here=>exact ⟨f,rfl, .here⟩
  | ca r e ih =>
   obtain ⟨a,rfl,s⟩:=ih
   have hl:=s.lt b hf
   rw [fca_hi hl] at e
   by_cases c:0≤fca k a
   ·rw [jec c] at e;exact ⟨(fca k a).toNat,by omega, .ca s (by omega)⟩
   ·rw [sh_neg c] at e;omega
  | cx r e ih =>
   obtain ⟨a,rfl,s⟩:=ih
   have hl:=s.lt b hf
   rw [fcx_hi hl] at e
   by_cases c:0≤fcx k a
   ·rw [jec c] at e;exact ⟨(fcx k a).toNat,by omega, .cx s (by omega)⟩
   ·rw [sh_neg c] at e;omega
 ·rintro ⟨a,rfl,r⟩
  induction r with
  | here=>exact .here
  | ca r e ih=>exact .ca ih (by rw [fca_hi (r.lt b hf),e,jec (by omega)];omega)
  | cx r e ih=>exact .cx ih (by rw [fcx_hi (r.lt b hf),e,jec (by omega)];omega)
theorem asc_eq {l m : List Nat} (a : l.Pairwise (· < ·)) (b : m.Pairwise (· < ·)) (e : ∀ x, x ∈ l ↔ x ∈ m) : l = m := by
 have h:=ascI_eq (ci_asc a) (ci_asc b) (fun x=>by rw [mem_ci,mem_ci];exact ⟨fun ⟨y,p,q⟩=>⟨y,(e y).mp p,q⟩,fun ⟨y,p,q⟩=>⟨y,(e y).mpr p,q⟩⟩)
 unfold ci at h
 exact (List.map_inj_right (fun x y hxy=>Int.ofNat.inj hxy)).mp h
theorem rchL_lo {h k : List Ft} (a : LO h) (b : LO k) {f : Nat} (hf : f < h.length) : rchL (jn h k) f = rchL h f :=
 asc_eq (rchL_asc _ _) (rchL_asc _ _) (fun x=>by rw [jSb (jn_LO a b) (by rw [jn_len];omega),jSb a hf,Rc_lo a hf])
theorem rchL_hi {h k : List Ft} (a : LO h) (b : LO k) {f : Nat} (hf : f < k.length) : rchL (jn h k) (f + h.length) = (rchL k f).map (· + h.length) :=
 asc_eq (rchL_asc _ _) (List.pairwise_map.mpr ((rchL_asc k f).imp (fun h=>by omega))) (fun x=>by
  rw [jSb (jn_LO a b) (by rw [jn_len];omega),Rc_hi b hf,List.mem_map]
  constructor
  ·rintro ⟨y,rfl,r⟩;exact ⟨y,(jSb b hf).mpr r,rfl⟩
  ·rintro ⟨y,m,rfl⟩;exact ⟨y,rfl,(jSb b hf).mp m⟩)
theorem ixN_sh (n : Nat) (z : Int) (hz : -1 ≤ z) : ∀ (l : List Nat) (i : Nat), ixN (l.map (· + n)) (sh n z) i = ixN l z i
 | [],i=>by simp [ixN]
 | a :: r,i=>by
  have e:(((a+n:Nat):Int)=sh n z) ↔ ((a:Int)=z):=by
   by_cases c:0≤z
   ·rw [jec c];omega
   ·rw [sh_neg c];omega
  have ih:=ixN_sh n z hz r (i+1)
  rw [List.map_cons,ixN,ixN]
  by_cases c:(a:Int)=z
  ·rw [if_pos c,if_pos (e.mpr c)]
  ·rw [if_neg c,if_neg (fun g=>c (e.mp g))];exact ih
theorem isoH_lo {h k : List Ft} {L : List Nat} (hL : ∀ a ∈ L, a < h.length) : isoH (jn h k) L = isoH h L :=
 List.map_congr_left (fun a ha=>by
  unfold isoF
  rw [show ja (jn h k) (a:Int)=ja h (a:Int) from jn_lo (hL a ha),fca_lo (hL a ha),fcx_lo (hL a ha)])
theorem isoH_hi {h k : List Ft} {L : List Nat} (b : LO k) (hL : ∀ a ∈ L, a < k.length) : isoH (jn h k) (L.map (· + h.length)) = isoH k L := by
 unfold isoH
 rw [List.map_map]
 refine List.map_congr_left (fun a ha=>?_)
 have hl:=hL a ha
 have hb:=b a hl
 show isoF (jn h k) (L.map (·+h.length)) (a+h.length)=isoF k L a
 unfold isoF ixOf
 rw [show ja (jn h k) ((a+h.length:Nat):Int)=jnF h.length (ja k (a:Int)) from jn_hi hl,fca_hi hl,fcx_hi hl,ixN_sh _ _ (by omega),ixN_sh _ _ (by omega)]
 rfl
theorem wlk_fuel {nx : Nat → Int} {N : Nat} (hx : ∀ i, i < N → nx i < (N : Int)) : ∀ (n : Nat) (f : Int) (acc : List Nat), N + 1 ≤ n + acc.length → acc.Nodup → (∀ a ∈ acc, a < N) → f < (N : Int) → wlk nx (n + 1) f acc = wlk nx n f acc
 | 0,f,acc,h1,h2,h3,h4=>by have:=jMb h2 h3;omega
 | n+1,f,acc,h1,h2,h3,h4=>by
  rw [wlk]
  conv=>rhs;rw [wlk]
  by_cases h0:0≤f
  ·rw [if_pos h0,if_pos h0]
   by_cases hm:f.toNat ∈ acc
   ·rw [if_pos hm,if_pos hm]
   ·rw [if_neg hm,if_neg hm]
    exact wlk_fuel hx n _ _ (by rw [List.length_append,List.length_singleton];omega) (by rw [List.nodup_append];exact ⟨h2,by simp,fun a ha b hb e=>hm (by rw [List.mem_singleton] at hb;rw [← hb,← e];exact ha)⟩) (fun a ha=>by
     rcases List.mem_append.mp ha with g | g
     ·exact h3 a g
     ·rw [List.mem_singleton] at g;omega) (hx _ (by omega))
  ·rw [if_neg h0,if_neg h0]
theorem wlk_more {nx : Nat → Int} {N : Nat} (hx : ∀ i, i < N → nx i < (N : Int)) {f : Int} (hf : f < (N : Int)) : ∀ d : Nat, wlk nx (N + 1 + d) f [] = wlk nx (N + 1) f []
 | 0=>rfl
 | d+1=>by rw [← Nat.add_assoc,wlk_fuel hx (N+1+d) f [] (by simp) (by simp) (by simp) hf];exact wlk_more hx hf d
theorem wlk_lo {nx ny : Nat → Int} {N : Nat} (hx : ∀ i, i < N → nx i < (N : Int)) (e : ∀ i, i < N → ny i = nx i) : ∀ (n : Nat) (f : Int) (acc : List Nat), f < (N : Int) → wlk ny n f acc = wlk nx n f acc
 | 0,f,acc,h4=>by rw [wlk,wlk]
 | n+1,f,acc,h4=>by
  rw [wlk,wlk]
  by_cases h0:0≤f
  ·rw [if_pos h0,if_pos h0]
   by_cases hm:f.toNat ∈ acc
   ·rw [if_pos hm,if_pos hm]
   ·rw [if_neg hm,if_neg hm,e _ (by omega)]
    exact wlk_lo hx e n _ _ (hx _ (by omega))
  ·rw [if_neg h0,if_neg h0]
theorem wlk_hi {nx ny : Nat → Int} {N m : Nat} (hx : ∀ i, i < N → nx i < (N : Int)) (e : ∀ i, i < N → ny (i + m) = sh m (nx i)) : ∀ (n : Nat) (f : Int) (acc : List Nat), f < (N : Int) → wlk ny n (sh m f) (acc.map (· + m)) = (wlk nx n f acc).map (· + m)
 | 0,f,acc,h4=>by rw [wlk,wlk]
 | n+1,f,acc,h4=>by
  rw [wlk,wlk]
  by_cases h0:0≤f
  ·have e1:(f+(m:Int)).toNat=f.toNat+m:=by omega
   rw [jec h0,if_pos h0,if_pos (by omega),e1]
   have hmem:f.toNat+m ∈ acc.map (·+m) ↔ f.toNat ∈ acc:=by
    rw [List.mem_map]
    exact ⟨fun ⟨a,ha,hb⟩=>by rw [show f.toNat=a by omega];exact ha,fun h=>⟨_,h,rfl⟩⟩
   by_cases hm:f.toNat ∈ acc
   ·rw [if_pos hm,if_pos (hmem.mpr hm)]
   ·rw [if_neg hm,if_neg (fun g=>hm (hmem.mp g)),e _ (by omega),show acc.map (·+m) ++ [f.toNat+m]=(acc ++ [f.toNat]).map (·+m) by simp]
    exact wlk_hi hx e n _ _ (hx _ (by omega))
  ·rw [sh_neg h0,if_neg h0,if_neg h0]
theorem cxL_lo {h k : List Ft} (a : LO h) {f : Nat} (hf : f < h.length) : cxL (jn h k) (f : Int) = cxL h (f : Int) := by
 unfold cxL
 rw [wlk_lo (nx:=fcx h) (N:=h.length) (fun i hi=>(a i hi).2.2) (fun i hi=>fcx_lo hi) _ _ _ (by omega),jn_len,show h.length+k.length+1=h.length+1+k.length by omega]
 exact wlk_more (fun i hi=>(a i hi).2.2) (by omega) _
theorem cxL_hi {h k : List Ft} (b : LO k) {f : Nat} (hf : f < k.length) : cxL (jn h k) ((f + h.length : Nat) : Int) = (cxL k (f : Int)).map (· + h.length) := by
 unfold cxL
 have:=wlk_hi (nx:=fcx k) (ny:=fcx (jn h k)) (N:=k.length) (m:=h.length) (fun i hi=>(b i hi).2.2) (fun i hi=>fcx_hi hi) (k.length+1+h.length) (f:Int) [] (by omega)
 rw [jec (by omega),List.map_nil,wlk_more (fun i hi=>(b i hi).2.2) (by omega)] at this
 rw [← this,jn_len,show h.length+k.length+1=k.length+1+h.length by omega]
 rfl
theorem lastD_map {l : List Nat} (hl : 0 < l.length) (m : Nat) : lastD (l.map (· + m)) = lastD l + m := by
 have hne:l≠[]:=by intro e;rw [e] at hl;simp at hl
 simp [lastD,List.getLastD_eq_getLast?,List.getLast?_map,List.getLast?_eq_some_getLast hne]
theorem HV_jn {t : List Cl} {h k : List Ft} (a : HV t h) (b : HV t k) : HV t (jn h k) ↔ (jn h k).length ≤ 24 := by
 refine ⟨fun g=>g.2.2.2,fun g=>⟨?_,?_,a.2.2.1,g⟩⟩
 ·intro i hi
  rw [jn_len] at hi
  unfold FOk
  rw [jn_len]
  rcases Nat.lt_or_ge i h.length with c | c
  ·obtain ⟨x1,x2,x3,x4⟩:=a.1 i c
   unfold LkP at *
   rw [fcl_lo c,fcd_lo c,fca_lo c,fcx_lo c]
   exact ⟨x1,x2,by omega,by omega⟩
  ·obtain ⟨j,rfl⟩:∃ j,i=j+h.length:=⟨i - h.length,by omega⟩
   obtain ⟨x1,x2,x3,x4⟩:=b.1 j (by omega)
   rw [fcl_hi (by omega),fcd_hi (by omega),fca_hi (by omega),fcx_hi (by omega)]
   have key:∀ z,LkP k.length j z→LkP (h.length+k.length) (j+h.length) (sh h.length z):=by
    intro z hz
    unfold LkP at *
    by_cases c:0≤z
    ·rw [jec c];omega
    ·rw [sh_neg c];omega
   exact ⟨x1,x2,key _ x3,key _ x4⟩
 ·intro i hi
  rw [jn_len] at hi
  have hA:=a.lo
  have hB:=b.lo
  unfold Ends
  rcases Nat.lt_or_ge i h.length with c | c
  ·have:=a.2.1 i c
   unfold Ends at this
   have hne:=cxL_ne (LO_of a.1) c
   have hlt:=(cxL_spec (LO_of a.1) c).2.2.1 _ (rd_lastD hne).2
   rw [cxL_lo hA c,fcx_lo hlt];exact this
  ·obtain ⟨j,rfl⟩:∃ j,i=j+h.length:=⟨i - h.length,by omega⟩
   have hj:j<k.length:=by omega
   have:=b.2.1 j hj
   unfold Ends at this
   have hne:=cxL_ne (LO_of b.1) hj
   have hlt:=(cxL_spec (LO_of b.1) hj).2.2.1 _ (rd_lastD hne).2
   rw [cxL_hi hB hj,lastD_map hne,fcx_hi hlt,this]
   exact sh_neg (by omega)
end Go.Proofs.Ytecdfgejmbpclaa.Pure
end
