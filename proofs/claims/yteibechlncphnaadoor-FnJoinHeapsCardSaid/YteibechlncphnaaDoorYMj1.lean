/- One part of the proofs on this program: functions of the program as plain functions, that the code comes to them, and facts on them. -/
import Derived.Test.YteibechlncphnaaDoorYMgb
section
set_option linter.unusedSimpArgs false
set_option linter.unusedVariables false
namespace Go.Proofs.YteibechlncphnaaDoor.Pure
open Go Go.RowKit Go.Proofs.YteibechlncphnaaDoor.P Go.Proofs.YteibechlncphnaaDoorW.PrintWords
set_option linter.unusedVariables false
def sh (n : Nat) (z : Int) : Int := if 0 ≤ z then z + n else z
def jnF (n : Nat) (x : Ft) : Ft := ⟨x.f0, x.f1, sh n x.f2, sh n x.f3, x.f4⟩
def jn (h k : List Ft) : List Ft := h ++ k.map (jnF h.length)
theorem jn_len (h k : List Ft) : (jn h k).length = h.length + k.length := by simp [jn]
theorem jn_lo {h k : List Ft} {i : Nat} (hi : i < h.length) : (jn h k).getD i z66 = h.getD i z66 := by
 simp [jn,List.getD_eq_getElem?_getD,List.getElem?_append_left hi]
theorem jn_hi {h k : List Ft} {i : Nat} (hi : i < k.length) : (jn h k).getD (i + h.length) z66 = jnF h.length (k.getD i z66) := by
 simp [jn,List.getD_eq_getElem?_getD,List.getElem?_append_right,hi]
theorem fcl_lo {h k : List Ft} {i : Nat} (hi : i < h.length) : fcl (jn h k) i = fcl h i := by unfold fcl; rw [jn_lo hi]
theorem fcd_lo {h k : List Ft} {i : Nat} (hi : i < h.length) : fcd (jn h k) i = fcd h i := by unfold fcd; rw [jn_lo hi]
theorem fca_lo {h k : List Ft} {i : Nat} (hi : i < h.length) : fca (jn h k) i = fca h i := by unfold fca; rw [jn_lo hi]
theorem fcx_lo {h k : List Ft} {i : Nat} (hi : i < h.length) : fcx (jn h k) i = fcx h i := by unfold fcx; rw [jn_lo hi]
theorem fcl_hi {h k : List Ft} {i : Nat} (hi : i < k.length) : fcl (jn h k) (i + h.length) = fcl k i := by unfold fcl; rw [jn_hi hi]; rfl
theorem fcd_hi {h k : List Ft} {i : Nat} (hi : i < k.length) : fcd (jn h k) (i + h.length) = fcd k i := by unfold fcd; rw [jn_hi hi]; rfl
theorem fca_hi {h k : List Ft} {i : Nat} (hi : i < k.length) : fca (jn h k) (i + h.length) = sh h.length (fca k i) := by unfold fca; rw [jn_hi hi]; rfl
theorem fcx_hi {h k : List Ft} {i : Nat} (hi : i < k.length) : fcx (jn h k) (i + h.length) = sh h.length (fcx k i) := by unfold fcx; rw [jn_hi hi]; rfl
theorem sh_pos {n : Nat} {z : Int} (h : 0 ≤ z) : sh n z = z + n := by unfold sh; rw [if_pos h]
theorem sh_neg {n : Nat} {z : Int} (h : ¬ 0 ≤ z) : sh n z = z := by unfold sh; rw [if_neg h]
theorem wlk_fuel {nx : Nat → Int} {N : Nat} (hx : ∀ i, i < N → nx i < (N : Int)) : ∀ (n : Nat) (f : Int) (acc : List Nat), N + 1 ≤ n + acc.length → acc.Nodup → (∀ a ∈ acc, a < N) → f < (N : Int) → wlk nx (n + 1) f acc = wlk nx n f acc
 | 0,f,acc,h1,h2,h3,h4=>by have:=jUb h2 h3;omega
 | n+1,f,acc,h1,h2,h3,h4=>by
  rw [wlk]
  conv=>rhs;rw [wlk]
  by_cases h0:0≤f
  ·rw [if_pos h0,if_pos h0]
   by_cases hm:f.toNat ∈ acc
   ·rw [if_pos hm,if_pos hm]
   ·rw [if_neg hm,if_neg hm]
    exact wlk_fuel hx n _ _ (by rw [List.length_append,List.length_singleton];omega) (by rw [List.nodup_append];exact ⟨h2,by simp,fun a ha b hb e=>hm (by rw [List.mem_singleton] at hb;rw [← hb,← e];exact ha)⟩) (fun a ha=>by
     rcases List.mem_append.mp ha with g | g
     ·exact h3 a g
     ·rw [List.mem_singleton] at g;omega) (hx _ (by omega))
  ·rw [if_neg h0,if_neg h0]
theorem wlk_more {nx : Nat → Int} {N : Nat} (hx : ∀ i, i < N → nx i < (N : Int)) {f : Int} (hf : f < (N : Int)) : ∀ d : Nat, wlk nx (N + 1 + d) f [] = wlk nx (N + 1) f []
 | 0=>rfl
 | d+1=>by rw [← Nat.add_assoc,wlk_fuel hx (N+1+d) f [] (by simp) (by simp) (by simp) hf];exact wlk_more hx hf d
theorem wlk_lo {nx ny : Nat → Int} {N : Nat} (hx : ∀ i, i < N → nx i < (N : Int)) (e : ∀ i, i < N → ny i = nx i) : ∀ (n : Nat) (f : Int) (acc : List Nat), f < (N : Int) → wlk ny n f acc = wlk nx n f acc
 | 0,f,acc,h4=>by rw [wlk,wlk]
 | n+1,f,acc,h4=>by
  rw [wlk,wlk]
  by_cases h0:0≤f
  ·rw [if_pos h0,if_pos h0]
   by_cases hm:f.toNat ∈ acc
   ·rw [if_pos hm,if_pos hm]
   ·rw [if_neg hm,if_neg hm,e _ (by omega)]
    exact wlk_lo hx e n _ _ (hx _ (by omega))
  ·rw [if_neg h0,if_neg h0]
theorem wlk_hi {nx ny : Nat → Int} {N m : Nat} (hx : ∀ i, i < N → nx i < (N : Int)) (e : ∀ i, i < N → ny (i + m) = sh m (nx i)) : ∀ (n : Nat) (f : Int) (acc : List Nat), f < (N : Int) → wlk ny n (sh m f) (acc.map (· + m)) = (wlk nx n f acc).map (· + m)
 | 0,f,acc,h4=>by rw [wlk,wlk]
 | n+1,f,acc,h4=>by
  rw [wlk,wlk]
  by_cases h0:0≤f
  ·have e1:(f+(m:Int)).toNat=f.toNat+m:=by omega
   rw [sh_pos h0,if_pos h0,if_pos (by omega),e1]
   have hmem:f.toNat+m ∈ acc.map (·+m) ↔ f.toNat ∈ acc:=by
    rw [List.mem_map]
    exact ⟨fun ⟨a,ha,hb⟩=>by rw [show f.toNat=a by omega];exact ha,fun h=>⟨_,h,rfl⟩⟩
   by_cases hm:f.toNat ∈ acc
   ·rw [if_pos hm,if_pos (hmem.mpr hm)]
   ·rw [if_neg hm,if_neg (fun g=>hm (hmem.mp g)),e _ (by omega),show acc.map (·+m) ++ [f.toNat+m]=(acc ++ [f.toNat]).map (·+m) by simp]
    exact wlk_hi hx e n _ _ (hx _ (by omega))
  ·rw [sh_neg h0,if_neg h0,if_neg h0]
theorem cxL_lo {h k : List Ft} (a : LO h) {f : Nat} (hf : f < h.length) : cxL (jn h k) (f : Int) = cxL h (f : Int) := by
 unfold cxL
 rw [wlk_lo (nx:=fcx h) (N:=h.length) (fun i hi=>(a i hi).2.2) (fun i hi=>fcx_lo hi) _ _ _ (by omega),jn_len,show h.length+k.length+1=h.length+1+k.length by omega]
 exact wlk_more (fun i hi=>(a i hi).2.2) (by omega) _
theorem cxL_hi {h k : List Ft} (b : LO k) {f : Nat} (hf : f < k.length) : cxL (jn h k) ((f + h.length : Nat) : Int) = (cxL k (f : Int)).map (· + h.length) := by
 unfold cxL
 have:=wlk_hi (nx:=fcx k) (ny:=fcx (jn h k)) (N:=k.length) (m:=h.length) (fun i hi=>(b i hi).2.2) (fun i hi=>fcx_hi hi) (k.length+1+h.length) (f:Int) [] (by omega)
 rw [sh_pos (by omega),List.map_nil,wlk_more (fun i hi=>(b i hi).2.2) (by omega)] at this
 rw [← this,jn_len,show h.length+k.length+1=k.length+1+h.length by omega]
 rfl
theorem lastD_map {l : List Nat} (hl : 0 < l.length) (m : Nat) : lastD (l.map (· + m)) = lastD l + m := by
 have hne:l≠[]:=by intro e;rw [e] at hl;simp at hl
 simp [lastD,List.getLastD_eq_getLast?,List.getLast?_map,List.getLast?_eq_some_getLast hne]
theorem HV_jn {t : List Cl} {h k : List Ft} (a : HV t h) (b : HV t k) : HV t (jn h k) ↔ (jn h k).length ≤ 24 := by
 refine ⟨fun g=>g.2.2.2,fun g=>⟨?_,?_,a.2.2.1,g⟩⟩
 ·intro i hi
  rw [jn_len] at hi
  unfold FOk
  rw [jn_len]
  rcases Nat.lt_or_ge i h.length with c | c
  ·obtain ⟨x1,x2,x3,x4⟩:=a.1 i c
   unfold LkP at *
   rw [fcl_lo c,fcd_lo c,fca_lo c,fcx_lo c]
   exact ⟨x1,x2,by omega,by omega⟩
  ·obtain ⟨j,rfl⟩:∃ j,i=j+h.length:=⟨i - h.length,by omega⟩
   obtain ⟨x1,x2,x3,x4⟩:=b.1 j (by omega)
   rw [fcl_hi (by omega),fcd_hi (by omega),fca_hi (by omega),fcx_hi (by omega)]
   have key:∀ z,LkP k.length j z→LkP (h.length+k.length) (j+h.length) (sh h.length z):=by
    intro z hz
    unfold LkP at *
    by_cases c:0≤z
    ·rw [sh_pos c];omega
    ·rw [sh_neg c];omega
   exact ⟨x1,x2,key _ x3,key _ x4⟩
 ·intro i hi
  rw [jn_len] at hi
  have hA:=a.lo
  have hB:=b.lo
  unfold Ends
  rcases Nat.lt_or_ge i h.length with c | c
  ·have:=a.2.1 i c
   unfold Ends at this
   have hne:=cxL_ne (LO_of a.1) c
   have hlt:=(cxL_spec (LO_of a.1) c).2.2.1 _ (rd_lastD hne).2
   rw [cxL_lo hA c,fcx_lo hlt];exact this
  ·obtain ⟨j,rfl⟩:∃ j,i=j+h.length:=⟨i - h.length,by omega⟩
   have hj:j<k.length:=by omega
   have:=b.2.1 j hj
   unfold Ends at this
   have hne:=cxL_ne (LO_of b.1) hj
   have hlt:=(cxL_spec (LO_of b.1) hj).2.2.1 _ (rd_lastD hne).2
   rw [cxL_hi hB hj,lastD_map hne,fcx_hi hlt,this]
   exact sh_neg (by omega)
end Go.Proofs.YteibechlncphnaaDoor.Pure
end
