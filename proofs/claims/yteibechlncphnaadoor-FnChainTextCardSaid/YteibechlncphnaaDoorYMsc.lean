/- One part of the proofs on this program: functions of the program as plain functions, that the code comes to them, and facts on them. -/
import Derived.Test.YteibechlncphnaaDoorYAll5
import Derived.Test.YteibechlncphnaaDoorYAll6
import Derived.Test.YteibechlncphnaaDoorYAll8
import Derived.Test.YteibechlncphnaaDoorYMct
section
set_option linter.unusedSimpArgs false
set_option linter.unusedVariables false
namespace Go.Proofs.YteibechlncphnaaDoor.Pure
open Go Go.RowKit Go.Proofs.YteibechlncphnaaDoor.P Go.Proofs.YteibechlncphnaaDoorW.PrintWords
set_option linter.unusedVariables false
structure Sm (h g : List Ft) : Prop where
 len:g.length=h.length
 cl:∀ i,fcl g i=fcl h i
 cd:∀ i,fcd g i=fcd h i
 cx:∀ i,fcx g i=fcx h i
 ca:∀ i,fca g i=fca h i∨fca g i = -1
theorem Sm.hv {t : List Cl} {h g : List Ft} (s : Sm h g) (hv : HV t h) : HV t g := by
 have ec:fcx g=fcx h:=funext s.cx
 refine ⟨fun i hi=>?_,fun i hi=>?_,hv.2.2.1,by rw [s.len];exact hv.2.2.2⟩
 ·have hi':i<h.length:=by rw [← s.len];exact hi
  obtain ⟨a1,a2,a3,a4⟩:=hv.1 i hi'
  unfold FOk
  rw [s.len,s.cl,s.cd,s.cx]
  refine ⟨a1,a2,?_,a4⟩
  rcases s.ca i with e | e
  ·rw [e];exact a3
  ·rw [e];exact ⟨by omega,by omega,by omega⟩
 ·have hi':i<h.length:=by rw [← s.len];exact hi
  have h2:=hv.2.1 i hi'
  unfold Ends cxL at h2 ⊢
  rw [s.len,ec];exact h2
def stC (h : List Ft) (a : Nat) (c : Int) : List Ft := h.set a ⟨fcl h a, fcd h a, c, fcx h a, true⟩
theorem stC_at {h : List Ft} {a : Nat} (ha : a < h.length) (c : Int) : (stC h a c).getD a z66 = ⟨fcl h a, fcd h a, c, fcx h a, true⟩ := by
 unfold stC;simp [List.getD_eq_getElem?_getD,ha]
theorem stC_ne {h : List Ft} {a i : Nat} (hi : i ≠ a) (c : Int) : (stC h a c).getD i z66 = h.getD i z66 := by
 unfold stC;simp [List.getD_eq_getElem?_getD,List.getElem?_set,Ne.symm hi]
theorem stC_len (h : List Ft) (a : Nat) (c : Int) : (stC h a c).length = h.length := by unfold stC; simp
theorem stC_sm {h : List Ft} {a : Nat} (ha : a < h.length) {c : Int} (hc : c = fca h a ∨ c = -1) : Sm h (stC h a c) := by
 refine ⟨stC_len h a c,fun i=>?_,fun i=>?_,fun i=>?_,fun i=>?_⟩
 ·by_cases e:i=a
  ·subst e;unfold fcl;rw [stC_at ha];rfl
  ·unfold fcl;rw [stC_ne e]
 ·by_cases e:i=a
  ·subst e;unfold fcd;rw [stC_at ha];rfl
  ·unfold fcd;rw [stC_ne e]
 ·by_cases e:i=a
  ·subst e;unfold fcx;rw [stC_at ha];rfl
  ·unfold fcx;rw [stC_ne e]
 ·by_cases e:i=a
  ·subst e
   have e2:fca (stC h i c) i=c:=by unfold fca;rw [stC_at ha]
   rw [e2];exact hc
  ·left;unfold fca;rw [stC_ne e]
theorem gB_of {t : List Cl} {h : List Ft} (hv : HV t h) {f : Nat} (hf : f < h.length) : gB t h (f : Int) = true := gB_iff.mpr ⟨hv, f, rfl, hf⟩
theorem ev_SetCause {t : List Cl} {h : List Ft} (ht : TS t) (hv : HV t h) {f : Nat} (hf : f < h.length) : Ev (fun k => jJb.f k t h (f : Int) (-1)) (stC h f (-1), true) := by
 have hn:h.length≤24:=hv.2.2.2
 have h2:=iGood ht (h:=h) (by omega) (f:Int)
 rw [gB_of hv hf] at h2
 unfold jJb.f
 exact Ev.bind h2 (Ev.pos rfl (Ev.neg (by simp) (Ev.pos (by omega) (Ev.pos (by omega) (Ev.pos (by omega) (Ev.now _))))))
theorem ev_ShownChain {t : List Cl} {h : List Ft} (ht : TS t) (hv : HV t h) {f : Nat} (hf : f < h.length) : Ev (fun k => jab.f k t h (f : Int)) (ci (shL h f)) := by
 have hn:h.length≤24:=hv.2.2.2
 have h2:=iGood ht (h:=h) (by omega) (f:Int)
 rw [gB_of hv hf] at h2
 unfold jab.f
 exact Ev.bind h2 (Ev.pos rfl (ev_iShown hv.lo (by omega) hf))
theorem ev_iChain' {t : List Cl} {h : List Ft} (ht : TS t) (hv : HV t h) {f : Nat} (hf : f < h.length) : Ev (fun k => jPa.f k t h (f : Int)) (cTx t h f) := by
 have h2:=(ev_ChainText ht (h:=h) (by have:=hv.2.2.2;omega) (f:Int)).2
 rw [show ctL t h (f:Int)=cTx t h f by unfold ctL;rw [gB_of hv hf];rfl] at h2
 exact h2
theorem shL_one {h : List Ft} {f : Nat} (hf : f < h.length) (c : Int) (hc : c = -1) : shL (stC h f c) (f : Int) = [f] := by
 have e:snF (stC h f c) f = -1:=by
  unfold snF fca
  rw [stC_at hf,hc]
  rfl
 unfold shL
 rw [stC_len,wlk,if_pos (by omega),Int.toNat_natCast,if_neg (by simp),e,List.nil_append]
 cases h.length with
 | zero=>rfl
 | succ n=>rw [wlk,if_neg (by omega)]
theorem sT_suf (t : List Cl) (h : List Ft) (L : List Nat) : ∀ i, ∃ r, sT t h L i = r ++ tX t h L 0
 | 0=>⟨ByteArray.empty,ByteArray.empty_append.symm⟩
 | i+1=>by
  obtain ⟨r,e⟩:=sT_suf t h L i
  exact ⟨tX t h L (i+1) ++ (sgX h L i ++ r),by rw [sT,e];simp only [ByteArray.append_assoc]⟩
theorem cTx_one {t : List Cl} {h g : List Ft} (s : Sm h g) {f : Nat} (hf : f < g.length) : cTx t (stC g f (-1)) f = fTx t (fcl h f).toNat (fcd h f).toNat := by
 unfold cTx
 rw [shL_one hf (-1) rfl]
 show fTx t (fcl (stC g f (-1)) f).toNat (fcd (stC g f (-1)) f).toNat=_
 have s2:=stC_sm hf (Or.inr rfl:(-1:Int)=fca g f∨(-1:Int) = -1)
 rw [s2.cl,s2.cd,s.cl,s.cd]
end Go.Proofs.YteibechlncphnaaDoor.Pure
end
