/- One part of the proofs on this program: functions of the program as plain functions, that the code comes to them, and facts on them. -/
import Derived.Test.YtlhfcmbkjddgiaaYAll2
import Derived.Test.YtlhfcmbkjddgiaaYAll4
import Derived.Test.YtlhfcmbkjddgiaaYMj
section
set_option linter.unusedSimpArgs false
set_option linter.unusedVariables false
namespace Go.Proofs.Ytlhfcmbkjddgiaa.Pure
open Go Go.RowKit Go.Proofs.Ytlhfcmbkjddgiaa.P Go.Proofs.YtlhfcmbkjddgiaaW.PrintWords
set_option linter.unusedVariables false
abbrev Ft := S90
def fcl (h : List Ft) (i : Nat) : Int := (h.getD i z90).f0
def fcd (h : List Ft) (i : Nat) : Int := (h.getD i z90).f1
def fca (h : List Ft) (i : Nat) : Int := (h.getD i z90).f2
def fcx (h : List Ft) (i : Nat) : Int := (h.getD i z90).f3
theorem u0 (h : List Ft) (i : Nat) : (jo h (i : Int)).f0 = fcl h i := rfl
theorem u1 (h : List Ft) (i : Nat) : (jo h (i : Int)).f1 = fcd h i := rfl
theorem u2 (h : List Ft) (i : Nat) : (jo h (i : Int)).f2 = fca h i := rfl
theorem u3 (h : List Ft) (i : Nat) : (jo h (i : Int)).f3 = fcx h i := rfl
def LO (h : List Ft) : Prop := ∀ i, i < h.length → (-1 ≤ fca h i ∧ fca h i < (h.length : Int)) ∧ (-1 ≤ fcx h i ∧ fcx h i < (h.length : Int))
theorem hasN_nat (a : Nat) (l : List Nat) : hasN (a : Int) l = true ↔ a ∈ l := by
 rw [hasN_iff]
 constructor
 ·rintro ⟨b,h1,h2⟩
  rw [← Int.ofNat.inj h2];exact h1
 ·exact fun h=>⟨a,h,rfl⟩
theorem jmc {l : List Nat} {n : Nat} (h : l.Nodup) (hl : ∀ a ∈ l, a < n) : l.length ≤ n := by
 have:=h.length_le_of_subset (l₂:=List.range n) (fun a ha=>List.mem_range.mpr (hl a ha))
 simpa using this
def wlk (nx : Nat → Int) : Nat → Int → List Nat → List Nat
 | 0,_,acc=>acc
 | n+1,f,acc=>if 0≤f then (if f.toNat ∈ acc then acc else wlk nx n (nx f.toNat) (acc ++ [f.toNat])) else acc
theorem ev_walk {nx : Int → Option Int} {nf : Nat → Int} {N : Nat} (hN : N ≤ 1048576) (hnx : ∀ i : Nat, i < N → nx (i : Int) = some (nf i)) (hL : ∀ i, i < N → nf i < (N : Int)) : ∀ (n : Nat) (f : Int) (acc : List Nat), N + 1 ≤ n + acc.length → acc.Nodup → (∀ a ∈ acc, a < N) → f < (N : Int) →
  Ev (fun k=>jSb nx k f (ci acc)) (ci (wlk nf n f acc))
 | 0,f,acc,h1,h2,h3,h4=>by have:=jmc h2 h3;omega
 | n+1,f,acc,h1,h2,h3,h4=>by
  have hl:=jmc h2 h3
  refine Ev.step (fun k=>by rw [jSb]) ?_
  rw [wlk]
  by_cases h0:0≤f
  ·obtain ⟨m,rfl⟩:∃ m:Nat,f=(m:Int):=⟨f.toNat,by omega⟩
   rw [if_pos h0,Int.toNat_natCast]
   refine Ev.pos h0 (Ev.bind (ev_Contains acc (by omega) (m:Int)) ?_)
   by_cases hm:m ∈ acc
   ·rw [if_pos hm]
    exact Ev.pos ((hasN_nat m acc).mpr hm) (Ev.now _)
   ·rw [if_neg hm]
    have hm':m<N:=by omega
    refine Ev.neg (fun hh=>hm ((hasN_nat m acc).mp hh)) (Ev.pos (by rw [jzb];omega) ?_)
    rw [hnx m hm',ci_snoc]
    refine Ev.bind (Ev.now _) ?_
    exact ev_walk hN hnx hL n (nf m) (acc ++ [m]) (by rw [List.length_append,List.length_singleton];omega) (by rw [List.nodup_append];exact ⟨h2,by simp,fun a ha b hb e=>hm (by rw [List.mem_singleton] at hb;rw [← hb,← e];exact ha)⟩) (fun a ha=>by
     rcases List.mem_append.mp ha with g | g
     ·exact h3 a g
     ·rw [List.mem_singleton] at g;omega) (hL m hm')
  ·rw [if_neg h0]
   exact Ev.neg h0 (Ev.now _)
def cxL (h : List Ft) (f : Int) : List Nat := wlk (fcx h) (h.length + 1) f []
theorem ev_iContexts {h : List Ft} (hL : ∀ i, i < h.length → -1 ≤ fcx h i ∧ fcx h i < (h.length : Int)) (hn : h.length ≤ 1048576) {f : Int} (hf : f < (h.length : Int)) : Ev (fun k => jCa.f k h f) (ci (cxL h f)) :=
 ev_walk (nx:=ctxF h) (nf:=fcx h) hn (fun i hi=>by unfold ctxF;rw [if_pos (by omega),if_pos (by omega)];rfl) (fun i hi=>(hL i hi).2) (h.length+1) f [] (by simp) (by simp) (by simp) hf
theorem wlk_spec {nx : Nat → Int} {N : Nat} (hL : ∀ i, i < N → nx i < (N : Int)) : ∀ (n : Nat) (f : Int) (acc : List Nat), acc.Nodup → (∀ a ∈ acc, a < N) → f < (N : Int) → (∀ j, j + 1 < acc.length → nx (acc.getD j 0) = (acc.getD (j + 1) 0 : Nat)) → (0 < acc.length → f = nx (acc.getD (acc.length - 1) 0)) →
  ∃ r,wlk nx n f acc=acc ++ r∧(wlk nx n f acc).Nodup∧(∀ a ∈ wlk nx n f acc,a<N)∧(∀ j,j+1<(wlk nx n f acc).length→nx ((wlk nx n f acc).getD j 0)=((wlk nx n f acc).getD (j+1) 0:Nat))
 | 0,f,acc,h2,h3,h4,h5,h6=>⟨[],by simp [wlk],by simpa [wlk] using h2,by simpa [wlk] using h3,by simpa [wlk] using h5⟩
 | n+1,f,acc,h2,h3,h4,h5,h6=>by
  have same:∃ r,acc=acc ++ r∧acc.Nodup∧(∀ a ∈ acc,a<N)∧(∀ j,j+1<acc.length→nx (acc.getD j 0)=(acc.getD (j+1) 0:Nat)):=⟨[],by simp,h2,h3,h5⟩
  rw [wlk]
  by_cases h0:0≤f
  ·obtain ⟨m,rfl⟩:∃ m:Nat,f=(m:Int):=⟨f.toNat,by omega⟩
   rw [if_pos h0,Int.toNat_natCast]
   by_cases hm:m ∈ acc
   ·rw [if_pos hm];exact same
   ·rw [if_neg hm]
    have hm':m<N:=by omega
    obtain ⟨r,e1,e2,e3,e4⟩:=wlk_spec hL n (nx m) (acc ++ [m]) (by rw [List.nodup_append];exact ⟨h2,by simp,fun a ha b hb e=>hm (by rw [List.mem_singleton] at hb;rw [← hb,← e];exact ha)⟩) (fun a ha=>by
     rcases List.mem_append.mp ha with g | g
     ·exact h3 a g
     ·rw [List.mem_singleton] at g;omega) (hL m hm') (fun j hj=>by
     rw [List.length_append,List.length_singleton] at hj
     have hg:∀ x,x<acc.length→(acc ++ [m]).getD x 0=acc.getD x 0:=fun x hx=>by simp [List.getD_eq_getElem?_getD,List.getElem?_append_left hx]
     have hl:(acc ++ [m]).getD acc.length 0=m:=by simp [List.getD_eq_getElem?_getD]
     rcases Nat.lt_or_ge (j+1) acc.length with g | g
     ·rw [hg j (by omega),hg (j+1) g];exact h5 j g
     ·have ej:acc.length=j+1:=by omega
      rw [hg j (by omega),← ej,hl]
      have:=h6 (by omega)
      rw [show acc.length - 1=j by omega] at this
      exact this.symm) (fun _=>by simp [List.getD_eq_getElem?_getD])
    exact ⟨[m] ++ r,by rw [e1,List.append_assoc],e2,e3,e4⟩
  ·rw [if_neg h0];exact same
theorem cxL_spec {h : List Ft} (hL : ∀ i, i < h.length → -1 ≤ fcx h i ∧ fcx h i < (h.length : Int)) {f : Nat} (hf : f < h.length) :
  (∃ r,cxL h (f:Int)=f :: r)∧(cxL h (f:Int)).Nodup∧(∀ a ∈ cxL h (f:Int),a<h.length)∧∀ j,j+1<(cxL h (f:Int)).length→fcx h ((cxL h (f:Int)).getD j 0)=((cxL h (f:Int)).getD (j+1) 0:Nat):=by
 have e:cxL h (f:Int)=wlk (fcx h) h.length (fcx h f) [f]:=by
  unfold cxL
  rw [wlk,if_pos (by omega),Int.toNat_natCast,if_neg (by simp),List.nil_append]
 obtain ⟨r,e1,e2,e3,e4⟩:=wlk_spec (nx:=fcx h) (fun i hi=>(hL i hi).2) h.length (fcx h f) [f] (by simp) (by simpa using hf) (hL f hf).2 (fun j hj=>by simp at hj) (fun _=>by simp)
 rw [e]
 exact ⟨⟨r,e1⟩,e2,e3,e4⟩
def LkP (m i : Nat) (z : Int) : Prop := -1 ≤ z ∧ z < (m : Int) ∧ z ≠ (i : Int)
def FOk (t : List Cl) (h : List Ft) (i : Nat) : Prop := hasB t (fcl h i) = true ∧ bw (fcd h i) 0 99 = true ∧ LkP h.length i (fca h i) ∧ LkP h.length i (fcx h i)
def lastD (l : List Nat) : Nat := l.getLastD 0
def Ends (h : List Ft) (i : Nat) : Prop := fcx h (lastD (cxL h (i : Int))) = -1
def HV (t : List Cl) (h : List Ft) : Prop := (∀ i, i < h.length → FOk t h i) ∧ (∀ i, i < h.length → Ends h i) ∧ treeB t = true ∧ h.length ≤ 24
noncomputable def hB (t : List Cl) (h : List Ft) : Bool := @decide (HV t h) (Classical.propDecidable _)
theorem hB_iff {t : List Cl} {h : List Ft} : hB t h = true ↔ HV t h := by simp [hB]
theorem LO_of {t : List Cl} {h : List Ft} (hf : ∀ i, i < h.length → FOk t h i) : ∀ i, i < h.length → -1 ≤ fcx h i ∧ fcx h i < (h.length : Int) := fun i hi => ⟨(hf i hi).2.2.2.1, (hf i hi).2.2.2.2.1⟩
theorem rd_lastD {l : List Nat} (h : 0 < l.length) : rd (ci l) ((l.length : Int) - 1) = ((lastD l : Nat) : Int) ∧ lastD l ∈ l := by
 have hne:l≠[]:=by intro e;rw [e] at h;simp at h
 have e:lastD l=l.getLast hne:=by simp [lastD,List.getLastD_eq_getLast?,List.getLast?_eq_some_getLast hne]
 refine ⟨?_,by rw [e];exact List.getLast_mem hne⟩
 have hlt:l.length - 1<l.length:=by omega
 rw [show (l.length:Int) - 1=((l.length - 1:Nat):Int) by omega,e,List.getLast_eq_getElem]
 simp [rd,ci,List.getD_eq_getElem?_getD,List.getElem?_eq_getElem hlt]
theorem cxL_ne {h : List Ft} (hL : ∀ i, i < h.length → -1 ≤ fcx h i ∧ fcx h i < (h.length : Int)) {f : Nat} (hf : f < h.length) : 0 < (cxL h (f : Int)).length := by
 obtain ⟨⟨r,e⟩,_⟩:=cxL_spec hL hf
 rw [e];simp
theorem cxL_len {h : List Ft} (hL : ∀ i, i < h.length → -1 ≤ fcx h i ∧ fcx h i < (h.length : Int)) {f : Nat} (hf : f < h.length) : (cxL h (f : Int)).length ≤ h.length := by
 obtain ⟨_,h2,h3,_⟩:=cxL_spec hL hf
 exact jmc h2 h3
theorem hpIn_bw (a lo hi : Int) : hpIn a lo hi = bw a lo hi := rfl
theorem hpLk_iff {m i : Nat} {z : Int} : hpLk m (i : Int) z = true ↔ LkP m i z := by
 unfold hpLk LkP
 rw [hpIn_bw,Bool.or_eq_true,Bool.and_eq_true,decide_eq_true_eq,decide_eq_true_eq,bw_iff]
 omega
theorem hpBad_iff {t : List Cl} {h : List Ft} (ht : t.length ≤ 1048576) {i : Nat} : hpBad t h.length (i : Int) (jo h (i : Int)) = true ↔ ¬ FOk t h i := by
 unfold hpBad FOk hasB
 simp only [u0,u1,u2,u3,hpIn_bw]
 rw [wr (by omega),← hpLk_iff,← hpLk_iff]
 simp only [Bool.or_eq_true,Bool.not_eq_true']
 cases bw (fcl h i) 0 ((t.length:Int) - 1) <;> cases bw (fcd h i) 0 99 <;> cases hpLk h.length (i:Int) (fca h i) <;> cases hpLk h.length (i:Int) (fcx h i) <;> simp
theorem hpAny_iff {t : List Cl} {h : List Ft} (ht : t.length ≤ 1048576) : ∀ (n i : Nat), n + i = h.length → (hpAny t h n i = true ↔ ∃ j, i ≤ j ∧ j < h.length ∧ ¬ FOk t h j)
 | 0,i,e=>by
  rw [hpAny]
  exact ⟨fun h=>(by cases h),fun ⟨j,a,b,_⟩=>by omega⟩
 | n+1,i,e=>by
  rw [hpAny]
  by_cases c:hpBad t h.length (i:Int) (jo h (i:Int))=true
  ·rw [if_pos c]
   exact ⟨fun _=>⟨i,Nat.le_refl _,by omega,(hpBad_iff ht).mp c⟩,fun _=>rfl⟩
  ·rw [if_neg c,hpAny_iff ht n (i+1) (by omega)]
   constructor
   ·rintro ⟨j,a,b,d⟩;exact ⟨j,by omega,b,d⟩
   ·rintro ⟨j,a,b,d⟩
    rcases Nat.lt_or_ge i j with g | g
    ·exact ⟨j,g,b,d⟩
    ·obtain rfl:j=i:=by omega
     exact absurd ((hpBad_iff ht).mpr d) c
theorem ev_hpEnds {t : List Cl} {h : List Ft} (hn : h.length ≤ 1048576) (hf : ∀ i, i < h.length → FOk t h i) : ∀ (n i : Nat), n + i = h.length → ∃ b, Ev (fun k => hpEnds k h n i) b ∧ (b = true ↔ ∀ j, i ≤ j → j < h.length → Ends h j)
 | 0,i,e=>⟨true,Ev.now _,⟨fun _ j a b=>by omega,fun _=>rfl⟩⟩
 | n+1,i,e=>by
  have hL:=LO_of hf
  have hi:i<h.length:=by omega
  have hne:=cxL_ne hL hi
  have hle:=cxL_len hL hi
  obtain ⟨r1,r2⟩:=rd_lastD hne
  have hlt:=(cxL_spec hL hi).2.2.1 _ r2
  have hc:ctxF h (rd (ci (cxL h (i:Int))) (((ci (cxL h (i:Int))).length:Int) - 1))=some (fcx h (lastD (cxL h (i:Int)))):=by
   rw [jzb,r1];unfold ctxF;rw [if_pos (by omega),if_pos (by omega)];rfl
  by_cases c:fcx h (lastD (cxL h (i:Int))) = -1
  ·obtain ⟨b,hb1,hb2⟩:=ev_hpEnds hn hf n (i+1) (by omega)
   refine ⟨b,?_,?_⟩
   ·show Ev (fun k=>(jCa.f k h (i:Int)).bind _) b
    refine Ev.bind (ev_iContexts hL hn (by omega)) (Ev.pos (by rw [jzb];omega) ?_)
    rw [hc]
    exact Ev.bind (Ev.now _) (Ev.pos c hb1)
   ·rw [hb2]
    constructor
    ·intro hh j a b
     rcases Nat.lt_or_ge i j with g | g
     ·exact hh j g b
     ·rw [show j=i by omega];exact c
    ·exact fun hh j a b=>hh j (by omega) b
  ·refine ⟨false,?_,⟨fun h=>(by cases h),fun hh=>absurd (hh i (Nat.le_refl _) hi) c⟩⟩
   show Ev (fun k=>(jCa.f k h (i:Int)).bind _) false
   refine Ev.bind (ev_iContexts hL hn (by omega)) (Ev.pos (by rw [jzb];omega) ?_)
   rw [hc]
   exact Ev.bind (Ev.now _) (Ev.neg c (Ev.now _))
theorem iHV {t : List Cl} {h : List Ft} (ht : TS t) (hn : h.length ≤ 1048576) : Ev (fun k => jbb.f k t h) (hB t h) := by
 unfold jbb.f
 have hA:=hpAny_iff (t:=t) (h:=h) ht.1 h.length 0 rfl
 by_cases c:hpAny t h h.length 0=true
 ·have:hB t h=false:=by
   cases e:hB t h with
   | false=>rfl
   | true =>
    obtain ⟨j,_,b,d⟩:=hA.mp c
    exact absurd ((hB_iff.mp e).1 j b) d
  rw [this]
  exact Ev.pos c (Ev.now _)
 ·have hf:∀ i,i<h.length→FOk t h i:=fun i hi=>Classical.byContradiction fun hno=>c (hA.mpr ⟨i,Nat.zero_le _,hi,hno⟩)
  obtain ⟨b,hb1,hb2⟩:=ev_hpEnds hn hf h.length 0 rfl
  refine Ev.neg c (Ev.bind hb1 ?_)
  cases b with
  | false =>
   have:hB t h=false:=by
    cases e:hB t h with
    | false=>rfl
    | true=>have:=hb2.mpr (fun j _ hj=>(hB_iff.mp e).2.1 j hj);cases this
   rw [this]
   exact Ev.neg (by simp) (Ev.now _)
  | true =>
   refine Ev.pos rfl (Ev.bind (ev_ValidTree ht) ?_)
   have he:=hb2.mp rfl
   have:hB t h=(if treeB t=true then decide ((h.length:Int)≤24) else false):=by
    rw [Bool.eq_iff_iff,hB_iff]
    unfold HV
    cases hv:treeB t with
    | false=>simp
    | true =>
     rw [if_pos rfl,decide_eq_true_eq]
     exact ⟨fun ⟨_,_,_,x⟩=>by omega,fun x=>⟨hf,fun j hj=>he j (Nat.zero_le _) hj,rfl,by omega⟩⟩
   rw [this]
   exact Ev.now _
end Go.Proofs.Ytlhfcmbkjddgiaa.Pure
end
