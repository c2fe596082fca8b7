/- One part of the proofs on this program: functions of the program as plain functions, that the code comes to them, and facts on them. -/
import Derived.Test.YtlhfcmbkjddgiaaYMcs
section
set_option linter.unusedSimpArgs false
set_option linter.unusedVariables false
namespace Go.Proofs.Ytlhfcmbkjddgiaa.Pure
open Go Go.RowKit Go.Proofs.Ytlhfcmbkjddgiaa.P Go.Proofs.YtlhfcmbkjddgiaaW.PrintWords
set_option linter.unusedVariables false
def Sim (lg : List Int) (s r : MSt) : Prop := s.1 = lg ++ r.1 ∧ (s.2.2 < 0 ∧ r.2.2 < 0 ∨ 0 ≤ s.2.2 ∧ 0 ≤ r.2.2 ∧ (jo s.2.1 s.2.2).f0 = (jo r.2.1 r.2.2).f0 ∧ (jo s.2.1 s.2.2).f1 = (jo r.2.1 r.2.2).f1)
theorem stT_sim {q : Int → Int → Bool} {lg : List Int} {s r : MSt} (h : Sim lg s r) (x : Ex) : Sim lg (stT q s x) (stT q r x) := by
 obtain ⟨a1,a2,a3⟩:=s
 obtain ⟨b1,b2,b3⟩:=r
 obtain ⟨h1,h2⟩:=h
 simp only at h1 h2
 subst h1
 unfold stT
 by_cases k0:x.f0=0
 ·rw [if_pos k0,if_pos k0]
  exact ⟨by simp,h2⟩
 ·rw [if_neg k0,if_neg k0]
  by_cases k1:x.f0=1
  ·rw [if_pos k1,if_pos k1]
   rcases h2 with h2 | h2
   ·exact ⟨by rw [if_neg (by simp only [];omega),if_neg (by simp only [];omega)], .inl h2⟩
   ·exact ⟨by rw [if_pos (by simp only [];omega),if_pos (by simp only [];omega)];simp, .inr h2⟩
  ·rw [if_neg k1,if_neg k1]
   by_cases k2:x.f0=2
   ·rw [if_pos k2,if_pos k2]
    refine ⟨rfl,?_⟩
    simp only
    rcases h2 with h2 | h2
    ·left
     rw [decide_eq_false (show ¬ 0≤a3 by omega),decide_eq_false (show ¬ 0≤b3 by omega),Bool.false_and,Bool.false_and,if_neg (by simp),if_neg (by simp)]
     exact h2
    ·rw [decide_eq_true h2.1,decide_eq_true h2.2.1,Bool.true_and,Bool.true_and,h2.2.2.1]
     by_cases c:q (jo b2 b3).f0 x.f1=true
     ·left;rw [if_pos c,if_pos c];omega
     ·right;rw [if_neg c,if_neg c];exact h2
   ·rw [if_neg k2,if_neg k2]
    by_cases k3:x.f0=3
    ·rw [if_pos k3,if_pos k3]
     refine ⟨rfl, .inr ⟨by simp only [];omega,by simp only [];omega,?_,?_⟩⟩ <;> simp only [mrd_new]
    ·rw [if_neg k3,if_neg k3];exact ⟨rfl,h2⟩
theorem foldl_sim {q : Int → Int → Bool} {lg : List Int} : ∀ (l : List Ex) (s r : MSt), Sim lg s r → Sim lg (l.foldl (stT q) s) (l.foldl (stT q) r)
 | [],s,r,h=>h
 | x :: l,s,r,h=>by rw [List.foldl_cons,List.foldl_cons];exact foldl_sim l _ _ (stT_sim h x)
theorem clF_app (t : List Cl) (p q : List Ex) (a : Bool) (b c : Int) : clF t (p ++ q) a b c = p.reverse.foldl (stT (isAB t)) (clF t q a b c) := by
 unfold clF
 rw [List.reverse_append,List.foldl_append]
def gC (H : List Ft) : Prop := ∀ x ∈ H, bw x.f1 0 99 = true
theorem gC_app {H : List Ft} (h : gC H) {a b c : Int} {d : Bool} {e : Int} (hb : bw b 0 99 = true) : gC (H ++ [⟨a, b, e, c, d⟩]) := by
 intro y hy
 rcases List.mem_append.1 hy with hy | hy
 ·exact h y hy
 ·obtain rfl:=List.mem_singleton.1 hy;exact hb
theorem exB3c {t : List Cl} {x : Ex} (h : exB t x = true) (h3 : x.f0 = 3) : bw x.f2 0 99 = true := by
 unfold exB at h
 rw [if_neg (by omega),if_neg (by omega),if_pos h3] at h
 simp only [Bool.and_eq_true] at h
 exact h.2
theorem stT_gC {t : List Cl} {q : Int → Int → Bool} {s : MSt} {x : Ex} (h : gC s.2.1) (hx : exB t x = true) : gC (stT q s x).2.1 := by
 unfold stT
 by_cases k0:x.f0=0
 ·rw [if_pos k0];exact h
 ·rw [if_neg k0]
  by_cases k1:x.f0=1
  ·rw [if_pos k1];exact h
  ·rw [if_neg k1]
   by_cases k2:x.f0=2
   ·rw [if_pos k2];exact h
   ·rw [if_neg k2]
    by_cases k3:x.f0=3
    ·rw [if_pos k3];exact gC_app h (exB3c hx k3)
    ·rw [if_neg k3];exact h
theorem foldl_gC {t : List Cl} {q : Int → Int → Bool} : ∀ (l : List Ex) (s : MSt), gC s.2.1 → (∀ x ∈ l, exB t x = true) → gC (l.foldl (stT q) s).2.1
 | [],s,h,_=>h
 | x :: l,s,h,hx=>by rw [List.foldl_cons];exact foldl_gC l _ (stT_gC h (hx x List.mem_cons_self)) (fun y hy=>hx y (List.mem_cons_of_mem _ hy))
theorem st0_gC {a : Bool} {b c : Int} (h : a = true → bw c 0 99 = true) : gC (st0 a b c).2.1 := by
 unfold st0
 cases a with
 | true=>intro y hy;obtain rfl:=List.mem_singleton.1 hy;exact h rfl
 | false=>intro y hy;cases hy
def DH (t : List Cl) (H : List Ft) : Prop := ∀ i, i < H.length → hasB t (fcl H i) = true ∧ bw (fcd H i) 0 99 = true ∧ fca H i = -1 ∧ -1 ≤ fcx H i ∧ fcx H i < (i : Int)
theorem lastD_snoc (l : List Nat) (a : Nat) : lastD (l ++ [a]) = a := by simp [lastD]
theorem wlk_down {nx : Nat → Int} {N : Nat} (hd : ∀ i, i < N → -1 ≤ nx i ∧ nx i < (i : Int)) : ∀ (n : Nat) (f : Int) (acc : List Nat), f < (n : Int) → f < (N : Int) → -1 ≤ f → (∀ a ∈ acc, f < (a : Int)) → nx (lastD acc) = f → nx (lastD (wlk nx n f acc)) = -1
 | 0,f,acc,h1,h2,h3,h4,h5=>by rw [wlk,h5];omega
 | n+1,f,acc,h1,h2,h3,h4,h5=>by
  rw [wlk]
  by_cases h0:0≤f
  ·have hm:f.toNat ∉ acc:=fun hm=>by have:=h4 _ hm;omega
   have hf:=hd f.toNat (by omega)
   rw [if_pos h0,if_neg hm]
   refine wlk_down hd n (nx f.toNat) (acc ++ [f.toNat]) (by omega) (by omega) hf.1 (fun a ha=>?_) (by rw [lastD_snoc])
   rcases List.mem_append.1 ha with ha | ha
   ·have:=h4 a ha;omega
   ·rw [List.mem_singleton] at ha;rw [ha];exact hf.2
  ·rw [if_neg h0,h5];omega
theorem DH.hv {t : List Cl} {H : List Ft} (h : DH t H) (ht : treeB t = true) (hl : H.length ≤ 24) : HV t H := by
 refine ⟨fun i hi=>?_,fun i hi=>?_,ht,hl⟩
 ·obtain ⟨h1,h2,h3,h4,h5⟩:=h i hi
  exact ⟨h1,h2,⟨by omega,by omega,by omega⟩,⟨h4,by omega,by omega⟩⟩
 ·unfold Ends cxL
  rw [wlk,if_pos (by omega),Int.toNat_natCast,if_neg (by simp),List.nil_append]
  obtain ⟨_,_,_,h4,h5⟩:=h i hi
  exact wlk_down (N:=H.length) (fun j hj=>⟨(h j hj).2.2.2.1,(h j hj).2.2.2.2⟩) H.length _ [i] (by omega) (by omega) h4 (fun a ha=>by rw [List.mem_singleton] at ha;rw [ha];exact h5) rfl
theorem fget {H : List Ft} {i : Nat} (hi : i < H.length) : H.getD i z90 = H[i] := by simp [List.getD_eq_getElem?_getD, hi]
theorem DH_of {t : List Cl} {H : List Ft} (hg : gH t.length H) (hn : noCa H) (hc : gC H) : DH t H := fun i hi => by
 obtain ⟨g0,g1,g2,g3⟩:=hg i hi
 have e:jo H (i:Int)=H[i]:=by simp [jo,List.getD_eq_getElem?_getD,hi]
 rw [e] at g0 g1 g2 g3
 have n1:=hn H[i] (List.getElem_mem hi)
 have n2:=hc H[i] (List.getElem_mem hi)
 unfold fcl fcd fca fcx
 rw [fget hi]
 exact ⟨hasC.mpr ⟨g2,g3⟩,n2,n1,g0,g1⟩
theorem ixN_spec (b : Int) : ∀ (l : List Nat) (i : Nat), (ixN l b i = -1 ∧ ∀ a ∈ l, (a : Int) ≠ b) ∨ ∃ j, ∃ h : j < l.length, ixN l b i = ((i + j : Nat) : Int) ∧ ((l[j] : Nat) : Int) = b
 | [],i=>.inl ⟨by rw [ixN],by simp⟩
 | a :: r,i=>by
  rw [ixN]
  by_cases h:(a:Int)=b
  ·right;exact ⟨0,by simp,by rw [if_pos h];rfl,by simpa using h⟩
  ·rw [if_neg h]
   rcases ixN_spec b r (i+1) with ⟨e,hh⟩ | ⟨j,hj,e,hh⟩
   ·left;exact ⟨e,fun x hx=>by rcases List.mem_cons.1 hx with rfl | hx;exact h;exact hh x hx⟩
   ·right;exact ⟨j+1,by simp;omega,by rw [e];omega,by simpa using hh⟩
theorem ixOf_spec (b : Int) (l : List Nat) : (ixOf l b = -1 ∧ ∀ a ∈ l, (a : Int) ≠ b) ∨ ∃ j, ∃ h : j < l.length, ixOf l b = (j : Int) ∧ ((l[j] : Nat) : Int) = b := by
 have:=ixN_spec b l 0
 unfold ixOf
 simpa using this
theorem DH.iso {t : List Cl} {H : List Ft} (h : DH t H) {L : List Nat} (hL : ∀ a ∈ L, a < H.length) (ha : L.Pairwise (· < ·)) : DH t (isoH H L) := fun i hi => by
 have hi':i<L.length:=by simpa [isoH] using hi
 obtain ⟨h1,h2,h3,h4,h5⟩:=h L[i] (hL _ (List.getElem_mem hi'))
 have e:(isoH H L).getD i z90=isoF H L L[i]:=by rw [fget hi];simp [isoH]
 unfold fcl fcd fca fcx at *
 rw [e]
 refine ⟨h1,h2,?_,?_,?_⟩
 ·show ixOf L (fca H L[i]) = -1
  have e2:fca H L[i] = -1:=h3
  rw [e2]
  rcases ixOf_spec (-1) L with ⟨e,_⟩ | ⟨j,hj,e,hh⟩
  ·exact e
  ·omega
 ·show -1≤ixOf L (fcx H L[i])
  rcases ixOf_spec (fcx H L[i]) L with ⟨e,_⟩ | ⟨j,hj,e,hh⟩
  ·rw [e];omega
  ·rw [e];omega
 ·show ixOf L (fcx H L[i])<(i:Int)
  rcases ixOf_spec (fcx H L[i]) L with ⟨e,_⟩ | ⟨j,hj,e,hh⟩
  ·rw [e];omega
  ·rw [e]
   have h6:fcx H L[i]<(L[i]:Int):=h5
   rcases Nat.lt_or_ge j i with g | g
   ·omega
   ·exfalso
    rcases Nat.lt_or_ge i j with g2 | g2
    ·have:=List.pairwise_iff_getElem.mp ha i j hi' hj g2;omega
    ·obtain rfl:i=j:=by omega
     omega
theorem isoH_at {H : List Ft} {L : List Nat} {f : Nat} (hf : f ∈ L) : ∃ j : Nat, j < (isoH H L).length ∧ ixOf L (f : Int) = (j : Int) ∧ fcl (isoH H L) j = fcl H f ∧ fcd (isoH H L) j = fcd H f := by
 rcases ixOf_spec (f:Int) L with ⟨_,e⟩ | ⟨j,hj,e,hh⟩
 ·exact absurd rfl (e f hf)
 ·have hj':j<(isoH H L).length:=by simpa [isoH] using hj
  have hL:L[j]=f:=by omega
  refine ⟨j,hj',e,?_,?_⟩
  ·unfold fcl;rw [fget hj'];simp [isoH,hL];rfl
  ·unfold fcd;rw [fget hj'];simp [isoH,hL];rfl
end Go.Proofs.Ytlhfcmbkjddgiaa.Pure
end
