/- One part of the proofs on this program: functions of the program as plain functions, that the code comes to them, and facts on them. -/
import Derived.Test.YtkhiiiddbmgiaaaYMh0
section
set_option linter.unusedSimpArgs false
set_option linter.unusedVariables false
namespace Go.Proofs.Ytkhiiiddbmgiaaa.Pure
open Go Go.RowKit Go.Proofs.Ytkhiiiddbmgiaaa.P Go.Proofs.YtkhiiiddbmgiaaaW.PrintWords
set_option linter.unusedVariables false
theorem mem_encI {p : List Ln} {a : Nat} : ∀ (i m : Nat), m ∈ encI p a i ↔ m < i ∧ isO (kd p m) = true ∧ a < bEnd p m
 | 0,m=>by simp [encI]
 | i+1,m=>by
  rw [encI]
  by_cases h:isO (kd p i)=true∧a<bEnd p i
  ·rw [if_pos h,List.mem_cons,mem_encI i m]
   constructor
   ·rintro (rfl | h2)
    ·exact ⟨by omega,h⟩
    ·exact ⟨by omega,h2.2⟩
   ·rintro ⟨h1,h2⟩
    by_cases e:m=i
    ·exact .inl e
    ·exact .inr ⟨by omega,h2⟩
  ·rw [if_neg h,mem_encI i m]
   constructor
   ·rintro ⟨h1,h2⟩;exact ⟨by omega,h2⟩
   ·rintro ⟨h1,h2⟩
    refine ⟨?_,h2⟩
    by_cases e:m=i
    ·subst e;exact absurd h2 h
    ·omega
theorem mem_enc {p : List Ln} (hr : DR p) {a m : Nat} (ha : a < p.length) : m ∈ enc p a ↔ m < a ∧ isO (kd p m) = true ∧ a < bEnd p m := by
 rw [← enc_eq hr ha];exact mem_encI a m
theorem jlb.low {t : List Cl} {p : List Ln} (hv : jlb t p) {i : Nat} (hi : i < p.length) : 0 ≤ dp p i ∧ dp p i ≤ 5 := bw_iff.mp (hv.2.2 i hi).2.1
theorem encN_deep {t : List Cl} {p : List Ln} (hv : jlb t p) : ∀ (i : Nat) (d : Nat), i < p.length → (d : Int) ≤ dp p i → (encN p i d).length = d ∧ ∀ j, (h : j < (encN p i d).length) → dp p (encN p i d)[j] = (d : Int) - 1 - j
 | 0,d,hi,h=>by
  have:=hv.dr.first (by omega)
  obtain rfl:d=0:=by omega
  exact ⟨rfl,fun j h=>by simp [encN] at h⟩
 | i+1,d,hi,h=>by
  have hl:=hv.low (i:=i) (by omega)
  rw [encN]
  by_cases h1:dp p i<d
  ·have h2:dp p i=(d:Int) - 1:=by
    cases ho:isO (kd p i) with
    | true=>have:=hv.dr.deeper i hi ho;omega
    | false=>have:=hv.dr.none i hi ho;omega
   obtain ⟨d',rfl⟩:∃ d',d=d'+1:=⟨d - 1,by omega⟩
   have e:dp p i=(d':Int):=by omega
   obtain ⟨k1,k2⟩:=encN_deep hv i d' (by omega) (by omega)
   rw [if_pos h1,e]
   refine ⟨by rw [List.length_cons,k1],fun j hj=>?_⟩
   cases j with
   | zero=>rw [List.getElem_cons_zero,e];omega
   | succ j=>rw [List.getElem_cons_succ,k2 j (by simpa using hj)];omega
  ·rw [if_neg h1]
   exact encN_deep hv i d (by omega) (by omega)
theorem enc_deep {t : List Cl} {p : List Ln} (hv : jlb t p) {a : Nat} (ha : a < p.length) : ((enc p a).length : Int) = dp p a ∧ ∀ j, (h : j < (enc p a).length) → dp p (enc p a)[j] = dp p a - 1 - j := by
 have hl:=hv.low ha
 obtain ⟨d,hd⟩:=Int.eq_ofNat_of_zero_le hl.1
 have:=encN_deep hv a d ha (by omega)
 unfold enc
 simp only [hd]
 exact ⟨by exact_mod_cast this.1,this.2⟩
end Go.Proofs.Ytkhiiiddbmgiaaa.Pure
end
