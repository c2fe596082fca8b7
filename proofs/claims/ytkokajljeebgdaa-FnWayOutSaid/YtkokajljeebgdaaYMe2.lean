/- One part of the proofs on this program: functions of the program as plain functions, that the code comes to them, and facts on them. -/
import Derived.Test.YtkokajljeebgdaaYMh0
section
set_option linter.unusedSimpArgs false
set_option linter.unusedVariables false
namespace Go.Proofs.Ytkokajljeebgdaa.Pure
open Go Go.RowKit Go.Proofs.Ytkokajljeebgdaa.P Go.Proofs.YtkokajljeebgdaaW.PrintWords
set_option linter.unusedVariables false
theorem jNb.low {t : List Cl} {p : List Ln} (hv : jNb t p) {i : Nat} (hi : i < p.length) : 0 ≤ dp p i ∧ dp p i ≤ 5 := bw_iff.mp (hv.2.2 i hi).2.1
theorem encN_deep {t : List Cl} {p : List Ln} (hv : jNb t p) : ∀ (i : Nat) (d : Nat), i < p.length → (d : Int) ≤ dp p i → (encN p i d).length = d ∧ ∀ j, (h : j < (encN p i d).length) → dp p (encN p i d)[j] = (d : Int) - 1 - j
 | 0,d,hi,h=>by
  have:=hv.dr.first (by omega)
  obtain rfl:d=0:=by omega
  exact ⟨rfl,fun j h=>by simp [encN] at h⟩
 | i+1,d,hi,h=>by
  have hl:=hv.low (i:=i) (by omega)
  rw [encN]
  by_cases h1:dp p i<d
  ·have h2:dp p i=(d:Int) - 1:=by
    cases ho:isO (kd p i) with
    | true=>have:=hv.dr.deeper i hi ho;omega
    | false=>have:=hv.dr.none i hi ho;omega
   obtain ⟨d',rfl⟩:∃ d',d=d'+1:=⟨d - 1,by omega⟩
   have e:dp p i=(d':Int):=by omega
   obtain ⟨k1,k2⟩:=encN_deep hv i d' (by omega) (by omega)
   rw [if_pos h1,e]
   refine ⟨by rw [List.length_cons,k1],fun j hj=>?_⟩
   cases j with
   | zero=>rw [List.getElem_cons_zero,e];omega
   | succ j=>rw [List.getElem_cons_succ,k2 j (by simpa using hj)];omega
  ·rw [if_neg h1]
   exact encN_deep hv i d (by omega) (by omega)
theorem enc_deep {t : List Cl} {p : List Ln} (hv : jNb t p) {a : Nat} (ha : a < p.length) : ((enc p a).length : Int) = dp p a ∧ ∀ j, (h : j < (enc p a).length) → dp p (enc p a)[j] = dp p a - 1 - j := by
 have hl:=hv.low ha
 obtain ⟨d,hd⟩:=Int.eq_ofNat_of_zero_le hl.1
 have:=encN_deep hv a d ha (by omega)
 unfold enc
 simp only [hd]
 exact ⟨by exact_mod_cast this.1,this.2⟩
end Go.Proofs.Ytkokajljeebgdaa.Pure
end
