/- One part of the proofs on this program: functions of the program as plain functions, that the code comes to them, and facts on them. -/
import Derived.Test.YtkokajljeebgdaaYMh0
section
namespace Go.Proofs.Ytkokajljeebgdaa.Pure
open Go Go.RowKit Go.Proofs.Ytkokajljeebgdaa.P Go.Proofs.YtkokajljeebgdaaW.PrintWords
set_option linter.unusedVariables false
theorem mem_encI {p : List Ln} {a : Nat} : ∀ (i m : Nat), m ∈ encI p a i ↔ m < i ∧ isO (kd p m) = true ∧ a < bEnd p m
 | 0, m => by simp [encI]
 | i + 1, m => by
  rw [encI]
  by_cases h : isO (kd p i) = true ∧ a < bEnd p i
  ·rw [if_pos h, List.mem_cons, mem_encI i m]
   constructor
   ·rintro (rfl | h2)
    ·exact ⟨by omega, h⟩
    ·exact ⟨by omega, h2.2⟩
   ·rintro ⟨h1, h2⟩
    by_cases e : m = i
    ·exact .inl e
    ·exact .inr ⟨by omega, h2⟩
  ·rw [if_neg h, mem_encI i m]
   constructor
   ·rintro ⟨h1, h2⟩; exact ⟨by omega, h2⟩
   ·rintro ⟨h1, h2⟩
    refine ⟨?_, h2⟩
    by_cases e : m = i
    ·subst e; exact absurd h2 h
    ·omega
theorem mem_enc {p : List Ln} (hr : DR p) {a m : Nat} (ha : a < p.length) : m ∈ enc p a ↔ m < a ∧ isO (kd p m) = true ∧ a < bEnd p m := by
 rw [← enc_eq hr ha]; exact mem_encI a m
theorem lpF_some (p : List Ln) : ∀ l : List Nat, (∃ m ∈ l, kd p m = 12) → 0 ≤ lpF p l
 | [], h => by obtain ⟨m, h, _⟩ := h; simp at h
 | a :: r, h => by
  rw [lpF]
  split
  ·omega
  ·refine lpF_some p r ?_
   obtain ⟨m, h1, h2⟩ := h
   rcases List.mem_cons.mp h1 with rfl | h1
   ·contradiction
   ·exact ⟨m, h1, h2⟩
theorem lpF_kind (p : List Ln) : ∀ l : List Nat, 0 ≤ lpF p l → ∃ m ∈ l, (m : Int) = lpF p l ∧ kd p m = 12
 | [], h => by simp [lpF] at h
 | a :: r, h => by
  rw [lpF] at h ⊢
  split
  ·rename_i h2
   exact ⟨a, by simp, rfl, h2⟩
  ·rename_i h2
   rw [if_neg h2] at h
   obtain ⟨m, h3, h4⟩ := lpF_kind p r h
   exact ⟨m, by simp [h3], h4⟩
theorem loop_brk {t : List Cl} {p : List Ln} (hv : ValidP t p) {a : Nat} (ha : a < p.length) (hk : kd p a = 5 ∨ kd p a = 6) : 0 ≤ lpF p (enc p a) := by
 rcases (hv.2.2 a ha).2.2.2.2.1 hk with h | ⟨m, _, h2, h3, h4⟩
 ·cases h
 ·exact lpF_some p _ ⟨m, (mem_enc hv.dr ha).mpr ⟨h2, by rw [h3]; rfl, h4⟩, h3⟩
theorem ValidP.low {t : List Cl} {p : List Ln} (hv : ValidP t p) {i : Nat} (hi : i < p.length) : 0 ≤ dp p i ∧ dp p i ≤ 5 := bw_iff.mp (hv.2.2 i hi).2.1
theorem hasN_mem {l : List Nat} {m : Nat} (h : m ∈ l) : hasN (m : Int) l = true := (hasN_iff _ l).mpr ⟨m, h, rfl⟩
theorem encN_deep {t : List Cl} {p : List Ln} (hv : ValidP t p) : ∀ (i : Nat) (d : Nat), i < p.length → (d : Int) ≤ dp p i → (encN p i d).length = d ∧ ∀ j, (h : j < (encN p i d).length) → dp p (encN p i d)[j] = (d : Int) - 1 - j
 | 0, d, hi, h => by
  have := hv.dr.first (by omega)
  obtain rfl : d = 0 := by omega
  exact ⟨rfl, fun j h => by simp [encN] at h⟩
 | i + 1, d, hi, h => by
  have hl := hv.low (i := i) (by omega)
  rw [encN]
  by_cases h1 : dp p i < d
  ·have h2 : dp p i = (d : Int) - 1 := by
    cases ho : isO (kd p i) with
    | true => have := hv.dr.deeper i hi ho; omega
    | false => have := hv.dr.none i hi ho; omega
   obtain ⟨d', rfl⟩ : ∃ d', d = d' + 1 := ⟨d - 1, by omega⟩
   have e : dp p i = (d' : Int) := by omega
   obtain ⟨k1, k2⟩ := encN_deep hv i d' (by omega) (by omega)
   rw [if_pos h1, e]
   refine ⟨by rw [List.length_cons, k1], fun j hj => ?_⟩
   cases j with
   | zero => rw [List.getElem_cons_zero, e]; omega
   | succ j => rw [List.getElem_cons_succ, k2 j (by simpa using hj)]; omega
  ·rw [if_neg h1]
   exact encN_deep hv i d (by omega) (by omega)
theorem enc_deep {t : List Cl} {p : List Ln} (hv : ValidP t p) {a : Nat} (ha : a < p.length) : ((enc p a).length : Int) = dp p a ∧ ∀ j, (h : j < (enc p a).length) → dp p (enc p a)[j] = dp p a - 1 - j := by
 have hl := hv.low ha
 obtain ⟨d, hd⟩ := Int.eq_ofNat_of_zero_le hl.1
 have := encN_deep hv a d ha (by omega)
 unfold enc
 simp only [hd]
 exact ⟨by exact_mod_cast this.1, this.2⟩
end Go.Proofs.Ytkokajljeebgdaa.Pure
end
