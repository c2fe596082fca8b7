/- One part of the proofs on this program: functions of the program as plain functions, that the code comes to them, and facts on them. -/
import Derived.Test.YtlhfcmbkjddgiaaYMia
section
set_option linter.unusedSimpArgs false
set_option linter.unusedVariables false
namespace Go.Proofs.Ytlhfcmbkjddgiaa.Pure
open Go Go.RowKit Go.Proofs.Ytlhfcmbkjddgiaa.P Go.Proofs.YtlhfcmbkjddgiaaW.PrintWords
set_option linter.unusedVariables false
theorem abN_fuel {t : List Cl} (hv : jOb t = true) : ∀ (n m : Nat) (a : Int), a < n → a < m → a < t.length → -1 ≤ a → abN t n a = abN t m a
 | 0,0,a,_,_,_,_=>rfl
 | 0,m+1,a,h,_,_,_=>by rw [abN,abN,if_neg (by omega)]
 | n+1,0,a,_,h,_,_=>by rw [abN,abN,if_neg (by omega)]
 | n+1,m+1,a,h1,h2,h3,h4=>by
  rw [abN,abN]
  by_cases h0:0≤a
  ·rw [if_pos h0,if_pos h0]
   have hp:=tree_par hv (i:=a.toNat) (by omega)
   rw [abN_fuel hv n m (cp t a.toNat) (by omega) (by omega) (by omega) (by omega)]
  ·rw [if_neg h0,if_neg h0]
theorem abN_trans {t : List Cl} (hv : jOb t = true) : ∀ (n : Nat) (b a x : Int), b < n → b < t.length → -1 ≤ b → hasN a (abN t n b) = true → hasN x (above t a) = true → hasN x (abN t n b) = true
 | 0,b,a,x,_,_,_,h,_=>by simp [abN,hasN] at h
 | n+1,b,a,x,h1,h2,h3,h,hx=>by
  rw [abN] at h ⊢
  by_cases h0:0≤b
  ·rw [if_pos h0] at h ⊢
   have hp:=tree_par hv (i:=b.toNat) (by omega)
   rw [hasN] at h
   by_cases e:((b.toNat:Nat):Int)=a
   ·have ea:b=a:=by omega
    subst ea
    rw [above,abN_fuel hv (b+1).toNat (n+1) b (by omega) h1 h2 h3,abN,if_pos h0] at hx
    exact hx
   ·rw [if_neg e] at h
    have:=abN_trans hv n (cp t b.toNat) a x (by omega) (by omega) (by omega) h hx
    rw [hasN]
    split
    ·rfl
    ·exact this
  ·rw [if_neg h0] at h;simp [hasN] at h
theorem isA_trans {t : List Cl} (hv : jOb t = true) {b a x : Int} (h2 : b < t.length) (h3 : -1 ≤ b) (h : isAB t b a = true) (hx : isAB t a x = true) : isAB t b x = true :=
 abN_trans hv (b+1).toNat b a x (by omega) h2 h3 h hx
end Go.Proofs.Ytlhfcmbkjddgiaa.Pure
end
