/- One part of the proofs on this program: functions of the program as plain functions, that the code comes to them, and facts on them. -/
import Derived.Test.YtkhiiiddbmgiaaaYMh0
section
set_option linter.unusedSimpArgs false
set_option linter.unusedVariables false
namespace Go.Proofs.Ytkhiiiddbmgiaaa.Pure
open Go Go.RowKit Go.Proofs.Ytkhiiiddbmgiaaa.P Go.Proofs.YtkhiiiddbmgiaaaW.PrintWords
set_option linter.unusedVariables false
theorem encN_next (p : List Ln) : ∀ (i : Nat) (d : Int) (m : Nat) (r : List Nat), encN p i d = m :: r → r = enc p m
 | 0,d,m,r,h=>by simp [encN] at h
 | i+1,d,m,r,h=>by
  rw [encN] at h
  split at h
  ·injection h with h1 h2
   subst h1
   exact h2.symm
  ·exact encN_next p i d m r h
end Go.Proofs.Ytkhiiiddbmgiaaa.Pure
end
