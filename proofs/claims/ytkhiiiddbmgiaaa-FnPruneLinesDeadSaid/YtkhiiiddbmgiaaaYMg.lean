/- One part of the proofs on this program: functions of the program as plain functions, that the code comes to them, and facts on them. -/
import Derived.Test.YtkhiiiddbmgiaaaYD8
import Derived.Test.YtkhiiiddbmgiaaaYMe
section
set_option linter.unusedSimpArgs false
set_option linter.unusedVariables false
namespace Go.Proofs.Ytkhiiiddbmgiaaa.Pure
open Go Go.RowKit Go.Proofs.Ytkhiiiddbmgiaaa.P Go.Proofs.YtkhiiiddbmgiaaaW.PrintWords
set_option linter.unusedVariables false
def encN (p : List Ln) : Nat → Int → List Nat
 | 0,_=>[]
 | i+1,d=>if dp p i<d then i :: encN p i (dp p i) else encN p i d
def enc (p : List Ln) (a : Nat) : List Nat := encN p a (dp p a)
theorem jyb.dr {t : List Cl} {p : List Ln} (h : jyb t p) : DR p := (off_DR p).mp fun i hi => (h.2.2 i hi).2.2.1
end Go.Proofs.Ytkhiiiddbmgiaaa.Pure
end
