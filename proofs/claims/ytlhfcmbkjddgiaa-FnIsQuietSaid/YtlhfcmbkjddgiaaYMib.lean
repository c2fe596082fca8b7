/- One part of the proofs on this program: functions of the program as plain functions, that the code comes to them, and facts on them. -/
import Derived.Test.YtlhfcmbkjddgiaaYMia
section
set_option linter.unusedSimpArgs false
set_option linter.unusedVariables false
namespace Go.Proofs.Ytlhfcmbkjddgiaa.Pure
open Go Go.RowKit Go.Proofs.Ytlhfcmbkjddgiaa.P Go.Proofs.YtlhfcmbkjddgiaaW.PrintWords
set_option linter.unusedVariables false
theorem root_ab {t : List Cl} (hv : jed t = true) : ∀ (n : Nat) (b : Int), b < n → b < t.length → 0 ≤ b → hasN 0 (abN t n b) = true
 | 0,b,_,_,_=>by omega
 | n+1,b,h1,h2,h3=>by
  rw [abN,if_pos h3,hasN]
  have hp:=tree_par hv (i:=b.toNat) (by omega)
  by_cases e:((b.toNat:Nat):Int)=0
  ·rw [if_pos e]
  ·rw [if_neg e]
   have hq:=trN_par t.length 0 (by omega) hv b.toNat (by omega) (by omega)
   unfold parB at hq
   rw [if_neg (by omega)] at hq
   have:=bw_iff.mp hq
   exact root_ab hv n (cp t b.toNat) (by omega) (by omega) (by omega)
theorem isA_root {t : List Cl} (hv : jed t = true) {b : Int} (h2 : b < t.length) (h3 : 0 ≤ b) : isAB t b 0 = true := root_ab hv (b + 1).toNat b (by omega) h2 h3
end Go.Proofs.Ytlhfcmbkjddgiaa.Pure
end
