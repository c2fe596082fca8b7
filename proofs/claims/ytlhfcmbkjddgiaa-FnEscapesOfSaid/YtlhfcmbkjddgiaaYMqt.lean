/- One part of the proofs on this program: functions of the program as plain functions, that the code comes to them, and facts on them. -/
import Derived.Test.YtlhfcmbkjddgiaaYAll8
import Derived.Test.YtlhfcmbkjddgiaaYMcs
section
set_option linter.unusedSimpArgs false
set_option linter.unusedVariables false
namespace Go.Proofs.Ytlhfcmbkjddgiaa.Pure
open Go Go.RowKit Go.Proofs.Ytlhfcmbkjddgiaa.P Go.Proofs.YtlhfcmbkjddgiaaW.PrintWords
set_option linter.unusedVariables false
def flN (p : Int → Bool) : Nat → Nat → List Int
 | 0,_=>[]
 | n+1,i=>if p (i:Int)=true then (i:Int) :: flN p n (i+1) else flN p n (i+1)
theorem ev_flN {p : Nat → Int → Option Bool} {q : Int → Bool} {N : Nat} (h : ∀ i : Nat, i < N → Ev (fun k => p k (i : Int)) (q (i : Int))) : ∀ (n i : Nat), i + n = N → Ev (fun k => jKb (p k) n i) (flN q n i)
 | 0,i,_=>Ev.now _
 | n+1,i,e=>by
  simp only [jKb,flN]
  refine Ev.bind (h i (by omega)) (Ev.bind (ev_flN h n (i+1) (by omega)) ?_)
  by_cases c:q (i:Int)=true
  ·simp only [if_pos c];exact Ev.now _
  ·simp only [if_neg c];exact Ev.now _
end Go.Proofs.Ytlhfcmbkjddgiaa.Pure
end
