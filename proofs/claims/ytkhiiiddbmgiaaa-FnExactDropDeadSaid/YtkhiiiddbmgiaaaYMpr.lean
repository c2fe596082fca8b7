/- One part of the proofs on this program: functions of the program as plain functions, that the code comes to them, and facts on them. -/
import Derived.Test.YtkhiiiddbmgiaaaYAll5
import Derived.Test.YtkhiiiddbmgiaaaYAll6
import Derived.Test.YtkhiiiddbmgiaaaYMb
import Derived.Test.YtkhiiiddbmgiaaaYMe
import Derived.Test.YtkhiiiddbmgiaaaYMg
section
set_option linter.unusedSimpArgs false
set_option linter.unusedVariables false
namespace Go.Proofs.Ytkhiiiddbmgiaaa.Pure
open Go Go.RowKit Go.Proofs.Ytkhiiiddbmgiaaa.P Go.Proofs.YtkhiiiddbmgiaaaW.PrintWords
set_option linter.unusedVariables false
def prN (g : Nat → Bool) (p : List Ln) : Nat → Nat → List Ln
 | 0,_=>[]
 | n+1,i=>if i<p.length then (if g i=true then prN g p n (bEnd p i) else p.getD i z52 :: prN g p n (i+1)) else []
theorem prN_len (g : Nat → Bool) (p : List Ln) : ∀ n i, i ≤ p.length → (prN g p n i).length ≤ p.length - i
 | 0,i,_=>by simp [prN]
 | n+1,i,h=>by
  unfold prN
  by_cases h1:i<p.length
  ·rw [if_pos h1]
   by_cases h2:g i=true
   ·rw [if_pos h2]
    have:=prN_len g p n (bEnd p i) (bEnd_le h1)
    have:=jOa p i
    omega
   ·rw [if_neg h2]
    have:=prN_len g p n (i+1) h1
    simp only [List.length_cons]
    omega
  ·rw [if_neg h1];simp
theorem ev_woG {p : List Ln} (hp : p.length ≤ 1048576) (gone : Int → Bool) : ∀ (n i : Nat) (acc : List Ln), p.length ≤ n + i → acc.length ≤ i → i ≤ p.length → Ev (fun k => woG p gone k i acc) (acc ++ prN (fun j => gone j) p n i)
 | 0,i,acc,h,ha,hi=>by
  refine Ev.step (fun k=>by rw [woG]) ?_
  refine Ev.neg (by omega) ?_
  rw [prN,List.append_nil]
  exact Ev.now _
 | n+1,i,acc,h,ha,hi=>by
  refine Ev.step (fun k=>by rw [woG]) ?_
  unfold prN
  by_cases h1:i<p.length
  ·rw [if_pos h1]
   refine Ev.pos (by omega) (Ev.pos (by omega) ?_)
   by_cases h2:gone i=true
   ·rw [if_pos h2]
    have g1:=jOa p i
    exact Ev.pos h2 (Ev.bind (ev_endOf hp h1) (ev_woG hp gone n (bEnd p i) acc (by omega) (by omega) (bEnd_le h1)))
   ·rw [if_neg h2]
    refine Ev.neg h2 (Ev.pos (by omega) ?_)
    rw [wS (by omega)]
    have e:acc ++ p.getD i z52 :: prN (fun j=>gone j) p n (i+1)=(acc ++ [jb p (i:Int)]) ++ prN (fun j=>gone j) p n (i+1):=by
     rw [List.append_assoc];rfl
    rw [e]
    exact ev_woG hp gone n (i+1) _ (by omega) (by rw [List.length_append,List.length_singleton];omega) h1
  ·rw [if_neg h1,List.append_nil]
   exact Ev.neg (by omega) (Ev.now _)
end Go.Proofs.Ytkhiiiddbmgiaaa.Pure
end
