/- One part of the proofs on this program: functions of the program as plain functions, that the code comes to them, and facts on them. -/
import Derived.Test.YtkedkinojeoeaaaYAll9
import Derived.Test.YtkedkinojeoeaaaYMj
section
set_option linter.unusedSimpArgs false
set_option linter.unusedVariables false
namespace Go.Proofs.Ytkedkinojeoeaaa.Pure
open Go Go.RowKit Go.Proofs.Ytkedkinojeoeaaa.P Go.Proofs.YtkedkinojeoeaaaW.PrintWords
set_option linter.unusedVariables false
theorem hasC {t : List Cl} {c : Int} : hasB t c = true ↔ 0 ≤ c ∧ c < t.length := by unfold hasB; rw [bw_iff]; omega
theorem ev_classesIn {t : List Cl} (ht : TS t) (a : Int) : Ev (fun k => jfb.f k t [a]) (jtc t && hasB t a) := by
 unfold jfb.f
 refine Ev.bind (ev_ValidTree ht) ?_
 cases jtc t with
 | false=>exact Ev.neg (by simp) (Ev.now _)
 | true =>
  refine Ev.pos rfl ?_
  simp only [idxFrom,iHas ht.1,Option.map_some,Option.bind_some]
  cases hasB t a with
  | true=>simpa using Ev.now true
  | false=>simpa using Ev.now false
theorem ev_classesIn2 {t : List Cl} (ht : TS t) (a b : Int) : Ev (fun k => jfb.f k t [a, b]) (jtc t && (hasB t a && hasB t b)) := by
 unfold jfb.f
 refine Ev.bind (ev_ValidTree ht) ?_
 cases jtc t with
 | false=>exact Ev.neg (by simp) (Ev.now _)
 | true =>
  refine Ev.pos rfl ?_
  simp only [idxFrom,iHas ht.1,Option.map_some,Option.bind_some]
  cases hasB t a <;> cases hasB t b <;> first | simpa using Ev.now true | simpa using Ev.now false
theorem ev_IsA {t : List Cl} (ht : TS t) (a b : Int) : Ev (fun k => jic.f k t a b) (jtc t && (hasB t a && hasB t b) && isAB t a b) := by
 unfold jic.f
 refine Ev.bind (ev_classesIn2 ht a b) ?_
 by_cases h:jtc t=true∧hasB t a=true∧hasB t b=true
 ·have hA:=hasC.mp h.2.1
  rw [h.1,h.2.1,h.2.2]
  exact Ev.pos rfl (Ev.bind (ev_iIs ht.1 h.1 hA.2 (by omega) b) (by simpa using Ev.now _))
 ·have e:(jtc t && (hasB t a && hasB t b))=false:=by
   rw [Bool.eq_false_iff];intro hh;simp only [Bool.and_eq_true] at hh;exact h hh
  rw [e]
  exact Ev.neg (by simp) (Ev.now _)
end Go.Proofs.Ytkedkinojeoeaaa.Pure
end
