/- One part of the proofs on this program: functions of the program as plain functions, that the code comes to them, and facts on them. -/
import Derived.Test.YtegpknnlggkcpaaDoorYAll1
import Derived.Test.YtegpknnlggkcpaaDoorYAll3
import Derived.Test.YtegpknnlggkcpaaDoorYMc
import Derived.Test.YtegpknnlggkcpaaDoorYMt
section
set_option linter.unusedSimpArgs false
set_option linter.unusedVariables false
namespace Go.Proofs.YtegpknnlggkcpaaDoor.Pure
open Go Go.RowKit Go.Proofs.YtegpknnlggkcpaaDoor.P Go.Proofs.YtegpknnlggkcpaaDoorW.PrintWords
set_option linter.unusedVariables false
def numB (t : List Cl) (k a b : Int) : Bool :=
 if k=1∨k=4 then bw a 0 99 && decide (b=0) else if k=2 then hasB t a && bw b 0 99 else if k=8 then hasB t a && decide (b=0) else if k=11 then bw a 0 9 && bw b 0 1 else if k=12 then bw a 0 3 && decide (b=0) else bw k 0 10 && (decide (a=0) && decide (b=0))
theorem iCode (a : Int) : jIa.f a = some (bw a 0 99) := by
 unfold jIa.f
 rw [iW];rfl
theorem ev_validNumbers {t : List Cl} (ht : t.length ≤ 1048576) (d k a b : Int) : Ev (fun n => jV.f n t d k a b) (numB t k a b) := by
 have j:∀ q:Bool,q=decide (k=1∨k=4)→Ev (fun n=>jV.j0 n k q t d k a b) (numB t k a b):=by
  intro q hq
  refine Ev.step (fun n=>by rw [jV.j0]) ?_
  simp only [iR,sHas ht,Option.bind_some,eqd]
  unfold numB
  by_cases h1:k=1∨k=4
  ·refine Ev.pos (by rw [hq];simpa using h1) ?_;rw [if_pos h1];exact Ev.andB
  refine Ev.neg (by rw [hq];simpa using h1) ?_
  rw [if_neg h1]
  by_cases h2:k=2
  ·refine Ev.pos h2 ?_;rw [if_pos h2];exact Ev.andB
  refine Ev.neg h2 ?_
  rw [if_neg h2]
  by_cases h3:k=8
  ·refine Ev.pos h3 ?_;rw [if_pos h3];exact Ev.andB
  refine Ev.neg h3 ?_
  rw [if_neg h3]
  by_cases h4:k=11
  ·refine Ev.pos h4 ?_;rw [if_pos h4];exact Ev.andB
  refine Ev.neg h4 ?_
  rw [if_neg h4]
  by_cases h5:k=12
  ·refine Ev.pos h5 ?_;rw [if_pos h5];exact Ev.andB
  refine Ev.neg h5 ?_
  rw [if_neg h5]
  cases bw k 0 10 with
  | false=>exact Ev.neg (by simp) (by simpa using Ev.now false)
  | true =>
   refine Ev.pos rfl ?_
   by_cases h6:a=0
   ·refine Ev.pos h6 ?_;simp only [h6,decide_true,Bool.true_and];exact Ev.now _
   ·refine Ev.neg h6 ?_;simp only [h6,decide_false,Bool.false_and,Bool.and_false];exact Ev.now _
 unfold jV.f
 simp only [eqd]
 exact Ev.both (fun c=>j _ (by simp [c])) (fun c=>j _ (by simp [c]))
theorem ev_argued {t : List Cl} (ht : t.length ≤ 1048576) (d k a b : Int) : Ev (fun n => jba.f n d k a b t) (numB t k a b) := by
 have j:∀ q:Bool,q=decide (k=1∨k=4)→Ev (fun n=>jba.j0 n k q d k a b t) (numB t k a b):=by
  intro q hq
  refine Ev.step (fun n=>by rw [jba.j0]) ?_
  simp only [iW,iHas ht,iCode,Option.bind_some,eqd]
  unfold numB
  by_cases h1:k=1∨k=4
  ·refine Ev.pos (by rw [hq];simpa using h1) ?_;rw [if_pos h1];exact Ev.andB
  refine Ev.neg (by rw [hq];simpa using h1) ?_
  rw [if_neg h1]
  by_cases h2:k=2
  ·refine Ev.pos h2 ?_;rw [if_pos h2];exact Ev.andB
  refine Ev.neg h2 ?_
  rw [if_neg h2]
  by_cases h3:k=8
  ·refine Ev.pos h3 ?_;rw [if_pos h3];exact Ev.andB
  refine Ev.neg h3 ?_
  rw [if_neg h3]
  by_cases h4:k=11
  ·refine Ev.pos h4 ?_;rw [if_pos h4];exact Ev.andB
  refine Ev.neg h4 ?_
  rw [if_neg h4]
  by_cases h5:k=12
  ·refine Ev.pos h5 ?_;rw [if_pos h5];exact Ev.andB
  refine Ev.neg h5 ?_
  rw [if_neg h5]
  rw [show bw k 0 12=bw k 0 10 from by rw [Bool.eq_iff_iff,bw_iff,bw_iff];omega]
  cases bw k 0 10 with
  | false=>exact Ev.neg (by simp) (by simpa using Ev.now false)
  | true =>
   refine Ev.pos rfl ?_
   by_cases h6:a=0
   ·refine Ev.pos h6 ?_;simp only [h6,decide_true,Bool.true_and];exact Ev.now _
   ·refine Ev.neg h6 ?_;simp only [h6,decide_false,Bool.false_and,Bool.and_false];exact Ev.now _
 unfold jba.f
 simp only [eqd]
 exact Ev.both (fun c=>j _ (by simp [c])) (fun c=>j _ (by simp [c]))
end Go.Proofs.YtegpknnlggkcpaaDoor.Pure
end
