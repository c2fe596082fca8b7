/- One part of the proofs on this program: functions of the program as plain functions, that the code comes to them, and facts on them. -/
import Derived.Test.YtlhfcmbkjddgiaaYAll1
import Derived.Test.YtlhfcmbkjddgiaaYAll4
import Derived.Test.YtlhfcmbkjddgiaaYMt
section
set_option linter.unusedSimpArgs false
set_option linter.unusedVariables false
namespace Go.Proofs.Ytlhfcmbkjddgiaa.Pure
open Go Go.RowKit Go.Proofs.Ytlhfcmbkjddgiaa.P Go.Proofs.YtlhfcmbkjddgiaaW.PrintWords
set_option linter.unusedVariables false
abbrev Ex := S44
def exB (t : List Cl) (x : Ex) : Bool := if x.f0 = 0 ∨ x.f0 = 1 then bw x.f1 0 99 && decide (x.f2 = 0) else if x.f0 = 2 then hasB t x.f1 && decide (x.f2 = 0) else if x.f0 = 3 then hasB t x.f1 && bw x.f2 0 99 else false
theorem iCd (a : Int) : jAa.f a = some (bw a 0 99) := by unfold jAa.f; rw [iW]; rfl
theorem sEx {t : List Cl} (ht : t.length ≤ 1048576) (x : Ex) : Ev (fun k => jDa.f k t x.f0 x.f1 x.f2) (exB t x) := by
 have j1:Ev (fun k=>jDa.j0 k x.f0 true t x.f0 x.f1 x.f2) (bw x.f1 0 99 && decide (x.f2=0)):=by
  refine Ev.step (fun k=>by rw [jDa.j0]) ?_
  rw [iR,eqd]
  exact Ev.pos rfl (Ev.bind (Ev.now _) Ev.andB)
 unfold jDa.f exB
 by_cases h0:x.f0=0
 ·rw [if_pos (Or.inl h0),show (x.f0 == 0)=true by simpa using h0]
  exact Ev.pos h0 j1
 ·refine Ev.neg h0 ?_
  by_cases h1:x.f0=1
  ·rw [if_pos (Or.inr h1),show (x.f0 == 1)=true by simpa using h1]
   exact j1
  ·rw [if_neg (by rintro (h | h);exact h0 h;exact h1 h),show (x.f0 == 1)=false by simpa using h1]
   refine Ev.step (fun k=>by rw [jDa.j0]) ?_
   refine Ev.neg (by simp) ?_
   rw [sHas ht,iR,eqd]
   by_cases h2:x.f0=2
   ·refine Ev.pos h2 ?_
    rw [if_pos h2]
    exact (Ev.bind (Ev.now _) Ev.andB)
   ·refine Ev.neg h2 ?_
    rw [if_neg h2]
    by_cases h3:x.f0=3
    ·refine Ev.pos h3 ?_
     rw [if_pos h3]
     exact (Ev.bind (Ev.now _) Ev.andB)
    ·refine Ev.neg h3 ?_
     rw [if_neg h3]
     exact (Ev.now _)
theorem iEx {t : List Cl} (ht : t.length ≤ 1048576) (x : Ex) : Ev (fun k => jya.f k x.f0 x.f1 x.f2 t) (exB t x) := by
 have j1:Ev (fun k=>jya.j0 k x.f0 true x.f0 x.f1 x.f2 t) (bw x.f1 0 99 && decide (x.f2=0)):=by
  refine Ev.step (fun k=>by rw [jya.j0]) ?_
  rw [iCd,eqd]
  exact Ev.pos rfl (Ev.bind (Ev.now _) Ev.andB)
 unfold jya.f exB
 by_cases h0:x.f0=0
 ·rw [if_pos (Or.inl h0),show (x.f0 == 0)=true by simpa using h0]
  exact Ev.pos h0 j1
 ·refine Ev.neg h0 ?_
  by_cases h1:x.f0=1
  ·rw [if_pos (Or.inr h1),show (x.f0 == 1)=true by simpa using h1]
   exact j1
  ·rw [if_neg (by rintro (h | h);exact h0 h;exact h1 h),show (x.f0 == 1)=false by simpa using h1]
   refine Ev.step (fun k=>by rw [jya.j0]) ?_
   refine Ev.neg (by simp) ?_
   rw [iHas ht,iCd,eqd]
   by_cases h2:x.f0=2
   ·refine Ev.pos h2 ?_
    rw [if_pos h2]
    exact (Ev.bind (Ev.now _) Ev.andB)
   ·refine Ev.neg h2 ?_
    rw [if_neg h2]
    by_cases h3:x.f0=3
    ·refine Ev.pos h3 ?_
     rw [if_pos h3]
     exact (Ev.bind (Ev.now _) Ev.andB)
    ·refine Ev.neg h3 ?_
     rw [if_neg h3]
     exact (Ev.now _)
def fxI {α : Type} (q : α → Bool) : List α → Nat → Int
 | [],_=>-1
 | x :: r,i=>if q x=true then (i:Int) else fxI q r (i+1)
theorem ev_fxI {α : Type} {p : Nat → α → Option Bool} {q : α → Bool} (h : ∀ x, Ev (fun k => p k x) (q x)) : ∀ (l : List α) (i : Nat), Ev (fun k => idxFrom (p k) l i) (fxI q l i)
 | [],i=>Ev.now _
 | x :: r,i=>by
  simp only [idxFrom,fxI]
  refine Ev.bind (h x) ?_
  cases q x with
  | true=>exact Ev.pos rfl (Ev.now _)
  | false=>exact Ev.neg (by simp) (ev_fxI h r (i+1))
theorem fxI_any {α : Type} (q : α → Bool) : ∀ (l : List α) (i : Nat), decide (0 ≤ fxI q l i) = l.any q
 | [],i=>by simp [fxI]
 | x :: r,i=>by
  by_cases h:q x=true
  ·have e:fxI q (x :: r) i=(i:Int):=if_pos h
   simp [e,h]
  ·have e:fxI q (x :: r) i=fxI q r (i+1):=if_neg h
   have h':q x=false:=by simpa using h
   simp only [e,List.any_cons,h',Bool.false_or]
   exact fxI_any q r (i+1)
def exsB (t : List Cl) (l : List Ex) : Bool := l.all (exB t) && (treeB t && decide (l.length ≤ 8))
theorem ev_sVE {t : List Cl} (ht : TS t) {l : List Ex} (hl : l.length ≤ 1048576) : Ev (fun k => jR.f k t l) (exsB t l) := by
 have go:∀ (n i:Nat),n+i=l.length→Ev (fun k=>jR.l0 k l i t) ((l.drop i).all (exB t) && (treeB t && decide (l.length≤8))):=by
  intro n
  induction n with
  | zero =>
   intro i h
   refine Ev.step (fun k=>by rw [jR.l0]) ?_
   rw [List.drop_eq_nil_of_le (by omega),List.all_nil,Bool.true_and]
   refine Ev.neg (by omega) (Ev.bind (ev_validTree ht) ?_)
   rw [show decide ((l.length:Int)≤8)=decide (l.length≤8) by rw [decide_eq_decide];omega]
   exact Ev.andB
  | succ n ih =>
   intro i h
   have hi:i<l.length:=by omega
   refine Ev.step (fun k=>by rw [jR.l0]) ?_
   have hr:jZ l (i:Int)=l[i]:=by simp [jZ,List.getD_eq_getElem?_getD,hi]
   rw [List.drop_eq_getElem_cons hi,List.all_cons,hr,wS (by omega)]
   refine Ev.pos (by omega) (Ev.pos (by omega) (Ev.bind (sEx ht.1 l[i]) ?_))
   cases exB t l[i] with
   | true=>rw [Bool.true_and];exact Ev.pos rfl (ih (i+1) (by omega))
   | false=>rw [Bool.false_and,Bool.false_and];exact Ev.neg (by simp) (Ev.now _)
 exact go l.length 0 (by omega)
theorem ev_iVE {t : List Cl} (ht : TS t) {l : List Ex} (hl : l.length ≤ 1048576) : Ev (fun k => jxa.f k t l) (exsB t l) := by
 unfold jxa.f exsB
 refine Ev.bind (ev_ValidTree ht) ?_
 cases treeB t with
 | false=>rw [Bool.false_and,Bool.and_false];exact Ev.neg (by simp) (Ev.now _)
 | true =>
  refine Ev.pos rfl ?_
  rw [Bool.true_and]
  by_cases h:l.length≤8
  ·refine Ev.pos (by omega) (Ev.bind (ev_fxI (q:=fun x=>!exB t x) (fun x=>Ev.bind (iEx ht.1 x) (Ev.now _)) l 0) ?_)
   rw [fxI_any,decide_eq_true h,Bool.and_true,List.not_any_eq_all_not]
   simp only [Bool.not_not]
   exact Ev.now _
  ·rw [decide_eq_false h,Bool.and_false]
   exact Ev.neg (by omega) (Ev.now _)
end Go.Proofs.Ytlhfcmbkjddgiaa.Pure
end
