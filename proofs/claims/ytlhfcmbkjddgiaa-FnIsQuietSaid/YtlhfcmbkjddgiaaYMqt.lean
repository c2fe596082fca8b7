/- One part of the proofs on this program: functions of the program as plain functions, that the code comes to them, and facts on them. -/
import Derived.Test.YtlhfcmbkjddgiaaYAll4
import Derived.Test.YtlhfcmbkjddgiaaYAll6
import Derived.Test.YtlhfcmbkjddgiaaYMcs
section
set_option linter.unusedSimpArgs false
set_option linter.unusedVariables false
namespace Go.Proofs.Ytlhfcmbkjddgiaa.Pure
open Go Go.RowKit Go.Proofs.Ytlhfcmbkjddgiaa.P Go.Proofs.YtlhfcmbkjddgiaaW.PrintWords
set_option linter.unusedVariables false
def qtN (t : List Cl) (l : List Ex) : Nat → Nat → Bool
 | 0,_=>true
 | n+1,i=>decide (¬ 0≤(clF t l true (i:Int) 0).2.2) && qtN t l n (i+1)
def qtB (t : List Cl) (l : List Ex) : Bool := exsB t l && (decide (¬ 0 ≤ (clF t l false 0 0).2.2) && qtN t l t.length 0)
theorem ev_siqGo {t : List Cl} (ht : TS t) {l : List Ex} (hl : exsB t l = true) : ∀ (n i : Nat), i + n = t.length → Ev (fun k => siqGo k t l n i) (qtN t l n i)
 | 0,i,_=>Ev.now _
 | n+1,i,h=>by
  simp only [siqGo,qtN]
  have h1:=ht.1
  refine Ev.bind (ev_sclosed ht hl (a:=true) (b:=(i:Int)) (fun _=>hasC.mpr ⟨by omega,by omega⟩) 0) ?_
  by_cases hf:0≤(clF t l true (i:Int) 0).2.2
  ·rw [decide_eq_false (by simpa using hf),Bool.false_and]
   exact Ev.pos ((clE_two _).mpr hf) (Ev.now _)
  ·rw [decide_eq_true hf,Bool.true_and]
   exact Ev.neg (fun e=>hf ((clE_two _).mp e)) (ev_siqGo ht hl n (i+1) (by omega))
theorem ev_sIsQuiet {t : List Cl} (ht : TS t) {l : List Ex} (hn : l.length ≤ 1048576) : Ev (fun k => jLa.f k t l) (qtB t l) := by
 unfold jLa.f qtB
 have h1:=ev_sVE ht hn
 have h2:=ht.1
 cases hv:exsB t l with
 | false =>
  rw [hv] at h1
  exact Ev.bind h1 (Ev.neg (by simp) (Ev.now _))
 | true =>
  rw [hv] at h1
  rw [Bool.true_and]
  refine Ev.bind h1 (Ev.pos rfl (Ev.bind (ev_sclosed ht hv (a:=false) (b:=0) (fun e=>by cases e) 0) ?_))
  by_cases hf:0≤(clF t l false 0 0).2.2
  ·rw [decide_eq_false (by simpa using hf),Bool.false_and]
   exact Ev.pos ((clE_two _).mpr hf) (Ev.now _)
  ·rw [decide_eq_true hf,Bool.true_and]
   exact Ev.neg (fun e=>hf ((clE_two _).mp e)) (Ev.pos (by omega) (ev_siqGo ht hv _ 0 (by omega)))
def flN (p : Int → Bool) : Nat → Nat → List Int
 | 0,_=>[]
 | n+1,i=>if p (i:Int)=true then (i:Int) :: flN p n (i+1) else flN p n (i+1)
theorem ev_flN {p : Nat → Int → Option Bool} {q : Int → Bool} {N : Nat} (h : ∀ i : Nat, i < N → Ev (fun k => p k (i : Int)) (q (i : Int))) : ∀ (n i : Nat), i + n = N → Ev (fun k => jxb (p k) n i) (flN q n i)
 | 0,i,_=>Ev.now _
 | n+1,i,e=>by
  simp only [jxb,flN]
  refine Ev.bind (h i (by omega)) (Ev.bind (ev_flN h n (i+1) (by omega)) ?_)
  by_cases c:q (i:Int)=true
  ·simp only [if_pos c];exact Ev.now _
  ·simp only [if_neg c];exact Ev.now _
theorem qtN_fl {t : List Cl} {l : List Ex} : ∀ (n i : Nat), (((flN (fun a => decide ((clF t l true a 0).2.2 ≥ 0)) n i).length : Int) == 0) = qtN t l n i
 | 0,i=>rfl
 | n+1,i=>by
  rw [flN,qtN]
  by_cases h:0≤(clF t l true (i:Int) 0).2.2
  ·rw [if_pos (by simpa using h),decide_eq_false (by simpa using h),Bool.false_and,List.length_cons,eqd,decide_eq_false (by omega)]
  ·rw [if_neg (by simpa using h),decide_eq_true h,Bool.true_and];exact qtN_fl n (i+1)
theorem ev_iIsQuiet {t : List Cl} (ht : TS t) {l : List Ex} (hn : l.length ≤ 1048576) : Ev (fun k => jga.f k t l) (qtB t l) := by
 unfold jga.f qtB
 have h1:=ev_iVE ht hn
 have h2:=ht.1
 cases hv:exsB t l with
 | false =>
  rw [hv] at h1
  exact Ev.bind h1 (Ev.neg (by simp) (Ev.now _))
 | true =>
  rw [hv] at h1
  rw [Bool.true_and]
  refine Ev.bind h1 (Ev.pos rfl (Ev.bind (ev_mclosed ht hv (a:=false) (b:=0) (fun e=>by cases e) 0) ?_))
  by_cases hf:0≤(clF t l false 0 0).2.2
  ·rw [decide_eq_false (by simpa using hf),Bool.false_and]
   exact Ev.pos hf (Ev.now _)
  ·rw [decide_eq_true hf,Bool.true_and,← qtN_fl]
   refine Ev.neg (by simpa using hf) (Ev.pos (by omega) (Ev.bind (ev_flN (N:=t.length) (fun i hi=>?_) t.length 0 (by omega)) (Ev.now _)))
   unfold qv
   exact Ev.bind (ev_mclosed ht hv (a:=true) (b:=(i:Int)) (fun _=>hasC.mpr ⟨by omega,by omega⟩) 0) (Ev.now _)
end Go.Proofs.Ytlhfcmbkjddgiaa.Pure
end
