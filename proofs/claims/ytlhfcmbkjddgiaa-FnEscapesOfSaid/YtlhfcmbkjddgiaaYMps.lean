/- One part of the proofs on this program: functions of the program as plain functions, that the code comes to them, and facts on them. -/
import Derived.Test.YtlhfcmbkjddgiaaYMsx
section
set_option linter.unusedSimpArgs false
set_option linter.unusedVariables false
namespace Go.Proofs.Ytlhfcmbkjddgiaa.Pure
open Go Go.RowKit Go.Proofs.Ytlhfcmbkjddgiaa.P Go.Proofs.YtlhfcmbkjddgiaaW.PrintWords
set_option linter.unusedVariables false
def spB (t : List Cl) (a : Int) (x : Ex) : Bool := decide (x.f0 = 3) || decide (x.f0 = 2) && isAB t a x.f1
def psB (t : List Cl) (l : List Ex) (a : Int) : Bool := l.all fun x => !spB t a x
def f0L (a c : Int) : List Ft := [⟨a, c, -1, -1, false⟩]
theorem f0_rd (a c : Int) : jl (f0L a c) 0 = ⟨a, c, -1, -1, false⟩ := rfl
theorem stT_pass {t : List Cl} {a c : Int} {lg : List Int} {x : Ex} (hx : spB t a x = false) : ∃ lg', stT (isAB t) (lg, f0L a c, 0) x = (lg', f0L a c, 0) := by
 unfold spB at hx
 unfold stT
 by_cases k0:x.f0=0
 ·rw [if_pos k0];exact ⟨_,rfl⟩
 ·rw [if_neg k0]
  by_cases k1:x.f0=1
  ·rw [if_pos k1];exact ⟨_,rfl⟩
  ·rw [if_neg k1]
   by_cases k2:x.f0=2
   ·rw [if_pos k2]
    rw [decide_eq_true k2,Bool.true_and,Bool.or_eq_false_iff] at hx
    simp only [f0_rd,hx.2,Bool.and_false]
    exact ⟨lg,rfl⟩
   ·rw [if_neg k2]
    by_cases k3:x.f0=3
    ·rw [decide_eq_true k3,Bool.true_or] at hx;cases hx
    ·rw [if_neg k3];exact ⟨_,rfl⟩
theorem stT_gone {q : Int → Int → Bool} {s : MSt} (h : s.2.2 ≠ 0 ∧ 1 ≤ s.2.1.length) (x : Ex) : (stT q s x).2.2 ≠ 0 ∧ 1 ≤ (stT q s x).2.1.length := by
 unfold stT
 by_cases k0:x.f0=0
 ·rw [if_pos k0];exact h
 ·rw [if_neg k0]
  by_cases k1:x.f0=1
  ·rw [if_pos k1];exact h
  ·rw [if_neg k1]
   by_cases k2:x.f0=2
   ·rw [if_pos k2]
    refine ⟨?_,h.2⟩
    show (if _ then (-1:Int) else s.2.2)≠0
    split
    ·omega
    ·exact h.1
   ·rw [if_neg k2]
    by_cases k3:x.f0=3
    ·rw [if_pos k3]
     refine ⟨?_,by simp⟩
     show (s.2.1.length:Int)≠0
     have:=h.2
     omega
    ·rw [if_neg k3];exact h
theorem foldl_gone {q : Int → Int → Bool} : ∀ (l : List Ex) (s : MSt), (s.2.2 ≠ 0 ∧ 1 ≤ s.2.1.length) → (l.foldl (stT q) s).2.2 ≠ 0
 | [],s,h=>h.1
 | x :: l,s,h=>by rw [List.foldl_cons];exact foldl_gone l _ (stT_gone h x)
theorem stT_stop {t : List Cl} {a c : Int} {lg : List Int} {x : Ex} (hx : spB t a x = true) : (stT (isAB t) (lg, f0L a c, 0) x).2.2 ≠ 0 ∧ 1 ≤ (stT (isAB t) (lg, f0L a c, 0) x).2.1.length := by
 unfold spB at hx
 rw [Bool.or_eq_true,decide_eq_true_eq,Bool.and_eq_true,decide_eq_true_eq] at hx
 unfold stT
 rcases hx with k3 | ⟨k2,hx⟩
 ·rw [if_neg (by omega),if_neg (by omega),if_neg (by omega),if_pos k3]
  exact ⟨by show ((f0L a c).length:Int)≠0;simp [f0L],by simp⟩
 ·rw [if_neg (by omega),if_neg (by omega),if_pos k2]
  simp only [f0_rd,hx,Bool.and_true]
  exact ⟨by simp,by simp [f0L]⟩
theorem foldl_pass {t : List Cl} {a c : Int} : ∀ (l : List Ex) (lg : List Int), (l.all fun x => !spB t a x) = true → ∃ lg', l.foldl (stT (isAB t)) (lg, f0L a c, 0) = (lg', f0L a c, 0)
 | [],lg,_=>⟨lg,rfl⟩
 | x :: l,lg,h=>by
  rw [List.all_cons,Bool.and_eq_true] at h
  obtain ⟨lg',e⟩:=stT_pass (t:=t) (a:=a) (c:=c) (lg:=lg) (x:=x) (by simpa using h.1)
  rw [List.foldl_cons,e]
  exact foldl_pass l lg' h.2
theorem foldl_stop {t : List Cl} {a c : Int} : ∀ (l : List Ex) (lg : List Int), (l.all fun x => !spB t a x) = false → (l.foldl (stT (isAB t)) (lg, f0L a c, 0)).2.2 ≠ 0
 | [],lg,h=>by simp at h
 | x :: l,lg,h=>by
  rw [List.foldl_cons]
  cases hx:spB t a x with
  | true=>exact foldl_gone l _ (stT_stop hx)
  | false =>
   obtain ⟨lg',e⟩:=stT_pass (t:=t) (a:=a) (c:=c) (lg:=lg) (x:=x) hx
   rw [e]
   rw [List.all_cons,hx] at h
   exact foldl_stop l lg' (by simpa using h)
theorem psB_rev {t : List Cl} {l : List Ex} {a : Int} : (l.reverse.all fun x => !spB t a x) = psB t l a := by unfold psB; rw [List.all_reverse]
theorem clF_pass {t : List Cl} {l : List Ex} {a : Int} (h : psB t l a = true) (c : Int) : ∃ lg, clF t l true a c = (lg, f0L a c, 0) := by
 unfold clF
 exact foldl_pass l.reverse [] (by rw [psB_rev];exact h)
theorem clF_zero {t : List Cl} {l : List Ex} {a c : Int} : ((clF t l true a c).2.2 == 0) = psB t l a := by
 cases h:psB t l a with
 | true =>
  obtain ⟨lg,e⟩:=clF_pass h c
  rw [e];rfl
 | false =>
  have:(clF t l true a c).2.2≠0:=foldl_stop l.reverse [] (by rw [psB_rev];exact h)
  simpa using this
theorem psB_up {t : List Cl} (ht : jOb t = true) {l : List Ex} {b a : Int} (h2 : b < t.length) (h3 : -1 ≤ b) (h : psB t l b = true) (ha : isAB t b a = true) : psB t l a = true := by
 unfold psB at *
 rw [List.all_eq_true] at *
 intro x hx
 have:=h x hx
 unfold spB at *
 cases k3:decide (x.f0=3) with
 | true=>rw [k3] at this;simp at this
 | false =>
  rw [k3] at this
  cases k2:decide (x.f0=2) with
  | false=>rfl
  | true =>
   rw [k2] at this
   cases hA:isAB t a x.f1 with
   | false=>rfl
   | true =>
    have e:=isA_trans ht h2 h3 ha hA
    rw [e] at this
    simp at this
end Go.Proofs.Ytlhfcmbkjddgiaa.Pure
end
