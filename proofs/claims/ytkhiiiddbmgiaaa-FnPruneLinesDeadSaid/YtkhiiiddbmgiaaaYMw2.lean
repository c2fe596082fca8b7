/- One part of the proofs on this program: functions of the program as plain functions, that the code comes to them, and facts on them. -/
import Derived.Test.YtkhiiiddbmgiaaaYMe2
import Derived.Test.YtkhiiiddbmgiaaaYMi
section
set_option linter.unusedSimpArgs false
set_option linter.unusedVariables false
namespace Go.Proofs.Ytkhiiiddbmgiaaa.Pure
open Go Go.RowKit Go.Proofs.Ytkhiiiddbmgiaaa.P Go.Proofs.YtkhiiiddbmgiaaaW.PrintWords
set_option linter.unusedVariables false
theorem chainN_low {p : List Ln} {d : Int} : ∀ (n k : Nat), p.length ≤ n + k → ∀ e ∈ jIa p d n k, ∀ j, k ≤ j → j ≤ e → d ≤ dp p j ∧ (dp p j = d → isF (kd p j) = true)
 | 0,k,_,e,h,_,_,_=>by simp [jIa] at h
 | n+1,k,hk,e,h,j,h1,h2=>by
  rw [jIa] at h
  by_cases hc:k<p.length∧dp p k=d∧isF (kd p k)=true
  ·rw [if_pos hc] at h
   have g:=jNa p k
   by_cases e1:j=k
   ·rw [e1];exact ⟨by omega,fun _=>hc.2.2⟩
   ·by_cases e2:j<bEnd p k
    ·have:=jqb (p:=p) (i:=k) (j:=j) (by omega) e2
     exact ⟨by omega,fun h=>by omega⟩
    ·rcases List.mem_cons.mp h with rfl | h
     ·omega
     ·exact chainN_low n _ (by omega) e h j (by omega) h2
  ·rw [if_neg hc] at h;simp at h
theorem isTry_chain {p : List Ln} {T e : Nat} (h7 : kd p T = 7) (he : e ∈ chain p T) : IsTry p e T := by
 have g:=jNa p T
 rcases List.mem_cons.mp he with rfl | h
 ·exact ⟨Nat.le_refl _,h7,rfl,fun j a b=>by omega,fun j a b=>by rw [show j=e from by omega];omega,he⟩
 ·have hm:=jbc h
  have hl:=fun j=>chainN_low _ _ (by omega) e h j
  refine ⟨by omega,h7,hm.2.2.1.symm,fun j a b c=>?_,fun j a b=>?_,he⟩
  ·by_cases hj:j<bEnd p T
   ·have:=jqb (p:=p) a hj
    rw [c,hm.2.2.1] at this
    omega
   ·have:=jRb.mp ((hl j (by omega) b).2 (by rw [c];exact hm.2.2.1))
    omega
  ·rw [hm.2.2.1]
   by_cases hj:j=T
   ·rw [hj];omega
   ·by_cases hj2:j<bEnd p T
    ·have:=jqb (p:=p) (i:=T) (j:=j) (by omega) hj2;omega
    ·exact (hl j (by omega) b).1
theorem IsTry.uniq {p : List Ln} {e T T' : Nat} (h : IsTry p e T) (h' : IsTry p e T') : T = T' := by
 rcases Nat.lt_trichotomy T T' with x | x | x
 ·exact absurd h'.try_ (h.only T' x h'.le h'.deep)
 ·exact x
 ·exact absurd h.try_ (h'.only T x h.le h.deep)
theorem thd_chain {t : List Cl} {p : List Ln} (hv : jyb t p) {T e : Nat} (hT : T < p.length) (h7 : kd p T = 7) (he : e ∈ chain p T) : thd p e = T ∧ inTry p e ∧ e < p.length := by
 have hlt:=chain_lt hT e he
 have hin:inTry p e:=by
  rcases List.mem_cons.mp he with rfl | h
  ·exact .inl h7
  ·exact .inr (jbc h).2.2.2
 exact ⟨(thd_is hv hlt hin).uniq (isTry_chain h7 he),hin,hlt⟩
theorem jcc {p : List Ln} {d : Int} : ∀ (n k : Nat), (∀ e ∈ jIa p d n k, k ≤ e) ∧ (jIa p d n k).Pairwise (· < ·)
 | 0,k=>⟨by simp [jIa],by simp [jIa]⟩
 | n+1,k=>by
  have g:=jNa p k
  obtain ⟨h1,h2⟩:=jcc (p:=p) (d:=d) n (bEnd p k)
  rw [jIa]
  split
  ·refine ⟨fun e h=>?_,List.pairwise_cons.mpr ⟨fun e h=>?_,h2⟩⟩
   ·rcases List.mem_cons.mp h with rfl | h
    ·omega
    ·have:=h1 e h;omega
   ·have:=h1 e h;omega
  ·exact ⟨by simp,by simp⟩
end Go.Proofs.Ytkhiiiddbmgiaaa.Pure
end
