/- One part of the proofs on this program: functions of the program as plain functions, that the code comes to them, and facts on them. -/
import Derived.Test.YtkhiiiddbmgiaaaYD8
import Derived.Test.YtkhiiiddbmgiaaaYMh0
section
set_option linter.unusedSimpArgs false
set_option linter.unusedVariables false
namespace Go.Proofs.Ytkhiiiddbmgiaaa.Pure
open Go Go.RowKit Go.Proofs.Ytkhiiiddbmgiaaa.P Go.Proofs.YtkhiiiddbmgiaaaW.PrintWords
set_option linter.unusedVariables false
def thN (p : List Ln) : Nat → Nat → Nat
 | 0,i=>i
 | n+1,i=>if kd p i=7 then i else match hdN p (dp p i) i with | none=>i | some m=>thN p n m
def thd (p : List Ln) (i : Nat) : Nat := thN p (i + 1) i
def inTry (p : List Ln) (i : Nat) : Prop := kd p i = 7 ∨ isF (kd p i) = true
theorem chain_step {p : List Ln} {T i m : Nat} (hT : T < p.length) (hm : m ∈ chain p T) (h1 : bEnd p m = i) (h2 : i < p.length) (h3 : dp p i = dp p T) (h4 : isF (kd p i) = true) : i ∈ chain p T := by
 have key:∀ (n k:Nat),p.length≤n+k→m ∈ jIa p (dp p T) n k→i ∈ jIa p (dp p T) n k:=by
  intro n
  induction n with
  | zero=>intro k _ h;simp [jIa] at h
  | succ n ih =>
   intro k hk h
   simp only [jIa] at h ⊢
   split at h
   ·rename_i hc
    rw [if_pos hc]
    have g:=jNa p k
    rcases List.mem_cons.mp h with rfl | h
    ·refine List.mem_cons_of_mem _ ?_
     cases n with
     | zero=>omega
     | succ n =>
      simp only [jIa]
      rw [h1,if_pos ⟨h2,h3,h4⟩]
      exact List.mem_cons_self
    ·exact List.mem_cons_of_mem _ (ih _ (by omega) h)
   ·simp at h
 unfold chain jHa at hm ⊢
 rcases List.mem_cons.mp hm with rfl | hm
 ·refine List.mem_cons_of_mem _ ?_
  have g:=jNa p m
  rw [h1]
  cases hl:p.length with
  | zero=>omega
  | succ n =>
   simp only [jIa]
   rw [if_pos ⟨h2,h3,h4⟩]
   exact List.mem_cons_self
 ·exact List.mem_cons_of_mem _ (key _ _ (by omega) hm)
structure IsTry (p : List Ln) (i T : Nat) : Prop where
 le:T≤i
 try_:kd p T=7
 deep:dp p T=dp p i
 only:∀ j,T<j→j≤i→dp p j=dp p i→kd p j≠7
 low:∀ j,T≤j→j≤i→dp p i≤dp p j
 mem:i ∈ chain p T
theorem thN_is {t : List Cl} {p : List Ln} (hv : jyb t p) : ∀ (n i : Nat), i < n → i < p.length → inTry p i → IsTry p i (thN p n i)
 | 0,i,h,_,_=>by omega
 | n+1,i,h,hi,hk=>by
  simp only [thN]
  by_cases h7:kd p i=7
  ·rw [if_pos h7]
   exact ⟨Nat.le_refl _,h7,rfl,fun j a b=>by omega,fun j a b=>by rw [show j=i from by omega];omega,List.mem_cons_self⟩
  ·rw [if_neg h7]
   have hF:isF (kd p i)=true:=by rcases hk with h | h;exact absurd h h7;exact h
   obtain ⟨m,hm,hk2⟩:=((good_top hi).mp (hv.2.2 i hi).2.2.2).2.2 hF
   rw [hm]
   show IsTry p i (thN p n m)
   obtain ⟨a,b,c⟩:=(hdN_iff p _ i m).mp hm
   have ih:=thN_is hv n m (by omega) (by omega) hk2
   have hb:bEnd p m=i:=bEnd_uniq a (by omega) (fun j x y=>by rw [b];exact c j x y) (fun _=>by omega)
   have hle:=ih.le
   refine ⟨by omega,ih.try_,by rw [ih.deep,b],fun j x y z=>?_,fun j x y=>?_,chain_step (by omega) ih.mem hb hi (by rw [ih.deep,b]) hF⟩
   ·by_cases e1:j=i
    ·rw [e1];exact h7
    ·by_cases e2:j≤m
     ·exact ih.only j x e2 (by rw [z,b])
     ·have:=c j (by omega) (by omega);omega
   ·by_cases e1:j=i
    ·rw [e1];omega
    ·by_cases e2:j≤m
     ·have:=ih.low j x e2;omega
     ·have:=c j (by omega) (by omega);omega
theorem thd_is {t : List Cl} {p : List Ln} (hv : jyb t p) {i : Nat} (hi : i < p.length) (hk : inTry p i) : IsTry p i (thd p i) := thN_is hv (i + 1) i (by omega) hi hk
end Go.Proofs.Ytkhiiiddbmgiaaa.Pure
end
