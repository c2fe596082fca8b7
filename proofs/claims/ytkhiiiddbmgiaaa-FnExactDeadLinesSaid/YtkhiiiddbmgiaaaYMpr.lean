/- One part of the proofs on this program: functions of the program as plain functions, that the code comes to them, and facts on them. -/
import Derived.Test.YtkhiiiddbmgiaaaYAll3
import Derived.Test.YtkhiiiddbmgiaaaYAll5
import Derived.Test.YtkhiiiddbmgiaaaYAll6
import Derived.Test.YtkhiiiddbmgiaaaYMb
import Derived.Test.YtkhiiiddbmgiaaaYMe
import Derived.Test.YtkhiiiddbmgiaaaYMg
section
set_option linter.unusedSimpArgs false
set_option linter.unusedVariables false
namespace Go.Proofs.Ytkhiiiddbmgiaaa.Pure
open Go Go.RowKit Go.Proofs.Ytkhiiiddbmgiaaa.P Go.Proofs.YtkhiiiddbmgiaaaW.PrintWords
set_option linter.unusedVariables false
def bjD (p : List Ln) (i : Nat) : Nat → Bool
 | 0=>false
 | n+1=>if dp p i≤dp p n then (if dp p n=dp p i∧jmpB (kd p n)=true then true else bjD p i n) else false
theorem ev_jumps (a : Int) (k : Nat) : jhb.f a = some (jmpB a) := by unfold jhb.f; rw [inR]; rfl
theorem ev_bj {p : List Ln} (hp : p.length ≤ 1048576) {i : Nat} (hi : i < p.length) : ∀ n, n ≤ i → Ev (fun k => jQ.l0 k p i ((n : Int) - 1)) (bjD p i n)
 | 0,_=>by
  refine Ev.step (fun k=>by rw [jQ.l0]) ?_
  refine Ev.neg (by omega) ?_
  refine Ev.step (fun k=>by rw [jQ.j1]) ?_
  exact Ev.neg (by simp) (Ev.now _)
 | n+1,h=>by
  have ih:=ev_bj hp hi n (by omega)
  have e:(((n+1:Nat):Int) - 1)=(n:Int):=by omega
  have e2:wrap64 ((n:Int) - 1)=(n:Int) - 1:=by rw [wr (by omega)]
  rw [e]
  refine Ev.step (fun k=>by rw [jQ.l0]) ?_
  refine Ev.pos (by omega) (Ev.pos (by omega) (Ev.pos (by omega) (Ev.pos (by omega) (Ev.pos (by omega) ?_))))
  refine Ev.step (fun k=>by rw [jQ.j1]) ?_
  simp only [r0,r1,ev_jumps _ 0]
  unfold bjD
  by_cases h1:dp p i≤dp p n
  ·rw [if_pos h1]
   refine Ev.pos (by simpa using h1) (Ev.pos (by omega) (Ev.pos (by omega) (Ev.pos (by omega) (Ev.pos (by omega) ?_))))
   by_cases h2:dp p n=dp p i
   ·refine Ev.pos h2 (Ev.bind (Ev.now _) ?_)
    by_cases h3:jmpB (kd p n)=true
    ·rw [if_pos ⟨h2,h3⟩];exact Ev.pos h3 (Ev.now _)
    ·rw [if_neg (fun h=>h3 h.2)];rw [e2];exact Ev.neg h3 ih
   ·rw [if_neg (fun h=>h2 h.1),e2];exact Ev.neg h2 ih
  ·rw [if_neg h1]
   exact Ev.neg (by simpa using h1) (Ev.now _)
theorem ev_behindJump {p : List Ln} (hp : p.length ≤ 1048576) {i : Nat} (hi : i < p.length) : Ev (fun k => jQ.f k p i) (bjD p i i) := by
 unfold jQ.f
 rw [wr (by omega)]
 exact ev_bj hp hi i (Nat.le_refl _)
theorem bjD_iff (p : List Ln) (i : Nat) : ∀ n, bjD p i n = true ↔ ∃ m, m < n ∧ jmpB (kd p m) = true ∧ dp p m = dp p i ∧ ∀ x, m < x → x < n → dp p i ≤ dp p x
 | 0=>by simp [bjD]
 | n+1=>by
  have ih:=bjD_iff p i n
  unfold bjD
  by_cases h1:dp p i≤dp p n
  ·rw [if_pos h1]
   by_cases h2:dp p n=dp p i∧jmpB (kd p n)=true
   ·rw [if_pos h2]
    exact ⟨fun _=>⟨n,by omega,h2.2,h2.1,fun x a b=>by omega⟩,fun _=>rfl⟩
   ·rw [if_neg h2,ih]
    constructor
    ·rintro ⟨m,a,b,c,d⟩
     refine ⟨m,by omega,b,c,fun x x1 x2=>?_⟩
     rcases Nat.lt_or_ge x n with e | e
     ·exact d x x1 e
     ·rw [show x=n by omega];exact h1
    ·rintro ⟨m,a,b,c,d⟩
     rcases Nat.lt_or_ge m n with e | e
     ·exact ⟨m,e,b,c,fun x x1 x2=>d x x1 (by omega)⟩
     ·rw [show m=n by omega] at b c;exact absurd ⟨c,b⟩ h2
  ·rw [if_neg h1]
   constructor
   ·intro h;cases h
   ·rintro ⟨m,a,b,c,d⟩
    rcases Nat.lt_or_ge m n with e | e
    ·exact absurd (d n e (by omega)) h1
    ·rw [show m=n by omega] at c;omega
theorem bjE_spec (p : List Ln) (d : Int) : ∀ (n k : Nat), p.length ≤ n + k →
  k≤bjE p d n k∧(∀ j,k≤j→j<bjE p d n k→d≤dp p j)∧(bjE p d n k<p.length→dp p (bjE p d n k)<d)
 | 0,k,h=>⟨Nat.le_refl _,fun j h1 h2=>absurd h2 (by simp only [bjE];omega),fun h2=>absurd h2 (by simp only [bjE];omega)⟩
 | n+1,k,h=>by
  simp only [bjE]
  by_cases h1:(k:Int)<(p.length:Int)∧d≤(jb p (k:Int)).f0
  ·rw [if_pos h1]
   obtain ⟨a,b,c⟩:=bjE_spec p d n (k+1) (by omega)
   refine ⟨by omega,fun j h2 h3=>?_,c⟩
   by_cases e:j=k
   ·rw [e];exact h1.2
   ·exact b j (by omega) h3
  ·rw [if_neg h1]
   refine ⟨Nat.le_refl _,fun j h2 h3=>by omega,fun h2=>?_⟩
   have:¬ d≤dp p k:=fun h3=>h1 ⟨by omega,h3⟩
   omega
theorem bjN_iff (p : List Ln) (y : Int) : ∀ n, bjN p n y = true ↔ ∃ m, m < n ∧ bjR p m y = true
 | 0=>by simp [bjN]
 | n+1=>by
  unfold bjN
  rw [Bool.or_eq_true,bjN_iff p y n]
  constructor
  ·rintro (⟨m,a,b⟩ | h)
   ·exact ⟨m,by omega,b⟩
   ·exact ⟨n,by omega,h⟩
  ·rintro ⟨m,a,b⟩
   rcases Nat.lt_or_ge m n with e | e
   ·exact .inl ⟨m,e,b⟩
   ·rw [show m=n by omega] at b;exact .inr b
theorem bjS_iff {p : List Ln} {i : Nat} (hi : i < p.length) : bjS p (i : Int) = true ↔ ∃ m, m < i ∧ jmpB (kd p m) = true ∧ ∀ x, m < x → x ≤ i → dp p m ≤ dp p x := by
 unfold bjS
 rw [bjN_iff]
 constructor
 ·rintro ⟨m,h1,h2⟩
  simp only [bjR,Bool.and_eq_true,decide_eq_true_eq,r0,r1] at h2
  obtain ⟨h2,h3,h4⟩:=h2
  exact ⟨m,by omega,h2,fun x a b=>(bjE_spec p (dp p m) (p.length - (m+1)) (m+1) (by omega)).2.1 x (by omega) (Int.ofNat_lt.mp (Int.lt_of_le_of_lt (Int.ofNat_le.mpr b) (of_decide_eq_true h4)))⟩
 ·rintro ⟨m,h1,h2,h3⟩
  refine ⟨m,by omega,?_⟩
  simp only [bjR,Bool.and_eq_true,decide_eq_true_eq,r0,r1]
  obtain ⟨a,b,c⟩:=bjE_spec p (dp p m) (p.length - (m+1)) (m+1) (by omega)
  refine ⟨h2,by omega,?_⟩
  rcases Nat.lt_or_ge i (bjE p (dp p m) (p.length - (m+1)) (m+1)) with e | e
  ·exact decide_eq_true (Int.ofNat_lt.mpr e)
  ·have:=h3 _ (by omega:m<bjE p (dp p m) (p.length - (m+1)) (m+1)) e
   have:=c (by omega)
   omega
end Go.Proofs.Ytkhiiiddbmgiaaa.Pure
end
