/- One part of the proofs on this program: functions of the program as plain functions, that the code comes to them, and facts on them. -/
import Derived.Test.YtbcjbcjpoddkoaaYMtb2
section
set_option linter.unusedSimpArgs false
set_option linter.unusedVariables false
namespace Go.Proofs.Ytbcjbcjpoddkoaa.Pure
open Go Go.RowKit Go.Proofs.Ytbcjbcjpoddkoaa.P Go.Proofs.YtbcjbcjpoddkoaaW.PrintWords
set_option linter.unusedVariables false
theorem mem_tbL {p : List Ln} {a : Nat} {x : Rg} (h : x ∈ tbL p a) : x.f0 = ((a + 1 : Nat) : Int) ∧ x.f1 = ((bEnd p a : Nat) : Int) ∧
  ((kd p a=11∧lb p a=1∧x.f2=(a:Int)∧x.f3=0)∨(kd p a=7∧∃ e ∈ jib p a,kd p e=8∧x.f2=(e:Int)∧x.f3=la p e)):=by
 unfold tbL at h
 rcases List.mem_append.mp h with h | h
 ·split at h
  ·rename_i hc
   rw [List.mem_singleton] at h
   subst h
   exact ⟨rfl,rfl, .inl ⟨hc.1,hc.2,rfl,rfl⟩⟩
  ·cases h
 ·split at h
  ·rename_i hc
   simp only [tbX,List.mem_map,List.mem_filter] at h
   obtain ⟨e,⟨h1,h2⟩,rfl⟩:=h
   exact ⟨rfl,rfl, .inr ⟨hc,e,h1,by simpa using h2,rfl,rfl⟩⟩
  ·cases h
theorem mem_tbN {p : List Ln} {x : Rg} : ∀ n, x ∈ tbN p n → ∃ a, a < n ∧ x ∈ tbL p a
 | 0,h=>by cases h
 | n+1,h=>by
  rcases List.mem_append.mp h with h | h
  ·exact ⟨n,by omega,h⟩
  ·obtain ⟨a,h1,h2⟩:=mem_tbN n h;exact ⟨a,by omega,h2⟩
theorem bEnd_two {p : List Ln} (hr : DR p) {a : Nat} (ha : a < p.length) (ho : isO (kd p a) = true) : a + 2 ≤ bEnd p a := by
 have hl:a+1<p.length:=by
  rcases Nat.lt_or_ge (a+1) p.length with h | h
  ·exact h
  ·have:=hr.last a (by omega)
   rw [this] at ho;cases ho
 have hd:=hr.deeper a hl ho
 have hg:=jeb p a
 rcases Nat.lt_or_ge (a+1) (bEnd p a) with h | h
 ·exact h
 ·have e:bEnd p a=a+1:=by omega
  have:=bEnd_at (p:=p) (i:=a) (by omega)
  rw [e] at this
  omega
theorem tb_from_to {p : List Ln} (hr : DR p) {x : Rg} (h : x ∈ tbN p p.length) : x.f0 < x.f1 ∧ x.f1 ≤ (p.length : Int) := by
 obtain ⟨a,ha,hx⟩:=mem_tbN _ h
 obtain ⟨h0,h1,h2⟩:=mem_tbL hx
 have ho:isO (kd p a)=true:=by
  rw [isO_iff]
  rcases h2 with h2 | h2
  ·omega
  ·omega
 have:=bEnd_two hr ha ho
 have:=bEnd_le ha
 omega
end Go.Proofs.Ytbcjbcjpoddkoaa.Pure
end
