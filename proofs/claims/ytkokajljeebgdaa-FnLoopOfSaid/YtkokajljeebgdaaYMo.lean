/- One part of the proofs on this program: functions of the program as plain functions, that the code comes to them, and facts on them. -/
import Derived.Test.YtkokajljeebgdaaYCD1
import Derived.Test.YtkokajljeebgdaaYMo0
section
namespace Go.Proofs.Ytkokajljeebgdaa.Pure
open Go Go.RowKit Go.Proofs.Ytkokajljeebgdaa.P Go.Proofs.YtkokajljeebgdaaW.PrintWords
set_option linter.unusedVariables false
theorem ev_EnclosingOf' {p : List Ln} {t : List Cl} (hp : p.length ≤ 1048576) (ht : TS t) (a : Int) : Ev (fun k => spec_EnclosingOf.f k t p a) (rEnc t p a) ∧ Ev (fun k => impl_EnclosingOf.f k t p a) (rEnc t p a) ∧ (rEnc t p a).length ≤ 1048576 := by
 refine ⟨?_, ev_iEnclosingOf hp ht a, ?_⟩
 ·obtain ⟨b, h1, h2, h3⟩ := ev_goods hp ht a
  unfold spec_EnclosingOf.f rEnc
  cases b with
  | false =>
   rw [if_neg (fun h => by cases h3.mpr h)]
   exact Ev.bind h1 (Ev.neg (by simp) (Ev.now _))
  | true =>
   have hA := h3.mp rfl
   obtain ⟨n, rfl, hn⟩ := hA.nat
   rw [if_pos hA]
   exact Ev.bind h1 (Ev.pos rfl (Ev.bind (ev_sEnc hp hn) (Ev.now _)))
 ·unfold rEnc
  by_cases hA : At t p a
  ·rw [if_pos hA, ci_len]
   have := enc_len p a.toNat
   have := hA.2.2
   omega
  ·rw [if_neg hA]; simp
end Go.Proofs.Ytkokajljeebgdaa.Pure
end
