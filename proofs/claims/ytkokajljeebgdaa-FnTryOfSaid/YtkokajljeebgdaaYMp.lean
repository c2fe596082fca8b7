/- One part of the proofs on this program: functions of the program as plain functions, that the code comes to them, and facts on them. -/
import Derived.Test.YtkokajljeebgdaaYB5
import Derived.Test.YtkokajljeebgdaaYMp0
section
set_option linter.unusedSimpArgs false
set_option linter.unusedVariables false
namespace Go.Proofs.Ytkokajljeebgdaa.Pure
open Go Go.RowKit Go.Proofs.Ytkokajljeebgdaa.P Go.Proofs.YtkokajljeebgdaaW.PrintWords
set_option linter.unusedVariables false
theorem ev_TryOf' {p : List Ln} {t : List Cl} (hp : p.length ≤ 1048576) (ht : TS t) (a : Int) : Ev (fun k => spec_TryOf.f k t p a) (rTry t p a) ∧ Ev (fun k => impl_TryOf.f k t p a) (rTry t p a) ∧ (rTry t p a).length ≤ 1048577 := by
 obtain ⟨b, h1, h2, h3⟩ := ev_goods hp ht a
 unfold spec_TryOf.f impl_TryOf.f rTry
 have stop : Ev (fun k => spec_TryOf.j0 k p a true) ([] : List Int) := by
  refine Ev.step (fun k => by rw [spec_TryOf.j0]) ?_
  exact Ev.pos rfl (Ev.now _)
 cases b with
 | false =>
  rw [if_neg (fun h => by cases h3.mpr h.1)]
  exact ⟨Ev.bind h1 (Ev.neg (by simp) stop), Ev.bind h2 (Ev.neg (by simp) (Ev.now _)), by simp⟩
 | true =>
  have hA := h3.mp rfl
  obtain ⟨n, rfl, hn⟩ := hA.nat
  simp only [Int.toNat_natCast, r1, fol, iW, Option.bind_some]
  have hs : ∀ q : Bool, q = decide (¬ (kd p n = 7 ∨ 8 ≤ kd p n ∧ kd p n ≤ 10)) → Ev (fun k => spec_TryOf.j0 k p n q) (@ite _ (At t p n ∧ inTry p n) (Classical.propDecidable _) (ci (chain p (thd p n))) []) := by
   intro q hq
   by_cases hk : inTry p n
   ·rw [if_pos ⟨hA, hk⟩]
    have e : q = false := by rw [hq, decide_eq_false_iff_not]; rw [inTry, isF_iff] at hk; exact fun h => h hk
    subst e
    refine Ev.step (fun k => by rw [spec_TryOf.j0]) ?_
    exact Ev.neg (by simp) (Ev.bind (ev_sTryOf hp hA.1 hn hk) (Ev.bind (ev_chainOf hp ((thd_is hA.1 hn hk).lt hn)) (Ev.now _)))
   ·rw [if_neg (fun h => hk h.2)]
    have e : q = true := by rw [hq, decide_eq_true_eq]; rw [inTry, isF_iff] at hk; exact hk
    subst e
    exact stop
  refine ⟨Ev.bind h1 (Ev.pos rfl (Ev.pos (by omega) (Ev.pos (by omega) ?_))), Ev.bind h2 (Ev.pos rfl (Ev.pos (by omega) (Ev.pos (by omega) ?_))), ?_⟩
  ·refine Ev.both (fun c => hs _ (by simp [c])) (fun c => hs _ ?_)
   rw [Bool.eq_iff_iff]; simp [isF]; omega
  ·by_cases hk : inTry p n
   ·rw [if_pos ⟨hA, hk⟩]
    have e : bw (kd p n) 7 10 = true := by rw [bw_iff]; rw [inTry, isF_iff] at hk; omega
    exact Ev.pos e (Ev.bind (ev_iTryOf hp hA.1 hn hk) (Ev.now _))
   ·rw [if_neg (fun h => hk h.2)]
    have e : ¬ bw (kd p n) 7 10 = true := by rw [bw_iff]; rw [inTry, isF_iff] at hk; omega
    exact Ev.neg e (Ev.now _)
  ·by_cases hk : At t p n ∧ inTry p n
   ·rw [if_pos hk, ci_len]
    have := chain_len p (dp p (thd p n)) p.length (bEnd p (thd p n))
    simp only [chain, chainT, List.length_cons]; omega
   ·rw [if_neg hk]; simp
end Go.Proofs.Ytkokajljeebgdaa.Pure
end
