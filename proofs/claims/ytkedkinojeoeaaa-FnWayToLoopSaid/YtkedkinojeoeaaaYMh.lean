/- One part of the proofs on this program: functions of the program as plain functions, that the code comes to them, and facts on them. -/
import Derived.Test.YtkedkinojeoeaaaYAll6
import Derived.Test.YtkedkinojeoeaaaYAll8
import Derived.Test.YtkedkinojeoeaaaYMh0
section
set_option linter.unusedSimpArgs false
set_option linter.unusedVariables false
namespace Go.Proofs.Ytkedkinojeoeaaa.Pure
open Go Go.RowKit Go.Proofs.Ytkedkinojeoeaaa.P Go.Proofs.YtkedkinojeoeaaaW.PrintWords
set_option linter.unusedVariables false
theorem ev_sLoop {p : List Ln} (hp : p.length ≤ 1048576) (L : List Nat) (hL : ∀ j ∈ L, j < p.length) (hl : L.length ≤ 1048576) : ∀ (r : List Nat) (j : Nat), L.drop j = r → Ev (fun k => jQa.l0 k p (ci L) j) (lpF p r)
 | [], j, h => by
  have := ci_end h
  refine Ev.step (fun k => by rw [jQa.l0]) ?_
  rw [jCb]
  exact Ev.neg (by omega) (Ev.now _)
 | a :: r, j, h => by
  obtain ⟨h1, h2, h3⟩ := jRc h
  have ha : a < p.length := hL a (List.mem_of_mem_drop (by rw [h]; simp))
  refine Ev.step (fun k => by rw [jQa.l0]) ?_
  rw [h2]
  simp only [jCb, r1]
  rw [wS (by omega), lpF]
  refine Ev.pos (by omega) (Ev.pos (by omega) (Ev.pos (by omega) (Ev.pos (by omega) ?_)))
  by_cases h4 : kd p a = 12
  ·refine Ev.pos h4 ?_
   rw [if_pos h4]; exact Ev.now _
  ·refine Ev.neg h4 ?_
   rw [if_neg h4]; exact ev_sLoop hp L hL hl r (j + 1) h3
theorem ev_iLoop {p : List Ln} (hp : p.length ≤ 1048576) (L : List Nat) (hL : ∀ j ∈ L, j < p.length) (hl : L.length ≤ 1048576) : ∀ (r : List Nat) (j : Nat), L.drop j = r → Ev (fun k => jDa.l0 k p (ci L) (L.length : Int) j) (lpF p r)
 | [], j, h => by
  have := ci_end h
  refine Ev.step (fun k => by rw [jDa.l0]) ?_
  exact Ev.neg (by omega) (Ev.now _)
 | a :: r, j, h => by
  obtain ⟨h1, h2, h3⟩ := jRc h
  have ha : a < p.length := hL a (List.mem_of_mem_drop (by rw [h]; simp))
  refine Ev.step (fun k => by rw [jDa.l0]) ?_
  rw [h2]
  simp only [jCb, r1]
  rw [wS (by omega), lpF]
  refine Ev.pos (by omega) (Ev.pos (by omega) (Ev.pos (by omega) (Ev.pos (by omega) (Ev.pos (by omega) ?_))))
  by_cases h4 : kd p a = 12
  ·refine Ev.pos h4 ?_
   rw [if_pos h4]; exact Ev.now _
  ·refine Ev.neg h4 ?_
   rw [if_neg h4]; exact ev_iLoop hp L hL hl r (j + 1) h3
theorem ev_loopOf {p : List Ln} (hp : p.length ≤ 1048576) (hr : DR p) {a : Nat} (ha : a < p.length) : Ev (fun k => jDa.f k p a) (lpF p (enc p a)) := by
 unfold jDa.f
 refine Ev.bind (ev_iEnc hp hr ha) ?_
 rw [jCb]
 exact ev_iLoop hp (enc p a) (enc_lt ha) (by have := jHc p a (dp p a); unfold enc; omega) _ 0 rfl
theorem ev_LoopOf {p : List Ln} {t : List Cl} (hp : p.length ≤ 1048576) (ht : TS t) (a : Int) : ∃ r, Ev (fun k => jQa.f k t p a) r ∧ Ev (fun k => jNb.f k t p a) r ∧ ((∀ n : Nat, jPb t p → a = (n : Int) → n < p.length → r = lpF p (enc p n)) ∧ (¬ At t p a → r = -1)) := by
 obtain ⟨b, h1, h2, h3⟩ := ev_goods hp ht a
 unfold jQa.f jNb.f
 cases b with
 | false =>
  have hn : ¬ At t p a := fun h => by cases h3.mpr h
  exact ⟨-1, Ev.bind h1 (Ev.neg (by simp) (Ev.now _)), Ev.bind h2 (Ev.neg (by simp) (Ev.now _)), fun n hv he hn2 => absurd ⟨hv, by omega, by omega⟩ hn, fun _ => rfl⟩
 | true =>
  have hA := h3.mp rfl
  obtain ⟨n, rfl, hn⟩ := hA.nat
  refine ⟨lpF p (enc p n), Ev.bind h1 (Ev.pos rfl (Ev.bind (ev_sEnc hp hn) ?_)), Ev.bind h2 (Ev.pos rfl (Ev.bind (ev_loopOf hp hA.1.dr hn) (Ev.now _))), fun m _ he _ => by rw [show m = n from by omega], fun h => absurd hA h⟩
  exact ev_sLoop hp (enc p n) (enc_lt hn) (by have := jHc p n (dp p n); unfold enc; omega) _ 0 rfl
end Go.Proofs.Ytkedkinojeoeaaa.Pure
end
