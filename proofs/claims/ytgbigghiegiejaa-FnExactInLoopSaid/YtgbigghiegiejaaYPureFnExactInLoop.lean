/- One part of the proofs on this program: functions of the program as plain functions, that the code comes to them, and facts on them. -/
import Derived.Test.YtgbigghiegiejaaYAll4
import Derived.Test.YtgbigghiegiejaaYB1
import Derived.Test.YtgbigghiegiejaaYMf
import Derived.Test.YtgbigghiegiejaaYMk2
import Derived.Test.YtgbigghiegiejaaYMth
section
set_option linter.unusedSimpArgs false
set_option linter.unusedVariables false
namespace Go.Proofs.Ytgbigghiegiejaa.Pure
open Go Go.RowKit Go.Proofs.Ytgbigghiegiejaa.P Go.Proofs.YtgbigghiegiejaaW.PrintWords
set_option linter.unusedVariables false
theorem ev_bothInLoop {p : List Ln} {t : List Cl} (a : Int) (hp : p.length ≤ 1048576) (ht : TS t) : ∃ r, Ev (fun k => spec_InLoop.f k t p a) r ∧ Ev (fun k => impl_InLoop.f k t p a) r ∧ r.1.length ≤ 1048576 := by
 unfold spec_InLoop.f impl_InLoop.f
 have h1 := sValid hp ht
 have h2 := iValid hp ht
 cases hv : (vB t p) with
 | false =>
  rw [hv] at h1 h2
  exact ⟨([], false), Ev.bind h1 (Ev.neg (by simp) (Ev.now _)), Ev.bind h2 (Ev.neg (by simp) (Ev.now _)), by simp⟩
 | true =>
  rw [hv] at h1 h2
  have l1 := vB_len hv
  have i1 := inn_len p
  have hl : (⟨0, 12, a, 0⟩ :: inn p : List Ln).length ≤ 1048576 := by simp only [List.length_append, List.length_cons]; omega
  have hc : slices_Concat_Line.f [[⟨0, 12, a, 0⟩], inn p] = some (⟨0, 12, a, 0⟩ :: inn p) := by
   have e : ([[⟨0, 12, a, 0⟩], inn p] : List (List Ln)).flatten = ⟨0, 12, a, 0⟩ :: inn p := by simp
   rw [concatN (by rw [e]; omega), e]
  refine ⟨okP t (⟨0, 12, a, 0⟩ :: inn p), ?_, ?_, okP_le hl⟩
  ·exact Ev.bind h1 (Ev.pos rfl (Ev.bind (ev_under hp _ _ _ _) (Ev.bind (ev_checked hl ht) (Ev.now _))))
  ·refine Ev.bind h2 (Ev.pos rfl (Ev.bind (ev_inner hp) ?_))
   rw [hc]
   exact Ev.bind (Ev.now _) (Ev.bind (ev_made hl ht) (Ev.now _))
theorem FnExactInLoop : ∀ (l0_0 : List S62) (l1 : List S52) (a2 : Int), l0_0.length ≤ 9223372036854775807 → (∀ y ∈ l0_0, good62 y) → l1.length ≤ 9223372036854775807 → (∀ y ∈ l1, good52 y) → (Lit.int .i64 a2).wf = true → ∃ k, laws_FnExactInLoop.f k l0_0 l1 a2 = some true := by
 intro t p a ht htg hp hpg ha 
 refine Ev.rounds (g := fun k => laws_FnExactInLoop.f k t p a) ?_
 obtain ⟨r, h1, h2⟩ := ev_szTree ht htg (a := 1048576) (by omega) (by omega)
 unfold laws_FnExactInLoop.f
 by_cases hr : r < 0
 ·exact Ev.bind h1 (Ev.pos hr (Ev.now _))
 obtain ⟨r1, h3, h4⟩ := szLineS_eq (l := p) hp (a := r) (by omega) (by omega)
 rcases h2 with h2 | ⟨_, _, hT⟩
 ·exact absurd h2 hr
 refine Ev.bind h1 (Ev.neg hr ?_)
 rw [h3]
 simp only [Option.bind_some]
 by_cases hr1 : r1 < 0
 ·exact Ev.pos hr1 (Ev.now _)
 rcases h4 with h4 | ⟨_, _, hP⟩
 ·exact absurd h4 hr1
 have ht2 := hT.1
 have hp2 : p.length ≤ 1048576 := by simpa [tP] using hP
 have ht3 : t.length ≤ 1048576 := by simpa [tT] using ht2
 have eT := ev_toTree ht3
 have eP := ev_toLineS hp2
 obtain ⟨z, z1, z2, hz⟩ := ev_bothInLoop a hP hT
 obtain ⟨m1, hm1⟩ := ev_markTree ht2
 obtain ⟨m2, hm2⟩ := ev_markLineS hP (a := 1 + 2 * ((tT t).length : Int)) (by omega) (by omega)
 have hM := ev_markLineS2 hz
 have hH := ev_heldLineS (m := z.1.length) hz
 have hE := ev_eqLineS hz
 have hb : (z.2 != z.2) = false := by cases z.2 <;> rfl
 have fin : Ev (fun k => laws_FnExactInLoop.j2 k (marksL z.1.length) (1 + 4 * (z.1.length : Int)) false) true := by
  refine Ev.step (fun k => by rw [laws_FnExactInLoop.j2]) ?_
  exact Ev.neg (by simp) (Ev.bind hH (Ev.neg (by omega) (Ev.pos rfl (Ev.now _))))
 refine Ev.neg hr1 (Ev.bind eT (Ev.bind eP (Ev.bind z1 (Ev.bind eT (Ev.bind eP (Ev.bind z2 (Ev.bind hE (Ev.pos rfl ?_))))))))
 rw [hb]
 refine Ev.step (fun k => by rw [laws_FnExactInLoop.j0]) ?_
 refine Ev.neg (by simp) (Ev.bind eT (Ev.bind (ev_eqTree ht2) (Ev.pos rfl (Ev.bind eP (Ev.bind (ev_eqLineS hP) (Ev.pos rfl ?_))))))
 refine Ev.bind hm1 (Ev.bind hm2 (Ev.neg (by simp only []; omega) (Ev.bind hE (Ev.pos rfl ?_))))
 rw [hb]
 refine Ev.step (fun k => by rw [laws_FnExactInLoop.j1]) ?_
 refine Ev.neg (by simp) (Ev.bind hM (Ev.bind hH (Ev.neg (by omega) (Ev.pos rfl ?_))))
 refine Ev.bind eT (Ev.bind eP (Ev.bind z2 (Ev.bind hE (Ev.pos rfl ?_))))
 rw [hb]
 exact fin
end Go.Proofs.Ytgbigghiegiejaa.Pure
end
