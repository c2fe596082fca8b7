/- One part of the proofs on this program: functions of the program as plain functions, that the code comes to them, and facts on them. -/
import Derived.Test.YtgbigghiegiejaaYAll4
import Derived.Test.YtgbigghiegiejaaYD1
import Derived.Test.YtgbigghiegiejaaYD2
import Derived.Test.YtgbigghiegiejaaYMf
import Derived.Test.YtgbigghiegiejaaYMk2
import Derived.Test.YtgbigghiegiejaaYMth
section
set_option linter.unusedSimpArgs false
set_option linter.unusedVariables false
namespace Go.Proofs.Ytgbigghiegiejaa.Pure
open Go Go.RowKit Go.Proofs.Ytgbigghiegiejaa.P Go.Proofs.YtgbigghiegiejaaW.PrintWords
set_option linter.unusedVariables false
theorem ev_bothWithFinally {p q : List Ln} {t : List Cl} (hp : p.length ≤ 1048576) (hq : q.length ≤ 1048576) (ht : TS t) : ∃ r, Ev (fun k => spec_WithFinally.f k t p q) r ∧ Ev (fun k => impl_WithFinally.f k t p q) r ∧ r.1.length ≤ 1048576 := by
 unfold spec_WithFinally.f impl_WithFinally.f
 obtain ⟨h1, h2⟩ := ev_both hp hq ht
 cases hv : (vB t p && vB t q) with
 | false =>
  rw [hv] at h1 h2
  exact ⟨([], false), Ev.bind h1 (Ev.neg (by simp) (Ev.now _)), Ev.bind h2 (Ev.neg (by simp) (Ev.now _)), by simp⟩
 | true =>
  rw [hv] at h1 h2
  simp only [Bool.and_eq_true] at hv
  have l1 := vB_len hv.1
  have l2 := vB_len hv.2
  have i1 := inn_len p
  have i2 := inn_len q
  have hl : ((⟨0, 7, 0, 0⟩ :: inn p) ++ (⟨0, 10, 0, 0⟩ :: inn q) : List Ln).length ≤ 1048576 := by simp only [List.length_append, List.length_cons]; omega
  have hc : slices_Concat_Line.f [[⟨0, 7, 0, 0⟩], inn p, [⟨0, 10, 0, 0⟩], inn q] = some ((⟨0, 7, 0, 0⟩ :: inn p) ++ (⟨0, 10, 0, 0⟩ :: inn q)) := by
   have e : ([[⟨0, 7, 0, 0⟩], inn p, [⟨0, 10, 0, 0⟩], inn q] : List (List Ln)).flatten = (⟨0, 7, 0, 0⟩ :: inn p) ++ (⟨0, 10, 0, 0⟩ :: inn q) := by simp
   rw [concatN (by rw [e]; omega), e]
  refine ⟨okP t ((⟨0, 7, 0, 0⟩ :: inn p) ++ (⟨0, 10, 0, 0⟩ :: inn q)), ?_, ?_, okP_le hl⟩
  ·exact Ev.bind h1 (Ev.pos rfl (Ev.bind (ev_under hp _ _ _ _) (Ev.bind (ev_under hq _ _ _ _) (Ev.pos (by simp only [List.length_cons]; omega) (Ev.bind (ev_checked hl ht) (Ev.now _))))))
  ·refine Ev.bind h2 (Ev.pos rfl (Ev.bind (ev_inner hp) (Ev.bind (ev_inner hq) ?_)))
   rw [hc]
   exact Ev.bind (Ev.now _) (Ev.bind (ev_made hl ht) (Ev.now _))
theorem FnExactWithFinally : ∀ (l0_0 : List S62) (l1 : List S52) (l2 : List S52), l0_0.length ≤ 9223372036854775807 → (∀ y ∈ l0_0, good62 y) → l1.length ≤ 9223372036854775807 → (∀ y ∈ l1, good52 y) → l2.length ≤ 9223372036854775807 → (∀ y ∈ l2, good52 y) → ∃ k, laws_FnExactWithFinally.f k l0_0 l1 l2 = some true := by
 intro t p q ht htg hp hpg hq hqg
 refine Ev.rounds (g := fun k => laws_FnExactWithFinally.f k t p q) ?_
 obtain ⟨r, h1, h2⟩ := ev_szTree ht htg (a := 1048576) (by omega) (by omega)
 unfold laws_FnExactWithFinally.f
 by_cases hr : r < 0
 ·exact Ev.bind h1 (Ev.pos hr (Ev.now _))
 obtain ⟨r1, h3, h4⟩ := szLineS_eq (l := p) hp (a := r) (by omega) (by omega)
 rcases h2 with h2 | ⟨_, _, hT⟩
 ·exact absurd h2 hr
 refine Ev.bind h1 (Ev.neg hr ?_)
 rw [h3]
 simp only [Option.bind_some]
 by_cases hr1 : r1 < 0
 ·exact Ev.pos hr1 (Ev.now _)
 rcases h4 with h4 | ⟨_, _, hP⟩
 ·exact absurd h4 hr1
 obtain ⟨r2, h5, h6⟩ := szLineS_eq (l := q) hq (a := r1) (by omega) (by omega)
 refine Ev.neg hr1 ?_
 rw [h5]
 simp only [Option.bind_some]
 by_cases hr2 : r2 < 0
 ·exact Ev.pos hr2 (Ev.now _)
 rcases h6 with h6 | ⟨_, _, hQ⟩
 ·exact absurd h6 hr2
 have hq2 : q.length ≤ 1048576 := by simpa [tP] using hQ
 have eQ := ev_toLineS hq2
 have ht2 := hT.1
 have hp2 : p.length ≤ 1048576 := by simpa [tP] using hP
 have ht3 : t.length ≤ 1048576 := by simpa [tT] using ht2
 have eT := ev_toTree ht3
 have eP := ev_toLineS hp2
 obtain ⟨z, z1, z2, hz⟩ := ev_bothWithFinally hP hQ hT
 obtain ⟨m1, hm1⟩ := ev_markTree ht2
 obtain ⟨m2, hm2⟩ := ev_markLineS hP (a := 1 + 2 * ((tT t).length : Int)) (by omega) (by omega)
 obtain ⟨m3, hm3⟩ := ev_markLineS hQ (a := 1 + 2 * ((tT t).length : Int) + 4 * ((tP p).length : Int)) (by omega) (by omega)
 have hM := ev_markLineS2 hz
 have hH := ev_heldLineS (m := z.1.length) hz
 have hE := ev_eqLineS hz
 have hb : (z.2 != z.2) = false := by cases z.2 <;> rfl
 have fin : Ev (fun k => laws_FnExactWithFinally.j2 k (marksL z.1.length) (1 + 4 * (z.1.length : Int)) false) true := by
  refine Ev.step (fun k => by rw [laws_FnExactWithFinally.j2]) ?_
  exact Ev.neg (by simp) (Ev.bind hH (Ev.neg (by omega) (Ev.pos rfl (Ev.now _))))
 refine Ev.neg hr2 (Ev.bind eT (Ev.bind eP (Ev.bind eQ (Ev.bind z1 (Ev.bind eT (Ev.bind eP (Ev.bind eQ (Ev.bind z2 (Ev.bind hE (Ev.pos rfl ?_))))))))))
 rw [hb]
 refine Ev.step (fun k => by rw [laws_FnExactWithFinally.j0]) ?_
 refine Ev.neg (by simp) (Ev.bind eT (Ev.bind (ev_eqTree ht2) (Ev.pos rfl (Ev.bind eP (Ev.bind (ev_eqLineS hP) (Ev.pos rfl ?_))))))
 refine Ev.bind eQ (Ev.bind (ev_eqLineS hQ) (Ev.pos rfl ?_))
 refine Ev.bind hm1 (Ev.bind hm2 (Ev.bind hm3 (Ev.neg (by simp only []; omega) (Ev.bind hE (Ev.pos rfl ?_)))))
 rw [hb]
 refine Ev.step (fun k => by rw [laws_FnExactWithFinally.j1]) ?_
 refine Ev.neg (by simp) (Ev.bind hM (Ev.bind hH (Ev.neg (by omega) (Ev.pos rfl ?_))))
 refine Ev.bind eT (Ev.bind eP (Ev.bind eQ (Ev.bind z2 (Ev.bind hE (Ev.pos rfl ?_)))))
 rw [hb]
 exact fin
end Go.Proofs.Ytgbigghiegiejaa.Pure
end
