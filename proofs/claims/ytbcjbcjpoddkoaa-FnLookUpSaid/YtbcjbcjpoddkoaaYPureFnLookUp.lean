/- One part of the proofs on this program: functions of the program as plain functions, that the code comes to them, and facts on them. -/
import Derived.Test.YtbcjbcjpoddkoaaYAll8
import Derived.Test.YtbcjbcjpoddkoaaYAll9
import Derived.Test.YtbcjbcjpoddkoaaYDc
import Derived.Test.YtbcjbcjpoddkoaaYDp
import Derived.Test.YtbcjbcjpoddkoaaYMe
import Derived.Test.YtbcjbcjpoddkoaaYMlk
import Derived.Test.YtbcjbcjpoddkoaaYMtb
section
set_option linter.unusedSimpArgs false
set_option linter.unusedVariables false
namespace Go.Proofs.Ytbcjbcjpoddkoaa.Pure
open Go Go.RowKit Go.Proofs.Ytbcjbcjpoddkoaa.P Go.Proofs.YtbcjbcjpoddkoaaW.PrintWords
set_option linter.unusedVariables false
theorem ev_DrawLookUp {code : List Int} (hc : ∀ x ∈ code, 0 ≤ x ∧ x ≤ 255) : ∃ t l i a, Ev (fun k => spec_DrawLookUp.f k code) (t, l, i, a) ∧ TO t ∧ l.length ≤ 1048576 := by
 obtain ⟨s, e0, hs⟩ := newReader_eq hc
 obtain ⟨t, p, i, q, e1, _, _, hT, hp⟩ := ev_lineIn hs (p := 0) (by omega) (by omega)
 have j1 : ∀ (l : List Rg) (b : Bool) (q : Int), l.length ≤ 1048576 → 0 ≤ q → q ≤ 268435456 → (b = true → 1 ≤ l.length) → ∃ l2 a, Ev (fun k => spec_DrawLookUp.j1 k i l b s q t) (t, l2, i, a) ∧ l2.length ≤ 1048576 := by
  intro l b q hl h0 h1 hb
  cases b with
  | false =>
   obtain ⟨a, e⟩ := ev_aClass hs (p := q) (by omega) (by omega) hT.1
   refine ⟨l, a, ?_, hl⟩
   refine Ev.step (fun k => by rw [spec_DrawLookUp.j1]) ?_
   exact Ev.neg (by simp) (Ev.bind e (Ev.now _))
  | true =>
   have hb := hb rfl
   obtain ⟨u, e1, u0, u1, _⟩ := ev_pick hs (p := q) (by omega) (by omega) (l.length : Int) (by omega)
   obtain ⟨v, e2, _⟩ := ev_one hs (p := q + 1) (by omega) (by omega) [0, 24, 25, (-1)] (by simp) (by simp)
   obtain ⟨a, e⟩ := ev_aClass hs (p := q + 1 + 1) (by omega) (by omega) hT.1
   refine ⟨l.set u.toNat ⟨(rd_T48 l u).f0, v, (rd_T48 l u).f2, (rd_T48 l u).f3⟩, a, ?_, by simpa using hl⟩
   refine Ev.step (fun k => by rw [spec_DrawLookUp.j1]) ?_
   exact Ev.pos rfl (Ev.bind e1 (Ev.bind e2 (Ev.pos u0 (Ev.pos (u1 (by omega)) (Ev.bind e (Ev.now _))))))
 have j0 : ∀ (l : List Rg) (q : Int), l.length ≤ 1048576 → 0 ≤ q → q ≤ 134217728 → ∃ l2 a, Ev (fun k => spec_DrawLookUp.j0 k i l s q t) (t, l2, i, a) ∧ l2.length ≤ 1048576 := by
  intro l q hl h0 h1
  by_cases c : l.length = 0
  ·obtain ⟨l2, a, e, h⟩ := j1 l false q hl h0 (by omega) (by simp)
   refine ⟨l2, a, ?_, h⟩
   refine Ev.step (fun k => by rw [spec_DrawLookUp.j0]) ?_
   exact Ev.neg (by omega) e
  ·obtain ⟨u, e1, u0, u1, _⟩ := ev_pick hs (p := q) (by omega) (by omega) 12 (by omega)
   obtain ⟨l2, a, e, h⟩ := j1 l (u == 0) (q + 1) hl (by omega) (by omega) (fun _ => by omega)
   refine ⟨l2, a, ?_, h⟩
   refine Ev.step (fun k => by rw [spec_DrawLookUp.j0]) ?_
   exact Ev.pos (by omega) (Ev.bind e1 e)
 have hP : p.length ≤ 1048576 := by omega
 unfold spec_DrawLookUp.f
 rw [e0]
 simp only [Option.bind_some]
 cases hv : vB t p with
 | true =>
  have hl := tbN_len hP p.length
  have : p.length * (p.length + 1) ≤ 24 * 25 := Nat.mul_le_mul hp (by omega)
  obtain ⟨l2, a, e, h⟩ := j0 (tbN p p.length) q (by omega) (by omega) (by omega)
  exact ⟨t, l2, i, a, Ev.bind e1 (Ev.bind (sValid hP hT.ts) (Ev.pos hv (Ev.bind (ev_tableOf hP) e))), hT, h⟩
 | false =>
  obtain ⟨l2, a, e, h⟩ := j0 [] q (by simp) (by omega) (by omega)
  exact ⟨t, l2, i, a, Ev.bind e1 (Ev.bind (sValid hP hT.ts) (Ev.neg (by simp [hv]) e)), hT, h⟩
theorem FnLookUp : laws_FnLookUp.Pure := by
 intro code _ _ hc
 refine Ev.rounds (g := fun k => laws_FnLookUp.f k code) ?_
 unfold laws_FnLookUp.f
 refine Ev.both (fun _ => Ev.now _) (fun _ => ?_)
 obtain ⟨t, l, i, a, eD, hT, hl⟩ := ev_DrawLookUp (bytes_of hc)
 have ht := hT.ts
 refine Ev.bind eD (Ev.bind (ev_LookUp ht l i a) (Ev.bind (ev_sLookUp ht hl i a) (Ev.pos rfl ?_)))
 by_cases h0 : lkB t l i a < 0
 ·rw [decide_eq_true h0]
  refine Ev.step (fun k => by rw [laws_FnLookUp.j0]) ?_
  exact Ev.pos rfl (Ev.bind (ev_sLookUp ht hl i a) (by simpa using Ev.now true))
 ·rw [decide_eq_false h0]
  refine Ev.step (fun k => by rw [laws_FnLookUp.j0]) ?_
  refine Ev.neg (by simp) ?_
  unfold lkB at h0 ⊢
  by_cases hv : (treeB t = true ∧ hasB t a = true) ∧ l.length ≤ 24 ∧ l.all (rokB t) = true
  ·simp only [if_pos hv] at h0 ⊢
   have : ∀ (r : List Rg) (j : Nat), l.drop j = r → lkF t i a r = lkF t i a l → Ev (fun k => laws_FnLookUp.l0 k l i a (lkF t i a l) j t) true := by
    intro r
    induction r with
    | nil => intro j h e; rw [← e] at h0; simp [lkF] at h0
    | cons x r ih =>
     intro j h e
     obtain ⟨h1, h2, h3⟩ := rg_drop h
     have hx : rokB t x = true := List.all_eq_true.mp hv.2.2 x (List.mem_of_mem_drop (h ▸ List.mem_cons_self))
     simp only [rokB, Bool.and_eq_true] at hx
     refine Ev.step (fun k => by rw [laws_FnLookUp.l0]) ?_
     rw [h2]
     refine Ev.pos (by omega) (Ev.pos (by omega) ?_)
     have go : hitB t i a x = false → Ev (fun k => laws_FnLookUp.j2 k l i a (lkF t i a l) j false t x.f0 x.f1 x.f2 x.f3) true := by
      intro hb
      rw [lkF, if_neg (by simp [hb])] at e
      refine Ev.step (fun k => by rw [laws_FnLookUp.j2]) ?_
      rw [wS (by omega)]
      exact Ev.neg (by simp) (ih (j + 1) h3 e)
     refine Ev.both (fun b0 => ?_) (fun b0 => go (by simp [hitB, b0]))
     refine Ev.both (fun b1 => ?_) (fun b1 => go (by simp [hitB, b1]))
     refine Ev.bind (ev_IsA ht a x.f3) ?_
     rw [hv.1.1, hv.1.2, hx.2.2.2, Bool.true_and, Bool.true_and, Bool.true_and]
     have eh : hitB t i a x = isAB t a x.f3 := by simp [hitB, b0, b1]
     cases hi : isAB t a x.f3 with
     | false => exact go (by rw [eh, hi])
     | true =>
      rw [lkF, if_pos (by rw [eh, hi])] at e
      refine Ev.step (fun k => by rw [laws_FnLookUp.j2]) ?_
      refine Ev.pos rfl ?_
      rw [← e]
      simpa using Ev.now true
   exact this l 0 rfl rfl
  ·rw [if_neg hv] at h0; omega
end Go.Proofs.Ytbcjbcjpoddkoaa.Pure
end
