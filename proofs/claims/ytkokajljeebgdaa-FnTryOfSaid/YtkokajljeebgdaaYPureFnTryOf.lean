/- One part of the proofs on this program: functions of the program as plain functions, that the code comes to them, and facts on them. -/
import Derived.Test.YtkokajljeebgdaaYB4
import Derived.Test.YtkokajljeebgdaaYB5
import Derived.Test.YtkokajljeebgdaaYDp
import Derived.Test.YtkokajljeebgdaaYMp
import Derived.Test.YtkokajljeebgdaaYMw2
import Derived.Test.YtkokajljeebgdaaYMy
import Derived.Test.YtkokajljeebgdaaYMz
section
set_option linter.unusedSimpArgs false
set_option linter.unusedVariables false
namespace Go.Proofs.Ytkokajljeebgdaa.Pure
open Go Go.RowKit Go.Proofs.Ytkokajljeebgdaa.P Go.Proofs.YtkokajljeebgdaaW.PrintWords
set_option linter.unusedVariables false
theorem ev_DrawTryOf {code : List Int} (hc : ∀ x ∈ code, 0 ≤ x ∧ x ≤ 255) : ∃ t p a, Ev (fun k => spec_DrawTryOf.f k code) (t, p, a) ∧ TO t ∧ p.length ≤ 24 := by
 obtain ⟨s, e0, hs⟩ := newReader_eq hc
 obtain ⟨t, p, a, q, e1, h1, h2, hT, hp⟩ := ev_lineIn hs (p := 0) (by omega) (by omega)
 have go : ∀ (n i : Nat) (q : Int), p.length ≤ n + i → 0 ≤ q → q + n ≤ 1073741824 → ∃ b, Ev (fun k => spec_DrawTryOf.l0 k p a i s q t) (t, p, b) := by
  intro n
  induction n with
  | zero =>
   intro i q h _ _
   refine ⟨a, ?_⟩
   refine Ev.step (fun k => by rw [spec_DrawTryOf.l0]) ?_
   exact Ev.neg (by omega) (Ev.now _)
  | succ n ih =>
   intro i q h h0 h1
   by_cases hi : i < p.length
   ·have j1 : ∀ (b : Bool) (q' : Int), 0 ≤ q' → q' + n ≤ 1073741824 → ∃ c, Ev (fun k => spec_DrawTryOf.j1 k p a i b s q' t) (t, p, c) := by
     intro b q' h0 h1
     cases b with
     | true =>
      refine ⟨(i : Int), ?_⟩
      refine Ev.step (fun k => by rw [spec_DrawTryOf.j1]) ?_
      exact Ev.pos rfl (Ev.now _)
     | false =>
      obtain ⟨c, hc⟩ := ih (i + 1) q' (by omega) h0 h1
      refine ⟨c, ?_⟩
      refine Ev.step (fun k => by rw [spec_DrawTryOf.j1]) ?_
      rw [wS (by omega)]
      exact Ev.neg (by simp) hc
    obtain ⟨v, ev, _⟩ := ev_pick hs (p := q) h0 (by omega) 3 (by omega)
    by_cases h7 : kd p i = 7
    ·obtain ⟨c, hc⟩ := j1 (v == 0) (q + 1) (by omega) (by omega)
     refine ⟨c, ?_⟩
     refine Ev.step (fun k => by rw [spec_DrawTryOf.l0]) ?_
     exact Ev.pos (by omega) (Ev.pos (by omega) (Ev.pos h7 (Ev.bind ev hc)))
    ·cases hf : isF (kd p i) with
     | true =>
      obtain ⟨c, hc⟩ := j1 (v == 0) (q + 1) (by omega) (by omega)
      refine ⟨c, ?_⟩
      refine Ev.step (fun k => by rw [spec_DrawTryOf.l0]) ?_
      simp only [r1, fol, Option.bind_some]
      exact Ev.pos (by omega) (Ev.pos (by omega) (Ev.neg h7 (Ev.pos hf (Ev.bind ev hc))))
     | false =>
      obtain ⟨c, hc⟩ := j1 false q (by omega) (by omega)
      refine ⟨c, ?_⟩
      refine Ev.step (fun k => by rw [spec_DrawTryOf.l0]) ?_
      simp only [r1, fol, Option.bind_some]
      exact Ev.pos (by omega) (Ev.pos (by omega) (Ev.neg h7 (Ev.neg (by simp [hf]) hc)))
   ·refine ⟨a, ?_⟩
    refine Ev.step (fun k => by rw [spec_DrawTryOf.l0]) ?_
    exact Ev.neg (by omega) (Ev.now _)
 obtain ⟨b, hb⟩ := go p.length 0 q (by omega) (by omega) (by omega)
 refine ⟨t, p, b, ?_, hT, hp⟩
 unfold spec_DrawTryOf.f
 rw [e0]
 simp only [Option.bind_some]
 exact Ev.bind e1 hb
theorem ev_ascends (L : List Nat) (hl : L.length ≤ 1048577) (h : L.Pairwise (· < ·)) (h1 : 1 ≤ L.length) : Ev (fun k => laws_ascends.f k (ci L)) true := by
 have at_ : ∀ j, (hj : j < L.length) → rd (ci L) (j : Int) = ((L[j] : Nat) : Int) := fun j hj => (ci_drop (List.drop_eq_getElem_cons hj)).2.1
 have : ∀ (n j : Nat), L.length ≤ n + j → 1 ≤ j → Ev (fun k => laws_ascends.l0 k (ci L) j) true := by
  intro n
  induction n with
  | zero =>
   intro j h1 h2
   refine Ev.step (fun k => by rw [laws_ascends.l0]) ?_
   rw [ci_len]
   exact Ev.neg (by omega) (Ev.now _)
  | succ n ih =>
   intro j h1 h2
   refine Ev.step (fun k => by rw [laws_ascends.l0]) ?_
   rw [ci_len]
   by_cases hj : j < L.length
   ·have e : wrap64 ((j : Int) - 1) = ((j - 1 : Nat) : Int) := by rw [wr (by omega)]; omega
    have hlt := List.pairwise_iff_getElem.mp h (j - 1) j (by omega) hj (by omega)
    rw [e, wS (by omega), at_ j hj, at_ (j - 1) (by omega)]
    exact Ev.pos (by omega) (Ev.pos (by omega) (Ev.pos (by omega) (Ev.pos (by omega) (Ev.neg (by omega) (ih (j + 1) (by omega) (by omega))))))
   ·exact Ev.neg (by omega) (Ev.now _)
 exact this L.length 1 (by omega) (by omega)
theorem FnTryOf : laws_FnTryOf.Pure := by
 intro code _ _ hc
 refine Ev.rounds (g := fun k => laws_FnTryOf.f k code) ?_
 unfold laws_FnTryOf.f
 refine Ev.both (fun _ => Ev.now _) (fun _ => ?_)
 obtain ⟨t, p, a, eD, hT, hp⟩ := ev_DrawTryOf (bytes_of hc)
 have hP : p.length ≤ 1048576 := by omega
 have hS := hT.ts
 obtain ⟨z1, z2, z3⟩ := ev_TryOf' hP hS a
 have hE := ev_equalInts (r := rTry t p a) (by omega)
 refine Ev.bind eD (Ev.bind z2 (Ev.bind z1 (Ev.bind hE (Ev.pos rfl ?_))))
 simp only []
 by_cases hA : At t p a ∧ inTry p a.toNat
 ·obtain ⟨hA, hin⟩ := hA
  obtain ⟨n, rfl, hn⟩ := hA.nat
  rw [Int.toNat_natCast] at hin
  have hV := hA.1
  have er : rTry t p n = ci (chain p (thd p n)) := by rw [rTry, Int.toNat_natCast, if_pos ⟨hA, hin⟩]
  have hTr := thd_is hV hn hin
  have hTl : thd p n < p.length := by have := hTr.le; omega
  have h2 := chain_two hV hTl hTr.try_
  have hlen := chain_len p (dp p (thd p n)) p.length (bEnd p (thd p n))
  have hlen2 : (chain p (thd p n)).length ≤ 1048577 := by simp only [chain, chainT, List.length_cons]; omega
  rw [er] at z1 z2 hE ⊢
  refine Ev.step (fun k => by rw [laws_FnTryOf.j0]) ?_
  rw [ci_len, show (((chain p (thd p n)).length : Int) == 0) = false from by rw [beq_eq_false_iff_ne]; omega]
  refine Ev.neg (by simp) ?_
  have fin : ∀ j : Nat, (chain p (thd p n)).length ≤ j → Ev (fun k => laws_FnTryOf.l0 k p n (ci (chain p (thd p n))) j t) true := by
   intro j hj
   have hd := (ci_drop (l := chain p (thd p n)) (j := 0) (a := thd p n) (r := chainT p (thd p n)) rfl).2.1
   refine Ev.step (fun k => by rw [laws_FnTryOf.l0]) ?_
   rw [ci_len, show (0 : Int) = ((0 : Nat) : Int) from rfl, hd]
   refine Ev.neg (by omega) (Ev.pos (by omega) (Ev.pos (by omega) (Ev.pos (by omega) (Ev.pos hTr.try_ ?_))))
   refine Ev.bind (ev_isIn _ hlen2 _) ?_
   rw [hasN_mem hTr.mem]
   refine Ev.pos rfl (Ev.bind (ev_ascends _ hlen2 (chain_asc p _) (by omega)) (Ev.pos rfl ?_))
   rw [show decide (((chain p (thd p n)).length : Int) > 1) = true from by simp; omega]
   exact Ev.now _
  have go : ∀ (m j : Nat), (chain p (thd p n)).length ≤ m + j → Ev (fun k => laws_FnTryOf.l0 k p n (ci (chain p (thd p n))) j t) true := by
   intro m
   induction m with
   | zero => intro j h; exact fin j (by omega)
   | succ m ih =>
    intro j h
    by_cases hj : j < (chain p (thd p n)).length
    ·have hr := ci_drop (l := chain p (thd p n)) (j := j) (List.drop_eq_getElem_cons hj)
     have hmem : (chain p (thd p n))[j] ∈ chain p (thd p n) := List.getElem_mem hj
     obtain ⟨x1, x2, x3⟩ := thd_chain hV hTl hTr.try_ hmem
     have hx := (ev_TryOf' hP hS ((chain p (thd p n))[j] : Nat)).2.1
     have hAx : At t p ((chain p (thd p n))[j] : Nat) := ⟨hV, by omega, by omega⟩
     rw [rTry, Int.toNat_natCast, if_pos ⟨hAx, x2⟩, x1] at hx
     have hdeep : dp p (chain p (thd p n))[j] = dp p n := by
      rw [← (isTry_chain hTr.try_ hmem).deep, hTr.deep]
     refine Ev.step (fun k => by rw [laws_FnTryOf.l0]) ?_
     rw [hr.2.1, wS (by omega), ci_len]
     exact Ev.pos (by omega) (Ev.pos (by omega) (Ev.bind hx (Ev.bind hE (Ev.pos rfl (Ev.pos (by omega) (Ev.pos (by omega) (Ev.pos (by omega) (Ev.pos (by omega) (Ev.pos hdeep (ih (j + 1) (by omega)))))))))))
    ·exact fin j (by omega)
  exact go _ 0 (by omega)
 ·have er : rTry t p a = [] := by rw [rTry, if_neg hA]
  rw [er] at z1 hE ⊢
  refine Ev.step (fun k => by rw [laws_FnTryOf.j0]) ?_
  exact Ev.pos rfl (Ev.bind z1 (Ev.bind hE (Ev.now _)))
end Go.Proofs.Ytkokajljeebgdaa.Pure
end
