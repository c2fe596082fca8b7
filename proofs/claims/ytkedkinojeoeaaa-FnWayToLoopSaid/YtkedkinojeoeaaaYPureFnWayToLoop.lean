/- One part of the proofs on this program: functions of the program as plain functions, that the code comes to them, and facts on them. -/
import Derived.Test.YtkedkinojeoeaaaYAll6
import Derived.Test.YtkedkinojeoeaaaYAll9
import Derived.Test.YtkedkinojeoeaaaYDp
import Derived.Test.YtkedkinojeoeaaaYMr
import Derived.Test.YtkedkinojeoeaaaYMr2
import Derived.Test.YtkedkinojeoeaaaYMw2
import Derived.Test.YtkedkinojeoeaaaYMy
section
set_option linter.unusedSimpArgs false
set_option linter.unusedVariables false
namespace Go.Proofs.Ytkedkinojeoeaaa.Pure
open Go Go.RowKit Go.Proofs.Ytkedkinojeoeaaa.P Go.Proofs.YtkedkinojeoeaaaW.PrintWords
set_option linter.unusedVariables false
theorem ev_DrawWayToLoop {code : List Int} (hc : ∀ x ∈ code, 0 ≤ x ∧ x ≤ 255) : ∃ t p a, Ev (fun k => jeb.f k code) (t, p, a) ∧ TO t ∧ p.length ≤ 24 := by
 obtain ⟨s, e0, hs⟩ := newReader_eq hc
 obtain ⟨u, e1, _⟩ := jpc hs (p := 0) (by omega) (by omega) 3 (by omega)
 unfold jeb.f
 rw [e0]
 simp only [Option.bind_some]
 by_cases h : u = 0
 ·obtain ⟨t, p, a, q, e2, _, _, hT, hp⟩ := ev_lineIn hs (p := 0 + 1) (by omega) (by omega)
  exact ⟨t, p, a, Ev.bind e1 (Ev.pos h (Ev.bind e2 (Ev.now _))), hT, hp⟩
 ·obtain ⟨t, q, e2, q1, q2, hT, _⟩ := ev_goodTree hs (p := 0 + 1) (by omega) (by omega)
  obtain ⟨v, e3, _⟩ := jpc hs (p := q) (by omega) (by omega) 3 (by omega)
  obtain ⟨w, e4, _⟩ := jpc hs (p := q + 1) (by omega) (by omega) 3 (by omega)
  by_cases h2 : w = 0
  ·exact ⟨t, _, _, Ev.bind e1 (Ev.neg h (Ev.bind e2 (Ev.bind e3 (Ev.bind e4 (Ev.pos h2 (Ev.now _)))))), hT, by simp⟩
  by_cases h3 : w = 1
  ·exact ⟨t, _, _, Ev.bind e1 (Ev.neg h (Ev.bind e2 (Ev.bind e3 (Ev.bind e4 (Ev.neg h2 (Ev.pos h3 (Ev.now _))))))), hT, by simp⟩
  ·exact ⟨t, _, _, Ev.bind e1 (Ev.neg h (Ev.bind e2 (Ev.bind e3 (Ev.bind e4 (Ev.neg h2 (Ev.neg h3 (Ev.now _))))))), hT, by simp⟩
theorem upTo_pre (s : Int) : ∀ (L : List Nat), ∃ r, L = upTo s L ++ r ∧ ((∃ m ∈ L, (m : Int) = s) → ∃ m r', r = m :: r' ∧ (m : Int) = s)
 | [] => ⟨[], rfl, fun ⟨m, h, _⟩ => by simp at h⟩
 | a :: l => by
  rw [upTo]
  by_cases h : (a : Int) = s
  ·rw [if_pos h]
   exact ⟨a :: l, rfl, fun _ => ⟨a, l, rfl, h⟩⟩
  ·rw [if_neg h]
   obtain ⟨r, h1, h2⟩ := upTo_pre s l
   refine ⟨r, by rw [List.cons_append, ← h1], fun ⟨m, hm, e⟩ => h2 ⟨m, ?_, e⟩⟩
   rcases List.mem_cons.mp hm with rfl | hm
   ·exact absurd e h
   ·exact hm
theorem wayL_app' (p : List Ln) : ∀ (a b : List Nat), wayL p (a ++ b) = wayL p a ++ wayL p b
 | [], b => rfl
 | x :: a, b => by
  rw [List.cons_append, wayL, wayL, wayL_app' p a b]
  cases jtc p x <;> rfl
theorem FnWayToLoop : jF.Pure := by
 intro code _ _ hc
 refine Ev.rounds (g := fun k => jF.f k code) ?_
 unfold jF.f
 refine Ev.both (fun _ => Ev.now _) (fun _ => ?_)
 obtain ⟨t, p, a, eD, hT, hp⟩ := ev_DrawWayToLoop (bytes_of hc)
 have hP : p.length ≤ 1048576 := by omega
 have hS := hT.ts
 obtain ⟨z1, z2, z3⟩ := ev_WayToLoop' hP hS a
 have hE := ev_equalInts (r := rWtl t p a) (by omega)
 refine Ev.bind eD (Ev.bind z2 (Ev.bind z1 (Ev.bind hE (Ev.pos rfl ?_))))
 simp only []
 by_cases h0 : ((rWtl t p a).length : Int) = 0
 ·rw [show (((rWtl t p a).length : Int) == 0) = true from by rw [beq_iff_eq]; exact h0]
  refine Ev.step (fun k => by rw [jF.j0]) ?_
  exact Ev.pos rfl (Ev.bind z1 (Ev.bind hE (Ev.now _)))
 rw [show (((rWtl t p a).length : Int) == 0) = false from by rw [beq_eq_false_iff_ne]; exact h0]
 by_cases hAl : At t p a ∧ 0 ≤ lpF p (enc p a.toNat)
 case neg => rw [rWtl, if_neg hAl] at h0; simp at h0
 obtain ⟨hA, hl0⟩ := hAl
 obtain ⟨n, rfl, hn⟩ := hA.nat
 have hV := hA.1
 have er : rWtl t p n = ci (wayL p (upTo (lpF p (enc p n)) (enc p n))) := by rw [rWtl, if_pos ⟨hA, hl0⟩, Int.toNat_natCast]
 rw [Int.toNat_natCast] at hl0
 have hw := (ev_WayOut' hP hS n).2.1
 rw [rWay, if_pos hA, Int.toNat_natCast] at hw
 obtain ⟨z, _, y2, y3, _⟩ := ev_LoopOf hP hS (n : Int)
 obtain rfl := y3 n hV rfl hn
 rw [er] at hE ⊢
 obtain ⟨m, hm, em, hk⟩ := lpF_kind p (enc p n) hl0
 have hml := enc_lt hn m hm
 obtain ⟨r, hr1, hr2⟩ := upTo_pre (lpF p (enc p n)) (enc p n)
 obtain ⟨m', r', hr3, em'⟩ := hr2 ⟨m, hm, em⟩
 obtain rfl : m' = m := by omega
 have hlen := jHc p n (dp p n)
 have hwl := wayL_len p (enc p n)
 have hpair := enc_pair hV hn
 have hpair2 := hpair
 rw [hr1, List.pairwise_append] at hpair2
 have hdeep := fun x hx => hpair2.2.2 x hx m' (by rw [hr3]; simp)
 obtain ⟨w1, _⟩ := wayL_deep hV (upTo (lpF p (enc p n)) (enc p n)) (fun x hx => enc_ok hV hn x (upTo_sub _ _ x hx)) hpair2.1
 have hwa := wayL_app' p (upTo (lpF p (enc p n)) (enc p n)) r
 rw [← hr1] at hwa
 have hll := congrArg List.length hwa
 rw [List.length_append] at hll
 have hup := upTo_len (lpF p (enc p n)) (enc p n)
 have hul := wayL_len p (upTo (lpF p (enc p n)) (enc p n))
 have henl : (enc p n).length ≤ n := hlen
 rw [← em] at hE w1 hll hwa hul y2 hdeep ⊢
 generalize wayL p (upTo (m' : Int) (enc p n)) = L at *
 refine Ev.step (fun k => by rw [jF.j0]) ?_
 refine Ev.neg (by simp) (Ev.bind hw (Ev.bind y2 ?_))
 have fin : ∀ j : Nat, L.length ≤ j → Ev (fun k => jF.l0 k p (ci L) (ci (wayL p (enc p n))) m' j) true := by
  intro j hj
  refine Ev.step (fun k => by rw [jF.l0]) ?_
  rw [jCb, jCb, Int.toNat_natCast, ci_take, hwa, List.take_left]
  exact Ev.neg (by omega) (Ev.pos (by simp only [List.length_append]; omega) (Ev.pos (by omega) (Ev.bind hE (Ev.now _))))
 have go : ∀ (x j : Nat), L.length ≤ x + j → Ev (fun k => jF.l0 k p (ci L) (ci (wayL p (enc p n))) m' j) true := by
  intro x
  induction x with
  | zero => intro j h; exact fin j (by omega)
  | succ x ih =>
   intro j h
   by_cases hj : j < L.length
   ·have hr := jRc (l := L) (j := j) (List.drop_eq_getElem_cons hj)
    obtain ⟨b, hb, x1, x2, _⟩ := w1 L[j] (List.getElem_mem hj)
    have hd := hdeep b hb
    have hnot : ¬ ((je p ((L[j] : Nat) : Int)).f0 ≤ (je p (m' : Int)).f0) := by
     show ¬ (dp p L[j] ≤ dp p m')
     omega
    refine Ev.step (fun k => by rw [jF.l0]) ?_
    rw [hr.2.1, wS (by omega), jCb]
    exact Ev.pos (by omega) (Ev.pos (by omega) (Ev.pos (by omega) (Ev.pos (by omega) (Ev.pos (by omega) (Ev.pos (by omega) (Ev.neg hnot (ih (j + 1) (by omega))))))))
   ·exact fin j (by omega)
 exact go _ 0 (by omega)
end Go.Proofs.Ytkedkinojeoeaaa.Pure
end
