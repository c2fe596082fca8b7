/- One part of the proofs on this program: functions of the program as plain functions, that the code comes to them, and facts on them. -/
import Derived.Test.YtkedkinojeoeaaaYAll7
import Derived.Test.YtkedkinojeoeaaaYAll8
import Derived.Test.YtkedkinojeoeaaaYMh
import Derived.Test.YtkedkinojeoeaaaYMr
section
set_option linter.unusedSimpArgs false
set_option linter.unusedVariables false
namespace Go.Proofs.Ytkedkinojeoeaaa.Pure
open Go Go.RowKit Go.Proofs.Ytkedkinojeoeaaa.P Go.Proofs.YtkedkinojeoeaaaW.PrintWords
set_option linter.unusedVariables false
def idxN (s : Int) : List Nat → Nat → Int
 | [], _ => -1
 | a :: r, i => if (a : Int) = s then (i : Int) else idxN s r (i + 1)
theorem ev_indexOf (L : List Nat) (hl : L.length ≤ 1048576) (s : Int) : Ev (fun k => jTa.f k (ci L) s) (idxN s L 0) := by
 have : ∀ (r : List Nat) (j : Nat), L.drop j = r → Ev (fun k => jTa.l0 k (ci L) s j) (idxN s r j) := by
  intro r
  induction r with
  | nil =>
   intro j h
   have := ci_end h
   refine Ev.step (fun k => by rw [jTa.l0]) ?_
   rw [jCb, idxN]
   exact Ev.neg (by omega) (Ev.now _)
  | cons a r ih =>
   intro j h
   obtain ⟨h1, h2, h3⟩ := jRc h
   refine Ev.step (fun k => by rw [jTa.l0]) ?_
   rw [h2, wS (by omega), jCb, idxN]
   refine Ev.pos (by omega) (Ev.pos (by omega) ?_)
   by_cases hs : (a : Int) = s
   ·rw [if_pos hs]; exact Ev.pos hs (Ev.now _)
   ·rw [if_neg hs]; exact Ev.neg hs (ih (j + 1) h3)
 exact this L 0 rfl
theorem idxN_at (s : Int) : ∀ (l : List Nat) (i : Nat), (∃ a ∈ l, (a : Int) = s) → (i : Int) ≤ idxN s l i ∧ idxN s l i ≤ i + l.length ∧ l.take ((idxN s l i).toNat - i) = upTo s l
 | [], i, h => by obtain ⟨a, h, _⟩ := h; simp at h
 | a :: r, i, h => by
  by_cases hs : (a : Int) = s
  ·rw [idxN, if_pos hs, upTo, if_pos hs]
   refine ⟨Int.le_refl _, by omega, by simp⟩
  ·rw [idxN, if_neg hs, upTo, if_neg hs]
   obtain ⟨h1, h2, h3⟩ := idxN_at s r (i + 1) (by
    obtain ⟨b, hb, e⟩ := h
    rcases List.mem_cons.mp hb with rfl | hb
    ·exact absurd e hs
    ·exact ⟨b, hb, e⟩)
   refine ⟨by omega, by simp only [List.length_cons]; omega, ?_⟩
   rw [show (idxN s r (i + 1)).toNat - i = ((idxN s r (i + 1)).toNat - (i + 1)) + 1 from by omega, List.take_succ_cons, h3]
theorem lpF_mem (p : List Ln) : ∀ l : List Nat, lpF p l = -1 ∨ ∃ a ∈ l, (a : Int) = lpF p l
 | [] => .inl rfl
 | a :: r => by
  rw [lpF]
  split
  ·exact .inr ⟨a, by simp, rfl⟩
  ·rcases lpF_mem p r with h | ⟨b, hb, e⟩
   ·exact .inl h
   ·exact .inr ⟨b, by simp [hb], e⟩
theorem ci_take (l : List Nat) (n : Nat) : (ci l).take n = ci (l.take n) := by simp [ci, List.map_take]
noncomputable def rWtl (t : List Cl) (p : List Ln) (a : Int) : List Int := @ite _ (At t p a ∧ 0 ≤ lpF p (enc p a.toNat)) (Classical.propDecidable _) (ci (wayL p (upTo (lpF p (enc p a.toNat)) (enc p a.toNat)))) []
theorem ev_WayToLoop' {p : List Ln} {t : List Cl} (hp : p.length ≤ 1048576) (ht : TS t) (a : Int) : Ev (fun k => jGa.f k t p a) (rWtl t p a) ∧ Ev (fun k => jra.f k t p a) (rWtl t p a) ∧ (rWtl t p a).length ≤ 1048576 := by
 obtain ⟨b, h1, h2, h3⟩ := ev_goods hp ht a
 obtain ⟨l, hl1, hl2, hl3, hl4⟩ := ev_LoopOf hp ht a
 unfold jGa.f jra.f
 have jt : Ev (fun k => jra.j0 k p a true) ([] : List Int) := by
  refine Ev.step (fun k => by rw [jra.j0]) ?_
  exact Ev.pos rfl (Ev.now _)
 cases b with
 | false =>
  have hn : ¬ At t p a := fun h => by cases h3.mpr h
  rw [hl4 hn] at hl1
  rw [rWtl, if_neg (fun h => hn h.1)]
  exact ⟨Ev.bind hl1 (Ev.pos (by omega) (Ev.now _)), Ev.bind h2 (Ev.neg (by simp) jt), by simp⟩
 | true =>
  have hA := h3.mp rfl
  obtain ⟨n, rfl, hn⟩ := hA.nat
  obtain rfl := hl3 n hA.1 rfl hn
  have hi := ev_loopOf hp hA.1.dr hn
  have hle := jHc p n (dp p n)
  have hmem := lpF_mem p (enc p n)
  have hw2 := wayL_len p (upTo (lpF p (enc p n)) (enc p n))
  have hw3 := upTo_len (lpF p (enc p n)) (enc p n)
  have hen : (enc p n).length ≤ 1048576 := by unfold enc; omega
  unfold rWtl
  simp only [Int.toNat_natCast]
  by_cases h0 : 0 ≤ lpF p (enc p n)
  ·rw [if_pos ⟨hA, h0⟩]
   have hm : ∃ a ∈ enc p n, (a : Int) = lpF p (enc p n) := by rcases hmem with h | h; omega; exact h
   obtain ⟨i1, i2, i3⟩ := idxN_at _ (enc p n) 0 hm
   rw [Nat.sub_zero] at i3
   refine ⟨Ev.bind hl1 (Ev.neg (by omega) (Ev.bind (ev_sEnc hp hn) (Ev.bind (ev_indexOf _ hen _) (Ev.pos (by omega) (Ev.pos (by rw [jCb]; omega) ?_))))), Ev.bind h2 (Ev.pos rfl (Ev.bind hi ?_)), by rw [jCb]; omega⟩
   ·rw [ci_take, i3]
    exact Ev.bind (ev_wayOut hp hA.1 _ (fun j hj => enc_good hA.1.dr hn j (upTo_sub _ _ j hj)) (by omega)) (Ev.now _)
   ·rw [decide_eq_false (by omega)]
    refine Ev.step (fun k => by rw [jra.j0]) ?_
    exact Ev.neg (by simp) (Ev.bind hi (Ev.bind (ev_way hp hA.1 hn _) (Ev.now _)))
  ·rw [if_neg (fun h => h0 h.2)]
   refine ⟨Ev.bind hl1 (Ev.pos (by omega) (Ev.now _)), Ev.bind h2 (Ev.pos rfl (Ev.bind hi ?_)), by simp⟩
   rw [decide_eq_true (by omega)]
   exact jt
end Go.Proofs.Ytkedkinojeoeaaa.Pure
end
