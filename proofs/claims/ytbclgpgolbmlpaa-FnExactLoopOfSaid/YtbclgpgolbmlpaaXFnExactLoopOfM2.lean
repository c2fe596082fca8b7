/- The program's LoopOf returns what the reference's returns, for all trees, programs and places, and leaves its arguments as they were. Part 26 of 27: functions and facts used for it. -/
import Derived.Test.YtbclgpgolbmlpaaXFnExactLoopOfM1
import Derived.Test.YtbclgpgolbmlpaaXFnExactLoopOfO1
import Derived.Test.YtbclgpgolbmlpaaXFnExactLoopOfP1
import Derived.Test.YtbclgpgolbmlpaaXFnExactLoopOfP3
import Derived.Test.YtbclgpgolbmlpaaXFnExactLoopOfP5
import Derived.Test.YtbclgpgolbmlpaaXFnExactLoopOfP6
import Derived.Test.YtbclgpgolbmlpaaXFnExactLoopOfP7
section
namespace Go.Proofs.Ytbclgpgolbmlpaa.Pure
open Go Go.RowKit Go.Proofs.Ytbclgpgolbmlpaa.P Go.Proofs.YtbclgpgolbmlpaaW.PrintWords
set_option linter.unusedVariables false
theorem fill_set {α β : Type} (f : α → β) (z : β) (l : List α) (i : Nat) (hi : i < l.length) :
    ((l.take i).map f ++ List.replicate (l.length - i) z).set i (f l[i]) = (l.take (i + 1)).map f ++ List.replicate (l.length - (i + 1)) z := by
  have hl : ((l.take i).map f).length = i := by rw [List.length_map, List.length_take]; omega
  rw [List.set_append_right _ _ (by omega), hl, Nat.sub_self, show l.length - i = (l.length - (i + 1)) + 1 from by omega, List.replicate_succ, List.set_cons_zero, List.take_succ_eq_append_getElem hi, List.map_append, List.append_assoc]
  rfl
theorem fill_len {α β : Type} (f : α → β) (z : β) (l : List α) (i : Nat) (hi : i ≤ l.length) : ((l.take i).map f ++ List.replicate (l.length - i) z).length = l.length := by
  rw [List.length_append, List.length_map, List.length_take, List.length_replicate]; omega
theorem fill_end {α β : Type} (f : α → β) (z : β) (l : List α) (i : Nat) (hi : l.length ≤ i) : (l.take i).map f ++ List.replicate (l.length - i) z = l.map f := by
  rw [List.take_of_length_le hi, show l.length - i = 0 from by omega]; simp
abbrev LC := S66
abbrev LL := S53
def tC (x : LC) : Cl := ⟨x.f0, x.f1⟩
def tL (x : LL) : Ln := ⟨x.f0, x.f1, x.f2, x.f3⟩
def tT (l : List LC) : List Cl := l.map tC
def tP (l : List LL) : List Ln := l.map tL
theorem ev_szClassS_l0 {l : List LC} (hl : l.length ≤ 9223372036854775807) (hg : ∀ y ∈ l, good66 y) : ∀ (n i : Nat) (a : Int), l.length ≤ n + i → 0 ≤ a → a ≤ 1048576 → l.length ≤ 1048576 →
    ∃ r, Ev (fun k => laws_szClassS.l0 k l a i) r ∧ (r < 0 ∨ (0 ≤ r ∧ r ≤ a ∧ ∀ j, i ≤ j → (h : j < l.length) → l[j].f0.size ≤ 1048576))
  | 0, i, a, h, h0, h1, h2 => by
    refine ⟨a, ?_, .inr ⟨h0, by omega, fun j _ hj => by omega⟩⟩
    refine Ev.step (fun k => by rw [laws_szClassS.l0]) ?_
    exact Ev.neg (by omega) (Ev.now _)
  | n + 1, i, a, h, h0, h1, h2 => by
    by_cases hi : i < l.length
    · have e : rd_T66 l (i : Int) = l[i] := by simp [rd_T66, List.getD_eq_getElem?_getD, hi]
      have hs : l[i].f0.size ≤ maxLen := (hg _ (List.getElem_mem hi)).1
      unfold maxLen at hs
      by_cases hb : a - (l[i].f0.size : Int) < 0
      · refine ⟨-1, ?_, .inl (by omega)⟩
        refine Ev.step (fun k => by rw [laws_szClassS.l0]) ?_
        rw [e]
        simp only [laws_szClass.f]
        rw [wr (x := a - (l[i].f0.size : Int)) (by omega)]
        simp only [hb, if_true, Option.bind_some]
        exact Ev.pos (by omega) (Ev.pos (by omega) (Ev.pos (by omega) (Ev.now _)))
      · obtain ⟨r, hr1, hr2⟩ := ev_szClassS_l0 hl hg n (i + 1) (a - (l[i].f0.size : Int)) (by omega) (by omega) (by omega) h2
        refine ⟨r, ?_, ?_⟩
        · refine Ev.step (fun k => by rw [laws_szClassS.l0]) ?_
          rw [e]
          simp only [laws_szClass.f]
          rw [wr (x := a - (l[i].f0.size : Int)) (by omega), wS (by omega)]
          simp only [hb, if_false, Option.bind_some]
          exact Ev.pos (by omega) (Ev.pos (by omega) hr1)
        · rcases hr2 with h3 | ⟨h3, h4, h5⟩
          · exact .inl h3
          · refine .inr ⟨h3, by omega, fun j hj1 hj2 => ?_⟩
            by_cases hj : j = i
            · subst hj; omega
            · exact h5 j (by omega) hj2
    · refine ⟨a, ?_, .inr ⟨h0, by omega, fun j _ hj => by omega⟩⟩
      refine Ev.step (fun k => by rw [laws_szClassS.l0]) ?_
      exact Ev.neg (by omega) (Ev.now _)
theorem ev_szTree {l : List LC} (hl : l.length ≤ 9223372036854775807) (hg : ∀ y ∈ l, good66 y) {a : Int} (h0 : 0 ≤ a) (h1 : a ≤ 1048576) :
    ∃ r, Ev (fun k => laws_szTree.f k l a) r ∧ (r < 0 ∨ (0 ≤ r ∧ r ≤ a ∧ TS (tT l))) := by
  have hS : ∃ r, Ev (fun k => laws_szClassS.f k l a) r ∧ (r < 0 ∨ (0 ≤ r ∧ r ≤ a ∧ TS (tT l))) := by
    unfold laws_szClassS.f
    rw [wr (x := a - (l.length : Int)) (by omega)]
    by_cases hb : a - (l.length : Int) < 0
    · exact ⟨-1, Ev.pos hb (Ev.now _), .inl (by omega)⟩
    · obtain ⟨r, h2, h3⟩ := ev_szClassS_l0 hl hg l.length 0 (a - (l.length : Int)) (by omega) (by omega) (by omega) (by omega)
      refine ⟨r, Ev.neg hb h2, ?_⟩
      rcases h3 with h3 | ⟨h3, h4, h5⟩
      · exact .inl h3
      · refine .inr ⟨h3, by omega, by simp only [tT, List.length_map]; omega, fun i hi => ?_⟩
        simp only [tT, List.length_map] at hi
        have e : cn (tT l) i = l[i].f0 := by simp [cn, tT, tC, List.getD_eq_getElem?_getD, hi]
        rw [e]; exact h5 i (by omega) hi
  obtain ⟨r, h2, h3⟩ := hS
  unfold laws_szTree.f
  by_cases hr : r < 0
  · exact ⟨-1, Ev.bind h2 (Ev.pos hr (Ev.now _)), .inl (by omega)⟩
  · exact ⟨r, Ev.bind h2 (Ev.neg hr (Ev.now _)), h3⟩
theorem szLineS_eq {l : List LL} (hl : l.length ≤ 9223372036854775807) {a : Int} (h0 : 0 ≤ a) (h1 : a ≤ 1048576) :
    ∃ r, laws_szLineS.f l a = some r ∧ (r < 0 ∨ (0 ≤ r ∧ r ≤ a ∧ (tP l).length ≤ 1048576)) := by
  unfold laws_szLineS.f
  rw [wr (x := a - (l.length : Int)) (by omega)]
  by_cases hb : a - (l.length : Int) < 0
  · exact ⟨-1, if_pos hb, .inl (by omega)⟩
  · exact ⟨_, if_neg hb, .inr ⟨by omega, by omega, by simp only [tP, List.length_map]; omega⟩⟩
theorem ev_toTree {l : List LC} (hl : l.length ≤ 1048576) : Ev (fun k => laws_toTree.f k l) (tT l) := by
  have go : ∀ (n i : Nat), l.length ≤ n + i → i ≤ l.length → Ev (fun k => laws_toClassS.l0 k l ((l.take i).map tC ++ List.replicate (l.length - i) z68) i) (tT l) := by
    intro n
    induction n with
    | zero =>
      intro i h h2
      refine Ev.step (fun k => by rw [laws_toClassS.l0]) ?_
      rw [fill_end tC z68 l i (by omega)]
      exact Ev.neg (by omega) (Ev.now _)
    | succ n ih =>
      intro i h h2
      by_cases hi : i < l.length
      · have e : rd_T66 l (i : Int) = l[i] := by simp [rd_T66, List.getD_eq_getElem?_getD, hi]
        refine Ev.step (fun k => by rw [laws_toClassS.l0]) ?_
        simp only [laws_toClass.f, Option.bind_some]
        rw [e, fill_len tC z68 l i (by omega), wS (by omega), show ((i : Int)).toNat = i from rfl]
        refine Ev.pos (by omega) (Ev.pos (by omega) (Ev.pos (by omega) ?_))
        have := ih (i + 1) (by omega) (by omega)
        rw [← fill_set tC z68 l i hi] at this
        exact this
      · refine Ev.step (fun k => by rw [laws_toClassS.l0]) ?_
        rw [fill_end tC z68 l i (by omega)]
        exact Ev.neg (by omega) (Ev.now _)
  have h2 : Ev (fun k => laws_toClassS.f k l) (tT l) := by
    unfold laws_toClassS.f
    refine Ev.pos (by omega) (Ev.pos (by omega) ?_)
    exact go l.length 0 (by omega) (by omega)
  unfold laws_toTree.f
  exact Ev.bind h2 (Ev.now _)
theorem ev_toLineS {l : List LL} (hl : l.length ≤ 1048576) : Ev (fun k => laws_toLineS.f k l) (tP l) := by
  have go : ∀ (n i : Nat), l.length ≤ n + i → i ≤ l.length → Ev (fun k => laws_toLineS.l0 k l ((l.take i).map tL ++ List.replicate (l.length - i) z50) i) (tP l) := by
    intro n
    induction n with
    | zero =>
      intro i h h2
      refine Ev.step (fun k => by rw [laws_toLineS.l0]) ?_
      rw [fill_end tL z50 l i (by omega)]
      exact Ev.neg (by omega) (Ev.now _)
    | succ n ih =>
      intro i h h2
      by_cases hi : i < l.length
      · have e : rd_T53 l (i : Int) = l[i] := by simp [rd_T53, List.getD_eq_getElem?_getD, hi]
        refine Ev.step (fun k => by rw [laws_toLineS.l0]) ?_
        simp only [laws_toLine.f, Option.bind_some]
        rw [e, fill_len tL z50 l i (by omega), wS (by omega), show ((i : Int)).toNat = i from rfl]
        refine Ev.pos (by omega) (Ev.pos (by omega) (Ev.pos (by omega) ?_))
        have := ih (i + 1) (by omega) (by omega)
        rw [← fill_set tL z50 l i hi] at this
        exact this
      · refine Ev.step (fun k => by rw [laws_toLineS.l0]) ?_
        rw [fill_end tL z50 l i (by omega)]
        exact Ev.neg (by omega) (Ev.now _)
  unfold laws_toLineS.f
  refine Ev.pos (by omega) (Ev.pos (by omega) ?_)
  exact go l.length 0 (by omega) (by omega)
theorem ev_eqTree {l : List Cl} (hl : l.length ≤ 1048576) : Ev (fun k => laws_eqTree.f k l l) true := by
  have go : ∀ (n i : Nat), l.length ≤ n + i → Ev (fun k => laws_eqClassS.l0 k l l i) true := by
    intro n
    induction n with
    | zero =>
      intro i h
      refine Ev.step (fun k => by rw [laws_eqClassS.l0]) ?_
      exact Ev.neg (by omega) (Ev.now _)
    | succ n ih =>
      intro i h
      refine Ev.step (fun k => by rw [laws_eqClassS.l0]) ?_
      by_cases hi : i < l.length
      · simp only [laws_eqClass.f, if_true, Option.bind_some]
        rw [wS (by omega)]
        exact Ev.pos (by omega) (Ev.pos (by omega) (Ev.pos (by omega) (ih (i + 1) (by omega))))
      · exact Ev.neg (by omega) (Ev.now _)
  unfold laws_eqTree.f
  refine Ev.bind (a := true) ?_ (Ev.pos rfl (Ev.now _))
  unfold laws_eqClassS.f
  exact Ev.pos rfl (go l.length 0 (by omega))
theorem ev_eqLineS {l : List Ln} (hl : l.length ≤ 1048576) : Ev (fun k => laws_eqLineS.f k l l) true := by
  have go : ∀ (n i : Nat), l.length ≤ n + i → Ev (fun k => laws_eqLineS.l0 k l l i) true := by
    intro n
    induction n with
    | zero =>
      intro i h
      refine Ev.step (fun k => by rw [laws_eqLineS.l0]) ?_
      exact Ev.neg (by omega) (Ev.now _)
    | succ n ih =>
      intro i h
      refine Ev.step (fun k => by rw [laws_eqLineS.l0]) ?_
      by_cases hi : i < l.length
      · simp only [laws_eqLine.f, if_true, Option.bind_some]
        rw [wS (by omega)]
        exact Ev.pos (by omega) (Ev.pos (by omega) (Ev.pos (by omega) (ih (i + 1) (by omega))))
      · exact Ev.neg (by omega) (Ev.now _)
  unfold laws_eqLineS.f
  exact Ev.pos rfl (go l.length 0 (by omega))
end Go.Proofs.Ytbclgpgolbmlpaa.Pure
end

section
namespace Go.Proofs.Ytbclgpgolbmlpaa.Pure
open Go Go.RowKit Go.Proofs.Ytbclgpgolbmlpaa.P Go.Proofs.YtbclgpgolbmlpaaW.PrintWords
set_option linter.unusedVariables false
def encN (p : List Ln) : Nat → Int → List Nat
  | 0, _ => []
  | i + 1, d => if dp p i < d then i :: encN p i (dp p i) else encN p i d
def encI (p : List Ln) (a : Nat) : Nat → List Nat
  | 0 => []
  | i + 1 => if isO (kd p i) = true ∧ a < bEnd p i then i :: encI p a i else encI p a i
def enc (p : List Ln) (a : Nat) : List Nat := encN p a (dp p a)
theorem encN_lt (p : List Ln) : ∀ (i : Nat) (d : Int), ∀ j ∈ encN p i d, j < i
  | 0, d, j, h => by simp [encN] at h
  | i + 1, d, j, h => by
    simp only [encN] at h
    split at h
    · rcases List.mem_cons.mp h with rfl | h
      · omega
      · have := encN_lt p i _ j h; omega
    · have := encN_lt p i _ j h; omega
theorem encN_len (p : List Ln) : ∀ (i : Nat) (d : Int), (encN p i d).length ≤ i
  | 0, d => by simp [encN]
  | i + 1, d => by
    simp only [encN]
    split
    · have := encN_len p i (dp p i); simp only [List.length_cons]; omega
    · have := encN_len p i d; omega
theorem encI_eq {p : List Ln} (hr : DR p) {a : Nat} (ha : a < p.length) : ∀ (i : Nat) (d : Int), i ≤ a → (∀ j, i ≤ j → j ≤ a → d ≤ dp p j) → (∃ j, i ≤ j ∧ j ≤ a ∧ dp p j = d) → encI p a i = encN p i d
  | 0, d, _, _, _ => rfl
  | i + 1, d, hi, h1, h2 => by
    have key : (isO (kd p i) = true ∧ a < bEnd p i) ↔ dp p i < d := by
      constructor
      · rintro ⟨_, h3⟩
        obtain ⟨j, a1, a2, a3⟩ := h2
        have := bEnd_in (p := p) (i := i) (j := j) (by omega) (by omega)
        omega
      · intro h3
        have h4 : a < bEnd p i := (bEnd_lt_iff (by omega) ha).mpr fun j a1 a2 => by have := h1 j (by omega) a2; omega
        refine ⟨?_, h4⟩
        cases ho : isO (kd p i) with
        | true => rfl
        | false =>
          have x := hr.none i (by omega) ho
          have y := bEnd_in (p := p) (i := i) (j := i + 1) (by omega) (by omega)
          omega
    simp only [encI, encN]
    by_cases h3 : dp p i < d
    · rw [if_pos (key.mpr h3), if_pos h3]
      congr 1
      refine encI_eq hr ha i (dp p i) (by omega) (fun j a1 a2 => ?_) ⟨i, by omega, by omega, rfl⟩
      by_cases hj : j = i
      · rw [hj]; omega
      · have := h1 j (by omega) a2; omega
    · rw [if_neg (fun h => h3 (key.mp h)), if_neg h3]
      refine encI_eq hr ha i d (by omega) (fun j a1 a2 => ?_) ?_
      · by_cases hj : j = i
        · rw [hj]; omega
        · exact h1 j (by omega) a2
      · obtain ⟨j, a1, a2, a3⟩ := h2
        exact ⟨j, by omega, a2, a3⟩
theorem enc_eq {p : List Ln} (hr : DR p) {a : Nat} (ha : a < p.length) : encI p a a = enc p a :=
  encI_eq hr ha a (dp p a) (by omega) (fun j h1 h2 => by rw [show j = a from by omega]; omega) ⟨a, by omega, by omega, rfl⟩
theorem ev_sEnc_l0 {p : List Ln} (hp : p.length ≤ 1048576) : ∀ (i : Nat) (d : Int) (l : List Nat), i ≤ p.length → l.length + i ≤ 1048576 → Ev (fun k => spec_enclosing.l0 k p (ci l) d ((i : Int) - 1)) (ci (l ++ encN p i d))
  | 0, d, l, h, _ => by
    refine Ev.step (fun k => by rw [spec_enclosing.l0]) ?_
    rw [encN, List.append_nil]
    exact Ev.neg (by omega) (Ev.now _)
  | i + 1, d, l, h, hl => by
    refine Ev.step (fun k => by rw [spec_enclosing.l0]) ?_
    rw [iP]
    simp only [r0, ci_len, ci_snoc]
    rw [iM (by omega), encN]
    refine Ev.pos (by omega) (Ev.pos (by omega) (Ev.pos (by omega) ?_))
    by_cases h1 : dp p i < d
    · refine Ev.pos h1 (Ev.pos (by omega) ?_)
      rw [if_pos h1]
      have := ev_sEnc_l0 hp i (dp p i) (l ++ [i]) (by omega) (by rw [List.length_append, List.length_singleton]; omega)
      rw [List.append_assoc] at this
      exact this
    · refine Ev.neg h1 ?_
      rw [if_neg h1]
      exact ev_sEnc_l0 hp i d l (by omega) (by omega)
theorem ev_sEnc {p : List Ln} (hp : p.length ≤ 1048576) {a : Nat} (ha : a < p.length) : Ev (fun k => spec_enclosing.f k p a) (ci (enc p a)) := by
  unfold spec_enclosing.f
  simp only [r0]
  rw [iM (by omega)]
  exact Ev.pos (by omega) (Ev.pos (by omega) (ev_sEnc_l0 hp a _ [] (by omega) (by simp only [List.length_nil]; omega)))
theorem ev_iEnc_l0 {p : List Ln} (hp : p.length ≤ 1048576) {a : Nat} (ha : a < p.length) : ∀ (i : Nat) (l : List Nat), i ≤ p.length → l.length + i ≤ 1048576 → Ev (fun k => impl_enclosing.l0 k p a (ci l) ((i : Int) - 1)) (ci (l ++ encI p a i))
  | 0, l, h, _ => by
    refine Ev.step (fun k => by rw [impl_enclosing.l0]) ?_
    rw [encI, List.append_nil]
    simp only [slices_Clip_int_int.f, Option.bind_some]
    exact Ev.neg (by omega) (Ev.now _)
  | i + 1, l, h, hl => by
    refine Ev.step (fun k => by rw [impl_enclosing.l0]) ?_
    rw [iP]
    simp only [r0, r1, opi, Option.bind_some, ci_len, ci_snoc]
    rw [iM (by omega), encI]
    refine Ev.pos (by omega) (Ev.pos (by omega) (Ev.pos (by omega) ?_))
    by_cases h1 : isO (kd p i) = true
    · refine Ev.pos h1 (Ev.bind (ev_endOf hp (by omega)) ?_)
      by_cases h2 : a < bEnd p i
      · refine Ev.pos (by omega) (Ev.pos (by omega) ?_)
        rw [if_pos ⟨h1, h2⟩]
        have := ev_iEnc_l0 hp ha i (l ++ [i]) (by omega) (by rw [List.length_append, List.length_singleton]; omega)
        rw [List.append_assoc] at this
        exact this
      · refine Ev.neg (by omega) ?_
        rw [if_neg (fun h => h2 h.2)]
        exact ev_iEnc_l0 hp ha i l (by omega) (by omega)
    · refine Ev.neg h1 ?_
      rw [if_neg (fun h => h1 h.1)]
      exact ev_iEnc_l0 hp ha i l (by omega) (by omega)
theorem ev_iEnc {p : List Ln} (hp : p.length ≤ 1048576) (hr : DR p) {a : Nat} (ha : a < p.length) : Ev (fun k => impl_enclosing.f k p a) (ci (enc p a)) := by
  unfold impl_enclosing.f
  rw [iM (by omega), ← enc_eq hr ha]
  exact ev_iEnc_l0 hp ha a [] (by omega) (by simp only [List.length_nil]; omega)
theorem ValidP.dr {t : List Cl} {p : List Ln} (h : ValidP t p) : DR p := (off_DR p).mp fun i hi => (h.2.2 i hi).2.2.1
def At (t : List Cl) (p : List Ln) (a : Int) : Prop := ValidP t p ∧ 0 ≤ a ∧ a < (p.length : Int)
theorem ev_goods {t : List Cl} {p : List Ln} (hp : p.length ≤ 1048576) (ht : TS t) (a : Int) :
    ∃ b, Ev (fun k => spec_goodLine.f k t p a) b ∧ Ev (fun k => impl_lineIn.f k t p a) b ∧ (b = true ↔ At t p a) := by
  refine ⟨vB t p && bw a 0 ((p.length : Int) - 1), ?_, ?_, ?_⟩
  · unfold spec_goodLine.f
    refine Ev.bind (sValid hp ht) ?_
    rw [wr (by omega), iR]
    cases vB t p with
    | true => exact Ev.pos rfl (by simpa using Ev.now _)
    | false => exact Ev.neg (by simp) (by simpa using Ev.now false)
  · unfold impl_lineIn.f
    refine Ev.bind (iValid hp ht) ?_
    rw [wr (by omega), iW]
    cases vB t p with
    | true => exact Ev.pos rfl (by simpa using Ev.now _)
    | false => exact Ev.neg (by simp) (by simpa using Ev.now false)
  · rw [Bool.and_eq_true, vB_iff, bw_iff]
    unfold At
    constructor
    · rintro ⟨x, y, z⟩; exact ⟨x, y, by omega⟩
    · rintro ⟨x, y, z⟩; exact ⟨x, y, by omega⟩
theorem At.nat {t : List Cl} {p : List Ln} {a : Int} (h : At t p a) : ∃ n : Nat, a = (n : Int) ∧ n < p.length := ⟨a.toNat, by have := h.2.1; omega, by have := h.2.1; have := h.2.2; omega⟩
end Go.Proofs.Ytbclgpgolbmlpaa.Pure
end

section
namespace Go.Proofs.Ytbclgpgolbmlpaa.Pure
open Go Go.RowKit Go.Proofs.Ytbclgpgolbmlpaa.P Go.Proofs.YtbclgpgolbmlpaaW.PrintWords
set_option linter.unusedVariables false
def lpF (p : List Ln) : List Nat → Int
  | [] => -1
  | a :: r => if kd p a = 12 then (a : Int) else lpF p r
theorem ev_sLoop {p : List Ln} (hp : p.length ≤ 1048576) (L : List Nat) (hL : ∀ j ∈ L, j < p.length) (hl : L.length ≤ 1048576) : ∀ (r : List Nat) (j : Nat), L.drop j = r → Ev (fun k => spec_LoopOf.l0 k p (ci L) j) (lpF p r)
  | [], j, h => by
    have := ci_end h
    refine Ev.step (fun k => by rw [spec_LoopOf.l0]) ?_
    rw [ci_len]
    exact Ev.neg (by omega) (Ev.now _)
  | a :: r, j, h => by
    obtain ⟨h1, h2, h3⟩ := ci_drop h
    have ha : a < p.length := hL a (List.mem_of_mem_drop (by rw [h]; simp))
    refine Ev.step (fun k => by rw [spec_LoopOf.l0]) ?_
    rw [h2]
    simp only [ci_len, r1]
    rw [wS (by omega), lpF]
    refine Ev.pos (by omega) (Ev.pos (by omega) (Ev.pos (by omega) (Ev.pos (by omega) ?_)))
    by_cases h4 : kd p a = 12
    · refine Ev.pos h4 ?_
      rw [if_pos h4]; exact Ev.now _
    · refine Ev.neg h4 ?_
      rw [if_neg h4]; exact ev_sLoop hp L hL hl r (j + 1) h3
theorem ev_iLoop {p : List Ln} (hp : p.length ≤ 1048576) (L : List Nat) (hL : ∀ j ∈ L, j < p.length) (hl : L.length ≤ 1048576) : ∀ (r : List Nat) (j : Nat), L.drop j = r → Ev (fun k => impl_loopOf.l0 k p (ci L) (L.length : Int) j) (lpF p r)
  | [], j, h => by
    have := ci_end h
    refine Ev.step (fun k => by rw [impl_loopOf.l0]) ?_
    exact Ev.neg (by omega) (Ev.now _)
  | a :: r, j, h => by
    obtain ⟨h1, h2, h3⟩ := ci_drop h
    have ha : a < p.length := hL a (List.mem_of_mem_drop (by rw [h]; simp))
    refine Ev.step (fun k => by rw [impl_loopOf.l0]) ?_
    rw [h2]
    simp only [ci_len, r1]
    rw [wS (by omega), lpF]
    refine Ev.pos (by omega) (Ev.pos (by omega) (Ev.pos (by omega) (Ev.pos (by omega) (Ev.pos (by omega) ?_))))
    by_cases h4 : kd p a = 12
    · refine Ev.pos h4 ?_
      rw [if_pos h4]; exact Ev.now _
    · refine Ev.neg h4 ?_
      rw [if_neg h4]; exact ev_iLoop hp L hL hl r (j + 1) h3
theorem enc_lt {p : List Ln} {a : Nat} (ha : a < p.length) : ∀ j ∈ enc p a, j < p.length := fun j hj => by have := encN_lt p a _ j hj; omega
theorem ev_loopOf {p : List Ln} (hp : p.length ≤ 1048576) (hr : DR p) {a : Nat} (ha : a < p.length) : Ev (fun k => impl_loopOf.f k p a) (lpF p (enc p a)) := by
  unfold impl_loopOf.f
  refine Ev.bind (ev_iEnc hp hr ha) ?_
  rw [ci_len]
  exact ev_iLoop hp (enc p a) (enc_lt ha) (by have := encN_len p a (dp p a); unfold enc; omega) _ 0 rfl
theorem ev_LoopOf {p : List Ln} {t : List Cl} (hp : p.length ≤ 1048576) (ht : TS t) (a : Int) : ∃ r, Ev (fun k => spec_LoopOf.f k t p a) r ∧ Ev (fun k => impl_LoopOf.f k t p a) r ∧ ((∀ n : Nat, ValidP t p → a = (n : Int) → n < p.length → r = lpF p (enc p n)) ∧ (¬ At t p a → r = -1)) := by
  obtain ⟨b, h1, h2, h3⟩ := ev_goods hp ht a
  unfold spec_LoopOf.f impl_LoopOf.f
  cases b with
  | false =>
    have hn : ¬ At t p a := fun h => by cases h3.mpr h
    exact ⟨-1, Ev.bind h1 (Ev.neg (by simp) (Ev.now _)), Ev.bind h2 (Ev.neg (by simp) (Ev.now _)), fun n hv he hn2 => absurd ⟨hv, by omega, by omega⟩ hn, fun _ => rfl⟩
  | true =>
    have hA := h3.mp rfl
    obtain ⟨n, rfl, hn⟩ := hA.nat
    refine ⟨lpF p (enc p n), Ev.bind h1 (Ev.pos rfl (Ev.bind (ev_sEnc hp hn) ?_)), Ev.bind h2 (Ev.pos rfl (Ev.bind (ev_loopOf hp hA.1.dr hn) (Ev.now _))), fun m _ he _ => by rw [show m = n from by omega], fun h => absurd hA h⟩
    exact ev_sLoop hp (enc p n) (enc_lt hn) (by have := encN_len p n (dp p n); unfold enc; omega) _ 0 rfl
end Go.Proofs.Ytbclgpgolbmlpaa.Pure
end

section
namespace Go.Proofs.Ytbclgpgolbmlpaa.Pure
open Go Go.RowKit Go.Proofs.Ytbclgpgolbmlpaa.P Go.Proofs.YtbclgpgolbmlpaaW.PrintWords
set_option linter.unusedVariables false
theorem FnExactLoopOf : ∀ (l0_0 : List S66) (l1 : List S53) (a2 : Int), l0_0.length ≤ 9223372036854775807 → (∀ y ∈ l0_0, good66 y) → l1.length ≤ 9223372036854775807 → (∀ y ∈ l1, good53 y) → (Lit.int .i64 a2).wf = true → ∃ k, laws_FnExactLoopOf.f k l0_0 l1 a2 = some true := by
  intro t p a ht htg hp hpg _
  refine Ev.rounds (g := fun k => laws_FnExactLoopOf.f k t p a) ?_
  obtain ⟨r, h1, h2⟩ := ev_szTree ht htg (a := 1048576) (by omega) (by omega)
  unfold laws_FnExactLoopOf.f
  by_cases hr : r < 0
  · exact Ev.bind h1 (Ev.pos hr (Ev.now _))
  obtain ⟨q, h3, h4⟩ := szLineS_eq (l := p) hp (a := r) (by omega) (by omega)
  rcases h2 with h2 | ⟨_, _, hT⟩
  · exact absurd h2 hr
  refine Ev.bind h1 (Ev.neg hr ?_)
  rw [h3]
  simp only [Option.bind_some]
  by_cases hq : q < 0
  · exact Ev.pos hq (Ev.now _)
  rcases h4 with h4 | ⟨_, _, hP⟩
  · exact absurd h4 hq
  have ht2 := hT.1
  have hp2 : p.length ≤ 1048576 := by simpa [tP] using hP
  have ht3 : t.length ≤ 1048576 := by simpa [tT] using ht2
  obtain ⟨z, z1, z2, _⟩ := ev_LoopOf hP hT a
  have eT := ev_toTree ht3
  have eP := ev_toLineS hp2
  refine Ev.neg hq (Ev.bind eT (Ev.bind eP (Ev.bind z1 (Ev.bind eT (Ev.bind eP (Ev.bind z2 (Ev.pos rfl ?_)))))))
  exact Ev.bind eT (Ev.bind (ev_eqTree ht2) (Ev.pos rfl (Ev.bind eP (Ev.bind (ev_eqLineS hP) (Ev.pos rfl (Ev.now _))))))
end Go.Proofs.Ytbclgpgolbmlpaa.Pure
end
