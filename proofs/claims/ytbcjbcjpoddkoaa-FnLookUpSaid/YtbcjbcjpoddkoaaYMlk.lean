/- One part of the proofs on this program: functions of the program as plain functions, that the code comes to them, and facts on them. -/
import Derived.Test.YtbcjbcjpoddkoaaYAll1
import Derived.Test.YtbcjbcjpoddkoaaYAll8
import Derived.Test.YtbcjbcjpoddkoaaYMj
section
set_option linter.unusedSimpArgs false
set_option linter.unusedVariables false
namespace Go.Proofs.Ytbcjbcjpoddkoaa.Pure
open Go Go.RowKit Go.Proofs.Ytbcjbcjpoddkoaa.P Go.Proofs.YtbcjbcjpoddkoaaW.PrintWords
set_option linter.unusedVariables false
theorem hasC {t : List Cl} {c : Int} : hasB t c = true ↔ 0 ≤ c ∧ c < t.length := by unfold hasB; rw [bw_iff]; omega
abbrev Rk := S48
def rokB (t : List Cl) (x : Rk) : Bool := bw x.f0 0 24 && (bw x.f1 x.f0 24 && (bw x.f2 0 23 && hasB t x.f3))
def hitB (t : List Cl) (i a : Int) (x : Rk) : Bool := decide (x.f0 ≤ i) && (decide (i < x.f1) && isAB t a x.f3)
def lkF (t : List Cl) (i a : Int) : List Rk → Int
 | [] => -1
 | x :: r => if hitB t i a x = true then x.f2 else lkF t i a r
def lkB (t : List Cl) (l : List Rk) (i a : Int) : Int := if (treeB t = true ∧ hasB t a = true) ∧ l.length ≤ 24 ∧ l.all (rokB t) = true then lkF t i a l else -1
theorem rg_drop {l r : List Rk} {j : Nat} {x : Rk} (h : l.drop j = x :: r) : j < l.length ∧ rd_T48 l (j : Int) = x ∧ l.drop (j + 1) = r := by
 have hj : j < l.length := by
  rcases Nat.lt_or_ge j l.length with h1 | h1
  ·exact h1
  ·rw [List.drop_eq_nil_of_le h1] at h; cases h
 rw [List.drop_eq_getElem_cons hj] at h
 injection h with h1 h2
 refine ⟨hj, ?_, h2⟩
 simp [rd_T48, List.getD_eq_getElem?_getD, hj, h1]
theorem ev_classesIn {t : List Cl} (ht : TS t) (a : Int) : Ev (fun k => impl_classesIn.f k t [a]) (treeB t && hasB t a) := by
 unfold impl_classesIn.f
 refine Ev.bind (ev_ValidTree ht) ?_
 cases treeB t with
 | false => exact Ev.neg (by simp) (Ev.now _)
 | true =>
  refine Ev.pos rfl ?_
  simp only [idxFrom, iHas ht.1, Option.map_some, Option.bind_some]
  cases hasB t a with
  | true => simpa using Ev.now true
  | false => simpa using Ev.now false
theorem ev_classesIn2 {t : List Cl} (ht : TS t) (a b : Int) : Ev (fun k => impl_classesIn.f k t [a, b]) (treeB t && (hasB t a && hasB t b)) := by
 unfold impl_classesIn.f
 refine Ev.bind (ev_ValidTree ht) ?_
 cases treeB t with
 | false => exact Ev.neg (by simp) (Ev.now _)
 | true =>
  refine Ev.pos rfl ?_
  simp only [idxFrom, iHas ht.1, Option.map_some, Option.bind_some]
  cases hasB t a <;> cases hasB t b <;> first | simpa using Ev.now true | simpa using Ev.now false
theorem ev_at {t : List Cl} (ht : TS t) (hv : treeB t = true) {i a : Int} (ha : hasB t a = true) (x : Rk) : Ev (fun k => impl_LookUp.at k t i a x) (if rokB t x = true then some (hitB t i a x) else none) := by
 have hA := hasC.mp ha
 unfold impl_LookUp.at
 simp only [iW, iHas ht.1, Option.bind_some, rokB, hitB, Bool.and_eq_true]
 cases bw x.f0 0 24 with
 | false => exact Ev.neg (by simp) (by simpa using Ev.now (none : Option Bool))
 | true =>
 refine Ev.pos rfl ?_
 cases bw x.f1 x.f0 24 with
 | false => exact Ev.neg (by simp) (by simpa using Ev.now (none : Option Bool))
 | true =>
 refine Ev.pos rfl ?_
 cases bw x.f2 0 23 with
 | false => exact Ev.neg (by simp) (by simpa using Ev.now (none : Option Bool))
 | true =>
 refine Ev.pos rfl ?_
 cases hasB t x.f3 with
 | false => exact Ev.neg (by simp) (by simpa using Ev.now (none : Option Bool))
 | true =>
 refine Ev.pos rfl ?_
 simp only [and_self, if_true]
 refine Ev.both (fun h1 => ?_) (fun h1 => by simpa [h1] using Ev.now (some false))
 refine Ev.both (fun h2 => ?_) (fun h2 => by simpa [h1, h2] using Ev.now (some false))
 simp only [h1, h2, decide_true, Bool.true_and]
 obtain ⟨K, hK⟩ := ev_iIs ht.1 hv (a := a) hA.2 (by omega) x.f3
 exact ⟨K, fun k hk => by have := hK k hk; simp only [] at this ⊢; rw [this]; rfl⟩
theorem ev_list {α β : Type} {f : Nat → α → Option β} {g : α → β} : ∀ (l : List α), (∀ x ∈ l, Ev (fun k => f k x) (g x)) → ∃ K, ∀ k, K ≤ k → ∀ x ∈ l, f k x = some (g x)
 | [], _ => ⟨0, fun _ _ x hx => by cases hx⟩
 | y :: l, h => by
  obtain ⟨K, hK⟩ := ev_list l fun x hx => h x (List.mem_cons_of_mem _ hx)
  obtain ⟨K2, hK2⟩ := h y List.mem_cons_self
  refine ⟨max K K2, fun k hk x hx => ?_⟩
  rcases List.mem_cons.mp hx with rfl | hx
  ·exact hK2 k (by omega)
  ·exact hK k (by omega) x hx
theorem st_eq {k : Nat} {t : List Cl} {i a : Int} : ∀ (l : List Rk), (∀ x ∈ l, impl_LookUp.at k t i a x = some (some (hitB t i a x))) → impl_LookUp.st k t i a l.reverse = some (lkF t i a l)
 | [], _ => rfl
 | x :: l, h => by
  have ih := st_eq l fun y hy => h y (List.mem_cons_of_mem _ hy)
  unfold impl_LookUp.st at ih ⊢
  rw [List.reverse_cons, List.foldl_append, ih, List.foldl_cons, List.foldl_nil, impl_LookUp.step, Option.bind_some, h x List.mem_cons_self, lkF]
theorem st_none {k : Nat} {t : List Cl} {i a : Int} : ∀ (l : List Rk), (∃ x ∈ l, impl_LookUp.at k t i a x = some none) → impl_LookUp.st k t i a l.reverse = none
 | [], h => by obtain ⟨x, hx, _⟩ := h; cases hx
 | x :: l, h => by
  unfold impl_LookUp.st
  rw [List.reverse_cons, List.foldl_append, List.foldl_cons, List.foldl_nil, impl_LookUp.step]
  obtain ⟨y, hy, e⟩ := h
  rcases List.mem_cons.mp hy with rfl | hy
  ·rw [e]
   cases List.foldl (impl_LookUp.step k t i a) (some (-1)) l.reverse <;> rfl
  ·have ih := st_none l ⟨y, hy, e⟩
   unfold impl_LookUp.st at ih
   rw [ih]; rfl
theorem ev_LookUp {t : List Cl} (ht : TS t) (l : List Rk) (i a : Int) : Ev (fun k => impl_LookUp.f k t l i a) (lkB t l i a) := by
 unfold impl_LookUp.f lkB
 refine Ev.bind (ev_classesIn ht a) ?_
 by_cases hv : treeB t = true ∧ hasB t a = true
 ·refine Ev.pos (by simp [hv]) (Ev.both (fun h => ?_) (fun h => ?_))
  ·rw [if_neg (by omega)]; exact Ev.now _
  ·have h24 : l.length ≤ 24 := by omega
   obtain ⟨K, hK⟩ := ev_list (f := fun k x => impl_LookUp.at k t i a x) l fun x _ => ev_at ht hv.1 (i := i) hv.2 x
   refine ⟨K, fun k hk => ?_⟩
   have hk := hK k hk
   have hs : l.all (fun x => (impl_LookUp.at k t i a x).isSome) = true := by
    rw [List.all_eq_true]; intro x hx; rw [hk x hx]; rfl
   simp only [hs, if_true]
   by_cases hall : l.all (rokB t) = true
   ·rw [if_pos ⟨hv, h24, hall⟩, st_eq l fun x hx => by rw [hk x hx, if_pos (List.all_eq_true.mp hall x hx)]]; rfl
   ·rw [if_neg (fun h => hall h.2.2)]
    obtain ⟨x, hx, hn⟩ : ∃ x ∈ l, ¬ rokB t x = true := by
     simpa [List.all_eq_true] using hall
    rw [st_none l ⟨x, hx, by rw [hk x hx, if_neg hn]⟩]; rfl
 ·rw [if_neg (fun h => hv h.1)]
  exact Ev.neg (by simpa using hv) (Ev.now _)
theorem ev_validRanges {t : List Cl} (ht : TS t) {l : List Rk} (hl : l.length ≤ 1048576) : Ev (fun k => spec_validRanges.f k t l) (l.all (rokB t) && (treeB t && decide (l.length ≤ 24))) := by
 have : ∀ (r : List Rk) (j : Nat), l.drop j = r → Ev (fun k => spec_validRanges.l0 k l j t) (r.all (rokB t) && (treeB t && decide (l.length ≤ 24))) := by
  intro r
  induction r with
  | nil =>
   intro j h
   have hj : l.length ≤ j := by simpa using h
   refine Ev.step (fun k => by rw [spec_validRanges.l0]) ?_
   refine Ev.neg (by omega) (Ev.bind (ev_validTree ht) ?_)
   rw [List.all_nil, Bool.true_and]
   cases treeB t with
   | false => exact Ev.neg (by simp) (Ev.now _)
   | true => refine Ev.pos rfl ?_; rw [Bool.true_and, show decide (l.length ≤ 24) = decide ((l.length : Int) ≤ 24) from by rw [Bool.eq_iff_iff]; simp; omega]; exact Ev.now _
  | cons x r ih =>
   intro j h
   obtain ⟨h1, h2, h3⟩ := rg_drop h
   refine Ev.step (fun k => by rw [spec_validRanges.l0]) ?_
   rw [h2]
   simp only [iR, sHas ht.1, Option.bind_some]
   refine Ev.pos (by omega) (Ev.pos (by omega) ?_)
   have yes : rokB t x = true → Ev (fun k => spec_validRanges.j1 k l j false t) (List.all (x :: r) (rokB t) && (treeB t && decide (l.length ≤ 24))) := by
    intro hx
    refine Ev.step (fun k => by rw [spec_validRanges.j1]) ?_
    rw [wS (by omega), List.all_cons, hx, Bool.true_and]
    exact Ev.neg (by simp) (ih (j + 1) h3)
   have no : rokB t x = false → Ev (fun k => spec_validRanges.j1 k l j true t) (List.all (x :: r) (rokB t) && (treeB t && decide (l.length ≤ 24))) := by
    intro hx
    refine Ev.step (fun k => by rw [spec_validRanges.j1]) ?_
    rw [List.all_cons, hx, Bool.false_and, Bool.false_and]
    exact Ev.pos rfl (Ev.now _)
   unfold rokB at yes no
   cases b0 : bw x.f0 0 24 with
   | false => exact Ev.neg (by simp) (no (by simp [b0]))
   | true =>
   cases b1 : bw x.f1 x.f0 24 with
   | false => exact Ev.pos rfl (Ev.neg (by simp) (no (by simp [b1])))
   | true =>
   cases b2 : bw x.f2 0 23 with
   | false => exact Ev.pos rfl (Ev.pos rfl (Ev.neg (by simp) (no (by simp [b2]))))
   | true =>
   cases b3 : hasB t x.f3 with
   | false => exact Ev.pos rfl (Ev.pos rfl (Ev.pos rfl (no (by simp [b3]))))
   | true => exact Ev.pos rfl (Ev.pos rfl (Ev.pos rfl (yes (by simp [b0, b1, b2, b3]))))
 exact this l 0 rfl
theorem ev_sLookUp {t : List Cl} (ht : TS t) {l : List Rk} (hl : l.length ≤ 1048576) (i a : Int) : Ev (fun k => spec_LookUp.f k t l i a) (lkB t l i a) := by
 unfold spec_LookUp.f lkB
 refine Ev.bind (ev_validRanges ht hl) ?_
 simp only [sHas ht.1, Option.bind_some]
 have stop : Ev (fun k => spec_LookUp.j0 k l i a true t) (-1) := by
  refine Ev.step (fun k => by rw [spec_LookUp.j0]) ?_
  exact Ev.pos rfl (Ev.now _)
 by_cases hr : l.all (rokB t) = true ∧ treeB t = true ∧ l.length ≤ 24
 ·refine Ev.pos (by simp [hr.1, hr.2.1, hr.2.2]) ?_
  cases ha : hasB t a with
  | false => rw [if_neg (by simp)]; exact stop
  | true =>
   rw [if_pos ⟨⟨hr.2.1, rfl⟩, hr.2.2, hr.1⟩]
   refine Ev.step (fun k => by rw [spec_LookUp.j0]) ?_
   refine Ev.neg (by simp) ?_
   have hA := hasC.mp ha
   have : ∀ (r : List Rk) (j : Nat), l.drop j = r → Ev (fun k => spec_LookUp.l0 k l i a j t) (lkF t i a r) := by
    intro r
    induction r with
    | nil =>
     intro j h
     have hj : l.length ≤ j := by simpa using h
     refine Ev.step (fun k => by rw [spec_LookUp.l0]) ?_
     exact Ev.neg (by omega) (Ev.now _)
    | cons x r ih =>
     intro j h
     obtain ⟨h1, h2, h3⟩ := rg_drop h
     have hx : rokB t x = true := List.all_eq_true.mp hr.1 x (List.mem_of_mem_drop (h ▸ List.mem_cons_self))
     simp only [rokB, Bool.and_eq_true, bw_iff] at hx
     refine Ev.step (fun k => by rw [spec_LookUp.l0]) ?_
     rw [h2, wS (by omega), wr (x := x.f1 - 1) (by omega)]
     simp only [iR, Option.bind_some]
     refine Ev.pos (by omega) (Ev.pos (by omega) ?_)
     have nx := ih (j + 1) h3
     rw [lkF]
     by_cases hb : x.f0 ≤ i ∧ i < x.f1
     ·refine Ev.pos (by rw [bw_iff]; omega) (Ev.bind (ev_sIsA ht.1 hr.2.1 hA.2 (by omega) _) ?_)
      have e : hitB t i a x = isAB t a x.f3 := by simp [hitB, hb.1, hb.2]
      rw [e]
      by_cases hi : isAB t a x.f3 = true
      ·rw [if_pos hi]; exact Ev.pos hi (Ev.now _)
      ·rw [if_neg hi]; exact Ev.neg hi nx
     ·rw [if_neg (by simp only [hitB, Bool.and_eq_true, decide_eq_true_eq]; omega)]
      exact Ev.neg (by rw [bw_iff]; omega) nx
   exact this l 0 rfl
 ·refine Ev.neg (by simpa using hr) ?_
  rw [if_neg (fun h => hr ⟨h.2.2, h.1.1, h.2.1⟩)]
  exact stop
theorem ev_IsA {t : List Cl} (ht : TS t) (a b : Int) : Ev (fun k => impl_IsA.f k t a b) (treeB t && (hasB t a && hasB t b) && isAB t a b) := by
 unfold impl_IsA.f
 refine Ev.bind (ev_classesIn2 ht a b) ?_
 by_cases h : treeB t = true ∧ hasB t a = true ∧ hasB t b = true
 ·have hA := hasC.mp h.2.1
  rw [h.1, h.2.1, h.2.2]
  exact Ev.pos rfl (Ev.bind (ev_iIs ht.1 h.1 hA.2 (by omega) b) (by simpa using Ev.now _))
 ·have e : (treeB t && (hasB t a && hasB t b)) = false := by
   rw [Bool.eq_false_iff]; intro hh; simp only [Bool.and_eq_true] at hh; exact h hh
  rw [e]
  exact Ev.neg (by simp) (Ev.now _)
end Go.Proofs.Ytbcjbcjpoddkoaa.Pure
end
