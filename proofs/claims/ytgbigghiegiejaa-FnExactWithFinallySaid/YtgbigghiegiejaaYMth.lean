/- One part of the proofs on this program: functions of the program as plain functions, that the code comes to them, and facts on them. -/
import Derived.Test.YtgbigghiegiejaaYAll2
import Derived.Test.YtgbigghiegiejaaYAll4
import Derived.Test.YtgbigghiegiejaaYAll5
import Derived.Test.YtgbigghiegiejaaYMch
section
set_option linter.unusedSimpArgs false
set_option linter.unusedVariables false
namespace Go.Proofs.Ytgbigghiegiejaa.Pure
open Go Go.RowKit Go.Proofs.Ytgbigghiegiejaa.P Go.Proofs.YtgbigghiegiejaaW.PrintWords
set_option linter.unusedVariables false
def dpn (x : Ln) : Ln := ⟨wrap64 (x.f0 + 1), x.f1, x.f2, x.f3⟩
def inn (p : List Ln) : List Ln := if p = [] then [⟨1, 0, 0, 0⟩] else p.map dpn
theorem inn_len (p : List Ln) : (inn p).length ≤ p.length + 1 := by unfold inn; split <;> simp
theorem rdL {p : List Ln} {i : Nat} (h : i < p.length) : rd_T50 p (i : Int) = p[i] := by
 simp [rd_T50, List.getD_eq_getElem?_getD, h]
theorem ev_indent_l0 {p : List Ln} (hp : p.length ≤ 1048576) : ∀ (n i : Nat), p.length ≤ n + i → i ≤ p.length → Ev (fun k => spec_indent.l0 k ((p.take i).map dpn ++ p.drop i) i) (p.map dpn)
 | 0, i, h, hi => by
  obtain rfl : i = p.length := by omega
  refine Ev.step (fun k => by rw [spec_indent.l0]) ?_
  rw [List.take_of_length_le (Nat.le_refl _), List.drop_of_length_le (Nat.le_refl _), List.append_nil]
  exact Ev.neg (by rw [List.length_map]; omega) (Ev.now _)
 | n + 1, i, h, hi => by
  by_cases hlt : i < p.length
  ·refine Ev.step (fun k => by rw [spec_indent.l0]) ?_
   have hl : ((p.take i).map dpn ++ p.drop i).length = p.length := by simp; omega
   have hr : rd_T50 ((p.take i).map dpn ++ p.drop i) (i : Int) = p[i] := by
    rw [rdL (by omega), List.getElem_append_right (by simp; omega)]
    simp [Nat.min_eq_left hi]
   have hs : ((p.take i).map dpn ++ p.drop i).set i (dpn p[i]) = (p.take (i + 1)).map dpn ++ p.drop (i + 1) := by
    have hd : p.drop i = p[i] :: p.drop (i + 1) := List.drop_eq_getElem_cons hlt
    rw [List.set_append_right _ _ (by simp; omega), show i - ((p.take i).map dpn).length = 0 by simp; omega, hd, List.set_cons_zero, List.take_succ_eq_append_getElem hlt, List.map_append, List.append_assoc]
    rfl
   refine Ev.pos (by rw [hl]; omega) (Ev.pos (by omega) ?_)
   rw [hr, wS (by omega), Int.toNat_natCast]
   have := ev_indent_l0 hp n (i + 1) (by omega) (by omega)
   rw [← hs] at this
   exact this
  ·obtain rfl : i = p.length := by omega
   refine Ev.step (fun k => by rw [spec_indent.l0]) ?_
   rw [List.take_of_length_le (Nat.le_refl _), List.drop_of_length_le (Nat.le_refl _), List.append_nil]
   exact Ev.neg (by rw [List.length_map]; omega) (Ev.now _)
theorem ev_indent {p : List Ln} (hp : p.length ≤ 1048576) : Ev (fun k => spec_indent.f k p) (p.map dpn) := by
 unfold spec_indent.f
 simp only [Option.bind_some]
 refine Ev.pos (by simp only [List.length_nil]; omega) ?_
 exact ev_indent_l0 hp p.length 0 (by omega) (by omega)
theorem ev_under {p : List Ln} (hp : p.length ≤ 1048576) (a b c d : Int) : Ev (fun k => spec_under.f k a b c d p) (⟨a, b, c, d⟩ :: inn p) := by
 unfold spec_under.f inn
 simp only [Option.bind_some]
 cases p with
 | nil =>
  have e := ev_indent (p := [⟨0, 0, 0, 0⟩]) (by simp)
  rw [show ([⟨0, 0, 0, 0⟩] : List Ln).map dpn = [⟨1, 0, 0, 0⟩] by simp [dpn, wrap64]] at e
  rw [if_pos rfl]
  exact Ev.pos rfl (Ev.bind e (Ev.pos (by simp) (Ev.now _)))
 | cons x l =>
  refine Ev.neg (by simp only [List.length_cons]; omega) (Ev.bind (ev_indent hp) (Ev.pos ?_ (Ev.now _)))
  simp only [List.length_cons, List.length_nil, List.length_map] at hp ⊢; omega
theorem ev_inner_l0 {p : List Ln} (hp : p.length ≤ 1048576) : ∀ (n i : Nat), p.length ≤ n + i → i ≤ p.length → Ev (fun k => impl_inner.l0 k ((p.take i).map dpn) p (p.length : Int) i) (p.map dpn)
 | 0, i, h, hi => by
  obtain rfl : i = p.length := by omega
  refine Ev.step (fun k => by rw [impl_inner.l0]) ?_
  rw [List.take_of_length_le (Nat.le_refl _)]
  exact Ev.neg (by omega) (Ev.now _)
 | n + 1, i, h, hi => by
  by_cases hlt : i < p.length
  ·refine Ev.step (fun k => by rw [impl_inner.l0]) ?_
   rw [rdL hlt, wS (by omega)]
   have := ev_inner_l0 hp n (i + 1) (by omega) (by omega)
   rw [List.take_succ_eq_append_getElem hlt, List.map_append] at this
   exact Ev.pos (by omega) (Ev.pos (by omega) (Ev.pos (by omega) (Ev.pos (by simp only [List.length_map, List.length_take]; omega) this)))
  ·obtain rfl : i = p.length := by omega
   refine Ev.step (fun k => by rw [impl_inner.l0]) ?_
   rw [List.take_of_length_le (Nat.le_refl _)]
   exact Ev.neg (by omega) (Ev.now _)
theorem ev_inner {p : List Ln} (hp : p.length ≤ 1048576) : Ev (fun k => impl_inner.f k p) (inn p) := by
 unfold impl_inner.f inn
 cases p with
 | nil => exact Ev.pos rfl (Ev.now _)
 | cons x l =>
  rw [if_neg (by simp)]
  exact Ev.neg (by simp only [List.length_cons]; omega) (Ev.pos (by omega) (Ev.pos (by omega) (ev_inner_l0 hp _ 0 (by omega) (by omega))))
theorem ev_both {p q : List Ln} {t : List Cl} (hp : p.length ≤ 1048576) (hq : q.length ≤ 1048576) (ht : TS t) : Ev (fun k => spec_both.f k t p q) (vB t p && vB t q) ∧ Ev (fun k => impl_bothValid.f k t p q) (vB t p && vB t q) := by
 unfold spec_both.f impl_bothValid.f
 have h1 := sValid hp ht
 have h2 := iValid hp ht
 cases hv : vB t p with
 | false => rw [hv] at h1 h2; exact ⟨Ev.bind h1 (Ev.neg (by simp) (Ev.now _)), Ev.bind h2 (Ev.neg (by simp) (Ev.now _))⟩
 | true => rw [hv] at h1 h2; exact ⟨Ev.bind h1 (Ev.pos rfl (Ev.bind (sValid hq ht) (by simpa using Ev.now _))), Ev.bind h2 (Ev.pos rfl (Ev.bind (iValid hq ht) (by simpa using Ev.now _)))⟩
theorem vB_len {t : List Cl} {p : List Ln} (h : vB t p = true) : p.length ≤ 24 := (vB_iff.mp h).2.1
theorem concatN {l : List (List Ln)} (h : l.flatten.length < 4398046511104) : slices_Concat_Line.f l = some l.flatten := by unfold slices_Concat_Line.f; rw [if_pos h]
theorem okP_le {t : List Cl} {p : List Ln} (h : p.length ≤ 1048576) : (okP t p).1.length ≤ 1048576 := Nat.le_trans okP_len h
end Go.Proofs.Ytgbigghiegiejaa.Pure
end
