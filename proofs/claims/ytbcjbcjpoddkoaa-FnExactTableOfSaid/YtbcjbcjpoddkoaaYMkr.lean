/- One part of the proofs on this program: functions of the program as plain functions, that the code comes to them, and facts on them. -/
import Derived.Test.YtbcjbcjpoddkoaaYAll4
import Derived.Test.YtbcjbcjpoddkoaaYAll5
import Derived.Test.YtbcjbcjpoddkoaaYAll6
import Derived.Test.YtbcjbcjpoddkoaaYMrk
import Derived.Test.YtbcjbcjpoddkoaaYMx
section
set_option linter.unusedSimpArgs false
set_option linter.unusedVariables false
namespace Go.Proofs.Ytbcjbcjpoddkoaa.Pure
open Go Go.RowKit Go.Proofs.Ytbcjbcjpoddkoaa.P Go.Proofs.YtbcjbcjpoddkoaaW.PrintWords
set_option linter.unusedVariables false
def mkr (i : Nat) : Rk := ⟨1 + 4 * (i : Int), 1 + 4 * (i : Int) + 1, 1 + 4 * (i : Int) + 2, 1 + 4 * (i : Int) + 3⟩
def marksR (n : Nat) : List Rk := (List.range n).map mkr
theorem marksR_len (n : Nat) : (marksR n).length = n := by simp [marksR]
theorem marksR_succ (n : Nat) : marksR (n + 1) = marksR n ++ [mkr n] := by simp [marksR, List.range_succ]
theorem rd_setR {x : List Rk} {i : Nat} (hi : i < x.length) (v : Rk) : rd_T48 (x.set i v) (i : Int) = v := by
 unfold rd_T48
 rw [Int.toNat_natCast, List.getD_eq_getElem?_getD, List.getElem?_set_self hi]; rfl
theorem ev_markRangeS2 {r : List Rk} (hr : r.length ≤ 1048576) : Ev (fun k => laws_markRangeS.f k r 1) (1 + 4 * (r.length : Int), marksR r.length) := by
 have go : ∀ (n i : Nat), r.length ≤ n + i → i ≤ r.length → Ev (fun k => laws_markRangeS.l0 k (marksR i ++ r.drop i) (1 + 4 * (i : Int)) i) (1 + 4 * (r.length : Int), marksR r.length) := by
  intro n
  induction n with
  | zero =>
   intro i h hi
   refine Ev.step (fun k => by rw [laws_markRangeS.l0]) ?_
   obtain rfl : i = r.length := by omega
   rw [List.drop_length, List.append_nil, marksR_len]
   exact Ev.neg (by omega) (Ev.now _)
  | succ n ih =>
   intro i h hi
   by_cases hlt : i < r.length
   ·have hl : (marksR i ++ r.drop i).length = r.length := by rw [List.length_append, marksR_len, List.length_drop]; omega
    have hx : i < (marksR i ++ r.drop i).length := by omega
    have e : (marksR i ++ r.drop i).set i (mkr i) = marksR (i + 1) ++ r.drop (i + 1) := by
     rw [List.set_append_right _ _ (by rw [marksR_len]; omega), marksR_len, Nat.sub_self, List.drop_eq_getElem_cons hlt, List.set_cons_zero, marksR_succ, List.append_assoc]
     rfl
    have hz := ih (i + 1) (by omega) (by omega)
    rw [← e] at hz
    generalize hX : marksR i ++ r.drop i = X at *
    refine Ev.step (fun k => by rw [laws_markRangeS.l0]) ?_
    refine Ev.pos (by omega) (Ev.pos (by omega) ?_)
    rw [show (i : Int).toNat = i from rfl]
    refine Ev.bind (Ev.now _) (Ev.bind (Ev.now _) (Ev.bind (Ev.now _) ?_))
    rw [wr (x := 1 + 4 * (i : Int) + 1) (by omega), wr (x := 1 + 4 * (i : Int) + 1 + 1) (by omega), wr (x := 1 + 4 * (i : Int) + 1 + 1 + 1) (by omega), wr (x := 1 + 4 * (i : Int) + 1 + 1 + 1 + 1) (by omega), wS (by omega)]
    simp only [List.set_set, rd_setR (show i < X.length by omega)]
    rw [show 1 + 4 * (i : Int) + 1 + 1 + 1 + 1 = 1 + 4 * ((i + 1 : Nat) : Int) from by omega, show 1 + 4 * (i : Int) + 1 + 1 + 1 = 1 + 4 * (i : Int) + 3 from by omega, show 1 + 4 * (i : Int) + 1 + 1 = 1 + 4 * (i : Int) + 2 from by omega]
    exact hz
   ·refine Ev.step (fun k => by rw [laws_markRangeS.l0]) ?_
    obtain rfl : i = r.length := by omega
    rw [List.drop_length, List.append_nil, marksR_len]
    exact Ev.neg (by omega) (Ev.now _)
 exact go r.length 0 (by omega) (by omega)
theorem marksR_at {n i : Nat} (h : i < n) : rd_T48 (marksR n) (i : Int) = mkr i := by simp [rd_T48, marksR, List.getD_eq_getElem?_getD, h]
theorem ev_heldRangeS {m : Nat} (hm : m ≤ 1048576) : Ev (fun k => laws_heldRangeS.f k (marksR m) 1) (1 + 4 * (m : Int)) := by
 have go : ∀ (n i : Nat), m ≤ n + i → i ≤ m → Ev (fun k => laws_heldRangeS.l0 k (marksR m) (1 + 4 * (i : Int)) i) (1 + 4 * (m : Int)) := by
  intro n
  induction n with
  | zero =>
   intro i h hi
   refine Ev.step (fun k => by rw [laws_heldRangeS.l0]) ?_
   rw [marksR_len, show i = m from by omega]
   exact Ev.neg (by omega) (Ev.now _)
  | succ n ih =>
   intro i h hi
   by_cases hlt : i < m
   ·have hz := ih (i + 1) (by omega) (by omega)
    refine Ev.step (fun k => by rw [laws_heldRangeS.l0]) ?_
    rw [marksR_len, marksR_at hlt, wr (x := 1 + 4 * (i : Int) + 1) (by omega), wr (x := 1 + 4 * (i : Int) + 1 + 1) (by omega), wr (x := 1 + 4 * (i : Int) + 1 + 1 + 1) (by omega), wr (x := 1 + 4 * (i : Int) + 1 + 1 + 1 + 1) (by omega), wS (by omega), show 1 + 4 * (i : Int) + 1 + 1 + 1 + 1 = 1 + 4 * ((i + 1 : Nat) : Int) from by omega]
    exact Ev.pos (by omega) (Ev.pos (by omega) (Ev.pos rfl (Ev.pos rfl (Ev.pos (by simp only [mkr]; omega) (Ev.pos (by simp only [mkr]; omega) hz)))))
   ·refine Ev.step (fun k => by rw [laws_heldRangeS.l0]) ?_
    rw [marksR_len, show i = m from by omega]
    exact Ev.neg (by omega) (Ev.now _)
 exact go m 0 (by omega) (by omega)
theorem ev_eqRangeS {l : List Rk} (hl : l.length ≤ 1048576) : Ev (fun k => laws_eqRangeS.f k l l) true := by
 have go : ∀ (n i : Nat), l.length ≤ n + i → Ev (fun k => laws_eqRangeS.l0 k l l i) true := by
  intro n
  induction n with
  | zero =>
   intro i h
   refine Ev.step (fun k => by rw [laws_eqRangeS.l0]) ?_
   exact Ev.neg (by omega) (Ev.now _)
  | succ n ih =>
   intro i h
   refine Ev.step (fun k => by rw [laws_eqRangeS.l0]) ?_
   by_cases hi : i < l.length
   ·simp only [laws_eqRange.f, if_true, Option.bind_some]
    rw [wS (by omega)]
    exact Ev.pos (by omega) (Ev.pos (by omega) (Ev.pos (by omega) (ih (i + 1) (by omega))))
   ·exact Ev.neg (by omega) (Ev.now _)
 unfold laws_eqRangeS.f
 exact Ev.pos rfl (go l.length 0 (by omega))
end Go.Proofs.Ytbcjbcjpoddkoaa.Pure
end
