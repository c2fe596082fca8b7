/- One part of the proofs on this program: functions of the program as plain functions, that the code comes to them, and facts on them. -/
import Derived.Test.YtkokajljeebgdaaYC1
import Derived.Test.YtkokajljeebgdaaYCDE4
import Derived.Test.YtkokajljeebgdaaYDp
import Derived.Test.YtkokajljeebgdaaYMe2
import Derived.Test.YtkokajljeebgdaaYMo
import Derived.Test.YtkokajljeebgdaaYMy
section
namespace Go.Proofs.Ytkokajljeebgdaa.Pure
open Go Go.RowKit Go.Proofs.Ytkokajljeebgdaa.P Go.Proofs.YtkokajljeebgdaaW.PrintWords
set_option linter.unusedVariables false
theorem FnEnclosingOf : laws_FnEnclosingOf.Pure := by
 intro code _ _ hc
 refine Ev.rounds (g := fun k => laws_FnEnclosingOf.f k code) ?_
 unfold laws_FnEnclosingOf.f
 refine Ev.both (fun _ => Ev.now _) (fun _ => ?_)
 obtain ⟨s, e0, hs⟩ := newReader_eq (bytes_of hc)
 obtain ⟨t, p, a, q, e1, _, _, hT, hp⟩ := ev_lineIn hs (p := 0) (by omega) (by omega)
 have eD : Ev (fun k => spec_DrawEnclosingOf.f k code) (t, p, a) := by
  unfold spec_DrawEnclosingOf.f
  rw [e0]
  simp only [Option.bind_some]
  exact Ev.bind e1 (Ev.now _)
 have hP : p.length ≤ 1048576 := by omega
 have hS := hT.ts
 obtain ⟨z1, z2, z3⟩ := ev_EnclosingOf' hP hS a
 have hE := ev_equalInts (r := rEnc t p a) (by omega)
 have stop : Ev (fun k => laws_FnEnclosingOf.j0 k p a (rEnc t p a) true t) true := by
  refine Ev.step (fun k => by rw [laws_FnEnclosingOf.j0]) ?_
  exact Ev.pos rfl (Ev.bind z1 (Ev.bind hE (Ev.now _)))
 refine Ev.bind eD (Ev.bind z2 (Ev.bind z1 (Ev.bind hE (Ev.pos rfl (Ev.bind (iValid hP hS) ?_)))))
 cases hv : vB t p with
 | false => exact Ev.neg (by simp) stop
 | true =>
 refine Ev.pos rfl (Ev.both (fun _ => stop) (fun h0 => ?_))
 replace h0 : ¬ a < 0 := h0
 simp only []
 by_cases h1 : a ≥ (p.length : Int)
 ·rw [decide_eq_true h1]; exact stop
 rw [decide_eq_false h1]
 have hV := vB_iff.mp hv
 obtain ⟨n, rfl⟩ := Int.eq_ofNat_of_zero_le (show 0 ≤ a by omega)
 have hn : n < p.length := by omega
 have hA : At t p n := ⟨hV, by omega, by omega⟩
 have er : rEnc t p n = ci (enc p n) := by rw [rEnc, if_pos hA, Int.toNat_natCast]
 rw [er]
 obtain ⟨hd1, hd2⟩ := enc_deep hV hn
 have hlen := enc_len p n
 have hlow := hV.low hn
 refine Ev.step (fun k => by rw [laws_FnEnclosingOf.j0]) ?_
 refine Ev.neg (by simp) ?_
 have go : ∀ (m j : Nat), (enc p n).length ≤ m + j → Ev (fun k => laws_FnEnclosingOf.l0 k p n (ci (enc p n)) j) true := by
  intro m
  induction m with
  | zero =>
   intro j h
   refine Ev.step (fun k => by rw [laws_FnEnclosingOf.l0]) ?_
   rw [ci_len]
   refine Ev.neg (by omega) (Ev.pos (by omega) (Ev.pos (by omega) ?_))
   rw [r0, show (((enc p n).length : Int) == dp p n) = true from by simp [hd1]]
   exact Ev.now _
  | succ m ih =>
   intro j h
   by_cases hj : j < (enc p n).length
   ·have hr := ci_drop (l := enc p n) (j := j) (List.drop_eq_getElem_cons hj)
    have hx := enc_lt hn _ (List.getElem_mem hj)
    have hx2 : (enc p n)[j] < n := encN_lt p n _ _ (List.getElem_mem hj)
    refine Ev.step (fun k => by rw [laws_FnEnclosingOf.l0]) ?_
    rw [hr.2.1, wS (by omega)]
    simp only [ci_len]
    have e : wrap64 (wrap64 ((rd_T52 p (n : Int)).f0 - 1) - (j : Int)) = dp p n - 1 - j := by
     show wrap64 (wrap64 (dp p n - 1) - (j : Int)) = _
     rw [wr (x := dp p n - 1) (by omega), wr (x := dp p n - 1 - (j : Int)) (by omega)]
    have e2 : (rd_T52 p ((enc p n)[j] : Int)).f0 = wrap64 (wrap64 ((rd_T52 p (n : Int)).f0 - 1) - (j : Int)) := by rw [e]; exact hd2 j hj
    exact Ev.pos (by omega) (Ev.pos (by omega) (Ev.neg (by omega) (Ev.pos (by omega) (Ev.pos (by omega) (Ev.pos (by omega) (Ev.pos (by omega) (Ev.pos e2 (ih (j + 1) (by omega)))))))))
   ·refine Ev.step (fun k => by rw [laws_FnEnclosingOf.l0]) ?_
    rw [ci_len]
    refine Ev.neg (by omega) (Ev.pos (by omega) (Ev.pos (by omega) ?_))
    rw [r0, show (((enc p n).length : Int) == dp p n) = true from by simp [hd1]]
    exact Ev.now _
 exact go (enc p n).length 0 (by omega)
end Go.Proofs.Ytkokajljeebgdaa.Pure
end
