/- One part of the proofs on this program: functions of the program as plain functions, that the code comes to them, and facts on them. -/
import Derived.Test.YtkedkinojeoeaaaYA1
import Derived.Test.YtkedkinojeoeaaaYAll4
import Derived.Test.YtkedkinojeoeaaaYDp
import Derived.Test.YtkedkinojeoeaaaYMn
import Derived.Test.YtkedkinojeoeaaaYMo0
import Derived.Test.YtkedkinojeoeaaaYMr
import Derived.Test.YtkedkinojeoeaaaYMw2
import Derived.Test.YtkedkinojeoeaaaYMy
section
set_option linter.unusedSimpArgs false
set_option linter.unusedVariables false
namespace Go.Proofs.Ytkedkinojeoeaaa.Pure
open Go Go.RowKit Go.Proofs.Ytkedkinojeoeaaa.P Go.Proofs.YtkedkinojeoeaaaW.PrintWords
set_option linter.unusedVariables false
theorem FnWayOutUp : laws_FnWayOutUp.Pure := by
 intro code _ _ hc
 refine Ev.rounds (g := fun k => laws_FnWayOutUp.f k code) ?_
 unfold laws_FnWayOutUp.f
 refine Ev.both (fun _ => Ev.now _) (fun _ => ?_)
 obtain ⟨s, e0, hs⟩ := newReader_eq (bytes_of hc)
 obtain ⟨t, p, a, q, e1, _, _, hT, hp⟩ := ev_lineIn hs (p := 0) (by omega) (by omega)
 have eD : Ev (fun k => spec_DrawWayOut.f k code) (t, p, a) := by
  unfold spec_DrawWayOut.f
  rw [e0]
  simp only [Option.bind_some]
  exact Ev.bind e1 (Ev.now _)
 have hP : p.length ≤ 1048576 := by omega
 have hS := hT.ts
 obtain ⟨z1, z2, z3⟩ := ev_WayOut' hP hS a
 have hE := ev_equalInts (r := rWay t p a) (by omega)
 have stop : Ev (fun k => laws_FnWayOutUp.j0 k p a (rWay t p a) true t) true := by
  refine Ev.step (fun k => by rw [laws_FnWayOutUp.j0]) ?_
  exact Ev.pos rfl (Ev.bind z1 (Ev.bind hE (Ev.now _)))
 refine Ev.bind eD (Ev.bind z2 (Ev.bind z1 (Ev.bind hE (Ev.pos rfl (Ev.bind (iValid hP hS) ?_)))))
 cases hv : vB t p with
 | false => exact Ev.neg (by simp) stop
 | true =>
 refine Ev.pos rfl (Ev.both (fun _ => stop) (fun h0 => ?_))
 replace h0 : ¬ a < 0 := h0
 simp only []
 by_cases h1 : a ≥ (p.length : Int)
 ·rw [decide_eq_true h1]; exact stop
 rw [decide_eq_false h1]
 have hV := vB_iff.mp hv
 obtain ⟨n, rfl⟩ := Int.eq_ofNat_of_zero_le (show 0 ≤ a by omega)
 have hn : n < p.length := by omega
 have hA : At t p n := ⟨hV, by omega, by omega⟩
 have er : rWay t p n = ci (wayL p (enc p n)) := by rw [rWay, if_pos hA, Int.toNat_natCast]
 have hEn := ev_iEnclosingOf hP hS n
 rw [rEnc, if_pos hA, Int.toNat_natCast] at hEn
 have hlen := enc_len p n
 have hwl := wayL_len p (enc p n)
 rw [er]
 refine Ev.step (fun k => by rw [laws_FnWayOutUp.j0]) ?_
 refine Ev.neg (by simp) (Ev.bind hEn ?_)
 cases he : enc p n with
 | nil =>
  rw [ci_len, ci_len]
  exact Ev.pos (by simp) (by simpa [wayL] using Ev.now true)
 | cons m r =>
  have hm : m < p.length := enc_lt hn m (by rw [he]; simp)
  have hr : r = enc p m := encN_next p n (dp p n) m r he
  have hAm : At t p m := ⟨hV, by omega, by omega⟩
  have hw := (ev_WayOut' hP hS m).2.1
  rw [rWay, if_pos hAm, Int.toNat_natCast, ← hr] at hw
  have hrd : rd (ci (m :: r)) 0 = (m : Int) := rfl
  have hwr := wayL_len p r
  rw [he] at hlen hwl
  simp only [List.length_cons] at hlen
  have hE2 := ev_equalInts (r := ci (wayL p r)) (by rw [ci_len]; omega)
  rw [hrd, ci_len, ci_len]
  refine Ev.neg (by simp only [List.length_cons]; omega) (Ev.pos (by simp only [List.length_cons]; omega) (Ev.bind hw ?_))
  rw [ci_len, wayL]
  cases endOfB p m with
  | none =>
   simp only []
   rw [wr (by omega), show ((wayL p r).length : Int) - ((wayL p r).length : Int) = 0 from by omega]
   exact Ev.pos (by omega) (Ev.pos (by omega) (Ev.pos (by omega) (Ev.pos (by omega) (Ev.bind hE2 (Ev.now _)))))
  | some e =>
   simp only [List.length_cons]
   rw [wr (by omega), show (((wayL p r).length + 1 : Nat) : Int) - ((wayL p r).length : Int) = 1 from by omega]
   exact Ev.pos (by omega) (Ev.pos (by omega) (Ev.pos (by omega) (Ev.pos (by omega) (Ev.bind hE2 (Ev.now _)))))
end Go.Proofs.Ytkedkinojeoeaaa.Pure
end
