/- One part of the proofs on this program: functions of the program as plain functions, that the code comes to them, and facts on them. -/
import Derived.Test.YtkokajljeebgdaaYD1
import Derived.Test.YtkokajljeebgdaaYDp
import Derived.Test.YtkokajljeebgdaaYMe2
import Derived.Test.YtkokajljeebgdaaYMh
import Derived.Test.YtkokajljeebgdaaYMo
import Derived.Test.YtkokajljeebgdaaYMz
section
namespace Go.Proofs.Ytkokajljeebgdaa.Pure
open Go Go.RowKit Go.Proofs.Ytkokajljeebgdaa.P Go.Proofs.YtkokajljeebgdaaW.PrintWords
set_option linter.unusedVariables false
theorem FnLoopOf : laws_FnLoopOf.Pure := by
 intro code _ _ hc
 refine Ev.rounds (g := fun k => laws_FnLoopOf.f k code) ?_
 unfold laws_FnLoopOf.f
 refine Ev.both (fun _ => Ev.now _) (fun _ => ?_)
 obtain ⟨s, e0, hs⟩ := newReader_eq (bytes_of hc)
 obtain ⟨t, p, a, q, e1, _, _, hT, hp⟩ := ev_lineIn hs (p := 0) (by omega) (by omega)
 have eD : Ev (fun k => spec_DrawLoopOf.f k code) (t, p, a) := by
  unfold spec_DrawLoopOf.f
  rw [e0]
  simp only [Option.bind_some]
  exact Ev.bind e1 (Ev.now _)
 have hP : p.length ≤ 1048576 := by omega
 have hS := hT.ts
 obtain ⟨r, z1, z2, z3, z4⟩ := ev_LoopOf hP hS a
 have stop : Ev (fun k => laws_FnLoopOf.j0 k p a r true t) true := by
  refine Ev.step (fun k => by rw [laws_FnLoopOf.j0]) ?_
  exact Ev.pos rfl (Ev.bind z1 (by simpa using Ev.now true))
 refine Ev.bind eD (Ev.bind z2 (Ev.bind z1 (Ev.pos rfl (Ev.bind (iValid hP hS) ?_))))
 cases hv : vB t p with
 | false => exact Ev.neg (by simp) stop
 | true =>
 refine Ev.pos rfl (Ev.both (fun _ => stop) (fun h0 => ?_))
 replace h0 : ¬ a < 0 := h0
 simp only []
 by_cases h1 : a ≥ (p.length : Int)
 ·rw [decide_eq_true h1]; exact stop
 rw [decide_eq_false h1]
 have hV := vB_iff.mp hv
 obtain ⟨n, rfl⟩ := Int.eq_ofNat_of_zero_le (show 0 ≤ a by omega)
 have hn : n < p.length := by omega
 obtain rfl := z3 n hV rfl hn
 refine Ev.step (fun k => by rw [laws_FnLoopOf.j0]) ?_
 refine Ev.neg (by simp) (Ev.both (fun hr => ?_) (fun hr => ?_))
 ·have hb := fun h => loop_brk hV hn h
  simp only [r1]
  refine Ev.pos (by omega) (Ev.pos (by omega) (Ev.neg (fun h => by have := hb (.inl h); omega) ?_))
  rw [show (kd p n != 6) = true from by rw [bne_iff_ne]; exact fun h => by have := hb (.inr h); omega]
  exact Ev.now _
 ·obtain ⟨m, hm, e, hk⟩ := lpF_kind p (enc p n) (by omega)
  have hE := (ev_EnclosingOf' hP hS n).2.1
  have hA : At t p n := ⟨hV, by omega, by omega⟩
  rw [rEnc, if_pos hA, Int.toNat_natCast] at hE
  have hlen := enc_len p n
  rw [← e]
  refine Ev.bind hE (Ev.bind (ev_isIn _ (by omega) _) ?_)
  rw [hasN_mem hm]
  have := enc_lt hn m hm
  simp only [r1]
  refine Ev.pos (by simp) (Ev.pos (by omega) (Ev.pos (by omega) ?_))
  rw [show (kd p m == 12) = true from by simp [hk]]
  exact Ev.now _
end Go.Proofs.Ytkokajljeebgdaa.Pure
end
