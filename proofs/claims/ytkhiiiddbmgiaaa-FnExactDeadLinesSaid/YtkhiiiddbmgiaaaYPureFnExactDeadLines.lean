/- One part of the proofs on this program: functions of the program as plain functions, that the code comes to them, and facts on them. -/
import Derived.Test.YtkhiiiddbmgiaaaYAll6
import Derived.Test.YtkhiiiddbmgiaaaYMdm
import Derived.Test.YtkhiiiddbmgiaaaYMf
import Derived.Test.YtkhiiiddbmgiaaaYMk2
import Derived.Test.YtkhiiiddbmgiaaaYMl
section
set_option linter.unusedSimpArgs false
set_option linter.unusedVariables false
namespace Go.Proofs.Ytkhiiiddbmgiaaa.Pure
open Go Go.RowKit Go.Proofs.Ytkhiiiddbmgiaaa.P Go.Proofs.YtkhiiiddbmgiaaaW.PrintWords
set_option linter.unusedVariables false
theorem FnExactDeadLines : ∀ (l0_0 : List S77) (l1 : List S55), l0_0.length ≤ 9223372036854775807 → (∀ y ∈ l0_0, good77 y) → l1.length ≤ 9223372036854775807 → (∀ y ∈ l1, good55 y) → ∃ k, jf.f k l0_0 l1 = some true := by
 intro t p ht htg hp hpg
 refine Ev.rounds (g:=fun k=>jf.f k t p) ?_
 obtain ⟨r,h1,h2⟩:=ev_szTree ht htg (a:=1048576) (by omega) (by omega)
 unfold jf.f
 by_cases hr:r<0
 ·exact Ev.bind h1 (Ev.pos hr (Ev.now _))
 obtain ⟨q,h3,h4⟩:=szLineS_eq (l:=p) hp (a:=r) (by omega) (by omega)
 rcases h2 with h2 | ⟨_,_,hT⟩
 ·exact absurd h2 hr
 refine Ev.bind h1 (Ev.neg hr ?_)
 rw [h3]
 simp only [Option.bind_some]
 by_cases hq:q<0
 ·exact Ev.pos hq (Ev.now _)
 rcases h4 with h4 | ⟨_,_,hP⟩
 ·exact absurd h4 hq
 have ht2:=hT.1
 have hp2:p.length≤1048576:=by simpa [tP] using hP
 have ht3:t.length≤1048576:=by simpa [tT] using ht2
 have eT:=ev_toTree ht3
 have eP:=ev_toLineS hp2
 obtain ⟨z1,z2⟩:=ev_DeadLines hP hT
 have hz:(dlP (tT t) (tP p)).length≤1048576:=Nat.le_trans (dlP_len _ _) hP
 generalize dlP (tT t) (tP p)=z at *
 obtain ⟨m1,hm1⟩:=ev_markTree ht2
 obtain ⟨m2,hm2⟩:=ev_markLineS hP (a:=1+2 * ((tT t).length:Int)) (by omega) (by omega)
 have hM:=ev_markIntS hz
 have hH:=ev_heldIntS (m:=z.length) hz
 have hE:=ev_eqIntS hz
 refine Ev.neg hq (Ev.bind eT (Ev.bind eP (Ev.bind z1 (Ev.bind eT (Ev.bind eP (Ev.bind z2 (Ev.bind hE (Ev.pos rfl ?_))))))))
 refine Ev.bind eT (Ev.bind (ev_eqTree ht2) (Ev.pos rfl (Ev.bind eP (Ev.bind (ev_eqLineS hP) (Ev.pos rfl ?_)))))
 refine Ev.bind hm1 (Ev.bind hm2 (Ev.neg (by simp only [];omega) (Ev.bind hE ?_)))
 refine Ev.step (fun k=>by rw [jf.j0]) ?_
 refine Ev.neg (by simp) (Ev.bind hM (Ev.bind hH (Ev.neg (by omega) (Ev.pos rfl ?_))))
 refine Ev.bind eT (Ev.bind eP (Ev.bind z2 (Ev.bind hE (Ev.pos rfl ?_))))
 exact Ev.bind hH (Ev.neg (by omega) (Ev.pos rfl (Ev.now _)))
end Go.Proofs.Ytkhiiiddbmgiaaa.Pure
end
