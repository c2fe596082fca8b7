/- One part of the proofs on this program: functions of the program as plain functions, that the code comes to them, and facts on them. -/
import Derived.Test.YtbbmgiloikkpiaaYAll3
import Derived.Test.YtbbmgiloikkpiaaYAll7
import Derived.Test.YtbbmgiloikkpiaaYMf
import Derived.Test.YtbbmgiloikkpiaaYMfx
import Derived.Test.YtbbmgiloikkpiaaYMk2
import Derived.Test.YtbbmgiloikkpiaaYMkx
import Derived.Test.YtbbmgiloikkpiaaYMpo
section
set_option linter.unusedSimpArgs false
set_option linter.unusedVariables false
namespace Go.Proofs.Ytbbmgiloikkpiaa.Pure
open Go Go.RowKit Go.Proofs.Ytbbmgiloikkpiaa.P Go.Proofs.YtbbmgiloikkpiaaW.PrintWords
set_option linter.unusedVariables false
theorem FnExactProgramOf : ∀ (l0_0 : List S71) (l1 : List S58) (a2_0 : Bool) (a2_1 : Int) (a2_2 : Int), l0_0.length ≤ 9223372036854775807 → (∀ y ∈ l0_0, good71 y) → l1.length ≤ 9223372036854775807 → (∀ y ∈ l1, good58 y) → (Lit.int .i64 a2_1).wf = true → (Lit.int .i64 a2_2).wf = true → ∃ k, jb.f k l0_0 l1 a2_0 a2_1 a2_2 = some true := by
 intro t p a b c ht htg hp hpg _ _
 refine Ev.rounds (g:=fun k=>jb.f k t p a b c) ?_
 obtain ⟨r,h1,h2⟩:=ev_szTree ht htg (a:=1048576) (by omega) (by omega)
 unfold jb.f
 by_cases hr:r<0
 ·exact Ev.bind h1 (Ev.pos hr (Ev.now _))
 obtain ⟨r1,h3,h4⟩:=szExitS_eq (l:=p) hp (a:=r) (by omega) (by omega)
 rcases h2 with h2 | ⟨_,_,hT⟩
 ·exact absurd h2 hr
 refine Ev.bind h1 (Ev.neg hr ?_)
 rw [h3]
 simp only [Option.bind_some]
 by_cases hr1:r1<0
 ·exact Ev.pos hr1 (Ev.now _)
 rcases h4 with h4 | ⟨_,_,hP⟩
 ·exact absurd h4 hr1
 have ht2:=hT.1
 have hp2:p.length≤1048576:=by simpa [tXs] using hP
 have ht3:t.length≤1048576:=by simpa [tT] using ht2
 have eT:=ev_toTree ht3
 have eP:=ev_toExitS (l:=p) (by omega)
 have eS:jia.f a b c=some (a,b,c):=rfl
 obtain ⟨z1,z2⟩:=ev_ProgramOf hT hP a b c
 have hz:=@poR_len (tT t) (tXs p) a b c
 generalize poR (tT t) (tXs p) a b c=z at *
 obtain ⟨m1,hm1⟩:=ev_markTree ht2
 obtain ⟨m2,hm2⟩:=ev_markExitS hP (a:=1+2 * ((tT t).length:Int)) (by omega) (by omega)
 have hM:=ev_markLineS2 hz
 have hH:=ev_heldLineS (m:=z.1.length) hz
 have hE:=ev_eqLineS hz
 have hX:=ev_eqExitS hP
 have hb:(z.2 != z.2)=false:=by cases z.2 <;> rfl
 rw [eS]
 simp only [Option.bind_some]
 have fin:Ev (fun k=>jb.j2 k (jec z.1.length) (1+4 * (z.1.length:Int)) false) true:=by
  refine Ev.step (fun k=>by rw [jb.j2]) ?_
  exact Ev.neg (by simp) (Ev.bind hH (Ev.neg (by omega) (Ev.pos rfl (Ev.now _))))
 refine Ev.neg hr1 (Ev.bind eT (Ev.bind eP (Ev.bind z1 (Ev.bind eT (Ev.bind eP (Ev.bind z2 (Ev.bind hE (Ev.pos rfl ?_))))))))
 rw [hb]
 refine Ev.step (fun k=>by rw [jb.j0]) ?_
 refine Ev.neg (by simp) (Ev.bind eT (Ev.bind (ev_eqTree ht2) (Ev.pos rfl (Ev.bind eP (Ev.bind hX (Ev.pos rfl ?_))))))
 refine Ev.bind hm1 (Ev.bind hm2 (Ev.neg (by simp only [];omega) (Ev.bind hE (Ev.pos rfl ?_))))
 rw [hb]
 refine Ev.step (fun k=>by rw [jb.j1]) ?_
 rw [eS]
 simp only [Option.bind_some]
 refine Ev.neg (by simp) (Ev.bind hM (Ev.bind hH (Ev.neg (by omega) (Ev.pos rfl ?_))))
 refine Ev.bind eT (Ev.bind eP (Ev.bind z2 (Ev.bind hE (Ev.pos rfl ?_))))
 rw [hb]
 exact fin
end Go.Proofs.Ytbbmgiloikkpiaa.Pure
end
