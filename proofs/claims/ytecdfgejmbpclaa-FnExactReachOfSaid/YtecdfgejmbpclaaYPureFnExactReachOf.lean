/- One part of the proofs on this program: functions of the program as plain functions, that the code comes to them, and facts on them. -/
import Derived.Test.YtecdfgejmbpclaaYAll5
import Derived.Test.YtecdfgejmbpclaaYMfh
import Derived.Test.YtecdfgejmbpclaaYMkt
import Derived.Test.YtecdfgejmbpclaaYMl
import Derived.Test.YtecdfgejmbpclaaYMrs
section
set_option linter.unusedSimpArgs false
set_option linter.unusedVariables false
namespace Go.Proofs.Ytecdfgejmbpclaa.Pure
open Go Go.RowKit Go.Proofs.Ytecdfgejmbpclaa.P Go.Proofs.YtecdfgejmbpclaaW.PrintWords
set_option linter.unusedVariables false
theorem FnExactReachOf : ∀ (l0_0 : List S92) (l1_0 : List S97) (a2 : Int), l0_0.length ≤ 9223372036854775807 → (∀ y ∈ l0_0, good92 y) → l1_0.length ≤ 9223372036854775807 → (∀ y ∈ l1_0, good97 y) → (Lit.int .i64 a2).wf = true → ∃ k, jg.f k l0_0 l1_0 a2 = some true := by
 intro t p a ht htg hp hpg _
 refine Ev.rounds (g:=fun k=>jg.f k t p a) ?_
 obtain ⟨r,h1,h2⟩:=ev_szTree ht htg (a:=1048576) (by omega) (by omega)
 unfold jg.f
 by_cases hr:r<0
 ·exact Ev.bind h1 (Ev.pos hr (Ev.now _))
 rcases h2 with h2 | ⟨h20,h21,hT⟩
 ·exact absurd h2 hr
 refine Ev.bind h1 (Ev.neg hr ?_)
 obtain ⟨q,h3,h4⟩:=szHeap_eq (l:=p) hp (a:=r) (by omega) (by omega)
 rw [h3]
 simp only [Option.bind_some]
 by_cases hq:q<0
 ·exact Ev.pos hq (Ev.now _)
 rcases h4 with h4 | ⟨_,_,hP⟩
 ·exact absurd h4 hq
 have ht2:=hT.1
 have hp2:p.length≤1048576:=by simpa [tH] using hP
 have ht3:t.length≤1048576:=by simpa [tT] using ht2
 have eT:=ev_toTree ht3
 have eP:=ev_toHeap (l:=p) (by omega)
 obtain ⟨z1,z2⟩:=ev_ReachOf hT hP a
 have hz:(ci (rcL (tT t) (tH p) a)).length≤1048576:=by
  rw [jxb]
  unfold rcL
  split
  ·have:=rchL_len (tH p) a.toNat;omega
  ·simp
 generalize ci (rcL (tT t) (tH p) a)=z at *
 obtain ⟨m1,hm1⟩:=ev_markTree ht2
 obtain ⟨m2,hm2⟩:=ev_markHeap (l:=tH p) (by omega) (a:=1+2 * ((tT t).length:Int)) (by omega) (by omega)
 have hM:=ev_markIntS hz
 have hH:=ev_heldIntS (m:=z.length) hz
 have hE:=ev_eqIntS hz
 refine Ev.neg hq (Ev.bind eT (Ev.bind eP (Ev.bind z1 (Ev.bind eT (Ev.bind eP (Ev.bind z2 (Ev.bind hE (Ev.pos rfl ?_))))))))
 refine Ev.bind eT (Ev.bind (ev_eqTree ht2) (Ev.pos rfl (Ev.bind eP (Ev.bind (ev_eqHeap (by omega)) (Ev.pos rfl ?_)))))
 refine Ev.bind hm1 (Ev.bind hm2 (Ev.neg (by simp only [];omega) (Ev.bind hE ?_)))
 refine Ev.step (fun k=>by rw [jg.j0]) ?_
 refine Ev.neg (by simp) (Ev.bind hM (Ev.bind hH (Ev.neg (by omega) (Ev.pos rfl ?_))))
 refine Ev.bind eT (Ev.bind eP (Ev.bind z2 (Ev.bind hE (Ev.pos rfl ?_))))
 exact Ev.bind hH (Ev.neg (by omega) (Ev.pos rfl (Ev.now _)))
end Go.Proofs.Ytecdfgejmbpclaa.Pure
end
