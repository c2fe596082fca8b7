/- One part of the proofs on this program: functions of the program as plain functions, that the code comes to them, and facts on them. -/
import Derived.Test.YtecdfgejmbpclaaYAll2
import Derived.Test.YtecdfgejmbpclaaYAll4
import Derived.Test.YtecdfgejmbpclaaYAll6
import Derived.Test.YtecdfgejmbpclaaYMfh
import Derived.Test.YtecdfgejmbpclaaYMkh
import Derived.Test.YtecdfgejmbpclaaYMkt
import Derived.Test.YtecdfgejmbpclaaYMl
import Derived.Test.YtecdfgejmbpclaaYMri
section
set_option linter.unusedSimpArgs false
set_option linter.unusedVariables false
namespace Go.Proofs.Ytecdfgejmbpclaa.Pure
open Go Go.RowKit Go.Proofs.Ytecdfgejmbpclaa.P Go.Proofs.YtecdfgejmbpclaaW.PrintWords
set_option linter.unusedVariables false
noncomputable def isoL (t : List Cl) (h : List Ft) (a : Int) : List Ft × Int := if gB t h a = true then (isoH h (rchL h a.toNat), ixOf (rchL h a.toNat) a) else ([], -1)
theorem ev_IsolateFault {t : List Cl} {h : List Ft} (ht : TS t) (hn : h.length ≤ 1048576) (a : Int) : Ev (fun k => jua.f k t h a) (isoL t h a) ∧ Ev (fun k => jU.f k t h a) (isoL t h a) := by
 unfold jua.f jU.f isoL
 have h1:=sGood ht hn a
 have h2:=iGood ht hn a
 cases hg:gB t h a with
 | false =>
  rw [hg] at h1 h2
  rw [if_neg (by simp)]
  exact ⟨Ev.bind h1 (Ev.neg (by simp) (Ev.now _)),Ev.bind h2 (Ev.neg (by simp) (Ev.now _))⟩
 | true =>
  rw [hg] at h1 h2
  rw [if_pos rfl]
  obtain ⟨hv,f,rfl,hf⟩:=gB_iff.mp hg
  obtain ⟨z1,z2⟩:=ev_isolated hv.lo (by have:=hv.2.2.2;omega) hf
  exact ⟨Ev.bind h1 (Ev.pos rfl (Ev.bind z1 (Ev.now _))),Ev.bind h2 (Ev.pos rfl (Ev.bind z2 (Ev.now _)))⟩
theorem isoL_len {t : List Cl} {h : List Ft} (hn : h.length ≤ 1048576) (a : Int) : (isoL t h a).1.length ≤ 1048576 := by
 unfold isoL
 split
 ·have:=rchL_len h a.toNat
  simp only [isoH,List.length_map]
  omega
 ·simp
theorem FnExactIsolateFault : ∀ (l0_0 : List S92) (l1_0 : List S97) (a2 : Int), l0_0.length ≤ 9223372036854775807 → (∀ y ∈ l0_0, good92 y) → l1_0.length ≤ 9223372036854775807 → (∀ y ∈ l1_0, good97 y) → (Lit.int .i64 a2).wf = true → ∃ k, jc.f k l0_0 l1_0 a2 = some true := by
 intro t p a ht htg hp hpg _
 refine Ev.rounds (g:=fun k=>jc.f k t p a) ?_
 obtain ⟨r,h1,h2⟩:=ev_szTree ht htg (a:=1048576) (by omega) (by omega)
 unfold jc.f
 by_cases hr:r<0
 ·exact Ev.bind h1 (Ev.pos hr (Ev.now _))
 rcases h2 with h2 | ⟨h20,h21,hT⟩
 ·exact absurd h2 hr
 refine Ev.bind h1 (Ev.neg hr ?_)
 obtain ⟨q,h3,h4⟩:=szHeap_eq (l:=p) hp (a:=r) (by omega) (by omega)
 rw [h3]
 simp only [Option.bind_some]
 by_cases hq:q<0
 ·exact Ev.pos hq (Ev.now _)
 rcases h4 with h4 | ⟨_,_,hP⟩
 ·exact absurd h4 hq
 have ht2:=hT.1
 have hp2:p.length≤1048576:=by simpa [tH] using hP
 have ht3:t.length≤1048576:=by simpa [tT] using ht2
 have eT:=ev_toTree ht3
 have eP:=ev_toHeap (l:=p) (by omega)
 obtain ⟨z1,z2⟩:=ev_IsolateFault hT hP a
 have hz:=isoL_len (t:=tT t) hP a
 generalize isoL (tT t) (tH p) a=zz at *
 obtain ⟨z,c⟩:=zz
 replace hz:z.length≤1048576:=hz
 obtain ⟨m1,hm1⟩:=ev_markTree ht2
 obtain ⟨m2,hm2⟩:=ev_markHeap (l:=tH p) (by omega) (a:=1+2 * ((tT t).length:Int)) (by omega) (by omega)
 have hM:=ev_markHeap2 hz
 have hH:=ev_heldHeap (m:=z.length) hz
 have hE:=ev_eqHeap hz
 refine Ev.neg hq (Ev.bind eT (Ev.bind eP (Ev.bind z1 (Ev.bind eT (Ev.bind eP (Ev.bind z2 (Ev.bind hE (Ev.pos rfl ?_))))))))
 refine Ev.step (fun k=>by rw [jc.j0]) ?_
 refine Ev.neg (by simp) ?_
 refine Ev.bind eT (Ev.bind (ev_eqTree ht2) (Ev.pos rfl (Ev.bind eP (Ev.bind (ev_eqHeap (by omega)) (Ev.pos rfl ?_)))))
 refine Ev.bind hm1 (Ev.bind hm2 (Ev.neg (by simp only [];omega) (Ev.bind hE (Ev.pos rfl ?_))))
 refine Ev.step (fun k=>by rw [jc.j1]) ?_
 refine Ev.neg (by simp) (Ev.bind hM (Ev.bind hH (Ev.neg (by omega) (Ev.pos rfl ?_))))
 refine Ev.bind eT (Ev.bind eP (Ev.bind z2 (Ev.bind hE (Ev.pos rfl ?_))))
 refine Ev.step (fun k=>by rw [jc.j2]) ?_
 exact Ev.neg (by simp) (Ev.bind hH (Ev.neg (by omega) (Ev.pos rfl (Ev.now _))))
end Go.Proofs.Ytecdfgejmbpclaa.Pure
end
