/- One part of the proofs on this program: functions of the program as plain functions, that the code comes to them, and facts on them. -/
import Derived.Test.YtecdfgejmbpclaaYAll3
import Derived.Test.YtecdfgejmbpclaaYAll5
import Derived.Test.YtecdfgejmbpclaaYMrc
import Derived.Test.YtecdfgejmbpclaaYMy
import Derived.Test.YtecdfgejmbpclaaYMz
section
set_option linter.unusedSimpArgs false
set_option linter.unusedVariables false
namespace Go.Proofs.Ytecdfgejmbpclaa.Pure
open Go Go.RowKit Go.Proofs.Ytecdfgejmbpclaa.P Go.Proofs.YtecdfgejmbpclaaW.PrintWords
set_option linter.unusedVariables false
noncomputable def rcL (t : List Cl) (h : List Ft) (a : Int) : List Nat := if gB t h a = true then rchL h a.toNat else []
theorem ev_iReachOf {t : List Cl} {h : List Ft} (ht : TS t) (hn : h.length ≤ 1048576) (a : Int) : Ev (fun k => jna.f k t h a) (ci (rcL t h a)) := by
 unfold jna.f rcL
 have h2:=iGood ht hn a
 cases hg:gB t h a with
 | false =>
  rw [hg] at h2
  rw [if_neg (by simp)]
  exact Ev.bind h2 (Ev.neg (by simp) (Ev.now _))
 | true =>
  rw [hg] at h2
  rw [if_pos rfl]
  obtain ⟨hv,f,rfl,hf⟩:=gB_iff.mp hg
  exact Ev.bind h2 (Ev.pos rfl (Ev.bind (ev_iReach hv.lo (by have:=hv.2.2.2;omega) hf) (Ev.now _)))
end Go.Proofs.Ytecdfgejmbpclaa.Pure
end
