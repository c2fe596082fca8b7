/- One part of the proofs on this program: functions of the program as plain functions, that the code comes to them, and facts on them. -/
import Derived.Test.YtecdfgejmbpclaaYAll1
import Derived.Test.YtecdfgejmbpclaaYAll6
import Derived.Test.YtecdfgejmbpclaaYAll7
import Derived.Test.YtecdfgejmbpclaaYMrc
import Derived.Test.YtecdfgejmbpclaaYMy
import Derived.Test.YtecdfgejmbpclaaYMz
section
set_option linter.unusedSimpArgs false
set_option linter.unusedVariables false
namespace Go.Proofs.Ytecdfgejmbpclaa.Pure
open Go Go.RowKit Go.Proofs.Ytecdfgejmbpclaa.P Go.Proofs.YtecdfgejmbpclaaW.PrintWords
set_option linter.unusedVariables false
noncomputable def rcL (t : List Cl) (h : List Ft) (a : Int) : List Nat := if gB t h a = true then rchL h a.toNat else []
theorem ev_iReachOf {t : List Cl} {h : List Ft} (ht : TS t) (hn : h.length ≤ 1048575) (a : Int) : Ev (fun k => jRa.f k t h a) (ci (rcL t h a)) := by
 unfold jRa.f rcL
 have h2:=iGood ht hn a
 cases hg:gB t h a with
 | false =>
  rw [hg] at h2
  rw [if_neg (by simp)]
  exact Ev.bind h2 (Ev.neg (by simp) (Ev.now _))
 | true =>
  rw [hg] at h2
  rw [if_pos rfl]
  obtain ⟨hv,f,rfl,hf⟩:=gB_iff.mp hg
  exact Ev.bind h2 (Ev.pos rfl (Ev.bind (ev_iReach hv.lo hn hf) (Ev.now _)))
def snF (h : List Ft) (f : Nat) : Int := if fca h f ≥ 0 then fca h f else if (h.getD f z54).f4 = true then -1 else fcx h f
noncomputable def snL (t : List Cl) (h : List Ft) (a : Int) : Int := if gB t h a = true then snF h a.toNat else -2
theorem sShown {h : List Ft} {f : Nat} (hf : f < h.length) : jWa.f h (f : Int) = some (snF h f) := by
 unfold jWa.f snF
 rw [if_pos (by omega),if_pos (by omega)]
 show (if fca h f≥0 then _ else _)=_
 split
 ·rfl
 ·show (if (h.getD f z54).f4=true then _ else _)=_
  split <;> rfl
theorem iShown {h : List Ft} {f : Nat} (hf : f < h.length) : jOa.f h (f : Int) = some (snF h f) := by
 unfold jOa.f snF
 rw [if_pos (by omega),if_pos (by omega)]
 show (if fca h f≥0 then _ else _)=_
 split
 ·rfl
 ·show (if (h.getD f z54).f4=true then _ else _)=_
  split <;> rfl
theorem ev_ShownNext {t : List Cl} {h : List Ft} (ht : TS t) (hn : h.length ≤ 1048575) (a : Int) : Ev (fun k => jFa.f k t h a) (snL t h a) ∧ Ev (fun k => jcb.f k t h a) (snL t h a) := by
 unfold jFa.f jcb.f snL
 have h1:=sGood ht hn a
 have h2:=iGood ht hn a
 cases hg:gB t h a with
 | false =>
  rw [hg] at h1 h2
  rw [if_neg (by simp)]
  exact ⟨Ev.bind h1 (Ev.neg (by simp) (Ev.now _)),Ev.bind h2 (Ev.neg (by simp) (Ev.now _))⟩
 | true =>
  rw [hg] at h1 h2
  rw [if_pos rfl]
  obtain ⟨hv,f,rfl,hf⟩:=gB_iff.mp hg
  rw [sShown hf,iShown hf,Int.toNat_natCast]
  exact ⟨Ev.bind h1 (Ev.pos rfl (Ev.bind (Ev.now _) (Ev.now _))),Ev.bind h2 (Ev.pos rfl (Ev.bind (Ev.now _) (Ev.now _)))⟩
end Go.Proofs.Ytecdfgejmbpclaa.Pure
end
