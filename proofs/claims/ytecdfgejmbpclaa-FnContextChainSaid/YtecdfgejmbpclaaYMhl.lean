/- One part of the proofs on this program: functions of the program as plain functions, that the code comes to them, and facts on them. -/
import Derived.Test.YtecdfgejmbpclaaYAll1
import Derived.Test.YtecdfgejmbpclaaYAll6
import Derived.Test.YtecdfgejmbpclaaYAll7
import Derived.Test.YtecdfgejmbpclaaYAll8
import Derived.Test.YtecdfgejmbpclaaYMrc
import Derived.Test.YtecdfgejmbpclaaYMy
import Derived.Test.YtecdfgejmbpclaaYMz
section
set_option linter.unusedSimpArgs false
set_option linter.unusedVariables false
namespace Go.Proofs.Ytecdfgejmbpclaa.Pure
open Go Go.RowKit Go.Proofs.Ytecdfgejmbpclaa.P Go.Proofs.YtecdfgejmbpclaaW.PrintWords
set_option linter.unusedVariables false
theorem rd_ci {l : List Nat} {k : Nat} (hk : k < l.length) : rd (ci l) (k : Int) = ((l.getD k 0 : Nat) : Int) := by simp [rd, ci, List.getD_eq_getElem?_getD, hk]
theorem ci_take (l : List Nat) (n : Nat) : (ci l).take n = ci (l.take n) := by simp [ci, List.map_take]
theorem getD_mem {l : List Nat} {k : Nat} (hk : k < l.length) : l.getD k 0 ∈ l := by
 have:l.getD k 0=l[k]:=by simp [List.getD_eq_getElem?_getD,hk]
 rw [this];exact List.getElem_mem hk
theorem nodup_take {l : List Nat} (h : l.Nodup) {k : Nat} (hk : k < l.length) : l.getD k 0 ∉ l.take k := by
 intro hm
 obtain ⟨j,hj,e⟩:=List.getElem_of_mem hm
 rw [List.length_take] at hj
 rw [List.getElem_take] at e
 have e2:l.getD k 0=l[k]:=by simp [List.getD_eq_getElem?_getD,hk]
 rw [e2] at e
 have:=(List.nodup_iff_pairwise_ne.mp h)
 have h3:=List.pairwise_iff_getElem.mp this j k (by omega) hk (by omega)
 exact h3 e
noncomputable def ccL (t : List Cl) (h : List Ft) (a : Int) : List Nat := if gB t h a = true then cxL h a else []
theorem ev_ContextChain {t : List Cl} {h : List Ft} (ht : TS t) (hn : h.length ≤ 1048576) (a : Int) : Ev (fun k => jfa.f k t h a) (ci (ccL t h a)) ∧ Ev (fun k => jKa.f k t h a) (ci (ccL t h a)) := by
 unfold jfa.f jKa.f ccL
 have h1:=sGood ht hn a
 have h2:=iGood ht hn a
 cases hg:gB t h a with
 | false =>
  rw [hg] at h1 h2
  rw [if_neg (by simp)]
  exact ⟨Ev.bind h1 (Ev.neg (by simp) (Ev.now _)),Ev.bind h2 (Ev.neg (by simp) (Ev.now _))⟩
 | true =>
  rw [hg] at h1 h2
  rw [if_pos rfl]
  obtain ⟨hv,f,rfl,hf⟩:=gB_iff.mp hg
  have hL:=LO_of hv.1
  exact ⟨Ev.bind h1 (Ev.pos rfl (Ev.bind (ev_sContexts hL (by omega) (by omega)) (Ev.now _))),Ev.bind h2 (Ev.pos rfl (Ev.bind (ev_iContexts hL (by omega) (by omega)) (Ev.now _)))⟩
noncomputable def rcL (t : List Cl) (h : List Ft) (a : Int) : List Nat := if gB t h a = true then rchL h a.toNat else []
theorem ev_iReachOf {t : List Cl} {h : List Ft} (ht : TS t) (hn : h.length ≤ 1048576) (a : Int) : Ev (fun k => jib.f k t h a) (ci (rcL t h a)) := by
 unfold jib.f rcL
 have h2:=iGood ht hn a
 cases hg:gB t h a with
 | false =>
  rw [hg] at h2
  rw [if_neg (by simp)]
  exact Ev.bind h2 (Ev.neg (by simp) (Ev.now _))
 | true =>
  rw [hg] at h2
  rw [if_pos rfl]
  obtain ⟨hv,f,rfl,hf⟩:=gB_iff.mp hg
  exact Ev.bind h2 (Ev.pos rfl (Ev.bind (ev_iReach hv.lo (by have:=hv.2.2.2;omega) hf) (Ev.now _)))
end Go.Proofs.Ytecdfgejmbpclaa.Pure
end
