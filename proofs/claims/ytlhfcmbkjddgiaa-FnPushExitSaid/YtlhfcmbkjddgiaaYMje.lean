/- One part of the proofs on this program: functions of the program as plain functions, that the code comes to them, and facts on them. -/
import Derived.Test.YtlhfcmbkjddgiaaYAll6
import Derived.Test.YtlhfcmbkjddgiaaYAll7
import Derived.Test.YtlhfcmbkjddgiaaYAll8
import Derived.Test.YtlhfcmbkjddgiaaYMps
import Derived.Test.YtlhfcmbkjddgiaaYMqt
section
set_option linter.unusedSimpArgs false
set_option linter.unusedVariables false
namespace Go.Proofs.Ytlhfcmbkjddgiaa.Pure
open Go Go.RowKit Go.Proofs.Ytlhfcmbkjddgiaa.P Go.Proofs.YtlhfcmbkjddgiaaW.PrintWords
set_option linter.unusedVariables false
theorem ev_equalExits {r : List Ex} (hr : r.length ≤ 1048576) : Ev (fun k => jS.f k r r) true := by
 have go:∀ (n i:Nat),r.length≤n+i→Ev (fun k=>jS.l0 k r r i) true:=by
  intro n
  induction n with
  | zero =>
   intro i h
   refine Ev.step (fun k=>by rw [jS.l0]) ?_
   exact Ev.neg (by omega) (Ev.now _)
  | succ n ih =>
   intro i h
   refine Ev.step (fun k=>by rw [jS.l0]) ?_
   by_cases hi:i<r.length
   ·rw [wS (by omega)]
    refine Ev.pos (by omega) (Ev.pos (by omega) (Ev.pos (by omega) (Ev.neg (by simp) (ih (i+1) (by omega)))))
   ·exact Ev.neg (by omega) (Ev.now _)
 unfold jS.f
 exact Ev.pos rfl (go r.length 0 (by omega))
theorem ev_copyExits {p : List Ex} (hp : p.length ≤ 1048576) : jOa.f p = some p := by
 unfold jOa.f
 simp only [Option.bind_some,List.nil_append,List.length_nil]
 rw [if_pos (by omega)]
theorem ev_iPush {t : List Cl} (ht : TS t) {p : List Ex} (hp : p.length ≤ 100) (x : Ex) : Ev (fun k => jAa.f k t p x.f0 x.f1 x.f2) (if exsB t p = true ∧ exsB t (p ++ [x]) = true then (p ++ [x], true) else ([], false)) := by
 have h1:=ev_iVE ht (l:=p) (by omega)
 have h3:=ev_iVE ht (l:=p ++ [x]) (by rw [List.length_append,List.length_singleton];omega)
 have hc:jGa.f p=some p:=by unfold jGa.f;rw [if_pos (by omega)]
 obtain ⟨R,hR⟩:∃ R,R=(if exsB t p=true∧exsB t (p ++ [x])=true then (p ++ [x],true) else (([]:List Ex),false)):=⟨_,rfl⟩
 rw [← hR]
 unfold jAa.f
 by_cases a:exsB t p=true
 ·rw [a] at h1
  refine Ev.bind h1 (Ev.pos rfl ?_)
  rw [hc]
  simp only [Option.bind_some]
  refine Ev.pos (by rw [List.length_singleton];omega) ?_
  unfold jVa.f
  by_cases c:exsB t (p ++ [x])=true
  ·rw [c] at h3
   rw [if_pos ⟨a,c⟩] at hR
   subst hR
   exact Ev.bind (Ev.bind h3 (Ev.pos rfl (Ev.now _))) (Ev.now _)
  ·rw [if_neg (fun h=>c h.2)] at hR
   subst hR
   exact Ev.bind (Ev.bind h3 (Ev.neg c (Ev.now _))) (Ev.now _)
 ·rw [if_neg (fun h=>a h.1)] at hR
  subst hR
  exact Ev.bind h1 (Ev.neg a (Ev.now _))
theorem ev_sPush {t : List Cl} (ht : TS t) {p : List Ex} (hp : p.length ≤ 100) (x : Ex) : Ev (fun k => jXa.f k t p x.f0 x.f1 x.f2) (if exsB t p = true ∧ exsB t (p ++ [x]) = true then (p ++ [x], true) else ([], false)) := by
 have h1:=ev_sVE ht (l:=p) (by omega)
 have h3:=ev_sVE ht (l:=p ++ [x]) (by rw [List.length_append,List.length_singleton];omega)
 obtain ⟨R,hR⟩:∃ R,R=(if exsB t p=true∧exsB t (p ++ [x])=true then (p ++ [x],true) else (([]:List Ex),false)):=⟨_,rfl⟩
 rw [← hR]
 unfold jXa.f
 rw [ev_copyExits (by omega)]
 simp only [Option.bind_some]
 refine Ev.pos (by rw [List.length_singleton];omega) ?_
 by_cases a:exsB t p=true
 ·rw [a] at h1
  refine Ev.bind h1 (Ev.pos rfl (Ev.bind h3 ?_))
  by_cases c:exsB t (p ++ [x])=true
  ·rw [if_pos ⟨a,c⟩] at hR
   subst hR
   exact Ev.pos c (Ev.now _)
  ·rw [if_neg (fun h=>c h.2)] at hR
   subst hR
   exact Ev.neg c (Ev.now _)
 ·rw [if_neg (fun h=>a h.1)] at hR
  subst hR
  exact Ev.bind h1 (Ev.neg a (Ev.now _))
end Go.Proofs.Ytlhfcmbkjddgiaa.Pure
end
