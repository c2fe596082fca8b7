/- One part of the proofs on this program: functions of the program as plain functions, that the code comes to them, and facts on them. -/
import Derived.Test.YtlhfcmbkjddgiaaYAll2
import Derived.Test.YtlhfcmbkjddgiaaYAll4
import Derived.Test.YtlhfcmbkjddgiaaYAll6
import Derived.Test.YtlhfcmbkjddgiaaYMps
import Derived.Test.YtlhfcmbkjddgiaaYMqt
section
set_option linter.unusedSimpArgs false
set_option linter.unusedVariables false
namespace Go.Proofs.Ytlhfcmbkjddgiaa.Pure
open Go Go.RowKit Go.Proofs.Ytlhfcmbkjddgiaa.P Go.Proofs.YtlhfcmbkjddgiaaW.PrintWords
set_option linter.unusedVariables false
theorem ev_JoinExits {t : List Cl} (ht : TS t) {p q : List Ex} (hp : p.length ≤ 100) (hq : q.length ≤ 100) : Ev (fun k => jda.f k t p q) (if exsB t p = true ∧ exsB t q = true ∧ exsB t (p ++ q) = true then (p ++ q, true) else ([], false)) := by
 unfold jda.f
 have h1:=ev_iVE ht (l:=p) (by omega)
 have h2:=ev_iVE ht (l:=q) (by omega)
 have h3:=ev_iVE ht (l:=p ++ q) (by rw [List.length_append];omega)
 have hc:jRa.f [p,q]=some (p ++ q):=by
  unfold jRa.f
  rw [if_pos (by simp;omega)]
  simp
 obtain ⟨R,hR⟩:∃ R,R=(if exsB t p=true∧exsB t q=true∧exsB t (p ++ q)=true then (p ++ q,true) else (([]:List Ex),false)):=⟨_,rfl⟩
 rw [← hR]
 by_cases a:exsB t p=true
 ·rw [a] at h1
  refine Ev.bind h1 (Ev.pos rfl (Ev.bind h2 ?_))
  by_cases b:exsB t q=true
  ·rw [b]
   refine Ev.step (fun k=>by rw [jda.j0]) (Ev.neg (by simp) ?_)
   rw [hc]
   simp only [Option.bind_some]
   unfold jkb.f
   by_cases c:exsB t (p ++ q)=true
   ·rw [c] at h3
    rw [if_pos ⟨a,b,c⟩] at hR
    subst hR
    exact Ev.bind (Ev.bind h3 (Ev.pos rfl (Ev.now _))) (Ev.now _)
   ·rw [if_neg (fun h=>c h.2.2)] at hR
    subst hR
    exact Ev.bind (Ev.bind h3 (Ev.neg c (Ev.now _))) (Ev.now _)
  ·rw [if_neg (fun h=>b h.2.1)] at hR
   subst hR
   exact Ev.step (fun k=>by rw [jda.j0]) (Ev.pos (by simpa using b) (Ev.now _))
 ·rw [if_neg (fun h=>a h.1)] at hR
  subst hR
  exact Ev.bind h1 (Ev.neg a (Ev.step (fun k=>by rw [jda.j0]) (Ev.pos rfl (Ev.now _))))
theorem ev_equalExits {r : List Ex} (hr : r.length ≤ 1048576) : Ev (fun k => jna.f k r r) true := by
 have go:∀ (n i:Nat),r.length≤n+i→Ev (fun k=>jna.l0 k r r i) true:=by
  intro n
  induction n with
  | zero =>
   intro i h
   refine Ev.step (fun k=>by rw [jna.l0]) ?_
   exact Ev.neg (by omega) (Ev.now _)
  | succ n ih =>
   intro i h
   refine Ev.step (fun k=>by rw [jna.l0]) ?_
   by_cases hi:i<r.length
   ·rw [wS (by omega)]
    refine Ev.pos (by omega) (Ev.pos (by omega) (Ev.pos (by omega) (Ev.neg (by simp) (ih (i+1) (by omega)))))
   ·exact Ev.neg (by omega) (Ev.now _)
 unfold jna.f
 exact Ev.pos rfl (go r.length 0 (by omega))
theorem ev_copyExits {p : List Ex} (hp : p.length ≤ 1048576) : jtb.f p = some p := by
 unfold jtb.f
 simp only [Option.bind_some,List.nil_append,List.length_nil]
 rw [if_pos (by omega)]
theorem ev_sJoinExits {t : List Cl} (ht : TS t) {p q : List Ex} (hp : p.length ≤ 100) (hq : q.length ≤ 100) : Ev (fun k => jT.f k t p q) (if exsB t p = true ∧ exsB t q = true ∧ exsB t (p ++ q) = true then (p ++ q, true) else ([], false)) := by
 have h1:=ev_sVE ht (l:=p) (by omega)
 have h2:=ev_sVE ht (l:=q) (by omega)
 have h3:=ev_sVE ht (l:=p ++ q) (by rw [List.length_append];omega)
 obtain ⟨R,hR⟩:∃ R,R=(if exsB t p=true∧exsB t q=true∧exsB t (p ++ q)=true then (p ++ q,true) else (([]:List Ex),false)):=⟨_,rfl⟩
 rw [← hR]
 unfold jT.f
 rw [ev_copyExits (by omega)]
 simp only [Option.bind_some]
 refine Ev.pos (by omega) ?_
 by_cases a:exsB t p=true
 ·rw [a] at h1
  refine Ev.bind h1 (Ev.pos rfl (Ev.bind h2 ?_))
  by_cases b:exsB t q=true
  ·rw [b]
   refine Ev.pos rfl (Ev.bind h3 ?_)
   by_cases c:exsB t (p ++ q)=true
   ·rw [c]
    rw [if_pos ⟨a,b,c⟩] at hR
    subst hR
    exact Ev.step (fun k=>by rw [jT.j0]) (Ev.neg (by simp) (Ev.now _))
   ·rw [if_neg (fun h=>c h.2.2)] at hR
    subst hR
    exact Ev.step (fun k=>by rw [jT.j0]) (Ev.pos (by simpa using c) (Ev.now _))
  ·rw [if_neg (fun h=>b h.2.1)] at hR
   subst hR
   exact Ev.neg b (Ev.step (fun k=>by rw [jT.j0]) (Ev.pos rfl (Ev.now _)))
 ·rw [if_neg (fun h=>a h.1)] at hR
  subst hR
  exact Ev.bind h1 (Ev.neg a (Ev.step (fun k=>by rw [jT.j0]) (Ev.pos rfl (Ev.now _))))
end Go.Proofs.Ytlhfcmbkjddgiaa.Pure
end
