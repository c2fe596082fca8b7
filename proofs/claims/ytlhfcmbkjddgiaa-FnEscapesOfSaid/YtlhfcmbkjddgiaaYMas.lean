/- One part of the proofs on this program: functions of the program as plain functions, that the code comes to them, and facts on them. -/
import Derived.Test.YtlhfcmbkjddgiaaYAll7
import Derived.Test.YtlhfcmbkjddgiaaYMgb
section
set_option linter.unusedSimpArgs false
set_option linter.unusedVariables false
namespace Go.Proofs.Ytlhfcmbkjddgiaa.Pure
open Go Go.RowKit Go.Proofs.Ytlhfcmbkjddgiaa.P Go.Proofs.YtlhfcmbkjddgiaaW.PrintWords
set_option linter.unusedVariables false
theorem ev_ascends {L : List Nat} (hl : L.length ≤ 1048576) (ha : L.Pairwise (· < ·)) : Ev (fun k => jLa.f k (ci L)) true := by
 have hp:=List.pairwise_iff_getElem.mp ha
 have go:∀ (n i:Nat),L.length≤n+i→1≤i→Ev (fun k=>jLa.l0 k (ci L) i) true:=by
  intro n
  induction n with
  | zero =>
   intro i h h1
   refine Ev.step (fun k=>by rw [jLa.l0]) ?_
   exact Ev.neg (by rw [jbb];omega) (Ev.now _)
  | succ n ih =>
   intro i h h1
   refine Ev.step (fun k=>by rw [jLa.l0]) ?_
   by_cases hi:i<L.length
   ·obtain ⟨m,rfl⟩:∃ m,i=m+1:=⟨i - 1,by omega⟩
    have hm:m<L.length:=by omega
    have:=hp m (m+1) hm hi (by omega)
    have e1:L.getD (m+1) 0=L[m+1]:=by simp [List.getD_eq_getElem?_getD,hi]
    have e2:L.getD m 0=L[m]:=by simp [List.getD_eq_getElem?_getD,hm]
    rw [wP (by omega),rd_ci hi,rd_ci hm,wS (i:=m+1) (by omega),jbb]
    exact Ev.pos (by omega) (Ev.pos (by omega) (Ev.pos (by omega) (Ev.pos (by omega) (Ev.neg (by omega) (ih (m+1+1) (by omega) (by omega))))))
   ·exact Ev.neg (by rw [jbb];omega) (Ev.now _)
 exact go L.length 1 (by omega) (Nat.le_refl _)
end Go.Proofs.Ytlhfcmbkjddgiaa.Pure
end
