/- One part of the proofs on this program: functions of the program as plain functions, that the code comes to them, and facts on them. -/
import Derived.Test.YtecdfgejmbpclaaYAll4
import Derived.Test.YtecdfgejmbpclaaYMx
section
set_option linter.unusedSimpArgs false
set_option linter.unusedVariables false
namespace Go.Proofs.Ytecdfgejmbpclaa.Pure
open Go Go.RowKit Go.Proofs.Ytecdfgejmbpclaa.P Go.Proofs.YtecdfgejmbpclaaW.PrintWords
set_option linter.unusedVariables false
def marks (n : Nat) : List Int := (List.range n).map fun j : Nat => (j : Int) + 1
theorem jHb (n : Nat) : (marks n).length = n := by simp [marks]
theorem marks_succ (n : Nat) : marks (n + 1) = marks n ++ [(n : Int) + 1] := by simp [marks, List.range_succ]
theorem marks_at {n i : Nat} (h : i < n) : rd (marks n) (i : Int) = (i : Int) + 1 := by simp [rd, marks, List.getD_eq_getElem?_getD, h]
theorem ev_markIntS {r : List Int} (hr : r.length ≤ 1048576) : Ev (fun k => jra.f k r 1) ((r.length : Int) + 1, marks r.length) := by
 have go:∀ (n i:Nat),r.length≤n+i→i≤r.length→Ev (fun k=>jra.l0 k (marks i ++ r.drop i) ((i:Int)+1) i) ((r.length:Int)+1,marks r.length):=by
  intro n
  induction n with
  | zero =>
   intro i h hi
   refine Ev.step (fun k=>by rw [jra.l0]) ?_
   obtain rfl:i=r.length:=by omega
   rw [List.drop_length,List.append_nil,jHb]
   exact Ev.neg (by omega) (Ev.now _)
  | succ n ih =>
   intro i h hi
   by_cases hlt:i<r.length
   ·refine Ev.step (fun k=>by rw [jra.l0]) ?_
    have hl:(marks i ++ r.drop i).length=r.length:=by rw [List.length_append,jHb,List.length_drop];omega
    rw [hl,wr (x:=(i:Int)+1+1) (by omega),wS (by omega),show (i:Int).toNat=i from rfl]
    refine Ev.pos (by omega) (Ev.pos (by omega) ?_)
    have e:(marks i ++ r.drop i).set i ((i:Int)+1)=marks (i+1) ++ r.drop (i+1):=by
     rw [List.set_append_right _ _ (by rw [jHb];omega),jHb,Nat.sub_self,List.drop_eq_getElem_cons hlt,List.set_cons_zero,marks_succ,List.append_assoc]
     rfl
    rw [e]
    exact ih (i+1) (by omega) (by omega)
   ·refine Ev.step (fun k=>by rw [jra.l0]) ?_
    obtain rfl:i=r.length:=by omega
    rw [List.drop_length,List.append_nil,jHb]
    exact Ev.neg (by omega) (Ev.now _)
 exact go r.length 0 (by omega) (by omega)
theorem ev_heldIntS {m : Nat} (hm : m ≤ 1048576) : Ev (fun k => jV.f k (marks m) 1) ((m : Int) + 1) := by
 have go:∀ (n i:Nat),m≤n+i→i≤m→Ev (fun k=>jV.l0 k (marks m) ((i:Int)+1) i) ((m:Int)+1):=by
  intro n
  induction n with
  | zero =>
   intro i h hi
   refine Ev.step (fun k=>by rw [jV.l0]) ?_
   rw [jHb,show i=m from by omega]
   exact Ev.neg (by omega) (Ev.now _)
  | succ n ih =>
   intro i h hi
   by_cases hlt:i<m
   ·refine Ev.step (fun k=>by rw [jV.l0]) ?_
    rw [jHb,marks_at hlt,wr (x:=(i:Int)+1+1) (by omega),wS (by omega)]
    exact Ev.pos (by omega) (Ev.pos (by omega) (Ev.pos rfl (ih (i+1) (by omega) (by omega))))
   ·refine Ev.step (fun k=>by rw [jV.l0]) ?_
    rw [jHb,show i=m from by omega]
    exact Ev.neg (by omega) (Ev.now _)
 exact go m 0 (by omega) (by omega)
theorem ev_eqIntS {r : List Int} (hr : r.length ≤ 1048576) : Ev (fun k => jD.f k r r) true := by
 have go:∀ (n i:Nat),r.length≤n+i→Ev (fun k=>jD.l0 k r r i) true:=by
  intro n
  induction n with
  | zero =>
   intro i h
   refine Ev.step (fun k=>by rw [jD.l0]) ?_
   exact Ev.neg (by omega) (Ev.now _)
  | succ n ih =>
   intro i h
   refine Ev.step (fun k=>by rw [jD.l0]) ?_
   by_cases hi:i<r.length
   ·rw [wS (by omega)]
    exact Ev.pos (by omega) (Ev.pos (by omega) (Ev.pos (by omega) (Ev.pos rfl (ih (i+1) (by omega)))))
   ·exact Ev.neg (by omega) (Ev.now _)
 unfold jD.f
 exact Ev.pos rfl (go r.length 0 (by omega))
end Go.Proofs.Ytecdfgejmbpclaa.Pure
end
