/- One part of the proofs on this program: functions of the program as plain functions, that the code comes to them, and facts on them. -/
import Derived.Test.YtbbmgiloikkpiaaYAll6
import Derived.Test.YtbbmgiloikkpiaaYAll7
import Derived.Test.YtbbmgiloikkpiaaYMk
section
set_option linter.unusedSimpArgs false
set_option linter.unusedVariables false
namespace Go.Proofs.Ytbbmgiloikkpiaa.Pure
open Go Go.RowKit Go.Proofs.Ytbbmgiloikkpiaa.P Go.Proofs.YtbbmgiloikkpiaaW.PrintWords
set_option linter.unusedVariables false
def mkl (i : Nat) : Ln := ⟨1 + 4 * (i : Int), 1 + 4 * (i : Int) + 1, 1 + 4 * (i : Int) + 2, 1 + 4 * (i : Int) + 3⟩
def jec (n : Nat) : List Ln := (List.range n).map mkl
theorem jUb (n : Nat) : (jec n).length = n := by simp [jec]
theorem marksL_succ (n : Nat) : jec (n + 1) = jec n ++ [mkl n] := by simp [jec, List.range_succ]
theorem rd_set {x : List Ln} {i : Nat} (hi : i < x.length) (v : Ln) : jd (x.set i v) (i : Int) = v := by
 unfold jd
 rw [Int.toNat_natCast,List.getD_eq_getElem?_getD,List.getElem?_set_self hi];rfl
theorem ev_markLineS2 {r : List Ln} (hr : r.length ≤ 1048576) : Ev (fun k => jsa.f k r 1) (1 + 4 * (r.length : Int), jec r.length) := by
 have go:∀ (n i:Nat),r.length≤n+i→i≤r.length→Ev (fun k=>jsa.l0 k (jec i ++ r.drop i) (1+4 * (i:Int)) i) (1+4 * (r.length:Int),jec r.length):=by
  intro n
  induction n with
  | zero =>
   intro i h hi
   refine Ev.step (fun k=>by rw [jsa.l0]) ?_
   obtain rfl:i=r.length:=by omega
   rw [List.drop_length,List.append_nil,jUb]
   exact Ev.neg (by omega) (Ev.now _)
  | succ n ih =>
   intro i h hi
   by_cases hlt:i<r.length
   ·have hl:(jec i ++ r.drop i).length=r.length:=by rw [List.length_append,jUb,List.length_drop];omega
    have hx:i<(jec i ++ r.drop i).length:=by omega
    have e:(jec i ++ r.drop i).set i (mkl i)=jec (i+1) ++ r.drop (i+1):=by
     rw [List.set_append_right _ _ (by rw [jUb];omega),jUb,Nat.sub_self,List.drop_eq_getElem_cons hlt,List.set_cons_zero,marksL_succ,List.append_assoc]
     rfl
    have hz:=ih (i+1) (by omega) (by omega)
    rw [← e] at hz
    generalize hX:jec i ++ r.drop i=X at *
    refine Ev.step (fun k=>by rw [jsa.l0]) ?_
    refine Ev.pos (by omega) (Ev.pos (by omega) ?_)
    rw [show (i:Int).toNat=i from rfl]
    refine Ev.bind (Ev.now _) (Ev.bind (Ev.now _) (Ev.bind (Ev.now _) ?_))
    rw [wr (x:=1+4 * (i:Int)+1) (by omega),wr (x:=1+4 * (i:Int)+1+1) (by omega),wr (x:=1+4 * (i:Int)+1+1+1) (by omega),wr (x:=1+4 * (i:Int)+1+1+1+1) (by omega),wS (by omega)]
    simp only [List.set_set,rd_set (show i<X.length by omega)]
    rw [show 1+4 * (i:Int)+1+1+1+1=1+4 * ((i+1:Nat):Int) from by omega,show 1+4 * (i:Int)+1+1+1=1+4 * (i:Int)+3 from by omega,show 1+4 * (i:Int)+1+1=1+4 * (i:Int)+2 from by omega]
    exact hz
   ·refine Ev.step (fun k=>by rw [jsa.l0]) ?_
    obtain rfl:i=r.length:=by omega
    rw [List.drop_length,List.append_nil,jUb]
    exact Ev.neg (by omega) (Ev.now _)
 exact go r.length 0 (by omega) (by omega)
theorem marksL_at {n i : Nat} (h : i < n) : jd (jec n) (i : Int) = mkl i := by simp [jd, jec, List.getD_eq_getElem?_getD, h]
theorem ev_heldLineS {m : Nat} (hm : m ≤ 1048576) : Ev (fun k => jta.f k (jec m) 1) (1 + 4 * (m : Int)) := by
 have go:∀ (n i:Nat),m≤n+i→i≤m→Ev (fun k=>jta.l0 k (jec m) (1+4 * (i:Int)) i) (1+4 * (m:Int)):=by
  intro n
  induction n with
  | zero =>
   intro i h hi
   refine Ev.step (fun k=>by rw [jta.l0]) ?_
   rw [jUb,show i=m from by omega]
   exact Ev.neg (by omega) (Ev.now _)
  | succ n ih =>
   intro i h hi
   by_cases hlt:i<m
   ·have hz:=ih (i+1) (by omega) (by omega)
    refine Ev.step (fun k=>by rw [jta.l0]) ?_
    rw [jUb,marksL_at hlt,wr (x:=1+4 * (i:Int)+1) (by omega),wr (x:=1+4 * (i:Int)+1+1) (by omega),wr (x:=1+4 * (i:Int)+1+1+1) (by omega),wr (x:=1+4 * (i:Int)+1+1+1+1) (by omega),wS (by omega),show 1+4 * (i:Int)+1+1+1+1=1+4 * ((i+1:Nat):Int) from by omega]
    exact Ev.pos (by omega) (Ev.pos (by omega) (Ev.pos rfl (Ev.pos rfl (Ev.pos (by simp only [mkl];omega) (Ev.pos (by simp only [mkl];omega) hz)))))
   ·refine Ev.step (fun k=>by rw [jta.l0]) ?_
    rw [jUb,show i=m from by omega]
    exact Ev.neg (by omega) (Ev.now _)
 exact go m 0 (by omega) (by omega)
end Go.Proofs.Ytbbmgiloikkpiaa.Pure
end
