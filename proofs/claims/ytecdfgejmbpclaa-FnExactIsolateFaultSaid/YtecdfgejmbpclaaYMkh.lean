/- One part of the proofs on this program: functions of the program as plain functions, that the code comes to them, and facts on them. -/
import Derived.Test.YtecdfgejmbpclaaYAll5
import Derived.Test.YtecdfgejmbpclaaYMfh
import Derived.Test.YtecdfgejmbpclaaYMx
section
set_option linter.unusedSimpArgs false
set_option linter.unusedVariables false
namespace Go.Proofs.Ytecdfgejmbpclaa.Pure
open Go Go.RowKit Go.Proofs.Ytecdfgejmbpclaa.P Go.Proofs.YtecdfgejmbpclaaW.PrintWords
set_option linter.unusedVariables false
def mkf (i : Nat) : Ft := ⟨1 + 5 * (i : Int), 1 + 5 * (i : Int) + 1, 1 + 5 * (i : Int) + 2, 1 + 5 * (i : Int) + 3, Int.tmod (1 + 5 * (i : Int) + 4) 3 == 0⟩
def jMb (n : Nat) : List Ft := (List.range n).map mkf
theorem jGb (n : Nat) : (jMb n).length = n := by simp [jMb]
theorem marksF_succ (n : Nat) : jMb (n + 1) = jMb n ++ [mkf n] := by simp [jMb, List.range_succ]
theorem rd_setF {x : List Ft} {i : Nat} (hi : i < x.length) (v : Ft) : jd (x.set i v) (i : Int) = v := by
 unfold jd
 rw [Int.toNat_natCast,List.getD_eq_getElem?_getD,List.getElem?_set_self hi];rfl
theorem ev_markFaultS2 {r : List Ft} (hr : r.length ≤ 1048576) : Ev (fun k => jV.f k r 1) (1 + 5 * (r.length : Int), jMb r.length) := by
 have go:∀ (n i:Nat),r.length≤n+i→i≤r.length→Ev (fun k=>jV.l0 k (jMb i ++ r.drop i) (1+5 * (i:Int)) i) (1+5 * (r.length:Int),jMb r.length):=by
  intro n
  induction n with
  | zero =>
   intro i h hi
   refine Ev.step (fun k=>by rw [jV.l0]) ?_
   obtain rfl:i=r.length:=by omega
   rw [List.drop_length,List.append_nil,jGb]
   exact Ev.neg (by omega) (Ev.now _)
  | succ n ih =>
   intro i h hi
   by_cases hlt:i<r.length
   ·have hl:(jMb i ++ r.drop i).length=r.length:=by rw [List.length_append,jGb,List.length_drop];omega
    have hx:i<(jMb i ++ r.drop i).length:=by omega
    have e:(jMb i ++ r.drop i).set i (mkf i)=jMb (i+1) ++ r.drop (i+1):=by
     rw [List.set_append_right _ _ (by rw [jGb];omega),jGb,Nat.sub_self,List.drop_eq_getElem_cons hlt,List.set_cons_zero,marksF_succ,List.append_assoc]
     rfl
    have hz:=ih (i+1) (by omega) (by omega)
    rw [← e] at hz
    generalize hX:jMb i ++ r.drop i=X at *
    refine Ev.step (fun k=>by rw [jV.l0]) ?_
    refine Ev.pos (by omega) (Ev.pos (by omega) ?_)
    rw [show (i:Int).toNat=i from rfl]
    refine Ev.bind (Ev.now _) (Ev.bind (Ev.now _) (Ev.bind (Ev.now _) (Ev.bind (Ev.now _) ?_)))
    rw [wr (x:=1+5 * (i:Int)+1) (by omega),wr (x:=1+5 * (i:Int)+1+1) (by omega),wr (x:=1+5 * (i:Int)+1+1+1) (by omega),wr (x:=1+5 * (i:Int)+1+1+1+1) (by omega),wr (x:=1+5 * (i:Int)+1+1+1+1+1) (by omega),wS (by omega)]
    simp only [List.set_set,rd_setF (show i<X.length by omega)]
    rw [show 1+5 * (i:Int)+1+1+1+1+1=1+5 * ((i+1:Nat):Int) from by omega,show 1+5 * (i:Int)+1+1+1+1=1+5 * (i:Int)+4 from by omega,show 1+5 * (i:Int)+1+1+1=1+5 * (i:Int)+3 from by omega,show 1+5 * (i:Int)+1+1=1+5 * (i:Int)+2 from by omega]
    exact hz
   ·refine Ev.step (fun k=>by rw [jV.l0]) ?_
    obtain rfl:i=r.length:=by omega
    rw [List.drop_length,List.append_nil,jGb]
    exact Ev.neg (by omega) (Ev.now _)
 exact go r.length 0 (by omega) (by omega)
theorem marksF_at {n i : Nat} (h : i < n) : jd (jMb n) (i : Int) = mkf i := by simp [jd, jMb, List.getD_eq_getElem?_getD, h]
theorem ev_heldFaultS {m : Nat} (hm : m ≤ 1048576) : Ev (fun k => jga.f k (jMb m) 1) (1 + 5 * (m : Int)) := by
 have go:∀ (n i:Nat),m≤n+i→i≤m→Ev (fun k=>jga.l0 k (jMb m) (1+5 * (i:Int)) i) (1+5 * (m:Int)):=by
  intro n
  induction n with
  | zero =>
   intro i h hi
   refine Ev.step (fun k=>by rw [jga.l0]) ?_
   rw [jGb,show i=m from by omega]
   exact Ev.neg (by omega) (Ev.now _)
  | succ n ih =>
   intro i h hi
   by_cases hlt:i<m
   ·have hz:=ih (i+1) (by omega) (by omega)
    refine Ev.step (fun k=>by rw [jga.l0]) ?_
    rw [jGb,marksF_at hlt,wr (x:=1+5 * (i:Int)+1) (by omega),wr (x:=1+5 * (i:Int)+1+1) (by omega),wr (x:=1+5 * (i:Int)+1+1+1) (by omega),wr (x:=1+5 * (i:Int)+1+1+1+1) (by omega),wr (x:=1+5 * (i:Int)+1+1+1+1+1) (by omega),wS (by omega),show 1+5 * (i:Int)+1+1+1+1+1=1+5 * ((i+1:Nat):Int) from by omega,show 1+5 * (i:Int)+1+1+1+1=1+5 * (i:Int)+4 from by omega]
    exact Ev.pos (by omega) (Ev.pos (by omega) (Ev.pos rfl (Ev.pos rfl (Ev.pos (by simp only [mkf];omega) (Ev.pos (by simp only [mkf];omega) (Ev.neg (by simp [mkf]) hz))))))
   ·refine Ev.step (fun k=>by rw [jga.l0]) ?_
    rw [jGb,show i=m from by omega]
    exact Ev.neg (by omega) (Ev.now _)
 exact go m 0 (by omega) (by omega)
theorem ev_markHeap2 {r : List Ft} (hr : r.length ≤ 1048576) : Ev (fun k => jxa.f k r 1) (1 + 5 * (r.length : Int), jMb r.length) := by
 unfold jxa.f
 exact Ev.bind (ev_markFaultS2 hr) (Ev.now _)
theorem ev_heldHeap {m : Nat} (hm : m ≤ 1048576) : Ev (fun k => jUa.f k (jMb m) 1) (1 + 5 * (m : Int)) := by
 unfold jUa.f
 exact Ev.bind (ev_heldFaultS hm) (Ev.neg (by omega) (Ev.now _))
end Go.Proofs.Ytecdfgejmbpclaa.Pure
end
