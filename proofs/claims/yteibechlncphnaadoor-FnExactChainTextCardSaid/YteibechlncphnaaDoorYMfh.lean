/- One part of the proofs on this program: functions of the program as plain functions, that the code comes to them, and facts on them. -/
import Derived.Test.YteibechlncphnaaDoorYAll4
import Derived.Test.YteibechlncphnaaDoorYMft
import Derived.Test.YteibechlncphnaaDoorYMhp
import Derived.Test.YteibechlncphnaaDoorYOpen
section
set_option linter.unusedSimpArgs false
set_option linter.unusedVariables false
namespace Go.Proofs.YteibechlncphnaaDoor.Pure
open Go Go.RowKit Go.Proofs.YteibechlncphnaaDoor.P Go.Proofs.YteibechlncphnaaDoorW.PrintWords
set_option linter.unusedVariables false
abbrev LF := S102
def tF (x : LF) : Ft := ⟨x.f0, x.f1, x.f2, x.f3, x.f4⟩
def tH (l : List LF) : List Ft := l.map tF
theorem szHeap_eq {l : List LF} (hl : l.length ≤ 9223372036854775807) {a : Int} (h0 : 0 ≤ a) (h1 : a ≤ 1048576) :
  ∃ r,jRa.f l a=some r∧(r<0∨(0≤r∧r≤a∧(tH l).length≤1048576)):=by
 unfold jRa.f jSa.f
 rw [wr (x:=a - (l.length:Int)) (by omega)]
 by_cases hb:a - (l.length:Int)<0
 ·exact ⟨-1,by rw [if_pos hb];rfl, .inl (by omega)⟩
 ·exact ⟨a - (l.length:Int),by rw [if_neg hb];simp [hb], .inr ⟨by omega,by omega,by simp only [tH,List.length_map];omega⟩⟩
theorem ev_toHeap {l : List LF} (hl : l.length ≤ 1048576) : Ev (fun k => jO.f k l) (tH l) := by
 have go:∀ (n i:Nat),l.length≤n+i→i≤l.length→Ev (fun k=>jX.l0 k l ((l.take i).map tF ++ List.replicate (l.length - i) z66) i) (tH l):=by
  intro n
  induction n with
  | zero =>
   intro i h h2
   refine Ev.step (fun k=>by rw [jX.l0]) ?_
   rw [fill_end tF z66 l i (by omega)]
   exact Ev.neg (by omega) (Ev.now _)
  | succ n ih =>
   intro i h h2
   by_cases hi:i<l.length
   ·have e:jJa l (i:Int)=l[i]:=by simp [jJa,List.getD_eq_getElem?_getD,hi]
    refine Ev.step (fun k=>by rw [jX.l0]) ?_
    simp only [jrb.f,Option.bind_some]
    rw [e,fill_len tF z66 l i (by omega),wS (by omega),show ((i:Int)).toNat=i from rfl]
    refine Ev.pos (by omega) (Ev.pos (by omega) (Ev.pos (by omega) ?_))
    have:=ih (i+1) (by omega) (by omega)
    rw [← fill_set tF z66 l i hi] at this
    exact this
   ·refine Ev.step (fun k=>by rw [jX.l0]) ?_
    rw [fill_end tF z66 l i (by omega)]
    exact Ev.neg (by omega) (Ev.now _)
 have h2:Ev (fun k=>jX.f k l) (tH l):=by
  unfold jX.f
  refine Ev.pos (by omega) (Ev.pos (by omega) ?_)
  exact go l.length 0 (by omega) (by omega)
 unfold jO.f
 exact Ev.bind h2 (Ev.now _)
theorem ev_eqHeap {l : List Ft} (hl : l.length ≤ 1048576) : Ev (fun k => joa.f k l l) true := by
 have go:∀ (n i:Nat),l.length≤n+i→Ev (fun k=>jL.l0 k l l i) true:=by
  intro n
  induction n with
  | zero =>
   intro i h
   refine Ev.step (fun k=>by rw [jL.l0]) ?_
   exact Ev.neg (by omega) (Ev.now _)
  | succ n ih =>
   intro i h
   refine Ev.step (fun k=>by rw [jL.l0]) ?_
   by_cases hi:i<l.length
   ·simp only [jhb.f,if_true,Option.bind_some,bne_self_eq_false,Bool.false_eq_true,if_false]
    rw [wS (by omega)]
    exact Ev.pos (by omega) (Ev.pos (by omega) (Ev.pos (by omega) (ih (i+1) (by omega))))
   ·exact Ev.neg (by omega) (Ev.now _)
 unfold joa.f
 refine Ev.bind (a:=true) ?_ (Ev.pos rfl (Ev.now _))
 unfold jL.f
 exact Ev.pos rfl (go l.length 0 (by omega))
end Go.Proofs.YteibechlncphnaaDoor.Pure
end
