/- One part of the proofs on this program: functions of the program as plain functions, that the code comes to them, and facts on them. -/
import Derived.Test.YtpfaohdpnegjnaaDoorYAll1
import Derived.Test.YtpfaohdpnegjnaaDoorYAll3
import Derived.Test.YtpfaohdpnegjnaaDoorYAll5
import Derived.Test.YtpfaohdpnegjnaaDoorYMft
import Derived.Test.YtpfaohdpnegjnaaDoorYMgv
import Derived.Test.YtpfaohdpnegjnaaDoorYOpen
section
set_option linter.unusedSimpArgs false
set_option linter.unusedVariables false
namespace Go.Proofs.YtpfaohdpnegjnaaDoor.Pure
open Go Go.RowKit Go.Proofs.YtpfaohdpnegjnaaDoor.P Go.Proofs.YtpfaohdpnegjnaaDoorW.PrintWords
set_option linter.unusedVariables false
abbrev LG2 := S44
def tQ (x : LG2) : Pt := ⟨x.f0, x.f1, x.f2, x.f3⟩
def tQs (l : List LG2) : List Pt := l.map tQ
theorem szPartS_eq {l : List LG2} (hl : l.length ≤ 9223372036854775807) {a : Int} (h0 : 0 ≤ a) (h1 : a ≤ 1048576) :
  ∃ r,jAa.f l a=some r∧(r<0∨(0≤r∧r≤a∧(tQs l).length≤1048576)):=by
 unfold jAa.f
 rw [wr (x:=a - (l.length:Int)) (by omega)]
 by_cases hb:a - (l.length:Int)<0
 ·exact ⟨-1,if_pos hb, .inl (by omega)⟩
 ·exact ⟨_,if_neg hb, .inr ⟨by omega,by omega,by simp only [tQs,List.length_map];omega⟩⟩
theorem ev_toPartS {l : List LG2} (hl : l.length ≤ 1048576) : Ev (fun k => jD.f k l) (tQs l) := by
 have go:∀ (n i:Nat),l.length≤n+i→i≤l.length→Ev (fun k=>jD.l0 k l ((l.take i).map tQ ++ List.replicate (l.length - i) z42) i) (tQs l):=by
  intro n
  induction n with
  | zero =>
   intro i h h2
   refine Ev.step (fun k=>by rw [jD.l0]) ?_
   rw [fill_end tQ z42 l i (by omega)]
   exact Ev.neg (by omega) (Ev.now _)
  | succ n ih =>
   intro i h h2
   by_cases hi:i<l.length
   ·have e:jTa l (i:Int)=l[i]:=by simp [jTa,List.getD_eq_getElem?_getD,hi]
    refine Ev.step (fun k=>by rw [jD.l0]) ?_
    simp only [jhb.f,Option.bind_some]
    rw [e,fill_len tQ z42 l i (by omega),wS (by omega),show ((i:Int)).toNat=i from rfl]
    refine Ev.pos (by omega) (Ev.pos (by omega) (Ev.pos (by omega) ?_))
    have:=ih (i+1) (by omega) (by omega)
    rw [← fill_set tQ z42 l i hi] at this
    exact this
   ·refine Ev.step (fun k=>by rw [jD.l0]) ?_
    rw [fill_end tQ z42 l i (by omega)]
    exact Ev.neg (by omega) (Ev.now _)
 unfold jD.f
 refine Ev.pos (by omega) (Ev.pos (by omega) ?_)
 exact go l.length 0 (by omega) (by omega)
theorem ev_eqPartS {l : List Pt} (hl : l.length ≤ 1048576) : Ev (fun k => jF.f k l l) true := by
 have go:∀ (n i:Nat),l.length≤n+i→Ev (fun k=>jF.l0 k l l i) true:=by
  intro n
  induction n with
  | zero =>
   intro i h
   refine Ev.step (fun k=>by rw [jF.l0]) ?_
   exact Ev.neg (by omega) (Ev.now _)
  | succ n ih =>
   intro i h
   refine Ev.step (fun k=>by rw [jF.l0]) ?_
   by_cases hi:i<l.length
   ·simp only [jUa.f,if_true,Option.bind_some,bne_self_eq_false,Bool.false_eq_true,if_false]
    rw [wS (by omega)]
    exact Ev.pos (by omega) (Ev.pos (by omega) (Ev.pos (by omega) (ih (i+1) (by omega))))
   ·exact Ev.neg (by omega) (Ev.now _)
 unfold jF.f
 exact Ev.pos rfl (go l.length 0 (by omega))
end Go.Proofs.YtpfaohdpnegjnaaDoor.Pure
end
