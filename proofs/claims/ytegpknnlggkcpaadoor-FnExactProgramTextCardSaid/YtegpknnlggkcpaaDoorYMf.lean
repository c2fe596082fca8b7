/- One part of the proofs on this program: functions of the program as plain functions, that the code comes to them, and facts on them. -/
import Derived.Test.YtegpknnlggkcpaaDoorYAll1
import Derived.Test.YtegpknnlggkcpaaDoorYAll3
import Derived.Test.YtegpknnlggkcpaaDoorYAll5
import Derived.Test.YtegpknnlggkcpaaDoorYMe
import Derived.Test.YtegpknnlggkcpaaDoorYMft
import Derived.Test.YtegpknnlggkcpaaDoorYOpen
section
set_option linter.unusedSimpArgs false
set_option linter.unusedVariables false
namespace Go.Proofs.YtegpknnlggkcpaaDoor.Pure
open Go Go.RowKit Go.Proofs.YtegpknnlggkcpaaDoor.P Go.Proofs.YtegpknnlggkcpaaDoorW.PrintWords
set_option linter.unusedVariables false
abbrev LL := S44
def tL (x : LL) : Ln := ⟨x.f0, x.f1, x.f2, x.f3⟩
def tP (l : List LL) : List Ln := l.map tL
theorem szLineS_eq {l : List LL} (hl : l.length ≤ 9223372036854775807) {a : Int} (h0 : 0 ≤ a) (h1 : a ≤ 1048576) :
  ∃ r,jPa.f l a=some r∧(r<0∨(0≤r∧r≤a∧(tP l).length≤1048576)):=by
 unfold jPa.f
 rw [wr (x:=a - (l.length:Int)) (by omega)]
 by_cases hb:a - (l.length:Int)<0
 ·exact ⟨-1,if_pos hb, .inl (by omega)⟩
 ·exact ⟨_,if_neg hb, .inr ⟨by omega,by omega,by simp only [tP,List.length_map];omega⟩⟩
theorem ev_toLineS {l : List LL} (hl : l.length ≤ 1048576) : Ev (fun k => jC.f k l) (tP l) := by
 have go:∀ (n i:Nat),l.length≤n+i→i≤l.length→Ev (fun k=>jC.l0 k l ((l.take i).map tL ++ List.replicate (l.length - i) z42) i) (tP l):=by
  intro n
  induction n with
  | zero =>
   intro i h h2
   refine Ev.step (fun k=>by rw [jC.l0]) ?_
   rw [fill_end tL z42 l i (by omega)]
   exact Ev.neg (by omega) (Ev.now _)
  | succ n ih =>
   intro i h h2
   by_cases hi:i<l.length
   ·have e:jmb l (i:Int)=l[i]:=by simp [jmb,List.getD_eq_getElem?_getD,hi]
    refine Ev.step (fun k=>by rw [jC.l0]) ?_
    simp only [jCb.f,Option.bind_some]
    rw [e,fill_len tL z42 l i (by omega),wS (by omega),show ((i:Int)).toNat=i from rfl]
    refine Ev.pos (by omega) (Ev.pos (by omega) (Ev.pos (by omega) ?_))
    have:=ih (i+1) (by omega) (by omega)
    rw [← fill_set tL z42 l i hi] at this
    exact this
   ·refine Ev.step (fun k=>by rw [jC.l0]) ?_
    rw [fill_end tL z42 l i (by omega)]
    exact Ev.neg (by omega) (Ev.now _)
 unfold jC.f
 refine Ev.pos (by omega) (Ev.pos (by omega) ?_)
 exact go l.length 0 (by omega) (by omega)
theorem ev_eqLineS {l : List Ln} (hl : l.length ≤ 1048576) : Ev (fun k => jF.f k l l) true := by
 have go:∀ (n i:Nat),l.length≤n+i→Ev (fun k=>jF.l0 k l l i) true:=by
  intro n
  induction n with
  | zero =>
   intro i h
   refine Ev.step (fun k=>by rw [jF.l0]) ?_
   exact Ev.neg (by omega) (Ev.now _)
  | succ n ih =>
   intro i h
   refine Ev.step (fun k=>by rw [jF.l0]) ?_
   by_cases hi:i<l.length
   ·simp only [jnb.f,if_true,Option.bind_some]
    rw [wS (by omega)]
    exact Ev.pos (by omega) (Ev.pos (by omega) (Ev.pos (by omega) (ih (i+1) (by omega))))
   ·exact Ev.neg (by omega) (Ev.now _)
 unfold jF.f
 exact Ev.pos rfl (go l.length 0 (by omega))
end Go.Proofs.YtegpknnlggkcpaaDoor.Pure
end
