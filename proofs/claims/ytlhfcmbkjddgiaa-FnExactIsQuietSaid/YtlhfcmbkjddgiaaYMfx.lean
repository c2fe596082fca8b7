/- One part of the proofs on this program: functions of the program as plain functions, that the code comes to them, and facts on them. -/
import Derived.Test.YtlhfcmbkjddgiaaYA1
import Derived.Test.YtlhfcmbkjddgiaaYAll1
import Derived.Test.YtlhfcmbkjddgiaaYMft
import Derived.Test.YtlhfcmbkjddgiaaYMxv
import Derived.Test.YtlhfcmbkjddgiaaYOpen
section
set_option linter.unusedSimpArgs false
set_option linter.unusedVariables false
namespace Go.Proofs.Ytlhfcmbkjddgiaa.Pure
open Go Go.RowKit Go.Proofs.Ytlhfcmbkjddgiaa.P Go.Proofs.YtlhfcmbkjddgiaaW.PrintWords
set_option linter.unusedVariables false
abbrev LX := S70
def tX3 (x : LX) : Ex := ⟨x.f0, x.f1, x.f2⟩
def tXs (l : List LX) : List Ex := l.map tX3
theorem szExitS_eq {l : List LX} (hl : l.length ≤ 9223372036854775807) {a : Int} (h0 : 0 ≤ a) (h1 : a ≤ 1048576) :
  ∃ r,jwb.f l a=some r∧(r<0∨(0≤r∧r≤a∧(tXs l).length≤1048576)):=by
 unfold jwb.f
 rw [wr (x:=a - (l.length:Int)) (by omega)]
 by_cases hb:a - (l.length:Int)<0
 ·exact ⟨-1,by rw [if_pos hb], .inl (by omega)⟩
 ·exact ⟨a - (l.length:Int),by rw [if_neg hb], .inr ⟨by omega,by omega,by simp only [tXs,List.length_map];omega⟩⟩
theorem ev_toExitS {l : List LX} (hl : l.length ≤ 1048576) : Ev (fun k => jK.f k l) (tXs l) := by
 have go:∀ (n i:Nat),l.length≤n+i→i≤l.length→Ev (fun k=>jK.l0 k l ((l.take i).map tX3 ++ List.replicate (l.length - i) z44) i) (tXs l):=by
  intro n
  induction n with
  | zero =>
   intro i h h2
   refine Ev.step (fun k=>by rw [jK.l0]) ?_
   rw [fill_end tX3 z44 l i (by omega)]
   exact Ev.neg (by omega) (Ev.now _)
  | succ n ih =>
   intro i h h2
   by_cases hi:i<l.length
   ·have e:jOc l (i:Int)=l[i]:=by simp [jOc,List.getD_eq_getElem?_getD,hi]
    refine Ev.step (fun k=>by rw [jK.l0]) ?_
    simp only [jHc.f,Option.bind_some]
    rw [e,fill_len tX3 z44 l i (by omega),wS (by omega),show ((i:Int)).toNat=i from rfl]
    refine Ev.pos (by omega) (Ev.pos (by omega) (Ev.pos (by omega) ?_))
    have:=ih (i+1) (by omega) (by omega)
    rw [← fill_set tX3 z44 l i hi] at this
    exact this
   ·refine Ev.step (fun k=>by rw [jK.l0]) ?_
    rw [fill_end tX3 z44 l i (by omega)]
    exact Ev.neg (by omega) (Ev.now _)
 have h2:Ev (fun k=>jK.f k l) (tXs l):=by
  unfold jK.f
  refine Ev.pos (by omega) (Ev.pos (by omega) ?_)
  exact go l.length 0 (by omega) (by omega)
 exact h2
theorem ev_eqExitS {l : List Ex} (hl : l.length ≤ 1048576) : Ev (fun k => jT.f k l l) true := by
 have go:∀ (n i:Nat),l.length≤n+i→Ev (fun k=>jT.l0 k l l i) true:=by
  intro n
  induction n with
  | zero =>
   intro i h
   refine Ev.step (fun k=>by rw [jT.l0]) ?_
   exact Ev.neg (by omega) (Ev.now _)
  | succ n ih =>
   intro i h
   refine Ev.step (fun k=>by rw [jT.l0]) ?_
   by_cases hi:i<l.length
   ·simp only [jrc.f,if_true,Option.bind_some,bne_self_eq_false,Bool.false_eq_true,if_false]
    rw [wS (by omega)]
    exact Ev.pos (by omega) (Ev.pos (by omega) (Ev.pos (by omega) (ih (i+1) (by omega))))
   ·exact Ev.neg (by omega) (Ev.now _)
 unfold jT.f
 exact Ev.pos rfl (go l.length 0 (by omega))
end Go.Proofs.Ytlhfcmbkjddgiaa.Pure
end
