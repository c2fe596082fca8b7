/- One part of the proofs on this program: functions of the program as plain functions, that the code comes to them, and facts on them. -/
import Derived.Test.YtecdfgejmbpclaaYAll1
import Derived.Test.YtecdfgejmbpclaaYAll3
import Derived.Test.YtecdfgejmbpclaaYAll4
import Derived.Test.YtecdfgejmbpclaaYAll5
import Derived.Test.YtecdfgejmbpclaaYMft
import Derived.Test.YtecdfgejmbpclaaYMhp
import Derived.Test.YtecdfgejmbpclaaYOpen
section
set_option linter.unusedSimpArgs false
set_option linter.unusedVariables false
namespace Go.Proofs.Ytecdfgejmbpclaa.Pure
open Go Go.RowKit Go.Proofs.Ytecdfgejmbpclaa.P Go.Proofs.YtecdfgejmbpclaaW.PrintWords
set_option linter.unusedVariables false
abbrev LF := S97
def tF (x : LF) : Ft := ⟨x.f0, x.f1, x.f2, x.f3, x.f4⟩
def tH (l : List LF) : List Ft := l.map tF
theorem szHeap_eq {l : List LF} (hl : l.length ≤ 9223372036854775807) {a : Int} (h0 : 0 ≤ a) (h1 : a ≤ 1048576) :
  ∃ r,jpb.f l a=some r∧(r<0∨(0≤r∧r≤a∧(tH l).length≤1048576)):=by
 unfold jpb.f jqb.f
 rw [wr (x:=a - (l.length:Int)) (by omega)]
 by_cases hb:a - (l.length:Int)<0
 ·exact ⟨-1,by rw [if_pos hb];rfl, .inl (by omega)⟩
 ·exact ⟨a - (l.length:Int),by rw [if_neg hb];simp [hb], .inr ⟨by omega,by omega,by simp only [tH,List.length_map];omega⟩⟩
theorem ev_toHeap {l : List LF} (hl : l.length ≤ 1048576) : Ev (fun k => jY.f k l) (tH l) := by
 have go:∀ (n i:Nat),l.length≤n+i→i≤l.length→Ev (fun k=>jqa.l0 k l ((l.take i).map tF ++ List.replicate (l.length - i) z54) i) (tH l):=by
  intro n
  induction n with
  | zero =>
   intro i h h2
   refine Ev.step (fun k=>by rw [jqa.l0]) ?_
   rw [fill_end tF z54 l i (by omega)]
   exact Ev.neg (by omega) (Ev.now _)
  | succ n ih =>
   intro i h h2
   by_cases hi:i<l.length
   ·have e:jzb l (i:Int)=l[i]:=by simp [jzb,List.getD_eq_getElem?_getD,hi]
    refine Ev.step (fun k=>by rw [jqa.l0]) ?_
    simp only [jUb.f,Option.bind_some]
    rw [e,fill_len tF z54 l i (by omega),wS (by omega),show ((i:Int)).toNat=i from rfl]
    refine Ev.pos (by omega) (Ev.pos (by omega) (Ev.pos (by omega) ?_))
    have:=ih (i+1) (by omega) (by omega)
    rw [← fill_set tF z54 l i hi] at this
    exact this
   ·refine Ev.step (fun k=>by rw [jqa.l0]) ?_
    rw [fill_end tF z54 l i (by omega)]
    exact Ev.neg (by omega) (Ev.now _)
 have h2:Ev (fun k=>jqa.f k l) (tH l):=by
  unfold jqa.f
  refine Ev.pos (by omega) (Ev.pos (by omega) ?_)
  exact go l.length 0 (by omega) (by omega)
 unfold jY.f
 exact Ev.bind h2 (Ev.now _)
theorem ev_eqHeap {l : List Ft} (hl : l.length ≤ 1048576) : Ev (fun k => jT.f k l l) true := by
 have go:∀ (n i:Nat),l.length≤n+i→Ev (fun k=>jW.l0 k l l i) true:=by
  intro n
  induction n with
  | zero =>
   intro i h
   refine Ev.step (fun k=>by rw [jW.l0]) ?_
   exact Ev.neg (by omega) (Ev.now _)
  | succ n ih =>
   intro i h
   refine Ev.step (fun k=>by rw [jW.l0]) ?_
   by_cases hi:i<l.length
   ·simp only [jHb.f,if_true,Option.bind_some,bne_self_eq_false,Bool.false_eq_true,if_false]
    rw [wS (by omega)]
    exact Ev.pos (by omega) (Ev.pos (by omega) (Ev.pos (by omega) (ih (i+1) (by omega))))
   ·exact Ev.neg (by omega) (Ev.now _)
 unfold jT.f
 refine Ev.bind (a:=true) ?_ (Ev.pos rfl (Ev.now _))
 unfold jW.f
 exact Ev.pos rfl (go l.length 0 (by omega))
theorem ev_markFaultS_l0 : ∀ (n i : Nat) (a : Int) (l : List Ft), n + i = l.length → 0 ≤ a → a + 5 * (n : Int) ≤ 4611686018427387904 → l.length ≤ 1048576 → ∃ l2, Ev (fun k => jV.l0 k l a i) (a + 5 * (n : Int), l2)
 | 0,i,a,l,h,h0,h1,hl=>by
  refine ⟨l,?_⟩
  refine Ev.step (fun k=>by rw [jV.l0]) ?_
  have e:a+5 * ((0:Nat):Int)=a:=by omega
  rw [e]
  exact Ev.neg (by omega) (Ev.now _)
 | n+1,i,a,l,h,h0,h1,hl=>by
  have w1:wrap64 (a+1)=a+1:=wr (by omega)
  have w2:wrap64 (a+1+1)=a+2:=by rw [wr (by omega)];omega
  have w3:wrap64 (a+2+1)=a+3:=by rw [wr (by omega)];omega
  have w4:wrap64 (a+3+1)=a+4:=by rw [wr (by omega)];omega
  have w5:wrap64 (a+4+1)=a+5:=by rw [wr (by omega)];omega
  have key:∀ l':List Ft,l'.length=l.length→∃ l2,Ev (fun k=>jV.l0 k l' (a+5) ((i+1:Nat):Int)) (a+5 * ((n+1:Nat):Int),l2):=fun l' hl'=>by
   obtain ⟨l2,e2⟩:=ev_markFaultS_l0 n (i+1) (a+5) l' (by omega) (by omega) (by omega) (by omega)
   exact ⟨l2,by rw [show a+5 * ((n+1:Nat):Int)=a+5+5 * (n:Int) by omega];exact e2⟩
  refine exStep (fun k=>by rw [jV.l0]) ?_
  rw [wS (i:=i) (by omega),w1,w2,w3,w4,w5]
  refine exPos (by omega) (exPos (by omega) ?_)
  refine exBind (Ev.now _) (exBind (Ev.now _) (exBind (Ev.now _) (exBind (Ev.now _) ?_)))
  exact key _ (by simp)
theorem ev_markHeap {l : List Ft} (hl : l.length ≤ 1048576) {a : Int} (h0 : 0 ≤ a) (h1 : a ≤ 1073741824) : ∃ l2, Ev (fun k => jxa.f k l a) ((a + 5 * (l.length : Int)), l2) := by
 obtain ⟨l2,e⟩:=ev_markFaultS_l0 l.length 0 a l (by omega) h0 (by omega) hl
 refine ⟨l2,?_⟩
 unfold jxa.f jV.f
 exact Ev.bind e (Ev.now _)
end Go.Proofs.Ytecdfgejmbpclaa.Pure
end
