/- One part of the proofs on this program: functions of the program as plain functions, that the code comes to them, and facts on them. -/
import Derived.Test.YtpfaohdpnegjnaaDoorYAll1
import Derived.Test.YtpfaohdpnegjnaaDoorYAll3
import Derived.Test.YtpfaohdpnegjnaaDoorYAll5
import Derived.Test.YtpfaohdpnegjnaaDoorYMt
import Derived.Test.YtpfaohdpnegjnaaDoorYOpen
section
set_option linter.unusedSimpArgs false
set_option linter.unusedVariables false
namespace Go.Proofs.YtpfaohdpnegjnaaDoor.Pure
open Go Go.RowKit Go.Proofs.YtpfaohdpnegjnaaDoor.P Go.Proofs.YtpfaohdpnegjnaaDoorW.PrintWords
set_option linter.unusedVariables false
abbrev LC := S50
def tC (x : LC) : Cl := ⟨x.f0, x.f1⟩
def tT (l : List LC) : List Cl := l.map tC
theorem ev_szClassS_l0 {l : List LC} (hl : l.length ≤ 9223372036854775807) (hg : ∀ y ∈ l, good50 y) : ∀ (n i : Nat) (a : Int), l.length ≤ n + i → 0 ≤ a → a ≤ 1048576 → l.length ≤ 1048576 →
  ∃ r,Ev (fun k=>jR.l0 k l a i) r∧(r<0∨(0≤r∧r≤a∧∀ j,i≤j→(h:j<l.length)→l[j].f0.size≤1048576))
 | 0,i,a,h,h0,h1,h2=>by
  refine ⟨a,?_, .inr ⟨h0,by omega,fun j _ hj=>by omega⟩⟩
  refine Ev.step (fun k=>by rw [jR.l0]) ?_
  exact Ev.neg (by omega) (Ev.now _)
 | n+1,i,a,h,h0,h1,h2=>by
  by_cases hi:i<l.length
  ·have e:jLa l (i:Int)=l[i]:=by simp [jLa,List.getD_eq_getElem?_getD,hi]
   have hs:l[i].f0.size≤maxLen:=(hg _ (List.getElem_mem hi)).1
   unfold maxLen at hs
   by_cases hb:a - (l[i].f0.size:Int)<0
   ·refine ⟨-1,?_, .inl (by omega)⟩
    refine Ev.step (fun k=>by rw [jR.l0]) ?_
    rw [e]
    simp only [jGa.f]
    rw [wr (x:=a - (l[i].f0.size:Int)) (by omega)]
    simp only [hb,if_true,Option.bind_some]
    exact Ev.pos (by omega) (Ev.pos (by omega) (Ev.pos (by omega) (Ev.now _)))
   ·obtain ⟨r,hr1,hr2⟩:=ev_szClassS_l0 hl hg n (i+1) (a - (l[i].f0.size:Int)) (by omega) (by omega) (by omega) h2
    refine ⟨r,?_,?_⟩
    ·refine Ev.step (fun k=>by rw [jR.l0]) ?_
     rw [e]
     simp only [jGa.f]
     rw [wr (x:=a - (l[i].f0.size:Int)) (by omega),wS (by omega)]
     simp only [hb,if_false,Option.bind_some]
     exact Ev.pos (by omega) (Ev.pos (by omega) hr1)
    ·rcases hr2 with h3 | ⟨h3,h4,h5⟩
     ·exact .inl h3
     ·refine .inr ⟨h3,by omega,fun j hj1 hj2=>?_⟩
      by_cases hj:j=i
      ·subst hj;omega
      ·exact h5 j (by omega) hj2
  ·refine ⟨a,?_, .inr ⟨h0,by omega,fun j _ hj=>by omega⟩⟩
   refine Ev.step (fun k=>by rw [jR.l0]) ?_
   exact Ev.neg (by omega) (Ev.now _)
theorem ev_szTree {l : List LC} (hl : l.length ≤ 9223372036854775807) (hg : ∀ y ∈ l, good50 y) {a : Int} (h0 : 0 ≤ a) (h1 : a ≤ 1048576) :
  ∃ r,Ev (fun k=>jDa.f k l a) r∧(r<0∨(0≤r∧r≤a∧TS (tT l))):=by
 have hS:∃ r,Ev (fun k=>jR.f k l a) r∧(r<0∨(0≤r∧r≤a∧TS (tT l))):=by
  unfold jR.f
  rw [wr (x:=a - (l.length:Int)) (by omega)]
  by_cases hb:a - (l.length:Int)<0
  ·exact ⟨-1,Ev.pos hb (Ev.now _), .inl (by omega)⟩
  ·obtain ⟨r,h2,h3⟩:=ev_szClassS_l0 hl hg l.length 0 (a - (l.length:Int)) (by omega) (by omega) (by omega) (by omega)
   refine ⟨r,Ev.neg hb h2,?_⟩
   rcases h3 with h3 | ⟨h3,h4,h5⟩
   ·exact .inl h3
   ·refine .inr ⟨h3,by omega,by simp only [tT,List.length_map];omega,fun i hi=>?_⟩
    simp only [tT,List.length_map] at hi
    have e:cn (tT l) i=l[i].f0:=by simp [cn,tT,tC,List.getD_eq_getElem?_getD,hi]
    rw [e];exact h5 i (by omega) hi
 obtain ⟨r,h2,h3⟩:=hS
 unfold jDa.f
 by_cases hr:r<0
 ·exact ⟨-1,Ev.bind h2 (Ev.pos hr (Ev.now _)), .inl (by omega)⟩
 ·exact ⟨r,Ev.bind h2 (Ev.neg hr (Ev.now _)),h3⟩
theorem ev_toTree {l : List LC} (hl : l.length ≤ 1048576) : Ev (fun k => jN.f k l) (tT l) := by
 have go:∀ (n i:Nat),l.length≤n+i→i≤l.length→Ev (fun k=>jQ.l0 k l ((l.take i).map tC ++ List.replicate (l.length - i) z59) i) (tT l):=by
  intro n
  induction n with
  | zero =>
   intro i h h2
   refine Ev.step (fun k=>by rw [jQ.l0]) ?_
   rw [fill_end tC z59 l i (by omega)]
   exact Ev.neg (by omega) (Ev.now _)
  | succ n ih =>
   intro i h h2
   by_cases hi:i<l.length
   ·have e:jLa l (i:Int)=l[i]:=by simp [jLa,List.getD_eq_getElem?_getD,hi]
    refine Ev.step (fun k=>by rw [jQ.l0]) ?_
    simp only [jXa.f,Option.bind_some]
    rw [e,fill_len tC z59 l i (by omega),wS (by omega),show ((i:Int)).toNat=i from rfl]
    refine Ev.pos (by omega) (Ev.pos (by omega) (Ev.pos (by omega) ?_))
    have:=ih (i+1) (by omega) (by omega)
    rw [← fill_set tC z59 l i hi] at this
    exact this
   ·refine Ev.step (fun k=>by rw [jQ.l0]) ?_
    rw [fill_end tC z59 l i (by omega)]
    exact Ev.neg (by omega) (Ev.now _)
 have h2:Ev (fun k=>jQ.f k l) (tT l):=by
  unfold jQ.f
  refine Ev.pos (by omega) (Ev.pos (by omega) ?_)
  exact go l.length 0 (by omega) (by omega)
 unfold jN.f
 exact Ev.bind h2 (Ev.now _)
theorem ev_eqTree {l : List Cl} (hl : l.length ≤ 1048576) : Ev (fun k => jra.f k l l) true := by
 have go:∀ (n i:Nat),l.length≤n+i→Ev (fun k=>jJ.l0 k l l i) true:=by
  intro n
  induction n with
  | zero =>
   intro i h
   refine Ev.step (fun k=>by rw [jJ.l0]) ?_
   exact Ev.neg (by omega) (Ev.now _)
  | succ n ih =>
   intro i h
   refine Ev.step (fun k=>by rw [jJ.l0]) ?_
   by_cases hi:i<l.length
   ·simp only [jNa.f,if_true,Option.bind_some]
    rw [wS (by omega)]
    exact Ev.pos (by omega) (Ev.pos (by omega) (Ev.pos (by omega) (ih (i+1) (by omega))))
   ·exact Ev.neg (by omega) (Ev.now _)
 unfold jra.f
 refine Ev.bind (a:=true) ?_ (Ev.pos rfl (Ev.now _))
 unfold jJ.f
 exact Ev.pos rfl (go l.length 0 (by omega))
end Go.Proofs.YtpfaohdpnegjnaaDoor.Pure
end
