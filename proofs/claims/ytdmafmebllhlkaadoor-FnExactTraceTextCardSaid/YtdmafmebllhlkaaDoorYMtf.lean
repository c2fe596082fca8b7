/- One part of the proofs on this program: functions of the program as plain functions, that the code comes to them, and facts on them. -/
import Derived.Test.YtdmafmebllhlkaaDoorYAll1
import Derived.Test.YtdmafmebllhlkaaDoorYAll2
import Derived.Test.YtdmafmebllhlkaaDoorYMtr
import Derived.Test.YtdmafmebllhlkaaDoorYOpen
section
set_option linter.unusedSimpArgs false
set_option linter.unusedVariables false
namespace Go.Proofs.YtdmafmebllhlkaaDoor.Pure
open Go Go.RowKit Go.Proofs.YtdmafmebllhlkaaDoor.P Go.Proofs.YtdmafmebllhlkaaDoorW.PrintWords
set_option linter.unusedVariables false
abbrev LF := S37
def tF (x : LF) : Fm := ⟨x.f0, x.f1⟩
def tFs (l : List LF) : List Fm := l.map tF
theorem ev_szFrameS_l0 {l : List LF} (hl : l.length ≤ 9223372036854775807) (hg : ∀ y ∈ l, good37 y) : ∀ (n i : Nat) (a : Int), l.length ≤ n + i → 0 ≤ a → a ≤ 1048576 → l.length ≤ 1048576 →
  ∃ r,Ev (fun k=>jr.l0 k l a i) r∧(r<0∨(0≤r∧r≤a∧∀ j,i≤j→(h:j<l.length)→l[j].f0.size≤1048576))
 | 0,i,a,h,h0,h1,h2=>by
  refine ⟨a,?_, .inr ⟨h0,by omega,fun j _ hj=>by omega⟩⟩
  refine Ev.step (fun k=>by rw [jr.l0]) ?_
  exact Ev.neg (by omega) (Ev.now _)
 | n+1,i,a,h,h0,h1,h2=>by
  by_cases hi:i<l.length
  ·have e:jla l (i:Int)=l[i]:=by simp [jla,List.getD_eq_getElem?_getD,hi]
   have hs:l[i].f0.size≤maxLen:=(hg _ (List.getElem_mem hi)).1
   unfold maxLen at hs
   by_cases hb:a - (l[i].f0.size:Int)<0
   ·refine ⟨-1,?_, .inl (by omega)⟩
    refine Ev.step (fun k=>by rw [jr.l0]) ?_
    rw [e]
    simp only [jia.f]
    rw [wr (x:=a - (l[i].f0.size:Int)) (by omega)]
    simp only [hb,if_true,Option.bind_some]
    exact Ev.pos (by omega) (Ev.pos (by omega) (Ev.pos (by omega) (Ev.now _)))
   ·obtain ⟨r,hr1,hr2⟩:=ev_szFrameS_l0 hl hg n (i+1) (a - (l[i].f0.size:Int)) (by omega) (by omega) (by omega) h2
    refine ⟨r,?_,?_⟩
    ·refine Ev.step (fun k=>by rw [jr.l0]) ?_
     rw [e]
     simp only [jia.f]
     rw [wr (x:=a - (l[i].f0.size:Int)) (by omega),wS (by omega)]
     simp only [hb,if_false,Option.bind_some]
     exact Ev.pos (by omega) (Ev.pos (by omega) hr1)
    ·rcases hr2 with h3 | ⟨h3,h4,h5⟩
     ·exact .inl h3
     ·refine .inr ⟨h3,by omega,fun j hj1 hj2=>?_⟩
      by_cases hj:j=i
      ·subst hj;omega
      ·exact h5 j (by omega) hj2
  ·refine ⟨a,?_, .inr ⟨h0,by omega,fun j _ hj=>by omega⟩⟩
   refine Ev.step (fun k=>by rw [jr.l0]) ?_
   exact Ev.neg (by omega) (Ev.now _)
theorem ev_szFrS {l : List LF} (hl : l.length ≤ 9223372036854775807) (hg : ∀ y ∈ l, good37 y) {a : Int} (h0 : 0 ≤ a) (h1 : a ≤ 1048576) :
  ∃ r,Ev (fun k=>jr.f k l a) r∧(r<0∨(0≤r∧r≤a∧FS (tFs l))):=by
 unfold jr.f
 rw [wr (x:=a - (l.length:Int)) (by omega)]
 by_cases hb:a - (l.length:Int)<0
 ·exact ⟨-1,Ev.pos hb (Ev.now _), .inl (by omega)⟩
 ·obtain ⟨r,h2,h3⟩:=ev_szFrameS_l0 hl hg l.length 0 (a - (l.length:Int)) (by omega) (by omega) (by omega) (by omega)
  refine ⟨r,Ev.neg hb h2,?_⟩
  rcases h3 with h3 | ⟨h3,h4,h5⟩
  ·exact .inl h3
  ·refine .inr ⟨h3,by omega,by simp only [tFs,List.length_map];omega,fun c hc=>?_⟩
   unfold tFs at hc
   obtain ⟨x,hx,rfl⟩:=List.mem_map.1 hc
   obtain ⟨i,hi,rfl⟩:=List.getElem_of_mem hx
   exact h5 i (by omega) hi
theorem ev_toFrameS {l : List LF} (hl : l.length ≤ 1048576) : Ev (fun k => jg.f k l) (tFs l) := by
 have go:∀ (n i:Nat),l.length≤n+i→i≤l.length→Ev (fun k=>jg.l0 k l ((l.take i).map tF ++ List.replicate (l.length - i) z38) i) (tFs l):=by
  intro n
  induction n with
  | zero =>
   intro i h h2
   refine Ev.step (fun k=>by rw [jg.l0]) ?_
   rw [fill_end tF z38 l i (by omega)]
   exact Ev.neg (by omega) (Ev.now _)
  | succ n ih =>
   intro i h h2
   by_cases hi:i<l.length
   ·have e:jla l (i:Int)=l[i]:=by simp [jla,List.getD_eq_getElem?_getD,hi]
    refine Ev.step (fun k=>by rw [jg.l0]) ?_
    simp only [jxa.f,Option.bind_some]
    rw [e,fill_len tF z38 l i (by omega),wS (by omega),show ((i:Int)).toNat=i from rfl]
    refine Ev.pos (by omega) (Ev.pos (by omega) (Ev.pos (by omega) ?_))
    have:=ih (i+1) (by omega) (by omega)
    rw [← fill_set tF z38 l i hi] at this
    exact this
   ·refine Ev.step (fun k=>by rw [jg.l0]) ?_
    rw [fill_end tF z38 l i (by omega)]
    exact Ev.neg (by omega) (Ev.now _)
 unfold jg.f
 refine Ev.pos (by omega) (Ev.pos (by omega) ?_)
 exact go l.length 0 (by omega) (by omega)
theorem ev_eqFrameS {l : List Fm} (hl : l.length ≤ 1048576) : Ev (fun k => jh.f k l l) true := by
 have go:∀ (n i:Nat),l.length≤n+i→Ev (fun k=>jh.l0 k l l i) true:=by
  intro n
  induction n with
  | zero =>
   intro i h
   refine Ev.step (fun k=>by rw [jh.l0]) ?_
   exact Ev.neg (by omega) (Ev.now _)
  | succ n ih =>
   intro i h
   refine Ev.step (fun k=>by rw [jh.l0]) ?_
   by_cases hi:i<l.length
   ·simp only [jpa.f,if_true,Option.bind_some]
    rw [wS (by omega)]
    exact Ev.pos (by omega) (Ev.pos (by omega) (Ev.pos (by omega) (ih (i+1) (by omega))))
   ·exact Ev.neg (by omega) (Ev.now _)
 unfold jh.f
 exact Ev.pos rfl (go l.length 0 (by omega))
end Go.Proofs.YtdmafmebllhlkaaDoor.Pure
end
