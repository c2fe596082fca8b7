/- One part of the proofs on this program: functions of the program as plain functions, that the code comes to them, and facts on them. -/
import Derived.Test.YteibechlncphnaaDoorYAll1
import Derived.Test.YteibechlncphnaaDoorYAll7
import Derived.Test.YteibechlncphnaaDoorYMt
section
set_option linter.unusedSimpArgs false
set_option linter.unusedVariables false
namespace Go.Proofs.YteibechlncphnaaDoor.Pure
open Go Go.RowKit Go.Proofs.YteibechlncphnaaDoor.P Go.Proofs.YteibechlncphnaaDoorW.PrintWords
set_option linter.unusedVariables false
theorem ev_hasInt (L : List Nat) (hl : L.length ≤ 1048576) (b : Int) : Ev (fun k => jFa.f k (ci L) b) (hasN b L) := by
 have:∀ (r:List Nat) (j:Nat),L.drop j=r→Ev (fun k=>jFa.l0 k (ci L) b j) (hasN b r):=by
  intro r
  induction r with
  | nil =>
   intro j h
   have:=ci_end h
   refine Ev.step (fun k=>by rw [jFa.l0]) ?_
   rw [jSb,hasN]
   exact Ev.neg (by omega) (Ev.now _)
  | cons a r ih =>
   intro j h
   obtain ⟨h1,h2,h3⟩:=ci_drop h
   refine Ev.step (fun k=>by rw [jFa.l0]) ?_
   rw [h2,wS (by omega),jSb,hasN]
   refine Ev.pos (by omega) (Ev.pos (by omega) ?_)
   by_cases hs:(a:Int)=b
   ·rw [if_pos hs];exact Ev.pos hs (Ev.now _)
   ·rw [if_neg hs];exact Ev.neg hs (ih (j+1) h3)
 exact this L 0 rfl
theorem ev_Index (L : List Nat) (hl : L.length ≤ 1048576) (b : Int) : ∃ r, Ev (fun k => jY.f k (ci L) b) r ∧ decide (r ≥ 0) = hasN b L := by
 have:∀ (r:List Nat) (j:Nat),L.drop j=r→∃ z,Ev (fun k=>jY.l0 k (ci L) b (L.length:Int) j) z∧decide (z≥0)=hasN b r:=by
  intro r
  induction r with
  | nil =>
   intro j h
   have:=ci_end h
   refine ⟨-1,?_,rfl⟩
   refine Ev.step (fun k=>by rw [jY.l0]) ?_
   exact Ev.neg (by omega) (Ev.now _)
  | cons a r ih =>
   intro j h
   obtain ⟨h1,h2,h3⟩:=ci_drop h
   by_cases hs:(a:Int)=b
   ·refine ⟨(j:Int),?_,by rw [hasN,if_pos hs];simp⟩
    refine Ev.step (fun k=>by rw [jY.l0]) ?_
    rw [h2,jSb]
    exact Ev.pos (by omega) (Ev.pos (by omega) (Ev.pos (by omega) (Ev.pos hs.symm (Ev.now _))))
   ·obtain ⟨z,z1,z2⟩:=ih (j+1) h3
    refine ⟨z,?_,by rw [hasN,if_neg hs];exact z2⟩
    refine Ev.step (fun k=>by rw [jY.l0]) ?_
    rw [h2,jSb,wS (by omega)]
    exact Ev.pos (by omega) (Ev.pos (by omega) (Ev.pos (by omega) (Ev.neg (fun h=>hs h.symm) z1)))
 unfold jY.f
 rw [jSb]
 exact this L 0 rfl
theorem ev_Contains (L : List Nat) (hl : L.length ≤ 1048576) (b : Int) : Ev (fun k => joa.f k (ci L) b) (hasN b L) := by
 obtain ⟨r,h1,h2⟩:=ev_Index L hl b
 unfold joa.f
 rw [← h2]
 exact Ev.bind h1 (Ev.now _)
end Go.Proofs.YteibechlncphnaaDoor.Pure
end
