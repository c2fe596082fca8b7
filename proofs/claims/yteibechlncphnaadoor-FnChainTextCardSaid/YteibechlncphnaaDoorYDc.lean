/- One part of the proofs on this program: functions of the program as plain functions, that the code comes to them, and facts on them. -/
import Derived.Test.YteibechlncphnaaDoorYAll3
import Derived.Test.YteibechlncphnaaDoorYDt
section
set_option linter.unusedSimpArgs false
set_option linter.unusedVariables false
namespace Go.Proofs.YteibechlncphnaaDoor.Pure
open Go Go.RowKit Go.Proofs.YteibechlncphnaaDoor.P Go.Proofs.YteibechlncphnaaDoorW.PrintWords
set_option linter.unusedVariables false
theorem ev_aClass {s : List Int} (hs : Rd s) {p : Int} (h0 : 0 ≤ p) (h1 : p ≤ 536870912) {t : List Cl} (ht : t.length ≤ 8) : ∃ c, Ev (fun k => job.f k s p t) (c, p + 2) := by
 obtain ⟨u,e2,u0,u1,_⟩:=jPb hs (p:=p) (by omega) (by omega) 16 (by omega)
 unfold job.f
 by_cases c:u=0
 ·obtain ⟨w,e3,_⟩:=ev_one hs (p:=p+1) (by omega) (by omega) [(-1),(t.length:Int),8] (by simp) (by simp)
  refine ⟨w,?_⟩
  rw [show p+2=p+1+1 from by omega]
  exact Ev.bind e2 (Ev.pos c (Ev.bind e3 (Ev.now _)))
 ·obtain ⟨w,e3,_⟩:=jPb hs (p:=p+1) (by omega) (by omega) (t.length:Int) (by omega)
  refine ⟨w,?_⟩
  rw [show p+2=p+1+1 from by omega]
  exact Ev.bind e2 (Ev.neg c (Ev.bind e3 (Ev.now _)))
end Go.Proofs.YteibechlncphnaaDoor.Pure
end
