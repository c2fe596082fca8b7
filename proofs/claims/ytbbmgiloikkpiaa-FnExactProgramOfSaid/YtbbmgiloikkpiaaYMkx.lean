/- One part of the proofs on this program: functions of the program as plain functions, that the code comes to them, and facts on them. -/
import Derived.Test.YtbbmgiloikkpiaaYAll6
import Derived.Test.YtbbmgiloikkpiaaYMfx
import Derived.Test.YtbbmgiloikkpiaaYMkt
section
set_option linter.unusedSimpArgs false
set_option linter.unusedVariables false
namespace Go.Proofs.Ytbbmgiloikkpiaa.Pure
open Go Go.RowKit Go.Proofs.Ytbbmgiloikkpiaa.P Go.Proofs.YtbbmgiloikkpiaaW.PrintWords
set_option linter.unusedVariables false
theorem ev_markExitS {p : List Ex} (hp : p.length ≤ 1048576) {a : Int} (h0 : 0 ≤ a) (h1 : a ≤ 1073741824) : ∃ l, Ev (fun k => jW.f k p a) ((a + 3 * (p.length : Int)), l) := by
 have go:∀ (n i:Nat) (x:List Ex),x.length=p.length→p.length≤n+i→i≤p.length→∃ l,Ev (fun k=>jW.l0 k x (a+3 * (i:Int)) i) ((a+3 * (p.length:Int)),l):=by
  intro n
  induction n with
  | zero =>
   intro i x hx h hi
   refine ⟨x,?_⟩
   refine Ev.step (fun k=>by rw [jW.l0]) ?_
   rw [show i=p.length from by omega]
   exact Ev.neg (by omega) (Ev.now _)
  | succ n ih =>
   intro i x hx h hi
   by_cases hlt:i<p.length
   ·refine exStep (fun k=>by rw [jW.l0]) ?_
    refine exPos (by omega) (exPos (by omega) ?_)
    simp only [Option.bind_some]
    rw [wr (x:=a+3 * (i:Int)+1) (by omega),wr (x:=a+3 * (i:Int)+1+1) (by omega),wr (x:=a+3 * (i:Int)+1+1+1) (by omega),wS (by omega),show a+3 * (i:Int)+1+1+1=a+3 * ((i+1:Nat):Int) from by omega]
    exact ih (i+1) _ (by rw [List.length_set,List.length_set,List.length_set];exact hx) (by omega) (by omega)
   ·refine ⟨x,?_⟩
    refine Ev.step (fun k=>by rw [jW.l0]) ?_
    rw [show i=p.length from by omega]
    exact Ev.neg (by omega) (Ev.now _)
 obtain ⟨l,hl⟩:=go p.length 0 p rfl (by omega) (by omega)
 refine ⟨l,?_⟩
 unfold jW.f
 rw [show a+3 * ((0:Nat):Int)=a from by omega] at hl
 exact hl
end Go.Proofs.Ytbbmgiloikkpiaa.Pure
end
