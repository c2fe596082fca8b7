/- One part of the proofs on this program: functions of the program as plain functions, that the code comes to them, and facts on them. -/
import Derived.Test.YtkedkinojeoeaaaYAll7
import Derived.Test.YtkedkinojeoeaaaYMh0
section
set_option linter.unusedSimpArgs false
set_option linter.unusedVariables false
namespace Go.Proofs.Ytkedkinojeoeaaa.Pure
open Go Go.RowKit Go.Proofs.Ytkedkinojeoeaaa.P Go.Proofs.YtkedkinojeoeaaaW.PrintWords
set_option linter.unusedVariables false
noncomputable def rEnc (t : List Cl) (p : List Ln) (a : Int) : List Int := @ite _ (At t p a) (Classical.propDecidable _) (ci (enc p a.toNat)) []
theorem ev_iEnclosingOf {p : List Ln} {t : List Cl} (hp : p.length ≤ 1048576) (ht : TS t) (a : Int) : Ev (fun k => jBb.f k t p a) (rEnc t p a) := by
 obtain ⟨b,h1,h2,h3⟩:=ev_goods hp ht a
 unfold jBb.f rEnc
 cases b with
 | false =>
  rw [if_neg (fun h=>by cases h3.mpr h)]
  exact Ev.bind h2 (Ev.neg (by simp) (Ev.now _))
 | true =>
  have hA:=h3.mp rfl
  obtain ⟨n,rfl,hn⟩:=hA.nat
  rw [if_pos hA]
  exact Ev.bind h2 (Ev.pos rfl (Ev.bind (ev_iEnc hp hA.1.dr hn) (Ev.now _)))
end Go.Proofs.Ytkedkinojeoeaaa.Pure
end
