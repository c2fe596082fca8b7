/- One part of the proofs on this program: functions of the program as plain functions, that the code comes to them, and facts on them. -/
import Derived.Test.YtkedkinojeoeaaaYA1
import Derived.Test.YtkedkinojeoeaaaYMi
section
set_option linter.unusedSimpArgs false
set_option linter.unusedVariables false
namespace Go.Proofs.Ytkedkinojeoeaaa.Pure
open Go Go.RowKit Go.Proofs.Ytkedkinojeoeaaa.P Go.Proofs.YtkedkinojeoeaaaW.PrintWords
set_option linter.unusedVariables false
theorem IsTry.lt {p : List Ln} {i T : Nat} (h : IsTry p i T) (hi : i < p.length) : T < p.length := by have := h.le; omega
noncomputable def rTry (t : List Cl) (p : List Ln) (a : Int) : List Int := @ite _ (At t p a ∧ inTry p a.toNat) (Classical.propDecidable _) (ci (chain p (thd p a.toNat))) []
theorem ev_iTryOfW {p : List Ln} {t : List Cl} (hp : p.length ≤ 1048576) (ht : TS t) (a : Int) : Ev (fun k => jDc.f k t p a) (rTry t p a) := by
 obtain ⟨b,h1,h2,h3⟩:=ev_goods hp ht a
 unfold jDc.f rTry
 cases b with
 | false =>
  rw [if_neg (fun h=>by cases h3.mpr h.1)]
  exact Ev.bind h2 (Ev.neg (by simp) (Ev.now _))
 | true =>
  have hA:=h3.mp rfl
  obtain ⟨n,rfl,hn⟩:=hA.nat
  simp only [Int.toNat_natCast,r1,iW,Option.bind_some]
  refine Ev.bind h2 (Ev.pos rfl (Ev.pos (by omega) (Ev.pos (by omega) ?_)))
  by_cases hk:inTry p n
  ·rw [if_pos ⟨hA,hk⟩]
   have e:bw (kd p n) 7 10=true:=by rw [bw_iff];rw [inTry,jjd] at hk;omega
   exact Ev.pos e (Ev.bind (ev_iTryOf hp hA.1 hn hk) (Ev.now _))
  ·rw [if_neg (fun h=>hk h.2)]
   have e:¬ bw (kd p n) 7 10=true:=by rw [bw_iff];rw [inTry,jjd] at hk;omega
   exact Ev.neg e (Ev.now _)
end Go.Proofs.Ytkedkinojeoeaaa.Pure
end
