/- One part of the proofs on this program: functions of the program as plain functions, that the code comes to them, and facts on them. -/
import Derived.Test.YtkokajljeebgdaaYAll7
import Derived.Test.YtkokajljeebgdaaYAll8
import Derived.Test.YtkokajljeebgdaaYMq
section
set_option linter.unusedSimpArgs false
set_option linter.unusedVariables false
namespace Go.Proofs.Ytkokajljeebgdaa.Pure
open Go Go.RowKit Go.Proofs.Ytkokajljeebgdaa.P Go.Proofs.YtkokajljeebgdaaW.PrintWords
set_option linter.unusedVariables false
theorem enc_good {p : List Ln} (hr : DR p) {n : Nat} (hn : n < p.length) : ∀ j ∈ enc p n, j < p.length ∧ isO (kd p j) = true := fun j hj => ⟨enc_lt hn j hj, (enc_open hr hn j hj).1⟩
noncomputable def rWay (t : List Cl) (p : List Ln) (a : Int) : List Int := @ite _ (At t p a) (Classical.propDecidable _) (ci (wayL p (enc p a.toNat))) []
theorem ev_WayOut' {p : List Ln} {t : List Cl} (hp : p.length ≤ 1048576) (ht : TS t) (a : Int) : Ev (fun k => jGa.f k t p a) (rWay t p a) ∧ Ev (fun k => jHb.f k t p a) (rWay t p a) ∧ (rWay t p a).length ≤ 1048576 := by
 obtain ⟨b,h1,h2,h3⟩:=ev_goods hp ht a
 unfold jGa.f jHb.f rWay
 cases b with
 | false =>
  rw [if_neg (fun h=>by cases h3.mpr h)]
  exact ⟨Ev.bind h1 (Ev.neg (by simp) (Ev.now _)),Ev.bind h2 (Ev.neg (by simp) (Ev.now _)),by simp⟩
 | true =>
  have hA:=h3.mp rfl
  obtain ⟨n,rfl,hn⟩:=hA.nat
  have hle:=encN_len p n (dp p n)
  have hw:=wayL_len p (enc p n)
  rw [if_pos hA]
  refine ⟨Ev.bind h1 (Ev.pos rfl (Ev.bind (ev_sEnc hp hn) (Ev.bind (ev_wayOut hp hA.1 (enc p n) (enc_good hA.1.dr hn) (by unfold enc;omega)) (Ev.now _)))),Ev.bind h2 (Ev.pos rfl ?_),by rw [jKb];simp only [Int.toNat_natCast,enc] at *;omega⟩
  have:=ev_way hp hA.1 hn (-1)
  rw [upTo_neg] at this
  exact Ev.bind this (Ev.now _)
end Go.Proofs.Ytkokajljeebgdaa.Pure
end
