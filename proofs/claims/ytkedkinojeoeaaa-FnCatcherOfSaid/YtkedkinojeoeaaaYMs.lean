/- One part of the proofs on this program: functions of the program as plain functions, that the code comes to them, and facts on them. -/
import Derived.Test.YtkedkinojeoeaaaYAll8
import Derived.Test.YtkedkinojeoeaaaYAll9
import Derived.Test.YtkedkinojeoeaaaYMcl
section
set_option linter.unusedSimpArgs false
set_option linter.unusedVariables false
namespace Go.Proofs.Ytkedkinojeoeaaa.Pure
open Go Go.RowKit Go.Proofs.Ytkedkinojeoeaaa.P Go.Proofs.YtkedkinojeoeaaaW.PrintWords
set_option linter.unusedVariables false
theorem ev_sCatL {t : List Cl} {p : List Ln} (hp : p.length ≤ 1048576) (ht : t.length ≤ 1048576) (hv : jNc t p) {c : Int} (h1 : c < t.length) (h2 : -1 ≤ c) (L : List Nat) (hL : ∀ j ∈ L, j < p.length) (hl : L.length ≤ 1048576) : ∀ (r : List Nat) (j : Nat), L.drop j = r → Ev (fun k => jS.l0 k p c (ci L) j t) (cp2 (catL t p c r)).2
 | [],j,h=>by
  have:=ci_end h
  refine Ev.step (fun k=>by rw [jS.l0]) ?_
  rw [jKb]
  exact Ev.neg (by omega) (Ev.now _)
 | a :: r,j,h=>by
  obtain ⟨x1,x2,x3⟩:=jRc h
  have ha:=hL a (List.mem_of_mem_drop (by rw [h];simp))
  refine Ev.step (fun k=>by rw [jS.l0]) ?_
  rw [x2,wS (by omega),jKb,catL]
  refine Ev.pos (by omega) (Ev.pos (by omega) (Ev.bind (ev_sCatcher hp ht hv h1 h2 ha) ?_))
  cases catB t p c a with
  | none=>exact Ev.neg (by simp [oi]) (ev_sCatL hp ht hv h1 h2 L hL hl r (j+1) x3)
  | some e=>exact Ev.pos (by simp [oi]) (Ev.now _)
noncomputable def rCat (t : List Cl) (p : List Ln) (a c : Int) : Int := @ite _ (At t p a ∧ hasB t c = true) (Classical.propDecidable _) (cp2 (catL t p c (enc p a.toNat))).2 (-1)
theorem ev_CatcherOf' {p : List Ln} {t : List Cl} (hp : p.length ≤ 1048576) (ht : TS t) (a c : Int) : Ev (fun k => jS.f k t p a c) (rCat t p a c) ∧ Ev (fun k => jYa.f k t p a c) (rCat t p a c) := by
 obtain ⟨b,h1,h2,h3⟩:=ev_goods hp ht a
 have hg:=ev_goodRaise ht h1 c
 unfold jS.f jYa.f rCat
 cases b with
 | false =>
  rw [if_neg (fun h=>by cases h3.mpr h.1)]
  exact ⟨Ev.bind hg (Ev.neg (by simp) (Ev.now _)),Ev.bind h2 (Ev.neg (by simp) (Ev.now _))⟩
 | true =>
  have hA:=h3.mp rfl
  simp only [iHas ht.1,Option.bind_some]
  cases hc:hasB t c with
  | false =>
   rw [hc] at hg
   rw [if_neg (fun h=>by cases h.2)]
   exact ⟨Ev.bind hg (Ev.neg (by simp) (Ev.now _)),Ev.bind h2 (Ev.pos rfl (Ev.neg (by simp) (Ev.now _)))⟩
  | true =>
   rw [hc] at hg
   have hb:=hasB_iff.mp hc
   obtain ⟨n,rfl,hn⟩:=hA.nat
   rw [if_pos ⟨hA,rfl⟩,Int.toNat_natCast]
   have hle:=encN_len p n (dp p n)
   exact ⟨Ev.bind hg (Ev.pos rfl (Ev.bind (ev_sEnc hp hn) (ev_sCatL hp ht.1 hA.1 hb.2 (by omega) (enc p n) (enc_lt hn) (by unfold enc;omega) _ 0 rfl))),Ev.bind h2 (Ev.pos rfl (Ev.pos rfl (Ev.bind (ev_iCatcher hp ht.1 hA.1 hb.2 (by omega) hn) (Ev.now _))))⟩
end Go.Proofs.Ytkedkinojeoeaaa.Pure
end
