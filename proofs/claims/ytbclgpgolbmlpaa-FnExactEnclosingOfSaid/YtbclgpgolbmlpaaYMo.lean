/- One part of the proofs on this program: functions of the program as plain functions, that the code comes to them, and facts on them. -/
import Derived.Test.YtbclgpgolbmlpaaYC1
import Derived.Test.YtbclgpgolbmlpaaYMh
section
namespace Go.Proofs.Ytbclgpgolbmlpaa.Pure
open Go Go.RowKit Go.Proofs.Ytbclgpgolbmlpaa.P Go.Proofs.YtbclgpgolbmlpaaW.PrintWords
set_option linter.unusedVariables false
theorem enc_len (p : List Ln) (a : Nat) : (enc p a).length ≤ a := encN_len p a _
noncomputable def rEnc (t : List Cl) (p : List Ln) (a : Int) : List Int := @ite _ (At t p a) (Classical.propDecidable _) (ci (enc p a.toNat)) []
theorem ev_EnclosingOf' {p : List Ln} {t : List Cl} (hp : p.length ≤ 1048576) (ht : TS t) (a : Int) : Ev (fun k => spec_EnclosingOf.f k t p a) (rEnc t p a) ∧ Ev (fun k => impl_EnclosingOf.f k t p a) (rEnc t p a) ∧ (rEnc t p a).length ≤ 1048576 := by
  obtain ⟨b, h1, h2, h3⟩ := ev_goods hp ht a
  unfold spec_EnclosingOf.f impl_EnclosingOf.f rEnc
  cases b with
  | false =>
    rw [if_neg (fun h => by cases h3.mpr h)]
    exact ⟨Ev.bind h1 (Ev.neg (by simp) (Ev.now _)), Ev.bind h2 (Ev.neg (by simp) (Ev.now _)), by simp⟩
  | true =>
    have hA := h3.mp rfl
    obtain ⟨n, rfl, hn⟩ := hA.nat
    rw [if_pos hA]
    exact ⟨Ev.bind h1 (Ev.pos rfl (Ev.bind (ev_sEnc hp hn) (Ev.now _))), Ev.bind h2 (Ev.pos rfl (Ev.bind (ev_iEnc hp hA.1.dr hn) (Ev.now _))), by rw [ci_len]; have := enc_len p n; simp only [Int.toNat_natCast]; omega⟩
theorem ev_EnclosingOf {p : List Ln} {t : List Cl} (hp : p.length ≤ 1048576) (ht : TS t) (a : Int) : ∃ r, Ev (fun k => spec_EnclosingOf.f k t p a) r ∧ Ev (fun k => impl_EnclosingOf.f k t p a) r ∧ r.length ≤ 1048576 := ⟨_, ev_EnclosingOf' hp ht a⟩
end Go.Proofs.Ytbclgpgolbmlpaa.Pure
end
