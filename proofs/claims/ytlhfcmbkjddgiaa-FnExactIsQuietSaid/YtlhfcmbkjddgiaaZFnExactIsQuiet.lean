/- The program's IsQuiet returns what the reference's returns, for all trees and exits, and leaves its arguments as they were. The statement itself: the row, joined with what is computed. -/
import Derived.Below
import Derived.ChangeOld
import Derived.ChangeSame
import Derived.OpenShut
import Derived.ProofKit
import Derived.ShutString
import Derived.SizedLaws
import Derived.WalkKit
import Derived.Test.YtlhfcmbkjddgiaaRows
import Derived.Test.YtlhfcmbkjddgiaaYA1
import Derived.Test.YtlhfcmbkjddgiaaYOpen
import Derived.Test.YtlhfcmbkjddgiaaYPureFnExactIsQuiet
section
namespace Go.Proofs.Ytlhfcmbkjddgiaa.fnExactIsQuiet
open Go.ChangeShapes Go.WideShapes Go.ChangeAt Go.RowKit Go.Proofs.Ytlhfcmbkjddgiaa.P Go.Proofs.YtlhfcmbkjddgiaaW.PrintWords
open Go.ChangeMaps (open_string shut_string)
set_option linter.unusedVariables false
theorem own : ownKnob Try.prog.godebug = none := by kernel_rfl
theorem laidOut : laidOutB Try.prog = true := by kernel_rfl
set_option maxRecDepth 100000 in
theorem lifted (os : Os) (started : os.Started) (H : Type) (enc : TypeId × Value → H) :
    ReturnsInHanded {} Try.checked os 3 .any (Rows.fnExactIsQuietSpec.pre6 enc Try.prog Try.f3 Rows.fnExactIsQuietRow.domain false) (Rows.fnExactIsQuietSpec.post enc Try.prog Try.f3 false true false false) := by
  refine returnsInHanded_of_change_sized (C := Try.checked) own started (by kernel_rfl) Try.func3
    (ChangeSpec.witness6 (enc := enc) (C := Try.checked) false ⟨#[], #[.agg #[.slice none 0 0], .slice none 0 0], []⟩ 8 (by kernel_rfl) (by kernel_rfl) (by kernel_rfl) (by kernel_rfl)) ?_
  intro W base args ds gs before hval0 hW hcnd hsz0 _
  have hval : ∀ (j : Nat) t v, Try.f3.params[j]? = some t → args[j]? = some v → Value.okWide Try.prog W .any base t v := hval0
  have hW' := hW
  obtain ⟨p, q, hA0, hV, rfl, hfz, hnd⟩ := hW
  have hA : DataW.TrodAll enc Try.prog W 0 (fun _ => true) true Try.f3.params.toList args.toList ds p := hA0
  rw [Try.params3] at hA hval
  obtain ⟨v0, vs0, d0, ds0, p0, q0, hargs, rfl, rfl, h0, r0⟩ := trodAll_cons hA
  obtain ⟨v1, vs1, d1, ds1, p1, q1, rfl, rfl, rfl, h1, r1⟩ := trodAll_cons r0
  obtain ⟨rfl, rfl, rfl⟩ := trodAll_nil r1
  obtain rfl : args = #[v0, v1] := by cases args; simp_all
  obtain ⟨rfl, rfl⟩ := trodVars_none hV
  obtain ⟨cs0, rfl, hcs0⟩ := okWide_struct Try.underlying24 (hval 0 24 v0 rfl rfl)
  have k0 := h0
  have lt0 : ∀ x ∈ p0, x.block < W.heap.size := by obtain ⟨m, hm⟩ := k0; exact DataW.trod_lt m _ _ _ hm
  obtain ⟨fu0, hf0⟩ := h0
  obtain ⟨y0, n0, _, _, hf0⟩ := trod_struct1 Try.underlying24 hf0
  obtain ⟨A0_0, l0_0, c0_0, he0_0, hc0_0, hr0_0, hg0_0⟩ := trod_row_open (k98) good98 Try.underlying22 (by kernel_rfl) open98 hf0
  have hs0 : cs0.size = 1 := hcs0.trans (by kernel_rfl)
  obtain rfl : cs0 = #[.slice A0_0 l0_0.length c0_0] := Go.Proofs.YtlhfcmbkjddgiaaW.PrintWords.one_cell hs0 (by kernel_rfl) he0_0
  clear hf0 he0_0 hs0 hcs0
  obtain ⟨a1, len1, cap1, rfl⟩ := okWide_slice Try.underlying25 (hval 1 25 v1 rfl rfl)
  have k1 := h1
  have lt1 : ∀ x ∈ p1, x.block < W.heap.size := by obtain ⟨m, hm⟩ := k1; exact DataW.trod_lt m _ _ _ hm
  obtain ⟨fu1, hf1⟩ := h1
  obtain ⟨A1, l1, c1, he1, hc1, hr1, hg1⟩ := trod_row_open (k70) good70 Try.underlying25 (by kernel_rfl) open70 hf1
  injection he1 with he1 _
  injection he1 with e1 e2 e3
  subst e1 e2 e3
  clear hf1
  clear hA0 hval0 hsz0
  obtain ⟨k, h⟩ := Pure.FnExactIsQuiet l0_0 l1 (Kd.C_max hr0_0) hg0_0 (Kd.C_max hr1) hg1
  refine (jmb.calls k _ _ l0_0 _ _ l1 true W hr0_0 hc0_0 hr1 hc1 rfl h).mono ?_
  rintro e W' ⟨he, bel⟩
  subst he
  exact ⟨_, rfl, _, _, _, [], _, [], hW', trodAll_mk1 (shut_bool Try.underlying4 _), (trodAll_cons_mk (Below.trod laidOut (by kernel_rfl) (of_decide_eq_true (by kernel_rfl)) k0 bel lt0) (trodAll_cons_mk (Below.trod laidOut (by kernel_rfl) (of_decide_eq_true (by kernel_rfl)) k1 bel lt1) trodAll_mk0)), rfl, bel.frame _, fun h => by cases h⟩
theorem over : Rows.fnExactIsQuietRow.holds Try.pinned (OpenSpec.ofChange Rows.fnExactIsQuietSpec) :=
  OpenClaim.holds_of_wide 3 Try.f3 rfl rfl rfl rfl rfl rfl rfl ⟨rfl, rfl, rfl, rfl, rfl⟩ rfl rfl rfl rfl rfl (by kernel_rfl) Try.func3 (by kernel_rfl)
    (of_decide_eq_true (by kernel_rfl)) (by unfold Func.isWrapper; first | (rw [if_pos (by decide +kernel)]; kernel_rfl) | (rw [if_neg (by decide +kernel)]; exact ⟨rfl, rfl⟩))
    (fun os started H enc _ => lifted os started H enc)
theorem proved : Rows.FnExactIsQuietSaid := over
end Go.Proofs.Ytlhfcmbkjddgiaa.fnExactIsQuiet
namespace Go.Proofs.Ytlhfcmbkjddgiaa
theorem fnExactIsQuiet_holds : Rows.FnExactIsQuietSaid := fnExactIsQuiet.proved
end Go.Proofs.Ytlhfcmbkjddgiaa
end
