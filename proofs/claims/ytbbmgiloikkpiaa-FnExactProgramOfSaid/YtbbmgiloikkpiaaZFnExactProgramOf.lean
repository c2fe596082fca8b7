/- The program's ProgramOf returns what the reference's returns, for all trees, exits and starts, and leaves its arguments as they were, and its result shares memory with nothing. The statement itself: the row, joined with what is computed. -/
import Derived.Below
import Derived.ChangeOld
import Derived.ChangeSame
import Derived.OpenShut
import Derived.ProofKit
import Derived.ShutString
import Derived.SizedLaws
import Derived.WalkKit
import Derived.Test.YtbbmgiloikkpiaaRows
import Derived.Test.YtbbmgiloikkpiaaYAll7
import Derived.Test.YtbbmgiloikkpiaaYOpen
import Derived.Test.YtbbmgiloikkpiaaYPureFnExactProgramOf
section
namespace Go.Proofs.Ytbbmgiloikkpiaa.fnExactProgramOf
open Go.ChangeShapes Go.WideShapes Go.ChangeAt Go.RowKit Go.Proofs.Ytbbmgiloikkpiaa.P Go.Proofs.YtbbmgiloikkpiaaW.PrintWords
open Go.ChangeMaps (open_string shut_string)
set_option linter.unusedVariables false
theorem own : ownKnob Try.prog.godebug = none := by kernel_rfl
theorem laidOut : laidOutB Try.prog = true := by kernel_rfl
set_option maxRecDepth 100000 in
theorem lifted (os : Os) (started : os.Started) (H : Type) (enc : TypeId × Value → H) :
    ReturnsInHanded {} Try.checked os 3 .any (Rows.fnExactProgramOfSpec.pre6 enc Try.prog Try.f3 Rows.fnExactProgramOfRow.domain false) (Rows.fnExactProgramOfSpec.post enc Try.prog Try.f3 false true false false) := by
  refine returnsInHanded_of_change_sized (C := Try.checked) own started (by kernel_rfl) Try.func3
    (ChangeSpec.witness6 (enc := enc) (C := Try.checked) false ⟨#[], #[.agg #[.slice none 0 0], .slice none 0 0, .agg #[.bool false, .int .i64 0, .int .i64 0]], []⟩ 8 (by kernel_rfl) (by kernel_rfl) (by kernel_rfl) (by kernel_rfl)) ?_
  intro W base args ds gs before hval0 hW hcnd hsz0 _
  have hval : ∀ (j : Nat) t v, Try.f3.params[j]? = some t → args[j]? = some v → Value.okWide Try.prog W .any base t v := hval0
  have hW' := hW
  obtain ⟨p, q, hA0, hV, rfl, hfz, hnd⟩ := hW
  have hA : DataW.TrodAll enc Try.prog W 0 (fun _ => true) true Try.f3.params.toList args.toList ds p := hA0
  rw [Try.params3] at hA hval
  obtain ⟨v0, vs0, d0, ds0, p0, q0, hargs, rfl, rfl, h0, r0⟩ := trodAll_cons hA
  obtain ⟨v1, vs1, d1, ds1, p1, q1, rfl, rfl, rfl, h1, r1⟩ := trodAll_cons r0
  obtain ⟨v2, vs2, d2, ds2, p2, q2, rfl, rfl, rfl, h2, r2⟩ := trodAll_cons r1
  obtain ⟨rfl, rfl, rfl⟩ := trodAll_nil r2
  obtain rfl : args = #[v0, v1, v2] := by cases args; simp_all
  obtain ⟨rfl, rfl⟩ := trodVars_none hV
  obtain ⟨cs0, rfl, hcs0⟩ := okWide_struct Try.underlying24 (hval 0 24 v0 rfl rfl)
  have k0 := h0
  have lt0 : ∀ x ∈ p0, x.block < W.heap.size := by obtain ⟨m, hm⟩ := k0; exact DataW.trod_lt m _ _ _ hm
  obtain ⟨fu0, hf0⟩ := h0
  obtain ⟨y0, n0, _, _, hf0⟩ := trod_struct1 Try.underlying24 hf0
  obtain ⟨A0_0, l0_0, c0_0, he0_0, hc0_0, hr0_0, hg0_0⟩ := trod_row_open (k71) good71 Try.underlying22 (by kernel_rfl) open71 hf0
  have hs0 : cs0.size = 1 := hcs0.trans (by kernel_rfl)
  obtain rfl : cs0 = #[.slice A0_0 l0_0.length c0_0] := Go.Proofs.YtbbmgiloikkpiaaW.PrintWords.one_cell hs0 (by kernel_rfl) he0_0
  clear hf0 he0_0 hs0 hcs0
  obtain ⟨a1, len1, cap1, rfl⟩ := okWide_slice Try.underlying25 (hval 1 25 v1 rfl rfl)
  have k1 := h1
  have lt1 : ∀ x ∈ p1, x.block < W.heap.size := by obtain ⟨m, hm⟩ := k1; exact DataW.trod_lt m _ _ _ hm
  obtain ⟨fu1, hf1⟩ := h1
  obtain ⟨A1, l1, c1, he1, hc1, hr1, hg1⟩ := trod_row_open (k58) good58 Try.underlying25 (by kernel_rfl) open58 hf1
  injection he1 with he1 _
  injection he1 with e1 e2 e3
  subst e1 e2 e3
  clear hf1
  obtain ⟨cs2, rfl, hcs2⟩ := okWide_struct Try.underlying27 (hval 2 27 v2 rfl rfl)
  have k2 := h2
  have lt2 : ∀ x ∈ p2, x.block < W.heap.size := by obtain ⟨m, hm⟩ := k2; exact DataW.trod_lt m _ _ _ hm
  obtain ⟨fu2, hf2⟩ := h2
  have hs2 : cs2.size = 3 := hcs2.trans (by kernel_rfl)
  obtain ⟨a2_0, a2_1, a2_2, he2, wa2_1, wa2_2⟩ := openA27 _ cs2.toList _ hf2
  obtain ⟨cl2⟩ := cs2
  simp only at he2
  subst he2
  clear hf2 hs2 hcs2
  clear hA0 hval0 hsz0
  obtain ⟨k, h⟩ := Pure.FnExactProgramOf l0_0 l1 a2_0 a2_1 a2_2 (Kd.C_max hr0_0) hg0_0 (Kd.C_max hr1) hg1 wa2_1 wa2_2
  refine (jb.calls k _ _ l0_0 _ _ l1 a2_0 a2_1 a2_2 true W hr0_0 hc0_0 hr1 hc1 rfl h).mono ?_
  rintro e W' ⟨he, bel⟩
  subst he
  exact ⟨_, rfl, _, _, _, [], _, [], hW', trodAll_mk1 (shut_bool Try.underlying4 _), (trodAll_cons_mk (Below.trod laidOut (by kernel_rfl) (of_decide_eq_true (by kernel_rfl)) k0 bel lt0) (trodAll_cons_mk (Below.trod laidOut (by kernel_rfl) (of_decide_eq_true (by kernel_rfl)) k1 bel lt1) (trodAll_cons_mk (Below.trod laidOut (by kernel_rfl) (of_decide_eq_true (by kernel_rfl)) k2 bel lt2) trodAll_mk0))), rfl, bel.frame _, fun h => by cases h⟩
theorem over : Rows.fnExactProgramOfRow.holds Try.pinned (OpenSpec.ofChange Rows.fnExactProgramOfSpec) :=
  OpenClaim.holds_of_wide 3 Try.f3 rfl rfl rfl rfl rfl rfl rfl ⟨rfl, rfl, rfl, rfl, rfl⟩ rfl rfl rfl rfl rfl (by kernel_rfl) Try.func3 (by kernel_rfl)
    (of_decide_eq_true (by kernel_rfl)) (by unfold Func.isWrapper; first | (rw [if_pos (by decide +kernel)]; kernel_rfl) | (rw [if_neg (by decide +kernel)]; exact ⟨rfl, rfl⟩))
    (fun os started H enc _ => lifted os started H enc)
theorem proved : Rows.FnExactProgramOfSaid := over
end Go.Proofs.Ytbbmgiloikkpiaa.fnExactProgramOf
namespace Go.Proofs.Ytbbmgiloikkpiaa
theorem fnExactProgramOf_holds : Rows.FnExactProgramOfSaid := fnExactProgramOf.proved
end Go.Proofs.Ytbbmgiloikkpiaa
end
