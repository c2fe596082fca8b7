/- The program's ChainText returns what the reference's returns, for all trees, heaps and numbers, and leaves its arguments as they were. The statement itself: the row, joined with what is computed. -/
import Derived.Below
import Derived.ChangeOld
import Derived.ChangeSame
import Derived.ChangeVars
import Derived.JoinedOf
import Derived.LaidLaws
import Derived.LaidMore
import Derived.OpenShut
import Derived.ProofKit
import Derived.RowKitTokens
import Derived.SevenTiedAt
import Derived.ShutString
import Derived.SizedLaws
import Derived.Stop.Joined
import Derived.WalkKit
import Derived.Test.YteibechlncphnaaDoorCards
import Derived.Test.YteibechlncphnaaDoorRows
import Derived.Test.YteibechlncphnaaDoorTie
import Derived.Test.YteibechlncphnaaDoorYAll5
import Derived.Test.YteibechlncphnaaDoorYOpen
import Derived.Test.YteibechlncphnaaDoorYPureFnExactChainText
section
namespace Go.Proofs.YteibechlncphnaaDoor.fnExactChainText
open Go.ChangeShapes Go.WideShapes Go.ChangeAt Go.RowKit Go.Proofs.YteibechlncphnaaDoor.P Go.Proofs.YteibechlncphnaaDoorW.PrintWords
open Go.ChangeMaps (open_string shut_string)
set_option linter.unusedVariables false
theorem own : ownKnob Tryd.prog.godebug = none := by kernel_rfl
theorem laidOut : laidOutB Tryd.prog = true := by kernel_rfl
theorem door_met (os : Os) (args : Array Value) : laidMetH Tryd.prog Rows.fnExactChainTextRow.laid ((World.doorLaid Tryd.prog 24 os).forCall (fun _ _ => 0) ⟨#[], args, []⟩).memory :=
  laidMetH_of_parts3 (fuel := 8) (laidMet_of_run' 8 (by kernel_rfl) (by kernel_rfl)) (by kernel_rfl) (by kernel_rfl)
set_option maxRecDepth 100000 in
theorem lifted (os : Os) (started : os.Started) (H : Type) (enc : TypeId × Value → H) :
    ReturnsInHanded {} Tryd.checked os 5 .any (fun w args => (Rows.fnExactChainTextSpec.pre enc Tryd.prog Tryd.f5 Rows.fnExactChainTextRow.domain false w args ∧ laidMetH Tryd.prog Rows.fnExactChainTextRow.laid w) ∧ sizedMet enc Tryd.prog Tryd.f5 (OpenSpec.ofChange Rows.fnExactChainTextSpec) false w args) (Rows.fnExactChainTextSpec.post enc Tryd.prog Tryd.f5 false true false false) := by
  refine returnsInHanded_of_change_and (C := Tryd.checked) (X := fun w _ => laidMetH Tryd.prog Rows.fnExactChainTextRow.laid w) (fun _ _ _ hh h => h.of_heap hh) own started (by kernel_rfl) Tryd.func5
    (ChangeSpec.witness_shaped (enc := enc) (C := Tryd.checked) (os := os) (X := fun w _ => laidMetH Tryd.prog Rows.fnExactChainTextRow.laid w) false (World.doorLaid Tryd.prog 24 os) #[.agg #[.slice none 0 0], .agg #[.slice none 0 0], .int .i64 0] 8 rfl (World.shaped_of_RefB (by kernel_rfl) (by kernel_rfl)) (by kernel_rfl) (by kernel_rfl) (by kernel_rfl) (door_met os _)) ?_
  intro W base args ds gs before hval0 hW hcnd hsz0 hLd _
  clear hLd
  have hval : ∀ (j : Nat) t v, Tryd.f5.params[j]? = some t → args[j]? = some v → Value.okWide Tryd.prog W .any base t v := hval0
  have hW' := hW
  obtain ⟨p, q, hA0, hV, rfl, hfz, hnd⟩ := hW
  have hA : DataW.TrodAll enc Tryd.prog W 0 (fun _ => true) true Tryd.f5.params.toList args.toList ds p := hA0
  rw [Tryd.params5] at hA hval
  obtain ⟨v0, vs0, d0, ds0, p0, q0, hargs, rfl, rfl, h0, r0⟩ := trodAll_cons hA
  obtain ⟨v1, vs1, d1, ds1, p1, q1, rfl, rfl, rfl, h1, r1⟩ := trodAll_cons r0
  obtain ⟨v2, vs2, d2, ds2, p2, q2, rfl, rfl, rfl, h2, r2⟩ := trodAll_cons r1
  obtain ⟨rfl, rfl, rfl⟩ := trodAll_nil r2
  obtain rfl : args = #[v0, v1, v2] := by cases args; simp_all
  obtain ⟨rfl, rfl⟩ := trodVars_none hV
  obtain ⟨cs0, rfl, hcs0⟩ := okWide_struct Tryd.underlying41 (hval 0 41 v0 rfl rfl)
  have k0 := h0
  have lt0 : ∀ x ∈ p0, x.block < W.heap.size := by obtain ⟨m, hm⟩ := k0; exact DataW.trod_lt m _ _ _ hm
  obtain ⟨fu0, hf0⟩ := h0
  obtain ⟨y0, n0, _, _, hf0⟩ := trod_struct1 Tryd.underlying41 hf0
  obtain ⟨A0_0, l0_0, c0_0, he0_0, hc0_0, hr0_0, hg0_0⟩ := trod_row_open (k98) good98 Tryd.underlying39 (by kernel_rfl) open98 hf0
  have hs0 : cs0.size = 1 := hcs0.trans (by kernel_rfl)
  obtain rfl : cs0 = #[.slice A0_0 l0_0.length c0_0] := Go.Proofs.YteibechlncphnaaDoorW.PrintWords.one_cell hs0 (by kernel_rfl) he0_0
  clear hf0 he0_0 hs0 hcs0
  obtain ⟨cs1, rfl, hcs1⟩ := okWide_struct Tryd.underlying44 (hval 1 44 v1 rfl rfl)
  have k1 := h1
  have lt1 : ∀ x ∈ p1, x.block < W.heap.size := by obtain ⟨m, hm⟩ := k1; exact DataW.trod_lt m _ _ _ hm
  obtain ⟨fu1, hf1⟩ := h1
  obtain ⟨y1, n1, _, _, hf1⟩ := trod_struct1 Tryd.underlying44 hf1
  obtain ⟨A1_0, l1_0, c1_0, he1_0, hc1_0, hr1_0, hg1_0⟩ := trod_row_open (k102) good102 Tryd.underlying42 (by kernel_rfl) open102 hf1
  have hs1 : cs1.size = 1 := hcs1.trans (by kernel_rfl)
  obtain rfl : cs1 = #[.slice A1_0 l1_0.length c1_0] := Go.Proofs.YteibechlncphnaaDoorW.PrintWords.one_cell hs1 (by kernel_rfl) he1_0
  clear hf1 he1_0 hs1 hcs1
  obtain ⟨a2, rfl, rfl, rfl, w2⟩ := open_int Tryd.underlying3 (hval 2 3 v2 rfl rfl) h2
  clear hA0 hval0 hsz0
  obtain ⟨k, h⟩ := Pure.FnExactChainText l0_0 l1_0 a2 (Kd.C_max hr0_0) hg0_0 (Kd.C_max hr1_0) hg1_0 w2
  refine (jza.calls k _ _ l0_0 _ _ l1_0 a2 true W hr0_0 hc0_0 hr1_0 hc1_0 rfl h).mono ?_
  rintro e W' ⟨he, bel⟩
  subst he
  exact ⟨_, rfl, _, _, _, [], _, [], hW', trodAll_mk1 (shut_bool Tryd.underlying4 _), (trodAll_cons_mk (Below.trod laidOut (by kernel_rfl) (of_decide_eq_true (by kernel_rfl)) k0 bel lt0) (trodAll_cons_mk (Below.trod laidOut (by kernel_rfl) (of_decide_eq_true (by kernel_rfl)) k1 bel lt1) (trodAll_cons_mk (shut_int Tryd.underlying3 w2) trodAll_mk0))), rfl, bel.frame _, fun h => by cases h⟩
theorem stands (j : Nat) (t : TypeId) (ht : Tryd.f5.params[j]? = some t) : Tryd.prog.wantsStandIn t = false := by
  rw [Tryd.params5] at ht
  exact match j, ht with
    | 0, ht => (by
      obtain rfl := Option.some.inj ht
      kernel_rfl)
    | 1, ht => (by
      obtain rfl := Option.some.inj ht
      kernel_rfl)
    | 2, ht => (by
      obtain rfl := Option.some.inj ht
      kernel_rfl)
    | j + 3, ht => (by simp at ht)
theorem over : Rows.fnExactChainTextRow.holds Tryd.pinned (OpenSpec.ofChange Rows.fnExactChainTextSpec) :=
  OpenClaim.holds_of_wide 5 Tryd.f5 rfl rfl rfl rfl rfl rfl rfl ⟨rfl, rfl, rfl, rfl, rfl⟩ rfl rfl rfl rfl rfl (by kernel_rfl) Tryd.func5 (by kernel_rfl)
    (of_decide_eq_true (by kernel_rfl)) (by unfold Func.isWrapper; first | (rw [if_pos (by decide +kernel)]; kernel_rfl) | (rw [if_neg (by decide +kernel)]; exact ⟨rfl, rfl⟩))
    (fun os started H enc _ => lifted os started H enc)
theorem proved : Rows.FnExactChainTextCardSaid :=
  Claim7.holds_tied_plain_at .later [] [.data, .data, .data] true (true, "c546bba6aea61791e49ef3becc4f5161cfe452fb28aa2bc5ab16104960e22931") false over (fun _ h => by cases h) (by kernel_rfl) (fun _ h => by cases h) fnExactChainText_row_tie rfl ⟨rfl, rfl⟩ (by kernel_rfl) rfl
    (fun f fn hf hfn => by
      obtain rfl : f = 5 := Option.some.inj ((show Tryd.prog.funcNamed Rows.fnExactChainTextRow.func = some 5 by kernel_rfl).symm.trans hf) |>.symm
      obtain rfl : fn = Tryd.f5 := (Option.some.inj (Tryd.func5.symm.trans hfn)).symm
      exact ⟨by kernel_rfl, stands⟩)
    (by kernel_rfl)
#print axioms proved
end Go.Proofs.YteibechlncphnaaDoor.fnExactChainText
namespace Go.Proofs.YteibechlncphnaaDoor
theorem fnExactChainText_holds : Rows.FnExactChainTextCardSaid := fnExactChainText.proved
end Go.Proofs.YteibechlncphnaaDoor
end
