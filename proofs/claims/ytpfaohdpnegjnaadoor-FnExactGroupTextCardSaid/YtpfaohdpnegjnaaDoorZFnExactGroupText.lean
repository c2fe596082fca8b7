/- The program's GroupText returns what the reference's returns, for all trees and groups, and leaves its arguments as they were. The statement itself: the row, joined with what is computed. -/
import Derived.Below
import Derived.ChangeOld
import Derived.ChangeSame
import Derived.ChangeVars
import Derived.JoinedOf
import Derived.LaidLaws
import Derived.LaidMore
import Derived.OpenShut
import Derived.ProofKit
import Derived.RowKitTokens
import Derived.SevenTiedAt
import Derived.ShutString
import Derived.SizedLaws
import Derived.Stop.Joined
import Derived.WalkKit
import Derived.Test.YtpfaohdpnegjnaaDoorCards
import Derived.Test.YtpfaohdpnegjnaaDoorRows
import Derived.Test.YtpfaohdpnegjnaaDoorTie
import Derived.Test.YtpfaohdpnegjnaaDoorYAll5
import Derived.Test.YtpfaohdpnegjnaaDoorYOpen
import Derived.Test.YtpfaohdpnegjnaaDoorYPureFnExactGroupText
section
namespace Go.Proofs.YtpfaohdpnegjnaaDoor.fnExactGroupText
open Go.ChangeShapes Go.WideShapes Go.ChangeAt Go.RowKit Go.Proofs.YtpfaohdpnegjnaaDoor.P Go.Proofs.YtpfaohdpnegjnaaDoorW.PrintWords
open Go.ChangeMaps (open_string shut_string)
set_option linter.unusedVariables false
theorem own : ownKnob Tryd.prog.godebug = none := by kernel_rfl
theorem laidOut : laidOutB Tryd.prog = true := by kernel_rfl
theorem door_met (os : Os) (args : Array Value) : laidMetH Tryd.prog Rows.fnExactGroupTextRow.laid ((World.doorLaid Tryd.prog 24 os).forCall (fun _ _ => 0) ⟨#[], args, []⟩).memory :=
  laidMetH_of_parts3 (fuel := 8) (laidMet_of_run' 8 (by kernel_rfl) (by kernel_rfl)) (by kernel_rfl) (by kernel_rfl)
set_option maxRecDepth 100000 in
theorem lifted (os : Os) (started : os.Started) (H : Type) (enc : TypeId × Value → H) :
    ReturnsInHanded {} Tryd.checked os 3 .any (fun w args => (Rows.fnExactGroupTextSpec.pre enc Tryd.prog Tryd.f3 Rows.fnExactGroupTextRow.domain false w args ∧ laidMetH Tryd.prog Rows.fnExactGroupTextRow.laid w) ∧ sizedMet enc Tryd.prog Tryd.f3 (OpenSpec.ofChange Rows.fnExactGroupTextSpec) false w args) (Rows.fnExactGroupTextSpec.post enc Tryd.prog Tryd.f3 false true false false) := by
  refine returnsInHanded_of_change_and (C := Tryd.checked) (X := fun w _ => laidMetH Tryd.prog Rows.fnExactGroupTextRow.laid w) (fun _ _ _ hh h => h.of_heap hh) own started (by kernel_rfl) Tryd.func3
    (ChangeSpec.witness_shaped (enc := enc) (C := Tryd.checked) (os := os) (X := fun w _ => laidMetH Tryd.prog Rows.fnExactGroupTextRow.laid w) false (World.doorLaid Tryd.prog 24 os) #[.agg #[.slice none 0 0], .slice none 0 0] 8 rfl (World.shaped_of_RefB (by kernel_rfl) (by kernel_rfl)) (by kernel_rfl) (by kernel_rfl) (by kernel_rfl) (door_met os _)) ?_
  intro W base args ds gs before hval0 hW hcnd hsz0 hLd _
  clear hLd
  have hval : ∀ (j : Nat) t v, Tryd.f3.params[j]? = some t → args[j]? = some v → Value.okWide Tryd.prog W .any base t v := hval0
  have hW' := hW
  obtain ⟨p, q, hA0, hV, rfl, hfz, hnd⟩ := hW
  have hA : DataW.TrodAll enc Tryd.prog W 0 (fun _ => true) true Tryd.f3.params.toList args.toList ds p := hA0
  rw [Tryd.params3] at hA hval
  obtain ⟨v0, vs0, d0, ds0, p0, q0, hargs, rfl, rfl, h0, r0⟩ := trodAll_cons hA
  obtain ⟨v1, vs1, d1, ds1, p1, q1, rfl, rfl, rfl, h1, r1⟩ := trodAll_cons r0
  obtain ⟨rfl, rfl, rfl⟩ := trodAll_nil r1
  obtain rfl : args = #[v0, v1] := by cases args; simp_all
  obtain ⟨rfl, rfl⟩ := trodVars_none hV
  obtain ⟨cs0, rfl, hcs0⟩ := okWide_struct Tryd.underlying24 (hval 0 24 v0 rfl rfl)
  have k0 := h0
  have lt0 : ∀ x ∈ p0, x.block < W.heap.size := by obtain ⟨m, hm⟩ := k0; exact DataW.trod_lt m _ _ _ hm
  obtain ⟨fu0, hf0⟩ := h0
  obtain ⟨y0, n0, _, _, hf0⟩ := trod_struct1 Tryd.underlying24 hf0
  obtain ⟨A0_0, l0_0, c0_0, he0_0, hc0_0, hr0_0, hg0_0⟩ := trod_row_open (k50) good50 Tryd.underlying22 (by kernel_rfl) open50 hf0
  have hs0 : cs0.size = 1 := hcs0.trans (by kernel_rfl)
  obtain rfl : cs0 = #[.slice A0_0 l0_0.length c0_0] := Go.Proofs.YtpfaohdpnegjnaaDoorW.PrintWords.one_cell hs0 (by kernel_rfl) he0_0
  clear hf0 he0_0 hs0 hcs0
  obtain ⟨a1, len1, cap1, rfl⟩ := okWide_slice Tryd.underlying25 (hval 1 25 v1 rfl rfl)
  have k1 := h1
  have lt1 : ∀ x ∈ p1, x.block < W.heap.size := by obtain ⟨m, hm⟩ := k1; exact DataW.trod_lt m _ _ _ hm
  obtain ⟨fu1, hf1⟩ := h1
  obtain ⟨A1, l1, c1, he1, hc1, hr1, hg1⟩ := trod_row_open (k44) good44 Tryd.underlying25 (by kernel_rfl) open44 hf1
  injection he1 with he1 _
  injection he1 with e1 e2 e3
  subst e1 e2 e3
  clear hf1
  clear hA0 hval0 hsz0
  obtain ⟨k, h⟩ := Pure.FnExactGroupText l0_0 l1 (Kd.C_max hr0_0) hg0_0 (Kd.C_max hr1) hg1
  refine (jta.calls k _ _ l0_0 _ _ l1 true W hr0_0 hc0_0 hr1 hc1 rfl h).mono ?_
  rintro e W' ⟨he, bel⟩
  subst he
  exact ⟨_, rfl, _, _, _, [], _, [], hW', trodAll_mk1 (shut_bool Tryd.underlying4 _), (trodAll_cons_mk (Below.trod laidOut (by kernel_rfl) (of_decide_eq_true (by kernel_rfl)) k0 bel lt0) (trodAll_cons_mk (Below.trod laidOut (by kernel_rfl) (of_decide_eq_true (by kernel_rfl)) k1 bel lt1) trodAll_mk0)), rfl, bel.frame _, fun h => by cases h⟩
theorem stands (j : Nat) (t : TypeId) (ht : Tryd.f3.params[j]? = some t) : Tryd.prog.wantsStandIn t = false := by
  rw [Tryd.params3] at ht
  exact match j, ht with
    | 0, ht => (by
      obtain rfl := Option.some.inj ht
      kernel_rfl)
    | 1, ht => (by
      obtain rfl := Option.some.inj ht
      kernel_rfl)
    | j + 2, ht => (by simp at ht)
theorem over : Rows.fnExactGroupTextRow.holds Tryd.pinned (OpenSpec.ofChange Rows.fnExactGroupTextSpec) :=
  OpenClaim.holds_of_wide 3 Tryd.f3 rfl rfl rfl rfl rfl rfl rfl ⟨rfl, rfl, rfl, rfl, rfl⟩ rfl rfl rfl rfl rfl (by kernel_rfl) Tryd.func3 (by kernel_rfl)
    (of_decide_eq_true (by kernel_rfl)) (by unfold Func.isWrapper; first | (rw [if_pos (by decide +kernel)]; kernel_rfl) | (rw [if_neg (by decide +kernel)]; exact ⟨rfl, rfl⟩))
    (fun os started H enc _ => lifted os started H enc)
theorem proved : Rows.FnExactGroupTextCardSaid :=
  Claim7.holds_tied_plain_at .later [] [.data, .data, .data] true (true, "1eda00736dc2d2a6659877844afd710746b586a5deaf04442278c2c77c20fa34") false over (fun _ h => by cases h) (by kernel_rfl) (fun _ h => by cases h) fnExactGroupText_row_tie rfl ⟨rfl, rfl⟩ (by kernel_rfl) rfl
    (fun f fn hf hfn => by
      obtain rfl : f = 3 := Option.some.inj ((show Tryd.prog.funcNamed Rows.fnExactGroupTextRow.func = some 3 by kernel_rfl).symm.trans hf) |>.symm
      obtain rfl : fn = Tryd.f3 := (Option.some.inj (Tryd.func3.symm.trans hfn)).symm
      exact ⟨by kernel_rfl, stands⟩)
    (by kernel_rfl)
#print axioms proved
end Go.Proofs.YtpfaohdpnegjnaaDoor.fnExactGroupText
namespace Go.Proofs.YtpfaohdpnegjnaaDoor
theorem fnExactGroupText_holds : Rows.FnExactGroupTextCardSaid := fnExactGroupText.proved
end Go.Proofs.YtpfaohdpnegjnaaDoor
end
