/- One part of the proofs on this program: functions of the program as plain functions, that the code comes to them, and facts on them. -/
import Derived.ChangeSame
import Derived.Test.YtdmafmebllhlkaaDoorYAll1
import Derived.Test.YtdmafmebllhlkaaDoorYWRead
section
namespace Go.Proofs.YtdmafmebllhlkaaDoor.P
open Go.RowKit Go.ChangeShapes Go.Proofs.YtdmafmebllhlkaaDoorW.PrintWords
set_option linter.unusedVariables false
def good37 (x : S37) : Prop := x.f0.size ≤ maxLen ∧ (Lit.int .i64 x.f1).wf = true
set_option maxRecDepth 100000 in
theorem open37 {H : Type} {enc : TypeId × Value → H} {w : World} {base : Nat} {spare : Nat → Bool} {held : Bool} : ∀ fuel cs y, DataW.trod enc Tryd.prog w base spare held fuel 37 cs = some y → ∃ x : S37, k37.K w x cs ∧ good37 x := by
  intro fuel cs y h
  obtain ⟨xs, n, _, _, hl, hlen, hf⟩ := DataW.trod_struct Tryd.underlying37 h
  have hl2 : cs.length = 2 := hl.trans (by kernel_rfl)
  clear hl
  have hx : xs.length = 2 := hlen
  obtain ⟨c0, c1, rfl⟩ : ∃ c0 c1, cs = [c0, c1] := by match cs, hl2 with | [c0, c1], _ => exact ⟨_, _, rfl⟩
  obtain ⟨y0, y1, rfl⟩ : ∃ y0 y1, xs = [y0, y1] := by match xs, hx with | [c0, c1], _ => exact ⟨_, _, rfl⟩
  have g0 := hf 0 _ rfl
  simp only [List.getElem?_cons_zero] at g0
  obtain ⟨a0, e0, w0⟩ := trod_string_open Tryd.underlying9 g0
  obtain rfl := List.head_eq_of_cons_eq e0
  have g1 := hf 1 _ rfl
  simp only [List.getElem?_cons_succ, List.getElem?_cons_zero] at g1
  obtain ⟨a1, e1, w1⟩ := trod_int_open Tryd.underlying3 g1
  obtain rfl := List.head_eq_of_cons_eq e1
  exact ⟨⟨a0, a1⟩, k37_mk w ⟨a0, a1⟩, w0, w1⟩
end Go.Proofs.YtdmafmebllhlkaaDoor.P
end
