/- One part of the proofs on this program: functions of the program as plain functions, that the code comes to them, and facts on them. -/
import Derived.ChangeSame
import Derived.Test.YtlhfcmbkjddgiaaYAll1
import Derived.Test.YtlhfcmbkjddgiaaYWRead
section
namespace Go.Proofs.Ytlhfcmbkjddgiaa.P
open Go.RowKit Go.ChangeShapes Go.Proofs.YtlhfcmbkjddgiaaW.PrintWords
set_option linter.unusedVariables false
def good70 (x : S70) : Prop := (Lit.int .i64 x.f0).wf = true ∧ (Lit.int .i64 x.f1).wf = true ∧ (Lit.int .i64 x.f2).wf = true
set_option maxRecDepth 100000 in
theorem open70 {H : Type} {enc : TypeId × Value → H} {w : World} {base : Nat} {spare : Nat → Bool} {held : Bool} : ∀ fuel cs y, DataW.trod enc Try.prog w base spare held fuel 70 cs = some y → ∃ x : S70, k70.K w x cs ∧ good70 x := by
  intro fuel cs y h
  obtain ⟨xs, n, _, _, hl, hlen, hf⟩ := DataW.trod_struct Try.underlying70 h
  have hl2 : cs.length = 3 := hl.trans (by kernel_rfl)
  clear hl
  have hx : xs.length = 3 := hlen
  obtain ⟨c0, c1, c2, rfl⟩ : ∃ c0 c1 c2, cs = [c0, c1, c2] := by match cs, hl2 with | [c0, c1, c2], _ => exact ⟨_, _, _, rfl⟩
  obtain ⟨y0, y1, y2, rfl⟩ : ∃ y0 y1 y2, xs = [y0, y1, y2] := by match xs, hx with | [c0, c1, c2], _ => exact ⟨_, _, _, rfl⟩
  have g0 := hf 0 _ rfl
  simp only [List.getElem?_cons_zero] at g0
  obtain ⟨a0, e0, w0⟩ := jzc Try.underlying3 g0
  obtain rfl := List.head_eq_of_cons_eq e0
  have g1 := hf 1 _ rfl
  simp only [List.getElem?_cons_succ, List.getElem?_cons_zero] at g1
  obtain ⟨a1, e1, w1⟩ := jzc Try.underlying3 g1
  obtain rfl := List.head_eq_of_cons_eq e1
  have g2 := hf 2 _ rfl
  simp only [List.getElem?_cons_succ, List.getElem?_cons_zero] at g2
  obtain ⟨a2, e2, w2⟩ := jzc Try.underlying3 g2
  obtain rfl := List.head_eq_of_cons_eq e2
  exact ⟨⟨a0, a1, a2⟩, k70_mk w ⟨a0, a1, a2⟩, w0, w1, w2⟩
def good98 (x : S98) : Prop := x.f0.size ≤ maxLen ∧ (Lit.int .i64 x.f1).wf = true
set_option maxRecDepth 100000 in
theorem open98 {H : Type} {enc : TypeId × Value → H} {w : World} {base : Nat} {spare : Nat → Bool} {held : Bool} : ∀ fuel cs y, DataW.trod enc Try.prog w base spare held fuel 98 cs = some y → ∃ x : S98, k98.K w x cs ∧ good98 x := by
  intro fuel cs y h
  obtain ⟨xs, n, _, _, hl, hlen, hf⟩ := DataW.trod_struct Try.underlying98 h
  have hl2 : cs.length = 2 := hl.trans (by kernel_rfl)
  clear hl
  have hx : xs.length = 2 := hlen
  obtain ⟨c0, c1, rfl⟩ : ∃ c0 c1, cs = [c0, c1] := by match cs, hl2 with | [c0, c1], _ => exact ⟨_, _, rfl⟩
  obtain ⟨y0, y1, rfl⟩ : ∃ y0 y1, xs = [y0, y1] := by match xs, hx with | [c0, c1], _ => exact ⟨_, _, rfl⟩
  have g0 := hf 0 _ rfl
  simp only [List.getElem?_cons_zero] at g0
  obtain ⟨a0, e0, w0⟩ := trod_string_open Try.underlying9 g0
  obtain rfl := List.head_eq_of_cons_eq e0
  have g1 := hf 1 _ rfl
  simp only [List.getElem?_cons_succ, List.getElem?_cons_zero] at g1
  obtain ⟨a1, e1, w1⟩ := jzc Try.underlying3 g1
  obtain rfl := List.head_eq_of_cons_eq e1
  exact ⟨⟨a0, a1⟩, k98_mk w ⟨a0, a1⟩, w0, w1⟩
end Go.Proofs.Ytlhfcmbkjddgiaa.P
end
