/- One part of the proofs on this program: functions of the program as plain functions, that the code comes to them, and facts on them. -/
import Derived.ChangeSame
import Derived.Test.YtkhiiiddbmgiaaaYAll1
import Derived.Test.YtkhiiiddbmgiaaaYWRead
section
namespace Go.Proofs.Ytkhiiiddbmgiaaa.P
open Go.RowKit Go.ChangeShapes Go.Proofs.YtkhiiiddbmgiaaaW.PrintWords
set_option linter.unusedVariables false
def good55 (x : S55) : Prop := (Lit.int .i64 x.f0).wf = true ∧ (Lit.int .i64 x.f1).wf = true ∧ (Lit.int .i64 x.f2).wf = true ∧ (Lit.int .i64 x.f3).wf = true
set_option maxRecDepth 100000 in
theorem open55 {H : Type} {enc : TypeId × Value → H} {w : World} {base : Nat} {spare : Nat → Bool} {held : Bool} : ∀ fuel cs y, DataW.trod enc Try.prog w base spare held fuel 55 cs = some y → ∃ x : S55, k55.K w x cs ∧ good55 x := by
  intro fuel cs y h
  obtain ⟨xs, n, _, _, hl, hlen, hf⟩ := DataW.trod_struct Try.underlying55 h
  have hl2 : cs.length = 4 := hl.trans (by kernel_rfl)
  clear hl
  have hx : xs.length = 4 := hlen
  obtain ⟨c0, c1, c2, c3, rfl⟩ : ∃ c0 c1 c2 c3, cs = [c0, c1, c2, c3] := by match cs, hl2 with | [c0, c1, c2, c3], _ => exact ⟨_, _, _, _, rfl⟩
  obtain ⟨y0, y1, y2, y3, rfl⟩ : ∃ y0 y1 y2 y3, xs = [y0, y1, y2, y3] := by match xs, hx with | [c0, c1, c2, c3], _ => exact ⟨_, _, _, _, rfl⟩
  have g0 := hf 0 _ rfl
  simp only [List.getElem?_cons_zero] at g0
  obtain ⟨a0, e0, w0⟩ := jIb Try.underlying3 g0
  obtain rfl := List.head_eq_of_cons_eq e0
  have g1 := hf 1 _ rfl
  simp only [List.getElem?_cons_succ, List.getElem?_cons_zero] at g1
  obtain ⟨a1, e1, w1⟩ := jIb Try.underlying3 g1
  obtain rfl := List.head_eq_of_cons_eq e1
  have g2 := hf 2 _ rfl
  simp only [List.getElem?_cons_succ, List.getElem?_cons_zero] at g2
  obtain ⟨a2, e2, w2⟩ := jIb Try.underlying3 g2
  obtain rfl := List.head_eq_of_cons_eq e2
  have g3 := hf 3 _ rfl
  simp only [List.getElem?_cons_succ, List.getElem?_cons_zero] at g3
  obtain ⟨a3, e3, w3⟩ := jIb Try.underlying3 g3
  obtain rfl := List.head_eq_of_cons_eq e3
  exact ⟨⟨a0, a1, a2, a3⟩, k55_mk w ⟨a0, a1, a2, a3⟩, w0, w1, w2, w3⟩
def good77 (x : S77) : Prop := x.f0.size ≤ maxLen ∧ (Lit.int .i64 x.f1).wf = true
set_option maxRecDepth 100000 in
theorem open77 {H : Type} {enc : TypeId × Value → H} {w : World} {base : Nat} {spare : Nat → Bool} {held : Bool} : ∀ fuel cs y, DataW.trod enc Try.prog w base spare held fuel 77 cs = some y → ∃ x : S77, k77.K w x cs ∧ good77 x := by
  intro fuel cs y h
  obtain ⟨xs, n, _, _, hl, hlen, hf⟩ := DataW.trod_struct Try.underlying77 h
  have hl2 : cs.length = 2 := hl.trans (by kernel_rfl)
  clear hl
  have hx : xs.length = 2 := hlen
  obtain ⟨c0, c1, rfl⟩ : ∃ c0 c1, cs = [c0, c1] := by match cs, hl2 with | [c0, c1], _ => exact ⟨_, _, rfl⟩
  obtain ⟨y0, y1, rfl⟩ : ∃ y0 y1, xs = [y0, y1] := by match xs, hx with | [c0, c1], _ => exact ⟨_, _, rfl⟩
  have g0 := hf 0 _ rfl
  simp only [List.getElem?_cons_zero] at g0
  obtain ⟨a0, e0, w0⟩ := trod_string_open Try.underlying9 g0
  obtain rfl := List.head_eq_of_cons_eq e0
  have g1 := hf 1 _ rfl
  simp only [List.getElem?_cons_succ, List.getElem?_cons_zero] at g1
  obtain ⟨a1, e1, w1⟩ := jIb Try.underlying3 g1
  obtain rfl := List.head_eq_of_cons_eq e1
  exact ⟨⟨a0, a1⟩, k77_mk w ⟨a0, a1⟩, w0, w1⟩
end Go.Proofs.Ytkhiiiddbmgiaaa.P
end
