/- One part of the proofs on this program: functions of the program as plain functions, that the code comes to them, and facts on them. -/
import Derived.ChangeSame
import Derived.Test.YteibechlncphnaaDoorYAll1
import Derived.Test.YteibechlncphnaaDoorYWRead
section
namespace Go.Proofs.YteibechlncphnaaDoor.P
open Go.RowKit Go.ChangeShapes Go.Proofs.YteibechlncphnaaDoorW.PrintWords
set_option linter.unusedVariables false
def good98 (x : S98) : Prop := x.f0.size ≤ maxLen ∧ (Lit.int .i64 x.f1).wf = true
set_option maxRecDepth 100000 in
theorem open98 {H : Type} {enc : TypeId × Value → H} {w : World} {base : Nat} {spare : Nat → Bool} {held : Bool} : ∀ fuel cs y, DataW.trod enc Tryd.prog w base spare held fuel 98 cs = some y → ∃ x : S98, k98.K w x cs ∧ good98 x := by
  intro fuel cs y h
  obtain ⟨xs, n, _, _, hl, hlen, hf⟩ := DataW.trod_struct Tryd.underlying98 h
  have hl2 : cs.length = 2 := hl.trans (by kernel_rfl)
  clear hl
  have hx : xs.length = 2 := hlen
  obtain ⟨c0, c1, rfl⟩ : ∃ c0 c1, cs = [c0, c1] := by match cs, hl2 with | [c0, c1], _ => exact ⟨_, _, rfl⟩
  obtain ⟨y0, y1, rfl⟩ : ∃ y0 y1, xs = [y0, y1] := by match xs, hx with | [c0, c1], _ => exact ⟨_, _, rfl⟩
  have g0 := hf 0 _ rfl
  simp only [List.getElem?_cons_zero] at g0
  obtain ⟨a0, e0, w0⟩ := trod_string_open Tryd.underlying9 g0
  obtain rfl := List.head_eq_of_cons_eq e0
  have g1 := hf 1 _ rfl
  simp only [List.getElem?_cons_succ, List.getElem?_cons_zero] at g1
  obtain ⟨a1, e1, w1⟩ := jkb Tryd.underlying3 g1
  obtain rfl := List.head_eq_of_cons_eq e1
  exact ⟨⟨a0, a1⟩, k98_mk w ⟨a0, a1⟩, w0, w1⟩
def good102 (x : S102) : Prop := (Lit.int .i64 x.f0).wf = true ∧ (Lit.int .i64 x.f1).wf = true ∧ (Lit.int .i64 x.f2).wf = true ∧ (Lit.int .i64 x.f3).wf = true
set_option maxRecDepth 100000 in
theorem open102 {H : Type} {enc : TypeId × Value → H} {w : World} {base : Nat} {spare : Nat → Bool} {held : Bool} : ∀ fuel cs y, DataW.trod enc Tryd.prog w base spare held fuel 102 cs = some y → ∃ x : S102, k102.K w x cs ∧ good102 x := by
  intro fuel cs y h
  obtain ⟨xs, n, _, _, hl, hlen, hf⟩ := DataW.trod_struct Tryd.underlying102 h
  have hl2 : cs.length = 5 := hl.trans (by kernel_rfl)
  clear hl
  have hx : xs.length = 5 := hlen
  obtain ⟨c0, c1, c2, c3, c4, rfl⟩ : ∃ c0 c1 c2 c3 c4, cs = [c0, c1, c2, c3, c4] := by match cs, hl2 with | [c0, c1, c2, c3, c4], _ => exact ⟨_, _, _, _, _, rfl⟩
  obtain ⟨y0, y1, y2, y3, y4, rfl⟩ : ∃ y0 y1 y2 y3 y4, xs = [y0, y1, y2, y3, y4] := by match xs, hx with | [c0, c1, c2, c3, c4], _ => exact ⟨_, _, _, _, _, rfl⟩
  have g0 := hf 0 _ rfl
  simp only [List.getElem?_cons_zero] at g0
  obtain ⟨a0, e0, w0⟩ := jkb Tryd.underlying3 g0
  obtain rfl := List.head_eq_of_cons_eq e0
  have g1 := hf 1 _ rfl
  simp only [List.getElem?_cons_succ, List.getElem?_cons_zero] at g1
  obtain ⟨a1, e1, w1⟩ := jkb Tryd.underlying3 g1
  obtain rfl := List.head_eq_of_cons_eq e1
  have g2 := hf 2 _ rfl
  simp only [List.getElem?_cons_succ, List.getElem?_cons_zero] at g2
  obtain ⟨a2, e2, w2⟩ := jkb Tryd.underlying3 g2
  obtain rfl := List.head_eq_of_cons_eq e2
  have g3 := hf 3 _ rfl
  simp only [List.getElem?_cons_succ, List.getElem?_cons_zero] at g3
  obtain ⟨a3, e3, w3⟩ := jkb Tryd.underlying3 g3
  obtain rfl := List.head_eq_of_cons_eq e3
  have g4 := hf 4 _ rfl
  simp only [List.getElem?_cons_succ, List.getElem?_cons_zero] at g4
  obtain ⟨a4, e4⟩ := trod_bool_open Tryd.underlying4 g4
  obtain rfl := List.head_eq_of_cons_eq e4
  exact ⟨⟨a0, a1, a2, a3, a4⟩, k102_mk w ⟨a0, a1, a2, a3, a4⟩, w0, w1, w2, w3⟩
end Go.Proofs.YteibechlncphnaaDoor.P
end
