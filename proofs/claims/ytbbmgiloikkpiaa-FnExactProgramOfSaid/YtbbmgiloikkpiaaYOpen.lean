/- One part of the proofs on this program: functions of the program as plain functions, that the code comes to them, and facts on them. -/
import Derived.ChangeSame
import Derived.Test.YtbbmgiloikkpiaaYAll1
import Derived.Test.YtbbmgiloikkpiaaYWRead
section
namespace Go.Proofs.Ytbbmgiloikkpiaa.P
open Go.RowKit Go.ChangeShapes Go.Proofs.YtbbmgiloikkpiaaW.PrintWords
set_option linter.unusedVariables false
def good58 (x : S58) : Prop := (Lit.int .i64 x.f0).wf = true ∧ (Lit.int .i64 x.f1).wf = true ∧ (Lit.int .i64 x.f2).wf = true
set_option maxRecDepth 100000 in
theorem open58 {H : Type} {enc : TypeId × Value → H} {w : World} {base : Nat} {spare : Nat → Bool} {held : Bool} : ∀ fuel cs y, DataW.trod enc Try.prog w base spare held fuel 58 cs = some y → ∃ x : S58, k58.K w x cs ∧ good58 x := by
  intro fuel cs y h
  obtain ⟨xs, n, _, _, hl, hlen, hf⟩ := DataW.trod_struct Try.underlying58 h
  have hl2 : cs.length = 3 := hl.trans (by kernel_rfl)
  clear hl
  have hx : xs.length = 3 := hlen
  obtain ⟨c0, c1, c2, rfl⟩ : ∃ c0 c1 c2, cs = [c0, c1, c2] := by match cs, hl2 with | [c0, c1, c2], _ => exact ⟨_, _, _, rfl⟩
  obtain ⟨y0, y1, y2, rfl⟩ : ∃ y0 y1 y2, xs = [y0, y1, y2] := by match xs, hx with | [c0, c1, c2], _ => exact ⟨_, _, _, rfl⟩
  have g0 := hf 0 _ rfl
  simp only [List.getElem?_cons_zero] at g0
  obtain ⟨a0, e0, w0⟩ := jNb Try.underlying3 g0
  obtain rfl := List.head_eq_of_cons_eq e0
  have g1 := hf 1 _ rfl
  simp only [List.getElem?_cons_succ, List.getElem?_cons_zero] at g1
  obtain ⟨a1, e1, w1⟩ := jNb Try.underlying3 g1
  obtain rfl := List.head_eq_of_cons_eq e1
  have g2 := hf 2 _ rfl
  simp only [List.getElem?_cons_succ, List.getElem?_cons_zero] at g2
  obtain ⟨a2, e2, w2⟩ := jNb Try.underlying3 g2
  obtain rfl := List.head_eq_of_cons_eq e2
  exact ⟨⟨a0, a1, a2⟩, k58_mk w ⟨a0, a1, a2⟩, w0, w1, w2⟩
def good71 (x : S71) : Prop := x.f0.size ≤ maxLen ∧ (Lit.int .i64 x.f1).wf = true
set_option maxRecDepth 100000 in
theorem open71 {H : Type} {enc : TypeId × Value → H} {w : World} {base : Nat} {spare : Nat → Bool} {held : Bool} : ∀ fuel cs y, DataW.trod enc Try.prog w base spare held fuel 71 cs = some y → ∃ x : S71, k71.K w x cs ∧ good71 x := by
  intro fuel cs y h
  obtain ⟨xs, n, _, _, hl, hlen, hf⟩ := DataW.trod_struct Try.underlying71 h
  have hl2 : cs.length = 2 := hl.trans (by kernel_rfl)
  clear hl
  have hx : xs.length = 2 := hlen
  obtain ⟨c0, c1, rfl⟩ : ∃ c0 c1, cs = [c0, c1] := by match cs, hl2 with | [c0, c1], _ => exact ⟨_, _, rfl⟩
  obtain ⟨y0, y1, rfl⟩ : ∃ y0 y1, xs = [y0, y1] := by match xs, hx with | [c0, c1], _ => exact ⟨_, _, rfl⟩
  have g0 := hf 0 _ rfl
  simp only [List.getElem?_cons_zero] at g0
  obtain ⟨a0, e0, w0⟩ := trod_string_open Try.underlying9 g0
  obtain rfl := List.head_eq_of_cons_eq e0
  have g1 := hf 1 _ rfl
  simp only [List.getElem?_cons_succ, List.getElem?_cons_zero] at g1
  obtain ⟨a1, e1, w1⟩ := jNb Try.underlying3 g1
  obtain rfl := List.head_eq_of_cons_eq e1
  exact ⟨⟨a0, a1⟩, k71_mk w ⟨a0, a1⟩, w0, w1⟩
set_option maxRecDepth 100000 in
theorem openA27 {H : Type} {enc : TypeId × Value → H} {w : World} {base : Nat} {spare : Nat → Bool} {held : Bool} : ∀ fuel cs y, DataW.trod enc Try.prog w base spare held fuel 27 cs = some y → ∃ (a0 : Bool) (a1 : Int) (a2 : Int), cs = [.bool a0, .int .i64 a1, .int .i64 a2] ∧ (Lit.int .i64 a1).wf = true ∧ (Lit.int .i64 a2).wf = true := by
  intro fuel cs y h
  obtain ⟨xs, n, _, _, hl, hlen, hf⟩ := DataW.trod_struct Try.underlying27 h
  have hl2 : cs.length = 3 := hl.trans (by kernel_rfl)
  clear hl
  have hx : xs.length = 3 := hlen
  obtain ⟨c0, c1, c2, rfl⟩ : ∃ c0 c1 c2, cs = [c0, c1, c2] := by match cs, hl2 with | [c0, c1, c2], _ => exact ⟨_, _, _, rfl⟩
  obtain ⟨y0, y1, y2, rfl⟩ : ∃ y0 y1 y2, xs = [y0, y1, y2] := by match xs, hx with | [c0, c1, c2], _ => exact ⟨_, _, _, rfl⟩
  have g0 := hf 0 _ rfl
  simp only [List.getElem?_cons_zero] at g0
  obtain ⟨a0, e0⟩ := trod_bool_open Try.underlying4 g0
  obtain rfl := List.head_eq_of_cons_eq e0
  have g1 := hf 1 _ rfl
  simp only [List.getElem?_cons_succ, List.getElem?_cons_zero] at g1
  obtain ⟨a1, e1, w1⟩ := jNb Try.underlying3 g1
  obtain rfl := List.head_eq_of_cons_eq e1
  have g2 := hf 2 _ rfl
  simp only [List.getElem?_cons_succ, List.getElem?_cons_zero] at g2
  obtain ⟨a2, e2, w2⟩ := jNb Try.underlying3 g2
  obtain rfl := List.head_eq_of_cons_eq e2
  exact ⟨a0, a1, a2, rfl, w1, w2⟩
end Go.Proofs.Ytbbmgiloikkpiaa.P
end
