/- One part of the proofs on this program: functions of the program as plain functions, that the code comes to them, and facts on them. -/
import Derived.ChangeAnyMap
import Derived.ChangeArms
import Derived.ChangeSame
import Derived.ChangeSlices
import Derived.DataElems
import Derived.Test.YtpfaohdpnegjnaaDoorYWWords
section
namespace Go.Proofs.YtpfaohdpnegjnaaDoorW.PrintWords
open Go.RowKit
section
variable {H : Type} {enc : TypeId × Value → H} {P : Program} {w : World} {base : Nat} {spare : Nat → Bool} {held : Bool}
theorem jeb {t : TypeId} {k : IntKind} {fuel : Nat} {cs : List Value} {x : DataW H × List MemPlace} (ht : P.underlying t = some (.int k)) (h : DataW.trod enc P w base spare held fuel t cs = some x) : ∃ n, cs = [.int k n] ∧ (Lit.int k n).wf = true := by
 cases fuel with
 | zero => simp [DataW.trod] at h
 | succ m =>
  unfold DataW.trod at h
  rw [ht] at h
  split at h <;> simp_all
theorem trod_bool_open {t : TypeId} {fuel : Nat} {cs : List Value} {x : DataW H × List MemPlace} (ht : P.underlying t = some .bool) (h : DataW.trod enc P w base spare held fuel t cs = some x) : ∃ b, cs = [.bool b] := by
 cases fuel with
 | zero => simp [DataW.trod] at h
 | succ m =>
  unfold DataW.trod at h
  rw [ht] at h
  split at h <;> simp_all
theorem trod_string_open {t : TypeId} {fuel : Nat} {cs : List Value} {x : DataW H × List MemPlace} (ht : P.underlying t = some .string) (h : DataW.trod enc P w base spare held fuel t cs = some x) : ∃ s, cs = [.string s] ∧ s.size ≤ maxLen := by
 cases fuel with
 | zero => simp [DataW.trod] at h
 | succ m =>
  unfold DataW.trod at h
  rw [ht] at h
  split at h <;> simp_all
theorem mapM_at {α β : Type} {f : α → Option β} : ∀ {l : List α} {r : List β}, l.mapM f = some r → r.length = l.length ∧ ∀ (i : Nat) (u : β), r[i]? = some u → ∃ x, l[i]? = some x ∧ f x = some u
 | [], r, h => by
  simp at h
  subst h
  exact ⟨rfl, fun i u hu => by simp at hu⟩
 | a :: l, r, h => by
  simp only [List.mapM_cons, Option.bind_eq_bind, Option.bind_eq_some_iff, Option.pure_def, Option.some.injEq] at h
  obtain ⟨y, hy, ys, hys, rfl⟩ := h
  obtain ⟨h1, h2⟩ := mapM_at hys
  refine ⟨by simp [h1], fun i u hu => ?_⟩
  cases i with
  | zero => exact ⟨a, rfl, by simpa using (by simpa using hu : y = u) ▸ hy⟩
  | succ i => exact h2 i u (by simpa using hu)
theorem cells_get {a : Addr} {n : Nat} {cs : List Value} (h : w.cells? base a n = some cs) : cs.length = n ∧ ∀ i u, cs[i]? = some u → w.cell? (a.add i) = some u := by
 unfold World.cells? at h
 split at h
 ·obtain ⟨h1, h2⟩ := mapM_at h
  refine ⟨by simpa using h1, fun i u hu => ?_⟩
  obtain ⟨x, hx, hf⟩ := h2 i u hu
  have : i = x := by
   rw [List.getElem?_range (by have := (List.getElem?_eq_some_iff.1 hx).1; simpa using this)] at hx
   simpa using hx
  rw [this]; exact hf
 ·cases h
theorem trod_row_open {α : Type} (k : Kd α) (good : α → Prop) {t e : TypeId} (ht : P.underlying t = some (.slice e)) (hs : P.cellsOf e = k.sz)
  (hopen : ∀ fuel cs y, DataW.trod enc P w base spare held fuel e cs = some y → ∃ x, k.K w x cs ∧ good x) {fuel : Nat} {cs : List Value} {x : DataW H × List MemPlace} (h : DataW.trod enc P w base spare held fuel t cs = some x) :
  ∃ (A : Option Addr) (l : List α) (c : Nat), cs = [.slice A l.length c] ∧ l.length ≤ c ∧ Kd.C k w A l.length l ∧ ∀ y ∈ l, good y := by
 rcases DataW.trod_slice ht h with ⟨rfl, _⟩ | ⟨a, len, cap, elems, rest, n, _, rfl, _, hb, hl', hm, hlen, hel, _, _⟩
 ·exact ⟨none, [], 0, rfl, Nat.le_refl _, Kd.C_nil k w, fun y hy => by cases hy⟩
 ·have each : ∀ i, i < len → ∃ (x : α) (c : List Value), c.length = k.sz ∧ k.K w x c ∧ good x ∧ ∀ j u, c[j]? = some u → w.cell? (a.add (i * k.sz + j)) = some u := by
   intro i hi
   have h1 := hel i hi
   rw [List.getElem?_eq_getElem (by omega)] at h1
   obtain ⟨c, hc, ht2⟩ := Option.bind_eq_some_iff.mp h1
   obtain ⟨x, hK, hg⟩ := hopen _ _ _ ht2
   obtain ⟨hcl, hcell⟩ := cells_get hc
   refine ⟨x, c, by rw [hcl, hs], hK, hg, fun j u hu => ?_⟩
   have := hcell j u hu
   rw [hs] at this
   rw [← this]
   rw [Addr.add_add]
  obtain ⟨l, hl, hgood⟩ : ∃ l : List α, l.length = len ∧ ∀ i x, l[i]? = some x → ∃ c : List Value, c.length = k.sz ∧ k.K w x c ∧ good x ∧ ∀ j u, c[j]? = some u → w.cell? (a.add (i * k.sz + j)) = some u := by
   refine ⟨List.ofFn fun i : Fin len => (each i.1 i.2).choose, by simp, fun i x hx => ?_⟩
   rw [List.getElem?_ofFn] at hx
   split at hx
   ·rename_i hi
    obtain rfl := Option.some.inj hx
    exact (each i hi).choose_spec
   ·cases hx
  subst hl
  exact ⟨some a, l, cap, rfl, hl', ⟨rfl, by simp only [maxLen] at hm; omega, fun _ => ⟨a, rfl, fun j p hj => by
   obtain ⟨c, h1, h2, _, h3⟩ := hgood j p hj
   exact ⟨c, h1, h2, h3⟩⟩⟩, fun y hy => by
   obtain ⟨i, hi, rfl⟩ := List.getElem_of_mem hy
   obtain ⟨_, _, _, h3, _⟩ := hgood i _ (List.getElem?_eq_getElem hi)
   exact h3⟩
theorem one_cell {cs : Array Value} {n : Nat} {x : Value} (hs : cs.size = 1) (hc : n = 1) (h : (cs.toList.drop 0).take n = [x]) : cs = #[x] := by
 obtain ⟨l⟩ := cs
 match l, hs with
 | [c], _ =>
  rw [hc] at h
  simp at h
  rw [h]
end
end Go.Proofs.YtpfaohdpnegjnaaDoorW.PrintWords
end
