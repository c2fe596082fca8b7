/- One part of the proofs on this program: functions of the program as plain functions, that the code comes to them, and facts on them. -/
import Derived.Test.YtpfaohdpnegjnaaDoorYWApart
import Derived.Test.YtpfaohdpnegjnaaDoorYWLast
import Derived.Test.YtpfaohdpnegjnaaDoorYWWords
section
namespace Go.Proofs.YtpfaohdpnegjnaaDoorW.PrintWords
open Go.RowKit
section
variable {P : Program}
theorem cut_clip (t e : TypeId) {i : TypeInfo} (ht : P.underlying t = some (.slice e)) (hi : P.info? e = some i) (A : Option Addr) (n c m : Nat) (hc : n ≤ c) (hm : m = n) :
  ∀ W : World, (Instr.slice t (.slice A n c) none (some (.int .i64 (n : Int))) (some (.int .i64 (n : Int)))).run P W = .ok (.slice A m m) W := by
 intro W
 subst hm
 have hel : P.elem t = e := by simp [Program.elem, ht]
 have hu : P.underlying t = some (.slice (P.elem t)) := by rw [hel]; exact ht
 have ha : (A.map fun x => x.add 0) = A := by cases A <;> simp [Addr.add]
 rw [run_slice_hm W t A m c hu .i64 .i64 m m (by omega) (by omega) (by omega), hel]
 simp [sizeOf, typeInfo, hi, sliced, Result.andThen, ha]
end
namespace Kd
section
variable {α : Type} {d : Kd α} {e n c : Nat} {w : World} {base : Nat} {ok : Nat → Prop} {A : Option Addr} {xs ys : List α}
theorem R_clip (h : d.R e w base ok (.slice A n c) xs) (hy : ys = xs) : d.R e w base ok (.slice A ys.length ys.length) ys := by
 subst hy
 obtain ⟨h0, inner, ho, hr⟩ := h
 have hn : n = ys.length := by
  obtain ⟨A', c', he⟩ := own_slice ho
  injection he
 subst hn
 have hb : ∀ x y : Nat, (Value.slice A ys.length x).ownBlock = (Value.slice A ys.length y).ownBlock := by
  intro x y
  cases A <;> rfl
 refine ⟨fun k hk => h0 k (by rw [hb _ ys.length]; exact hk), inner, ?_, ?_⟩
 ·rcases ho.2 with ⟨he, h1⟩ | ⟨g, cap, cur, he, _, _, hnc, _⟩
  ·injection he with _ _ hcc
   exact World.jV.clip ho (Nat.le_refl _) (by omega)
  ·injection he with _ _ hcc
   exact World.jV.clip ho (Nat.le_refl _) (by omega)
 ·rw [hb ys.length c]
  exact hr
theorem S_clip (h : S d e w base ok (.slice A n c) xs) (hy : ys = xs) : S d e w base ok (.slice A ys.length ys.length) ys := by
 subst hy
 obtain ⟨f, h⟩ := h
 refine ⟨f, ?_⟩
 have h2 := R_clip h rfl
 rw [List.length_zipIdx] at h2
 exact h2
end
end Kd
end Go.Proofs.YtpfaohdpnegjnaaDoorW.PrintWords
end
