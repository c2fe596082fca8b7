/- One part of the proofs on this program: functions of the program as plain functions, that the code comes to them, and facts on them. -/
import Derived.Test.YtlhfcmbkjddgiaaYAll2
import Derived.Test.YtlhfcmbkjddgiaaYAll6
import Derived.Test.YtlhfcmbkjddgiaaYMt
section
set_option linter.unusedSimpArgs false
set_option linter.unusedVariables false
namespace Go.Proofs.Ytlhfcmbkjddgiaa.Pure
open Go Go.RowKit Go.Proofs.Ytlhfcmbkjddgiaa.P Go.Proofs.YtlhfcmbkjddgiaaW.PrintWords
set_option linter.unusedVariables false
theorem trN_par {t : List Cl} : ∀ (n i : Nat), t.length ≤ n + i → trN t n i = true → ∀ j, i ≤ j → j < t.length → parB t j = true
 | 0,i,h,_,j,h1,h2=>by omega
 | n+1,i,h,ht,j,h1,h2=>by
  rw [trN,if_pos (by omega)] at ht
  simp only [Bool.and_eq_true] at ht
  by_cases e:j=i
  ·rw [e];exact ht.1.2
  ·exact trN_par n (i+1) (by omega) ht.2 j (by omega) h2
theorem tree_par {t : List Cl} (h : treeB t = true) {i : Nat} (hi : i < t.length) : -1 ≤ cp t i ∧ cp t i < i := by
 have:=trN_par t.length 0 (by omega) h i (by omega) hi
 unfold parB at this
 split at this
 ·rename_i h0
  subst h0
  simp at this;omega
 ·have:=bw_iff.mp this;omega
def abN (t : List Cl) : Nat → Int → List Nat
 | 0,_=>[]
 | n+1,a=>if 0≤a then a.toNat :: abN t n (cp t a.toNat) else []
def above (t : List Cl) (a : Int) : List Nat := abN t (a + 1).toNat a
theorem abN_len (t : List Cl) : ∀ (n : Nat) (a : Int), (abN t n a).length ≤ n
 | 0,a=>by simp [abN]
 | n+1,a=>by
  rw [abN]
  split
  ·have:=abN_len t n (cp t a.toNat);simp only [List.length_cons];omega
  ·simp
theorem ev_hasInt (L : List Nat) (hl : L.length ≤ 1048576) (b : Int) : Ev (fun k => jKb.f k (ci L) b) (hasN b L) := by
 have:∀ (r:List Nat) (j:Nat),L.drop j=r→Ev (fun k=>jKb.l0 k (ci L) b j) (hasN b r):=by
  intro r
  induction r with
  | nil =>
   intro j h
   have:=ci_end h
   refine Ev.step (fun k=>by rw [jKb.l0]) ?_
   rw [jzb,hasN]
   exact Ev.neg (by omega) (Ev.now _)
  | cons a r ih =>
   intro j h
   obtain ⟨h1,h2,h3⟩:=ci_drop h
   refine Ev.step (fun k=>by rw [jKb.l0]) ?_
   rw [h2,wS (by omega),jzb,hasN]
   refine Ev.pos (by omega) (Ev.pos (by omega) ?_)
   by_cases hs:(a:Int)=b
   ·rw [if_pos hs];exact Ev.pos hs (Ev.now _)
   ·rw [if_neg hs];exact Ev.neg hs (ih (j+1) h3)
 exact this L 0 rfl
theorem ev_Index (L : List Nat) (hl : L.length ≤ 1048576) (b : Int) : ∃ r, Ev (fun k => jC.f k (ci L) b) r ∧ decide (r ≥ 0) = hasN b L := by
 have:∀ (r:List Nat) (j:Nat),L.drop j=r→∃ z,Ev (fun k=>jC.l0 k (ci L) b (L.length:Int) j) z∧decide (z≥0)=hasN b r:=by
  intro r
  induction r with
  | nil =>
   intro j h
   have:=ci_end h
   refine ⟨-1,?_,rfl⟩
   refine Ev.step (fun k=>by rw [jC.l0]) ?_
   exact Ev.neg (by omega) (Ev.now _)
  | cons a r ih =>
   intro j h
   obtain ⟨h1,h2,h3⟩:=ci_drop h
   by_cases hs:(a:Int)=b
   ·refine ⟨(j:Int),?_,by rw [hasN,if_pos hs];simp⟩
    refine Ev.step (fun k=>by rw [jC.l0]) ?_
    rw [h2,jzb]
    exact Ev.pos (by omega) (Ev.pos (by omega) (Ev.pos (by omega) (Ev.pos hs.symm (Ev.now _))))
   ·obtain ⟨z,z1,z2⟩:=ih (j+1) h3
    refine ⟨z,?_,by rw [hasN,if_neg hs];exact z2⟩
    refine Ev.step (fun k=>by rw [jC.l0]) ?_
    rw [h2,jzb,wS (by omega)]
    exact Ev.pos (by omega) (Ev.pos (by omega) (Ev.pos (by omega) (Ev.neg (fun h=>hs h.symm) z1)))
 unfold jC.f
 rw [jzb]
 exact this L 0 rfl
theorem ev_Contains (L : List Nat) (hl : L.length ≤ 1048576) (b : Int) : Ev (fun k => jS.f k (ci L) b) (hasN b L) := by
 obtain ⟨r,h1,h2⟩:=ev_Index L hl b
 unfold jS.f
 rw [← h2]
 exact Ev.bind h1 (Ev.now _)
theorem ev_iAbove_l0 {t : List Cl} (ht : t.length ≤ 1048576) (hv : treeB t = true) : ∀ (n : Nat) (a : Int) (x : List Nat), a < n → a < t.length → -1 ≤ a → x.length + n ≤ 2097152 → Ev (fun k => jaa.l0 k a (ci x) t) (ci (x ++ abN t n a))
 | 0,a,x,h,h1,h2,h3=>by
  refine Ev.step (fun k=>by rw [jaa.l0]) ?_
  rw [abN,List.append_nil]
  exact Ev.neg (by omega) (Ev.now _)
 | n+1,a,x,h,h1,h2,h3=>by
  refine Ev.step (fun k=>by rw [jaa.l0]) ?_
  rw [abN]
  by_cases h0:0≤a
  ·obtain ⟨m,rfl⟩:=Int.eq_ofNat_of_zero_le h0
   rw [if_pos h0,Int.toNat_natCast]
   simp only [c1,ci_snoc,jzb]
   have hp:=tree_par hv (i:=m) (by omega)
   have:=ev_iAbove_l0 ht hv n (cp t m) (x ++ [m]) (by omega) (by omega) (by omega) (by rw [List.length_append,List.length_singleton];omega)
   rw [List.append_assoc] at this
   exact Ev.pos h0 (Ev.pos (by omega) (Ev.pos (by omega) (Ev.pos (by omega) this)))
  ·rw [if_neg h0,List.append_nil]
   exact Ev.neg h0 (Ev.now _)
theorem ev_iAbove {t : List Cl} (ht : t.length ≤ 1048576) (hv : treeB t = true) {a : Int} (h1 : a < t.length) (h2 : -1 ≤ a) : Ev (fun k => jaa.f k t a) (ci (above t a)) := by
 unfold jaa.f
 exact Ev.pos (by omega) (Ev.pos (by omega) (ev_iAbove_l0 ht hv (a+1).toNat a [] (by omega) h1 h2 (by simp only [List.length_nil];omega)))
def isAB (t : List Cl) (a b : Int) : Bool := hasN b (above t a)
theorem above_len {t : List Cl} {a : Int} (ht : t.length ≤ 1048576) (h1 : a < t.length) : (above t a).length ≤ 1048576 := by have := abN_len t (a + 1).toNat a; unfold above; omega
theorem ev_iIs {t : List Cl} (ht : t.length ≤ 1048576) (hv : treeB t = true) {a : Int} (h1 : a < t.length) (h2 : -1 ≤ a) (b : Int) : Ev (fun k => jQa.f k t a b) (isAB t a b) := by
 unfold jQa.f
 exact Ev.bind (ev_iAbove ht hv h1 h2) (Ev.bind (ev_Contains _ (above_len ht h1) b) (Ev.now _))
end Go.Proofs.Ytlhfcmbkjddgiaa.Pure
end
