/- One part of the proofs on this program: functions of the program as plain functions, that the code comes to them, and facts on them. -/
import Derived.Test.YtlhfcmbkjddgiaaYAll2
import Derived.Test.YtlhfcmbkjddgiaaYAll3
import Derived.Test.YtlhfcmbkjddgiaaYAll6
import Derived.Test.YtlhfcmbkjddgiaaYMia
import Derived.Test.YtlhfcmbkjddgiaaYMib
import Derived.Test.YtlhfcmbkjddgiaaYMri
import Derived.Test.YtlhfcmbkjddgiaaYMxv
section
set_option linter.unusedSimpArgs false
set_option linter.unusedVariables false
namespace Go.Proofs.Ytlhfcmbkjddgiaa.Pure
open Go Go.RowKit Go.Proofs.Ytlhfcmbkjddgiaa.P Go.Proofs.YtlhfcmbkjddgiaaW.PrintWords
set_option linter.unusedVariables false
def clF (t : List Cl) (l : List Ex) (a : Bool) (b c : Int) : MSt := l.reverse.foldl (stT (isAB t)) (st0 a b c)
theorem Ev.allL {α : Type} {P : α → Nat → Prop} : ∀ (l : List α), (∀ x ∈ l, ∃ K, ∀ k, K ≤ k → P x k) → ∃ K, ∀ k, K ≤ k → ∀ x ∈ l, P x k
 | [],_=>⟨0,fun _ _ _ h=>by cases h⟩
 | y :: l,h=>by
  obtain ⟨K1,h1⟩:=h y List.mem_cons_self
  obtain ⟨K2,h2⟩:=Ev.allL l (fun x hx=>h x (List.mem_cons_of_mem _ hx))
  refine ⟨max K1 K2,fun k hk x hx=>?_⟩
  rcases List.mem_cons.1 hx with rfl | hx
  ·exact h1 k (by omega)
  ·exact h2 k (by omega) x hx
theorem exsB_in2 {t : List Cl} {l : List Ex} (h : exsB t l = true) : (∀ x ∈ l, exB t x = true) ∧ treeB t = true ∧ l.length ≤ 8 := by
 unfold exsB at h
 simp only [Bool.and_eq_true,List.all_eq_true,decide_eq_true_eq] at h
 exact h
theorem exB3 {t : List Cl} {x : Ex} (h : exB t x = true) (h3 : x.f0 = 3) : 0 ≤ x.f1 ∧ x.f1 < (t.length : Int) := by
 unfold exB at h
 rw [if_neg (by omega),if_neg (by omega),if_pos h3] at h
 simp only [Bool.and_eq_true] at h
 exact hasC.mp h.1
theorem okX_ev {t : List Cl} (ht : t.length ≤ 1048576) (hv : treeB t = true) {x : Ex} (hx : exB t x = true) : ∃ K, ∀ k, K ≤ k → okX k t x = true ∧ (x.f0 = 2 → ∀ a : Nat, a < t.length → isT k t (a : Int) x.f1 = isAB t (a : Int) x.f1) := by
 by_cases h2:x.f0=2
 ·obtain ⟨K,h⟩:=Ev.allL (P:=fun (a:Nat) k=>jQa.f k t (a:Int) x.f1=some (isAB t (a:Int) x.f1)) (List.range t.length) (fun a ha=>ev_iIs ht hv (by have:=List.mem_range.1 ha;omega) (by omega) x.f1)
  refine ⟨K,fun k hk=>⟨?_,fun _ a ha=>?_⟩⟩
  ·unfold okX
   rw [if_pos h2,List.all_eq_true]
   intro a ha
   rw [h k hk a ha];rfl
  ·unfold isT
   rw [h k hk a (List.mem_range.2 ha)];rfl
 ·refine ⟨0,fun k _=>⟨?_,fun e=>absurd e h2⟩⟩
  unfold okX
  rw [if_neg h2]
  by_cases h3:x.f0=3
  ·rw [if_pos h3]
   have:=exB3 hx h3
   simp [this]
  ·rw [if_neg h3]
theorem stT_goodG {q : Int → Int → Bool} {n m : Nat} {s : MSt} {x : Ex} (h : gS n m s) (hx : x.f0 = 3 → 0 ≤ x.f1 ∧ x.f1 < (n : Int)) : gS n (m + 1) (stT q s x) := by
 obtain ⟨h1,h2,h3,h4,h5⟩:=h
 unfold stT
 by_cases k0:x.f0=0
 ·rw [if_pos k0];exact ⟨h1,h2,h3,by simp;omega,by simp;omega⟩
 ·rw [if_neg k0]
  by_cases k1:x.f0=1
  ·rw [if_pos k1]
   refine ⟨h1,h2,h3,?_,by simp;omega⟩
   show (if 0≤s.2.2 then s.1 ++ [x.f1] else s.1).length≤m+1
   split
   ·rw [List.length_append,List.length_singleton];omega
   ·omega
  ·rw [if_neg k1]
   by_cases k2:x.f0=2
   ·rw [if_pos k2]
    refine ⟨h1,?_,?_,by simp;omega,by simp;omega⟩
    ·show -1≤(if _ then (-1:Int) else s.2.2)
     split <;> omega
    ·show (if _ then (-1:Int) else s.2.2)<(s.2.1.length:Int)
     split <;> omega
   ·rw [if_neg k2]
    by_cases k3:x.f0=3
    ·rw [if_pos k3]
     obtain ⟨c1,c2⟩:=hx k3
     refine ⟨gH_app h1 h2 h3 c1 c2,?_,?_,by simp;omega,by simp;omega⟩
     ·show -1≤(s.2.1.length:Int);omega
     ·show (s.2.1.length:Int)<((s.2.1 ++ [_]).length:Int);simp;omega
    ·rw [if_neg k3];exact ⟨h1,h2,h3,by omega,by omega⟩
theorem foldl_good {t : List Cl} {q : Int → Int → Bool} : ∀ (l : List Ex) (m : Nat) (s : MSt), gS t.length m s → (∀ x ∈ l, exB t x = true) → gS t.length (m + l.length) (l.foldl (stT q) s)
 | [],m,s,h,_=>h
 | x :: l,m,s,h,hx=>by
  rw [List.foldl_cons,List.length_cons,show m+(l.length+1)=m+1+l.length by omega]
  exact foldl_good l (m+1) _ (stT_goodG h (exB3 (hx x List.mem_cons_self))) (fun y hy=>hx y (List.mem_cons_of_mem _ hy))
theorem stT_isA {k : Nat} {t : List Cl} {m : Nat} {s : MSt} {x : Ex} (h : gS t.length m s) (hx : x.f0 = 2 → ∀ a : Nat, a < t.length → isT k t (a : Int) x.f1 = isAB t (a : Int) x.f1) : stT (isT k t) s x = stT (isAB t) s x := by
 unfold stT
 by_cases k2:x.f0=2
 ·have e:(decide (0≤s.2.2) && isT k t (jo s.2.1 s.2.2).f0 x.f1)=(decide (0≤s.2.2) && isAB t (jo s.2.1 s.2.2).f0 x.f1):=by
   by_cases h0:0≤s.2.2
   ·obtain ⟨i,hi⟩:∃ i:Nat,s.2.2=(i:Int):=⟨s.2.2.toNat,by omega⟩
    have h3:=h.hi
    obtain ⟨_,_,g2,g3⟩:=h.g i (by omega)
    have:=hx k2 ((jo s.2.1 (i:Int)).f0).toNat (by omega)
    rw [show (((jo s.2.1 (i:Int)).f0).toNat:Int)=(jo s.2.1 (i:Int)).f0 by omega] at this
    rw [hi,this]
   ·rw [decide_eq_false h0,Bool.false_and,Bool.false_and]
  rw [e]
 ·simp only [if_neg k2]
theorem foldl_isA {k : Nat} {t : List Cl} : ∀ (l : List Ex) (m : Nat) (s : MSt), gS t.length m s → (∀ x ∈ l, exB t x = true) → (∀ x ∈ l, x.f0 = 2 → ∀ a : Nat, a < t.length → isT k t (a : Int) x.f1 = isAB t (a : Int) x.f1) → l.foldl (stT (isT k t)) s = l.foldl (stT (isAB t)) s
 | [],m,s,h,_,_=>rfl
 | x :: l,m,s,h,hx,hq=>by
  rw [List.foldl_cons,List.foldl_cons,stT_isA h (hq x List.mem_cons_self)]
  exact foldl_isA l (m+1) _ (stT_goodG h (exB3 (hx x List.mem_cons_self))) (fun y hy=>hx y (List.mem_cons_of_mem _ hy)) (fun y hy=>hq y (List.mem_cons_of_mem _ hy))
theorem st0_goodB {t : List Cl} {a : Bool} {b c : Int} (h : a = true → hasB t b = true) : gS t.length 0 (st0 a b c) := st0_good (fun e => hasC.mp (h e))
theorem clF_good {t : List Cl} {l : List Ex} {a : Bool} {b c : Int} (hl : ∀ x ∈ l, exB t x = true) (h : a = true → hasB t b = true) : gS t.length l.length (clF t l a b c) := by
 have:=foldl_good (q:=isAB t) l.reverse 0 _ (st0_goodB (c:=c) h) (fun x hx=>hl x (List.mem_reverse.1 hx))
 rw [List.length_reverse,Nat.zero_add] at this
 exact this
theorem ev_mclosed {t : List Cl} (ht : TS t) {l : List Ex} (hl : exsB t l = true) {a : Bool} {b : Int} (h : a = true → hasB t b = true) (c : Int) : Ev (fun k => jWa.f k t l a b c) (clF t l a b c) := by
 obtain ⟨e1,e2,e3⟩:=exsB_in2 hl
 obtain ⟨K,hK⟩:=Ev.allL (P:=fun x k=>okX k t x=true∧(x.f0=2→∀ a:Nat,a<t.length→isT k t (a:Int) x.f1=isAB t (a:Int) x.f1)) l (fun x hx=>okX_ev ht.1 e2 (e1 x hx))
 refine ⟨max K 100,fun k hk=>?_⟩
 have h1:=hK k (by omega)
 show jWa.f k t l a b c=some (clF t l a b c)
 unfold jWa.f clF
 have hG:mcG k t l a b=true:=by
  unfold mcG
  simp only [Bool.and_eq_true,decide_eq_true_eq,List.all_eq_true]
  refine ⟨by omega,by omega,?_,fun x hx=>(h1 x hx).1⟩
  cases a with
  | false=>rfl
  | true =>
   have:=hasC.mp (h rfl)
   simp [this]
 rw [if_pos hG,foldl_isA l.reverse 0 _ (st0_goodB (c:=c) h) (fun x hx=>e1 x (List.mem_reverse.1 hx)) (fun x hx=>(h1 x (List.mem_reverse.1 hx)).2)]
def noCa (H : List Ft) : Prop := ∀ x ∈ H, x.f2 = -1
theorem noCa_app {H : List Ft} (h : noCa H) {a b c : Int} {d : Bool} : noCa (H ++ [⟨a, b, -1, c, d⟩]) := by
 intro y hy
 rcases List.mem_append.1 hy with hy | hy
 ·exact h y hy
 ·obtain rfl:=List.mem_singleton.1 hy;rfl
theorem stT_noCa {q : Int → Int → Bool} {s : MSt} {x : Ex} (h : noCa s.2.1) : noCa (stT q s x).2.1 := by
 unfold stT
 repeat' split
 all_goals first | exact h | exact noCa_app h
theorem foldl_noCa {q : Int → Int → Bool} : ∀ (l : List Ex) (s : MSt), noCa s.2.1 → noCa (l.foldl (stT q) s).2.1
 | [],s,h=>h
 | x :: l,s,h=>by rw [List.foldl_cons];exact foldl_noCa l _ (stT_noCa h)
theorem st0_noCa (a : Bool) (b c : Int) : noCa (st0 a b c).2.1 := by
 unfold st0
 cases a with
 | true=>intro y hy;obtain rfl:=List.mem_singleton.1 hy;rfl
 | false=>intro y hy;cases hy
theorem LO_gH {n : Nat} {H : List Ft} (hg : gH n H) (hc : noCa H) : LO H := fun i hi => by
 obtain ⟨g0,g1,_,_⟩:=hg i hi
 have e:jo H (i:Int)=H[i]:=by simp [jo,List.getD_eq_getElem?_getD,hi]
 have hf:fca H i = -1:=by
  have:=hc H[i] (List.getElem_mem hi)
  rw [← e] at this
  exact this
 have hx:fcx H i=(jo H (i:Int)).f3:=rfl
 rw [hf,hx]
 omega
noncomputable def clE (s : MSt) : List Int × Int × Int × List Ft := if 0 ≤ s.2.2 then (s.1, 2, ixOf (rchL s.2.1 s.2.2.toNat) s.2.2, isoH s.2.1 (rchL s.2.1 s.2.2.toNat)) else (s.1, 0, 0, [])
end Go.Proofs.Ytlhfcmbkjddgiaa.Pure
end
