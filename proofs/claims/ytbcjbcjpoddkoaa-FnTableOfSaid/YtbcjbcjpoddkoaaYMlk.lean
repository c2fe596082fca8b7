/- One part of the proofs on this program: functions of the program as plain functions, that the code comes to them, and facts on them. -/
import Derived.Test.YtbcjbcjpoddkoaaYAll5
import Derived.Test.YtbcjbcjpoddkoaaYMia
import Derived.Test.YtbcjbcjpoddkoaaYMrk
section
set_option linter.unusedSimpArgs false
set_option linter.unusedVariables false
namespace Go.Proofs.Ytbcjbcjpoddkoaa.Pure
open Go Go.RowKit Go.Proofs.Ytbcjbcjpoddkoaa.P Go.Proofs.YtbcjbcjpoddkoaaW.PrintWords
set_option linter.unusedVariables false
def rokB (t : List Cl) (x : Rk) : Bool := bw x.f0 0 24 && (bw x.f1 x.f0 24 && (bw x.f2 0 23 && hasB t x.f3))
def hitB (t : List Cl) (i a : Int) (x : Rk) : Bool := decide (x.f0 ≤ i) && (decide (i < x.f1) && isAB t a x.f3)
def lkF (t : List Cl) (i a : Int) : List Rk → Int
 | []=>-1
 | x :: r=>if hitB t i a x=true then x.f2 else lkF t i a r
def lkB (t : List Cl) (l : List Rk) (i a : Int) : Int := if (jPc t = true ∧ hasB t a = true) ∧ l.length ≤ 24 ∧ l.all (rokB t) = true then lkF t i a l else -1
theorem ev_at {t : List Cl} (ht : TS t) (hv : jPc t = true) {i a : Int} (ha : hasB t a = true) (x : Rk) : Ev (fun k => jO.at k t i a x) (if rokB t x = true then some (hitB t i a x) else none) := by
 have hA:=hasC.mp ha
 unfold jO.at
 simp only [iW,iHas ht.1,Option.bind_some,rokB,hitB,Bool.and_eq_true]
 cases bw x.f0 0 24 with
 | false=>exact Ev.neg (by simp) (by simpa using Ev.now (none:Option Bool))
 | true =>
 refine Ev.pos rfl ?_
 cases bw x.f1 x.f0 24 with
 | false=>exact Ev.neg (by simp) (by simpa using Ev.now (none:Option Bool))
 | true =>
 refine Ev.pos rfl ?_
 cases bw x.f2 0 23 with
 | false=>exact Ev.neg (by simp) (by simpa using Ev.now (none:Option Bool))
 | true =>
 refine Ev.pos rfl ?_
 cases hasB t x.f3 with
 | false=>exact Ev.neg (by simp) (by simpa using Ev.now (none:Option Bool))
 | true =>
 refine Ev.pos rfl ?_
 simp only [and_self,if_true]
 refine Ev.both (fun h1=>?_) (fun h1=>by simpa [h1] using Ev.now (some false))
 refine Ev.both (fun h2=>?_) (fun h2=>by simpa [h1,h2] using Ev.now (some false))
 simp only [h1,h2,decide_true,Bool.true_and]
 obtain ⟨K,hK⟩:=ev_iIs ht.1 hv (a:=a) hA.2 (by omega) x.f3
 exact ⟨K,fun k hk=>by have:=hK k hk;simp only [] at this ⊢;rw [this];rfl⟩
theorem ev_list {α β : Type} {f : Nat → α → Option β} {g : α → β} : ∀ (l : List α), (∀ x ∈ l, Ev (fun k => f k x) (g x)) → ∃ K, ∀ k, K ≤ k → ∀ x ∈ l, f k x = some (g x)
 | [],_=>⟨0,fun _ _ x hx=>by cases hx⟩
 | y :: l,h=>by
  obtain ⟨K,hK⟩:=ev_list l fun x hx=>h x (List.mem_cons_of_mem _ hx)
  obtain ⟨K2,hK2⟩:=h y List.mem_cons_self
  refine ⟨max K K2,fun k hk x hx=>?_⟩
  rcases List.mem_cons.mp hx with rfl | hx
  ·exact hK2 k (by omega)
  ·exact hK k (by omega) x hx
theorem st_eq {k : Nat} {t : List Cl} {i a : Int} : ∀ (l : List Rk), (∀ x ∈ l, jO.at k t i a x = some (some (hitB t i a x))) → jO.st k t i a l.reverse = some (lkF t i a l)
 | [],_=>rfl
 | x :: l,h=>by
  have ih:=st_eq l fun y hy=>h y (List.mem_cons_of_mem _ hy)
  unfold jO.st at ih ⊢
  rw [List.reverse_cons,List.foldl_append,ih,List.foldl_cons,List.foldl_nil,jO.step,Option.bind_some,h x List.mem_cons_self,lkF]
theorem st_none {k : Nat} {t : List Cl} {i a : Int} : ∀ (l : List Rk), (∃ x ∈ l, jO.at k t i a x = some none) → jO.st k t i a l.reverse = none
 | [],h=>by obtain ⟨x,hx,_⟩:=h;cases hx
 | x :: l,h=>by
  unfold jO.st
  rw [List.reverse_cons,List.foldl_append,List.foldl_cons,List.foldl_nil,jO.step]
  obtain ⟨y,hy,e⟩:=h
  rcases List.mem_cons.mp hy with rfl | hy
  ·rw [e]
   cases List.foldl (jO.step k t i a) (some (-1)) l.reverse <;> rfl
  ·have ih:=st_none l ⟨y,hy,e⟩
   unfold jO.st at ih
   rw [ih];rfl
theorem ev_LookUp {t : List Cl} (ht : TS t) (l : List Rk) (i a : Int) : Ev (fun k => jO.f k t l i a) (lkB t l i a) := by
 unfold jO.f lkB
 refine Ev.bind (ev_classesIn ht a) ?_
 by_cases hv:jPc t=true∧hasB t a=true
 ·refine Ev.pos (by simp [hv]) (Ev.both (fun h=>?_) (fun h=>?_))
  ·rw [if_neg (by omega)];exact Ev.now _
  ·have h24:l.length≤24:=by omega
   obtain ⟨K,hK⟩:=ev_list (f:=fun k x=>jO.at k t i a x) l fun x _=>ev_at ht hv.1 (i:=i) hv.2 x
   refine ⟨K,fun k hk=>?_⟩
   have hk:=hK k hk
   have hs:l.all (fun x=>(jO.at k t i a x).isSome)=true:=by
    rw [List.all_eq_true];intro x hx;rw [hk x hx];rfl
   simp only [hs,if_true]
   by_cases hall:l.all (rokB t)=true
   ·rw [if_pos ⟨hv,h24,hall⟩,st_eq l fun x hx=>by rw [hk x hx,if_pos (List.all_eq_true.mp hall x hx)]];rfl
   ·rw [if_neg (fun h=>hall h.2.2)]
    obtain ⟨x,hx,hn⟩:∃ x ∈ l,¬ rokB t x=true:=by
     simpa [List.all_eq_true] using hall
    rw [st_none l ⟨x,hx,by rw [hk x hx,if_neg hn]⟩];rfl
 ·rw [if_neg (fun h=>hv h.1)]
  exact Ev.neg (by simpa using hv) (Ev.now _)
end Go.Proofs.Ytbcjbcjpoddkoaa.Pure
end
