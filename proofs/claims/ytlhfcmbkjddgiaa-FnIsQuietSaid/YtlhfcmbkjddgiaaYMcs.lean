/- One part of the proofs on this program: functions of the program as plain functions, that the code comes to them, and facts on them. -/
import Derived.Test.YtlhfcmbkjddgiaaYAll1
import Derived.Test.YtlhfcmbkjddgiaaYAll2
import Derived.Test.YtlhfcmbkjddgiaaYAll3
import Derived.Test.YtlhfcmbkjddgiaaYAll4
import Derived.Test.YtlhfcmbkjddgiaaYAll5
import Derived.Test.YtlhfcmbkjddgiaaYMia
import Derived.Test.YtlhfcmbkjddgiaaYMib
import Derived.Test.YtlhfcmbkjddgiaaYMri
import Derived.Test.YtlhfcmbkjddgiaaYMxv
section
set_option linter.unusedSimpArgs false
set_option linter.unusedVariables false
namespace Go.Proofs.Ytlhfcmbkjddgiaa.Pure
open Go Go.RowKit Go.Proofs.Ytlhfcmbkjddgiaa.P Go.Proofs.YtlhfcmbkjddgiaaW.PrintWords
set_option linter.unusedVariables false
def clF (t : List Cl) (l : List Ex) (a : Bool) (b c : Int) : MSt := l.reverse.foldl (stT (isAB t)) (st0 a b c)
theorem Ev.allL {α : Type} {P : α → Nat → Prop} : ∀ (l : List α), (∀ x ∈ l, ∃ K, ∀ k, K ≤ k → P x k) → ∃ K, ∀ k, K ≤ k → ∀ x ∈ l, P x k
 | [],_=>⟨0,fun _ _ _ h=>by cases h⟩
 | y :: l,h=>by
  obtain ⟨K1,h1⟩:=h y List.mem_cons_self
  obtain ⟨K2,h2⟩:=Ev.allL l (fun x hx=>h x (List.mem_cons_of_mem _ hx))
  refine ⟨max K1 K2,fun k hk x hx=>?_⟩
  rcases List.mem_cons.1 hx with rfl | hx
  ·exact h1 k (by omega)
  ·exact h2 k (by omega) x hx
theorem exsB_in2 {t : List Cl} {l : List Ex} (h : exsB t l = true) : (∀ x ∈ l, exB t x = true) ∧ jed t = true ∧ l.length ≤ 8 := by
 unfold exsB at h
 simp only [Bool.and_eq_true,List.all_eq_true,decide_eq_true_eq] at h
 exact h
theorem exB3 {t : List Cl} {x : Ex} (h : exB t x = true) (h3 : x.f0 = 3) : 0 ≤ x.f1 ∧ x.f1 < (t.length : Int) := by
 unfold exB at h
 rw [if_neg (by omega),if_neg (by omega),if_pos h3] at h
 simp only [Bool.and_eq_true] at h
 exact hasC.mp h.1
theorem exB_kind2 {t : List Cl} {x : Ex} (h : exB t x = true) : x.f0 = 0 ∨ x.f0 = 1 ∨ x.f0 = 2 ∨ x.f0 = 3 := by
 unfold exB at h
 by_cases h0:x.f0=0∨x.f0=1
 ·rcases h0 with h0 | h0
  ·exact .inl h0
  ·exact .inr (.inl h0)
 ·rw [if_neg h0] at h
  by_cases h2:x.f0=2
  ·exact .inr (.inr (.inl h2))
  ·rw [if_neg h2] at h
   by_cases h3:x.f0=3
   ·exact .inr (.inr (.inr h3))
   ·rw [if_neg h3] at h;cases h
theorem okX_ev {t : List Cl} (ht : t.length ≤ 1048576) (hv : jed t = true) {x : Ex} (hx : exB t x = true) : ∃ K, ∀ k, K ≤ k → okX k t x = true ∧ (x.f0 = 2 → ∀ a : Nat, a < t.length → isT k t (a : Int) x.f1 = isAB t (a : Int) x.f1) := by
 by_cases h2:x.f0=2
 ·obtain ⟨K,h⟩:=Ev.allL (P:=fun (a:Nat) k=>jSa.f k t (a:Int) x.f1=some (isAB t (a:Int) x.f1)) (List.range t.length) (fun a ha=>ev_iIs ht hv (by have:=List.mem_range.1 ha;omega) (by omega) x.f1)
  refine ⟨K,fun k hk=>⟨?_,fun _ a ha=>?_⟩⟩
  ·unfold okX
   rw [if_pos h2,List.all_eq_true]
   intro a ha
   rw [h k hk a ha];rfl
  ·unfold isT
   rw [h k hk a (List.mem_range.2 ha)];rfl
 ·refine ⟨0,fun k _=>⟨?_,fun e=>absurd e h2⟩⟩
  unfold okX
  rw [if_neg h2]
  by_cases h3:x.f0=3
  ·rw [if_pos h3]
   have:=exB3 hx h3
   simp [this]
  ·rw [if_neg h3]
theorem stT_goodG {q : Int → Int → Bool} {n m : Nat} {s : MSt} {x : Ex} (h : gS n m s) (hx : x.f0 = 3 → 0 ≤ x.f1 ∧ x.f1 < (n : Int)) : gS n (m + 1) (stT q s x) := by
 obtain ⟨h1,h2,h3,h4,h5⟩:=h
 unfold stT
 by_cases k0:x.f0=0
 ·rw [if_pos k0];exact ⟨h1,h2,h3,by simp;omega,by simp;omega⟩
 ·rw [if_neg k0]
  by_cases k1:x.f0=1
  ·rw [if_pos k1]
   refine ⟨h1,h2,h3,?_,by simp;omega⟩
   show (if 0≤s.2.2 then s.1 ++ [x.f1] else s.1).length≤m+1
   split
   ·rw [List.length_append,List.length_singleton];omega
   ·omega
  ·rw [if_neg k1]
   by_cases k2:x.f0=2
   ·rw [if_pos k2]
    refine ⟨h1,?_,?_,by simp;omega,by simp;omega⟩
    ·show -1≤(if _ then (-1:Int) else s.2.2)
     split <;> omega
    ·show (if _ then (-1:Int) else s.2.2)<(s.2.1.length:Int)
     split <;> omega
   ·rw [if_neg k2]
    by_cases k3:x.f0=3
    ·rw [if_pos k3]
     obtain ⟨c1,c2⟩:=hx k3
     refine ⟨gH_app h1 h2 h3 c1 c2,?_,?_,by simp;omega,by simp;omega⟩
     ·show -1≤(s.2.1.length:Int);omega
     ·show (s.2.1.length:Int)<((s.2.1 ++ [_]).length:Int);simp;omega
    ·rw [if_neg k3];exact ⟨h1,h2,h3,by omega,by omega⟩
theorem foldl_good {t : List Cl} {q : Int → Int → Bool} : ∀ (l : List Ex) (m : Nat) (s : MSt), gS t.length m s → (∀ x ∈ l, exB t x = true) → gS t.length (m + l.length) (l.foldl (stT q) s)
 | [],m,s,h,_=>h
 | x :: l,m,s,h,hx=>by
  rw [List.foldl_cons,List.length_cons,show m+(l.length+1)=m+1+l.length by omega]
  exact foldl_good l (m+1) _ (stT_goodG h (exB3 (hx x List.mem_cons_self))) (fun y hy=>hx y (List.mem_cons_of_mem _ hy))
theorem stT_isA {k : Nat} {t : List Cl} {m : Nat} {s : MSt} {x : Ex} (h : gS t.length m s) (hx : x.f0 = 2 → ∀ a : Nat, a < t.length → isT k t (a : Int) x.f1 = isAB t (a : Int) x.f1) : stT (isT k t) s x = stT (isAB t) s x := by
 unfold stT
 by_cases k2:x.f0=2
 ·have e:(decide (0≤s.2.2) && isT k t (jA s.2.1 s.2.2).f0 x.f1)=(decide (0≤s.2.2) && isAB t (jA s.2.1 s.2.2).f0 x.f1):=by
   by_cases h0:0≤s.2.2
   ·obtain ⟨i,hi⟩:∃ i:Nat,s.2.2=(i:Int):=⟨s.2.2.toNat,by omega⟩
    have h3:=h.hi
    obtain ⟨_,_,g2,g3⟩:=h.g i (by omega)
    have:=hx k2 ((jA s.2.1 (i:Int)).f0).toNat (by omega)
    rw [show (((jA s.2.1 (i:Int)).f0).toNat:Int)=(jA s.2.1 (i:Int)).f0 by omega] at this
    rw [hi,this]
   ·rw [decide_eq_false h0,Bool.false_and,Bool.false_and]
  rw [e]
 ·simp only [if_neg k2]
theorem foldl_isA {k : Nat} {t : List Cl} : ∀ (l : List Ex) (m : Nat) (s : MSt), gS t.length m s → (∀ x ∈ l, exB t x = true) → (∀ x ∈ l, x.f0 = 2 → ∀ a : Nat, a < t.length → isT k t (a : Int) x.f1 = isAB t (a : Int) x.f1) → l.foldl (stT (isT k t)) s = l.foldl (stT (isAB t)) s
 | [],m,s,h,_,_=>rfl
 | x :: l,m,s,h,hx,hq=>by
  rw [List.foldl_cons,List.foldl_cons,stT_isA h (hq x List.mem_cons_self)]
  exact foldl_isA l (m+1) _ (stT_goodG h (exB3 (hx x List.mem_cons_self))) (fun y hy=>hx y (List.mem_cons_of_mem _ hy)) (fun y hy=>hq y (List.mem_cons_of_mem _ hy))
theorem st0_goodB {t : List Cl} {a : Bool} {b c : Int} (h : a = true → hasB t b = true) : gS t.length 0 (st0 a b c) := st0_good (fun e => hasC.mp (h e))
theorem clF_good {t : List Cl} {l : List Ex} {a : Bool} {b c : Int} (hl : ∀ x ∈ l, exB t x = true) (h : a = true → hasB t b = true) : gS t.length l.length (clF t l a b c) := by
 have:=foldl_good (q:=isAB t) l.reverse 0 _ (st0_goodB (c:=c) h) (fun x hx=>hl x (List.mem_reverse.1 hx))
 rw [List.length_reverse,Nat.zero_add] at this
 exact this
theorem ev_mclosed {t : List Cl} (ht : TS t) {l : List Ex} (hl : exsB t l = true) {a : Bool} {b : Int} (h : a = true → hasB t b = true) (c : Int) : Ev (fun k => jHa.f k t l a b c) (clF t l a b c) := by
 obtain ⟨e1,e2,e3⟩:=exsB_in2 hl
 obtain ⟨K,hK⟩:=Ev.allL (P:=fun x k=>okX k t x=true∧(x.f0=2→∀ a:Nat,a<t.length→isT k t (a:Int) x.f1=isAB t (a:Int) x.f1)) l (fun x hx=>okX_ev ht.1 e2 (e1 x hx))
 refine ⟨max K 100,fun k hk=>?_⟩
 have h1:=hK k (by omega)
 show jHa.f k t l a b c=some (clF t l a b c)
 unfold jHa.f clF
 have hG:mcG k t l a b=true:=by
  unfold mcG
  simp only [Bool.and_eq_true,decide_eq_true_eq,List.all_eq_true]
  refine ⟨by omega,by omega,?_,fun x hx=>(h1 x hx).1⟩
  cases a with
  | false=>rfl
  | true =>
   have:=hasC.mp (h rfl)
   simp [this]
 rw [if_pos hG,foldl_isA l.reverse 0 _ (st0_goodB (c:=c) h) (fun x hx=>e1 x (List.mem_reverse.1 hx)) (fun x hx=>(h1 x (List.mem_reverse.1 hx)).2)]
theorem sAdded (H : List Ft) (hl : H.length ≤ 1000000) (cl cd : Int) : jpc.f H cl cd = some (H ++ [⟨cl, cd, -1, -1, false⟩]) := by
 unfold jpc.f jpb.f
 simp only [Option.bind_some,List.nil_append,List.length_nil]
 rw [if_pos (by omega)]
 simp only [Option.bind_some]
 rw [if_pos (by omega)]
theorem ev_sRaised_l0 {n : Nat} {H : List Ft} (hg : gH n H) (hl : H.length ≤ 1000000) (cl cd f : Int) : ∀ (m : Nat) (x : Int), 0 ≤ x → x < (m : Int) → m ≤ H.length → Ev (fun k => jwa.l0 k (H.length : Int) f x (H ++ [⟨cl, cd, -1, -1, false⟩])) (H ++ [⟨cl, cd, -1, f, false⟩])
 | 0,x,h0,h1,h2=>by omega
 | m+1,x,h0,h1,h2=>by
  obtain ⟨i,rfl⟩:∃ i:Nat,x=(i:Int):=⟨x.toNat,by omega⟩
  have hi:i<H.length:=by omega
  obtain ⟨g0,g1,_,_⟩:=hg i hi
  have hL:(H ++ [(⟨cl,cd, -1, -1,false⟩:Ft)]).length=H.length+1:=by simp
  refine Ev.step (fun k=>by rw [jwa.l0]) ?_
  rw [mrd_app hi,hL]
  refine Ev.pos (by omega) (Ev.pos (by omega) ?_)
  by_cases hc:(jA H (i:Int)).f3≥0
  ·refine Ev.pos hc (Ev.neg (by omega) ?_)
   exact ev_sRaised_l0 hg hl cl cd f m _ hc (by omega) (by omega)
  ·refine Ev.neg hc (Ev.pos (by omega) (Ev.pos (by omega) ?_))
   rw [mR_set]
   exact Ev.now _
theorem ev_newFault {n : Nat} {H : List Ft} (hg : gH n H) (hl : H.length ≤ 1000000) (lg : List Int) {f : Int} (h0 : -1 ≤ f) (h1 : f < (H.length : Int)) (cl cd : Int) : Ev (fun k => jjb.f k lg H f cl cd) (lg, H ++ [⟨cl, cd, -1, f, false⟩], (H.length : Int)) := by
 unfold jjb.f
 rw [sAdded H hl]
 simp only [Option.bind_some]
 have hL:(H ++ [(⟨cl,cd, -1, -1,false⟩:Ft)]).length=H.length+1:=by simp
 have hw:wrap64 (((H ++ [(⟨cl,cd, -1, -1,false⟩:Ft)]).length:Int) - 1)=(H.length:Int):=by rw [hL,wr (by omega)];omega
 rw [hw]
 have hr:Ev (fun k=>jwa.f k (H ++ [(⟨cl,cd, -1, -1,false⟩:Ft)]) (H.length:Int) f) (H ++ [⟨cl,cd, -1,f,false⟩]):=by
  unfold jwa.f jpb.f
  simp only [Option.bind_some,List.nil_append,List.length_nil]
  rw [if_pos (by omega)]
  simp only [Option.bind_some]
  refine Ev.neg (by omega) ?_
  by_cases hf:f<0
  ·rw [decide_eq_true hf]
   refine Ev.step (fun k=>by rw [jwa.j0]) (Ev.pos rfl ?_)
   rw [show f = -1 by omega]
   exact Ev.now _
  ·rw [decide_eq_false hf]
   refine Ev.step (fun k=>by rw [jwa.j0]) (Ev.neg (by simp) ?_)
   exact ev_sRaised_l0 hg hl cl cd f H.length f (by omega) h1 (Nat.le_refl _)
 exact Ev.bind hr (Ev.now _)
theorem ev_scStep {t : List Cl} (ht : TS t) (hv : jed t = true) {m : Nat} {s : MSt} {x : Ex} (h : gS t.length m s) (hm : m ≤ 1000) (hx : exB t x = true) : Ev (fun k => scStep k t s x) (stT (isAB t) s x) := by
 obtain ⟨h1,h2,h3,h4,h5⟩:=h
 obtain ⟨lg,H,f⟩:=s
 simp only at h1 h2 h3 h4 h5
 unfold scStep
 have hk:=exB_kind2 hx
 by_cases k01:x.f0=0∨(x.f0=1∧0≤f)
 ·refine Ev.pos k01 (Ev.pos (by simp only;omega) ?_)
  have e:stT (isAB t) (lg,H,f) x=(lg ++ [x.f1],H,f):=by
   unfold stT
   rcases k01 with k0 | ⟨k1,k2⟩
   ·rw [if_pos k0]
   ·rw [if_neg (by omega),if_pos k1];simp only;rw [if_pos k2]
  rw [e]
  exact Ev.now _
 ·refine Ev.neg k01 ?_
  by_cases k2:x.f0=2∧0≤f
  ·obtain ⟨k2,hf⟩:=k2
   refine Ev.pos ⟨k2,hf⟩ (Ev.pos (by simp only;omega) ?_)
   obtain ⟨i,hi⟩:∃ i:Nat,f=(i:Int):=⟨f.toNat,by omega⟩
   obtain ⟨_,_,g2,g3⟩:=h1 i (by omega)
   rw [← hi] at g2 g3
   have e:stT (isAB t) (lg,H,f) x=(lg,H,if isAB t (jA H f).f0 x.f1=true then -1 else f):=by
    unfold stT
    rw [if_neg (by omega),if_neg (by omega),if_pos k2]
    simp only
    rw [decide_eq_true hf,Bool.true_and]
   rw [e]
   exact Ev.bind (ev_sIsA ht.1 hv (a:=(jA H f).f0) (by omega) (by omega) x.f1) (Ev.now _)
  ·refine Ev.neg k2 ?_
   by_cases k3:x.f0=3
   ·refine Ev.pos k3 ?_
    have e:stT (isAB t) (lg,H,f) x=(lg,H ++ [⟨x.f1,x.f2, -1,f,false⟩],(H.length:Int)):=by
     unfold stT
     rw [if_neg (by omega),if_neg (by omega),if_neg (by omega),if_pos k3]
    rw [e]
    exact ev_newFault h1 (by omega) lg h2 h3 _ _
   ·refine Ev.neg k3 ?_
    have e:stT (isAB t) (lg,H,f) x=(lg,H,f):=by
     unfold stT
     by_cases k1:x.f0=1
     ·rw [if_neg (by omega),if_pos k1];simp only;rw [if_neg (by omega)]
     ·have k22:x.f0=2:=by omega
      rw [if_neg (by omega),if_neg k1,if_pos k22]
      simp only
      rw [decide_eq_false (by omega),Bool.false_and,if_neg (by simp)]
    rw [e]
    exact Ev.now _
theorem ev_scGo {t : List Cl} (ht : TS t) (hv : jed t = true) {l : List Ex} (hx : ∀ x ∈ l, exB t x = true) : ∀ (i m : Nat) (s : MSt), i ≤ l.length → gS t.length m s → m + i ≤ 1000 → Ev (fun k => scGo k t l i s) ((l.take i).reverse.foldl (stT (isAB t)) s)
 | 0,m,s,hi,h,hm=>Ev.now _
 | i+1,m,s,hi,h,hm=>by
  have hlt:i<l.length:=by omega
  have hr:jJ l (i:Int)=l[i]:=by simp [jJ,List.getD_eq_getElem?_getD,hlt]
  rw [List.take_succ_eq_append_getElem hlt,List.reverse_append,List.reverse_cons,List.reverse_nil,List.nil_append,List.singleton_append,List.foldl_cons]
  simp only [scGo]
  rw [hr]
  exact Ev.bind (ev_scStep ht hv h (by omega) (hx _ (List.getElem_mem hlt))) (ev_scGo ht hv hx i (m+1) _ (by omega) (stT_goodG h (exB3 (hx _ (List.getElem_mem hlt)))) (by omega))
def noCa (H : List Ft) : Prop := ∀ x ∈ H, x.f2 = -1
theorem noCa_app {H : List Ft} (h : noCa H) {a b c : Int} {d : Bool} : noCa (H ++ [⟨a, b, -1, c, d⟩]) := by
 intro y hy
 rcases List.mem_append.1 hy with hy | hy
 ·exact h y hy
 ·obtain rfl:=List.mem_singleton.1 hy;rfl
theorem stT_noCa {q : Int → Int → Bool} {s : MSt} {x : Ex} (h : noCa s.2.1) : noCa (stT q s x).2.1 := by
 unfold stT
 repeat' split
 all_goals first | exact h | exact noCa_app h
theorem foldl_noCa {q : Int → Int → Bool} : ∀ (l : List Ex) (s : MSt), noCa s.2.1 → noCa (l.foldl (stT q) s).2.1
 | [],s,h=>h
 | x :: l,s,h=>by rw [List.foldl_cons];exact foldl_noCa l _ (stT_noCa h)
theorem st0_noCa (a : Bool) (b c : Int) : noCa (st0 a b c).2.1 := by
 unfold st0
 cases a with
 | true=>intro y hy;obtain rfl:=List.mem_singleton.1 hy;rfl
 | false=>intro y hy;cases hy
theorem LO_gH {n : Nat} {H : List Ft} (hg : gH n H) (hc : noCa H) : LO H := fun i hi => by
 obtain ⟨g0,g1,_,_⟩:=hg i hi
 have e:jA H (i:Int)=H[i]:=by simp [jA,List.getD_eq_getElem?_getD,hi]
 have hf:fca H i = -1:=by
  have:=hc H[i] (List.getElem_mem hi)
  rw [← e] at this
  exact this
 have hx:fcx H i=(jA H (i:Int)).f3:=rfl
 rw [hf,hx]
 omega
noncomputable def clE (s : MSt) : List Int × Int × Int × List Ft := if 0 ≤ s.2.2 then (s.1, 2, ixOf (rchL s.2.1 s.2.2.toNat) s.2.2, isoH s.2.1 (rchL s.2.1 s.2.2.toNat)) else (s.1, 0, 0, [])
theorem clE_two (s : MSt) : ((clE s).2.1 = 2) ↔ 0 ≤ s.2.2 := by
 unfold clE
 split
 ·exact ⟨fun _=>by assumption,fun _=>rfl⟩
 ·exact ⟨fun h=>absurd h (by simp),fun h=>by omega⟩
theorem ev_scEnd {n m : Nat} {s : MSt} (h : gS n m s) (hm : m ≤ 1000) (hc : noCa s.2.1) : Ev (fun k => scEnd k s) (clE s) := by
 obtain ⟨h1,h2,h3,h4,h5⟩:=h
 unfold scEnd clE
 by_cases hf:0≤s.2.2
 ·rw [if_pos hf]
  obtain ⟨i,hi⟩:∃ i:Nat,s.2.2=(i:Int):=⟨s.2.2.toNat,by omega⟩
  obtain ⟨e1,_⟩:=ev_isolated (LO_gH h1 hc) (by omega) (f:=i) (by omega)
  refine Ev.pos hf ?_
  rw [hi,Int.toNat_natCast]
  exact Ev.bind e1 (Ev.now _)
 ·rw [if_neg hf]
  exact Ev.neg hf (Ev.now _)
theorem ev_sclosed {t : List Cl} (ht : TS t) {l : List Ex} (hl : exsB t l = true) {a : Bool} {b : Int} (h : a = true → hasB t b = true) (c : Int) : Ev (fun k => jQb.f k t l a b c) (clE (clF t l a b c)) := by
 obtain ⟨e1,e2,e3⟩:=exsB_in2 hl
 have g0:=st0_goodB (c:=c) h
 unfold jQb.f
 have hs:Ev (fun k=>if a=true then jjb.f k [] [] (-1) b c else some ([],[], -1)) (st0 a b c):=by
  unfold st0
  cases a with
  | true =>
   rw [if_pos rfl]
   exact Ev.pos rfl (ev_newFault (gH_nil t.length) (by simp) [] (by omega) (by simp) b c)
  | false=>exact Ev.neg (by simp) (Ev.now _)
 refine Ev.bind hs (Ev.pos (by omega) ?_)
 have hg:=ev_scGo ht e2 e1 l.length 0 _ (Nat.le_refl _) g0 (by omega)
 rw [List.take_of_length_le (Nat.le_refl _)] at hg
 refine Ev.bind hg ?_
 exact ev_scEnd (clF_good (c:=c) e1 h) (by omega) (foldl_noCa _ _ (st0_noCa a b c))
end Go.Proofs.Ytlhfcmbkjddgiaa.Pure
end
