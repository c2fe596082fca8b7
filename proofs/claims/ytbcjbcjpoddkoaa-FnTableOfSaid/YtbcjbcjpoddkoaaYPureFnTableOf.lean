/- One part of the proofs on this program: functions of the program as plain functions, that the code comes to them, and facts on them. -/
import Derived.Test.YtbcjbcjpoddkoaaYAll5
import Derived.Test.YtbcjbcjpoddkoaaYMeqr
import Derived.Test.YtbcjbcjpoddkoaaYMib
import Derived.Test.YtbcjbcjpoddkoaaYMlk
import Derived.Test.YtbcjbcjpoddkoaaYMs
import Derived.Test.YtbcjbcjpoddkoaaYMtb3
import Derived.Test.YtbcjbcjpoddkoaaYMw2
section
set_option linter.unusedSimpArgs false
set_option linter.unusedVariables false
namespace Go.Proofs.Ytbcjbcjpoddkoaa.Pure
open Go Go.RowKit Go.Proofs.Ytbcjbcjpoddkoaa.P Go.Proofs.YtbcjbcjpoddkoaaW.PrintWords
set_option linter.unusedVariables false
theorem few_ne (n : Int) : ∀ l : List Int, l.Pairwise (· ≠ ·) → l.length ≤ (l.filter (fun x => decide (x ≠ n))).length + 1
 | [],_=>by simp
 | x :: l,h=>by
  rw [List.pairwise_cons] at h
  have ih:=few_ne n l h.2
  by_cases e:x=n
  ·have:l.filter (fun x=>decide (x≠n))=l:=by
    rw [List.filter_eq_self]
    intro y hy
    have:=h.1 y hy
    simpa using fun h2=>this (by rw [e,h2])
   rw [List.filter_cons,if_neg (by simp [e]),this]
   simp
  ·rw [List.filter_cons,if_pos (by simpa using e)]
   simp only [List.length_cons]
   omega
theorem nodup_len : ∀ (n : Nat) (l : List Int), l.Pairwise (· ≠ ·) → (∀ x ∈ l, 0 ≤ x ∧ x < (n : Int)) → l.length ≤ n
 | 0,[],_,_=>Nat.le_refl _
 | 0,x :: l,_,h=>by have:=h x List.mem_cons_self;omega
 | n+1,l,hp,h=>by
  have h1:=few_ne (n:Int) l hp
  have h2:=nodup_len n (l.filter (fun x=>decide (x≠(n:Int)))) (hp.filter _) (fun x hx=>by
   rw [List.mem_filter] at hx
   have a:=h x hx.1
   have b:x≠(n:Int):=by simpa using hx.2
   omega)
  omega
def Tne (x y : Rg) : Prop := x.f2 ≠ y.f2
theorem tb_ne {t : List Cl} {p : List Ln} (hv : jPb t p) : ∀ n, n ≤ p.length → (tbN p n).Pairwise Tne
 | 0,_=>List.Pairwise.nil
 | n+1,hn=>by
  rw [tbN,List.pairwise_append]
  refine ⟨?_,tb_ne hv n (by omega),fun x hx y hy=>?_⟩
  ·unfold tbL
   by_cases h1:kd p n=11∧lb p n=1
   ·rw [if_pos h1,if_neg (by omega),List.append_nil];exact List.pairwise_singleton _ _
   ·rw [if_neg h1,List.nil_append]
    by_cases h7:kd p n=7
    ·rw [if_pos h7]
     have ha:=(chain_asc p n)
     rw [chain,List.pairwise_cons] at ha
     unfold tbX
     rw [List.pairwise_map]
     refine (ha.2.filter _).imp ?_
     intro a b hab
     simp only [Tne]
     omega
    ·rw [if_neg h7];exact List.Pairwise.nil
  ·obtain ⟨b,hb,hy⟩:=mem_tbN _ hy
   obtain ⟨_,_,hx⟩:=mem_tbL hx
   obtain ⟨_,_,hy⟩:=mem_tbL hy
   intro e
   have en:∀ u v:Nat,x.f2=(u:Int)→y.f2=(v:Int)→u=v:=fun u v h1 h2=>by omega
   rcases hx with ⟨k1,_,k2,_⟩ | ⟨k1,c,k2,k3,k4,_⟩
   ·rcases hy with ⟨j1,_,j2,_⟩ | ⟨j1,d,j2,j3,j4,_⟩
    ·have:=en _ _ k2 j2;omega
    ·have:=en _ _ k2 j4;subst this;omega
   ·rcases hy with ⟨j1,_,j2,_⟩ | ⟨j1,d,j2,j3,j4,_⟩
    ·have:=en _ _ k4 j2;subst this;omega
    ·have:=en _ _ k4 j4;subst this
     have a:=(thd_chain hv (T:=n) (by omega) k1 (List.mem_cons_of_mem _ k2)).1
     have b':=(thd_chain hv (T:=b) (by omega) j1 (List.mem_cons_of_mem _ j2)).1
     omega
theorem tb_target {t : List Cl} {p : List Ln} (hv : jPb t p) {x : Rg} (h : x ∈ tbN p p.length) : 0 ≤ x.f2 ∧ x.f2 < (p.length : Int) := by
 obtain ⟨a,ha,hx⟩:=mem_tbN _ h
 obtain ⟨_,_,h2⟩:=mem_tbL hx
 rcases h2 with ⟨_,_,e,_⟩ | ⟨h7,c,k2,_,e,_⟩
 ·omega
 ·have:=jDc ha c (List.mem_cons_of_mem _ k2);omega
theorem tb_24 {t : List Cl} {p : List Ln} (hv : jPb t p) : (tbN p p.length).length ≤ 24 := by
 have h:=nodup_len p.length ((tbN p p.length).map fun x=>x.f2) (by rw [List.pairwise_map];exact tb_ne hv _ (Nat.le_refl _)) (fun y hy=>by
  obtain ⟨x,hx,rfl⟩:=List.mem_map.mp hy
  exact tb_target hv hx)
 rw [List.length_map] at h
 have:=hv.2.1
 omega
theorem tb_rok {t : List Cl} {p : List Ln} (hv : jPb t p) : (tbN p p.length).all (rokB t) = true := by
 rw [List.all_eq_true]
 intro x hx
 have hft:=tb_from_to ((off_DR p).mp fun i hi=>(hv.2.2 i hi).2.2.1) hx
 have htg:=tb_target hv hx
 have h24:=hv.2.1
 obtain ⟨a,ha,hxa⟩:=mem_tbN _ hx
 obtain ⟨h0,h1,h2⟩:=mem_tbL hxa
 have hcl:hasB t x.f3=true:=by
  rcases h2 with ⟨_,_,_,e⟩ | ⟨h7,c,k2,k3,_,e⟩
  ·rw [e];have:=tree_len hv.1;exact hasB_iff.mpr ⟨by omega,by omega⟩
  ·rw [e]
   have hc:=jDc ha c (List.mem_cons_of_mem _ k2)
   have hnum:=(hv.2.2 c hc).1
   rw [numB,if_neg (by omega),if_neg (by omega),if_pos k3] at hnum
   simp only [Bool.and_eq_true] at hnum
   exact hnum.1
 simp only [rokB,Bool.and_eq_true,jLc]
 exact ⟨by omega,by omega,by omega,hcl⟩
def lkO (t : List Cl) (i a : Int) : List Rg → Option Int
 | []=>none
 | x :: r=>if hitB t i a x=true then some x.f2 else lkO t i a r
theorem lkF_O (t : List Cl) (i a : Int) : ∀ l : List Rg, lkF t i a l = (lkO t i a l).getD (-1)
 | []=>rfl
 | x :: r=>by
  rw [lkF,lkO]
  split
  ·rfl
  ·exact lkF_O t i a r
theorem lkO_app (t : List Cl) (i a : Int) : ∀ l m : List Rg, lkO t i a (l ++ m) = match lkO t i a l with | some z => some z | none => lkO t i a m
 | [],m=>rfl
 | x :: l,m=>by
  rw [List.cons_append,lkO,lkO]
  split
  ·rfl
  ·exact lkO_app t i a l m
theorem lkO_none (t : List Cl) (i a : Int) : ∀ l : List Rg, (∀ x ∈ l, hitB t i a x = false) → lkO t i a l = none
 | [],_=>rfl
 | x :: l,h=>by
  rw [lkO,if_neg (by rw [h x List.mem_cons_self];simp)]
  exact lkO_none t i a l fun y hy=>h y (List.mem_cons_of_mem _ hy)
theorem lkO_tbX {t : List Cl} {p : List Ln} {i : Nat} {c : Int} {a : Nat} (h1 : a < i) (h2 : i < bEnd p a) : ∀ L : List Nat, lkO t (i : Int) c (tbX p a L) = (exF t p c L).map fun e : Nat => (e : Int)
 | []=>rfl
 | e :: L=>by
  have ih:=lkO_tbX (t:=t) (c:=c) h1 h2 L
  by_cases k8:kd p e=8
  ·have ex:tbX p a (e :: L)=⟨((a+1:Nat):Int),((bEnd p a:Nat):Int),(e:Int),la p e⟩ :: tbX p a L:=by simp [tbX,k8]
   rw [ex,lkO,exF]
   have hh:hitB t (i:Int) c ⟨((a+1:Nat):Int),((bEnd p a:Nat):Int),(e:Int),la p e⟩=isAB t c (la p e):=by
    simp only [hitB]
    rw [decide_eq_true (by omega),decide_eq_true (by omega)];simp
   rw [hh]
   by_cases hi:isAB t c (la p e)=true
   ·rw [if_pos hi,if_pos ⟨k8,hi⟩];rfl
   ·rw [if_neg hi,if_neg (fun h=>hi h.2)];exact ih
  ·have ex:tbX p a (e :: L)=tbX p a L:=by simp [tbX,k8]
   rw [ex,exF,if_neg (fun h=>k8 h.1)];exact ih
theorem lkO_tbL {t : List Cl} {p : List Ln} (hv : jPb t p) {i : Nat} {c : Int} (hc : 0 ≤ c ∧ c < t.length) {a : Nat} : lkO t (i : Int) c (tbL p a) = if a < i ∧ i < bEnd p a then (catB t p c a).map fun e : Nat => (e : Int) else none := by
 by_cases hin:a<i∧i<bEnd p a
 ·rw [if_pos hin]
  unfold tbL catB
  by_cases h11:kd p a=11
  ·rw [if_pos h11]
   by_cases hb:lb p a=1
   ·rw [if_pos ⟨h11,hb⟩,if_pos hb,if_neg (by omega),List.append_nil,lkO]
    have hh:hitB t (i:Int) c ⟨((a+1:Nat):Int),((bEnd p a:Nat):Int),(a:Int),0⟩=true:=by
     simp only [hitB]
     rw [decide_eq_true (by omega),decide_eq_true (by omega),isA_root hv.1 hc.2 hc.1];rfl
    rw [if_pos hh];rfl
   ·rw [if_neg (fun h=>hb h.2),if_neg hb,if_neg (by omega)];rfl
  ·rw [if_neg (fun h=>h11 h.1),if_neg h11,List.nil_append]
   by_cases h7:kd p a=7
   ·rw [if_pos h7,if_pos h7];exact lkO_tbX hin.1 hin.2 _
   ·rw [if_neg h7,if_neg h7];rfl
 ·rw [if_neg hin]
  refine lkO_none _ _ _ _ fun x hx=>?_
  obtain ⟨h0,h1,_⟩:=mem_tbL hx
  simp only [hitB]
  by_cases e:x.f0≤(i:Int)
  ·rw [decide_eq_false (p:=(i:Int)<x.f1) (by omega)];simp
  ·rw [decide_eq_false e];rfl
theorem lkO_low {t : List Cl} {p : List Ln} (hv : jPb t p) {i : Nat} {c : Int} (hc : 0 ≤ c ∧ c < t.length) : ∀ n, lkO t (i : Int) c (tbN p n) = (catL t p c (if n ≤ i then encI p i n else encI p i i)).map fun z => (z.2 : Int)
 | 0=>by rw [if_pos (by omega)];rfl
 | n+1=>by
  have ih:=lkO_low hv (i:=i) hc n
  rw [tbN,lkO_app,lkO_tbL hv hc,ih]
  by_cases hn:n+1≤i
  ·rw [if_pos hn,if_pos (show n≤i by omega)]
   by_cases hin:i<bEnd p n
   ·rw [if_pos ⟨by omega,hin⟩]
    by_cases ho:isO (kd p n)=true
    ·rw [encI,if_pos ⟨ho,hin⟩,catL]
     cases catB t p c n <;> rfl
    ·rw [encI,if_neg (fun h=>ho h.1)]
     have e:catB t p c n=none:=by
      rw [isO_iff] at ho
      rw [catB,if_neg (by omega),if_neg (by omega)]
     rw [e];rfl
   ·rw [if_neg (fun h=>hin h.2),encI,if_neg (fun h=>hin h.2)]
  ·rw [if_neg hn,if_neg (show ¬ (n<i∧i<bEnd p n) by omega)]
   by_cases h2:n≤i
   ·have:n=i:=by omega
    subst this;rw [if_pos (Nat.le_refl _)]
   ·rw [if_neg h2]
theorem lk_cat {t : List Cl} {p : List Ln} (hv : jPb t p) {i : Nat} (hi : i < p.length) {c : Int} (hc : 0 ≤ c ∧ c < t.length) : lkF t (i : Int) c (tbN p p.length) = (cp2 (catL t p c (enc p i))).2 := by
 rw [lkF_O,lkO_low hv hc,if_neg (by omega),enc_eq hv.dr hi]
 cases catL t p c (enc p i) <;> rfl
theorem FnTableOf : jv.Pure := by
 intro code _ _ hc
 refine Ev.rounds (g:=fun k=>jv.f k code) ?_
 unfold jv.f
 refine Ev.both (fun _=>Ev.now _) (fun _=>?_)
 obtain ⟨t,p,eD,hT,hp⟩:=ev_DrawTableOf (bytes_of hc)
 have hP:p.length≤1048576:=by omega
 have hS:=hT.ts
 obtain ⟨z1,z2⟩:=ev_TableOf hP hS
 have hz:=rTab_len (t:=t) (p:=p)
 have hE:=ev_equalRanges hz
 have stop:Ev (fun k=>jv.j0 k p (rTab t p) true t) true:=by
  refine Ev.step (fun k=>by rw [jv.j0]) ?_
  exact Ev.pos rfl (Ev.bind z1 (Ev.bind hE (Ev.now _)))
 refine Ev.bind eD (Ev.bind z2 (Ev.bind z1 (Ev.bind hE (Ev.pos rfl (Ev.bind (iValid hP hS) ?_)))))
 cases hv:vB t p with
 | false=>exact stop
 | true =>
 have hV:=vB_iff.mp hv
 have er:rTab t p=tbN p p.length:=by rw [rTab,if_pos hv]
 rw [er]
 refine Ev.step (fun k=>by rw [jv.j0]) ?_
 refine Ev.neg (by simp) ?_
 have hS1:=hS.1
 have l0:∀ (n i:Nat),p.length≤n+i→Ev (fun q=>jv.l0 q p (tbN p p.length) i t) true:=by
  intro n
  induction n with
  | zero =>
   intro i h
   refine Ev.step (fun q=>by rw [jv.l0]) ?_
   exact Ev.neg (by omega) (Ev.now _)
  | succ n ih =>
   intro i h
   refine Ev.step (fun q=>by rw [jv.l0]) ?_
   by_cases hi:i<p.length
   ·refine Ev.pos (by omega) ?_
    have inner:∀ (m c:Nat),t.length≤m+c→Ev (fun q=>jv.l1 q p (tbN p p.length) i c t) true:=by
     intro m
     induction m with
     | zero =>
      intro c h2
      refine Ev.step (fun q=>by rw [jv.l1]) ?_
      rw [wS (i:=i) (by omega)]
      exact Ev.neg (by omega) (ih (i+1) (by omega))
     | succ m ihm =>
      intro c h2
      refine Ev.step (fun q=>by rw [jv.l1]) ?_
      by_cases hcl:c<t.length
      ·have hb:hasB t (c:Int)=true:=hasB_iff.mpr ⟨by omega,by omega⟩
       have e1:=ev_LookUp hS (tbN p p.length) (i:Int) (c:Int)
       rw [lkB,if_pos ⟨⟨hV.1,hb⟩,tb_24 hV,tb_rok hV⟩,lk_cat hV hi ⟨by omega,by omega⟩] at e1
       have e2:=ev_iCatcherOf hP hS hv hi hb
       rw [wS (i:=c) (by omega)]
       exact Ev.pos (by omega) (Ev.bind e1 (Ev.bind e2 (Ev.pos rfl (ihm (c+1) (by omega)))))
      ·rw [wS (i:=i) (by omega)]
       exact Ev.neg (by omega) (ih (i+1) (by omega))
    exact inner t.length 0 (by omega)
   ·exact Ev.neg (by omega) (Ev.now _)
 exact l0 p.length 0 (by omega)
end Go.Proofs.Ytbcjbcjpoddkoaa.Pure
end
