/- One part of the proofs on this program: functions of the program as plain functions, that the code comes to them, and facts on them. -/
import Derived.Test.YtlhfcmbkjddgiaaYAll4
import Derived.Test.YtlhfcmbkjddgiaaYAll7
import Derived.Test.YtlhfcmbkjddgiaaYAll8
import Derived.Test.YtlhfcmbkjddgiaaYDe
import Derived.Test.YtlhfcmbkjddgiaaYMas
import Derived.Test.YtlhfcmbkjddgiaaYMce
import Derived.Test.YtlhfcmbkjddgiaaYMje
import Derived.Test.YtlhfcmbkjddgiaaYMy
import Derived.Test.YtlhfcmbkjddgiaaYMz
section
set_option linter.unusedSimpArgs false
set_option linter.unusedVariables false
namespace Go.Proofs.Ytlhfcmbkjddgiaa.Pure
open Go Go.RowKit Go.Proofs.Ytlhfcmbkjddgiaa.P Go.Proofs.YtlhfcmbkjddgiaaW.PrintWords
set_option linter.unusedVariables false
theorem ev_DrawEscapesOf {code : List Int} (hc : ∀ x ∈ code, 0 ≤ x ∧ x ≤ 255) : ∃ t l, Ev (fun k => jZa.f k code) (t, l) ∧ TO t ∧ l.length ≤ 8 := by
 obtain ⟨s,e0,hs⟩:=newReader_eq hc
 obtain ⟨t,l,q,e1,q0,q1,hT,hl⟩:=ev_someExits hs (p:=0) (by omega) (by omega)
 unfold jZa.f
 rw [e0]
 simp only [Option.bind_some]
 exact ⟨t,l,Ev.bind e1 (Ev.now _),hT,hl⟩
def fnL (p : Int → Bool) : Nat → Nat → List Nat
 | 0,_=>[]
 | n+1,i=>if p (i:Int)=true then i :: fnL p n (i+1) else fnL p n (i+1)
theorem flN_ci (p : Int → Bool) : ∀ (n i : Nat), flN p n i = ci (fnL p n i)
 | 0,i=>rfl
 | n+1,i=>by
  rw [flN,fnL,flN_ci p n (i+1)]
  by_cases h:p (i:Int)=true
  ·rw [if_pos h,if_pos h,ci_cons]
  ·rw [if_neg h,if_neg h]
theorem mem_fnL {p : Int → Bool} {x : Nat} : ∀ (n i : Nat), x ∈ fnL p n i ↔ i ≤ x ∧ x < i + n ∧ p (x : Int) = true
 | 0,i=>by simp [fnL];omega
 | n+1,i=>by
  have ih:=mem_fnL (p:=p) (x:=x) n (i+1)
  rw [fnL]
  by_cases h:p (i:Int)=true
  ·rw [if_pos h,List.mem_cons,ih]
   constructor
   ·rintro (rfl | ⟨a,b,c⟩)
    ·exact ⟨by omega,by omega,h⟩
    ·exact ⟨by omega,by omega,c⟩
   ·rintro ⟨a,b,c⟩
    by_cases e:x=i
    ·exact .inl e
    ·exact .inr ⟨by omega,by omega,c⟩
  ·rw [if_neg h,ih]
   constructor
   ·rintro ⟨a,b,c⟩;exact ⟨by omega,by omega,c⟩
   ·rintro ⟨a,b,c⟩
    have e:x≠i:=fun e=>h (by rw [← e];exact c)
    exact ⟨by omega,by omega,c⟩
theorem fnL_asc (p : Int → Bool) : ∀ (n i : Nat), (fnL p n i).Pairwise (· < ·)
 | 0,i=>by simp [fnL]
 | n+1,i=>by
  rw [fnL]
  split
  ·rw [List.pairwise_cons]
   exact ⟨fun a ha=>by have:=(mem_fnL n (i+1)).mp ha;omega,fnL_asc p n (i+1)⟩
  ·exact fnL_asc p n (i+1)
theorem fnL_len (p : Int → Bool) : ∀ (n i : Nat), (fnL p n i).length ≤ n
 | 0,i=>by simp [fnL]
 | n+1,i=>by
  have:=fnL_len p n (i+1)
  rw [fnL];split <;> simp <;> omega
theorem abN_lt {t : List Cl} (hv : jOb t = true) : ∀ (n : Nat) (a : Int), a < t.length → -1 ≤ a → ∀ x ∈ abN t n a, x < t.length
 | 0,a,_,_,x,hx=>by simp [abN] at hx
 | n+1,a,h1,h2,x,hx=>by
  rw [abN] at hx
  by_cases h0:0≤a
  ·rw [if_pos h0] at hx
   have hp:=tree_par hv (i:=a.toNat) (by omega)
   rcases List.mem_cons.1 hx with e | hx
   ·rw [e];omega
   ·exact abN_lt hv n _ (by omega) (by omega) x hx
  ·rw [if_neg h0] at hx;simp at hx
theorem ev_AboveOf {t : List Cl} (ht : TS t) (hv : jOb t = true) {a : Int} (h : hasB t a = true) : Ev (fun k => jDb.f k t a) (ci (above t a)) := by
 have h1:=hasC.mp h
 have hc:=ev_classesIn ht a
 rw [hv,h] at hc
 unfold jDb.f
 exact Ev.bind hc (Ev.pos rfl (Ev.bind (ev_iAbove ht.1 hv h1.2 (by omega)) (Ev.now _)))
theorem rchL_one (a c : Int) : rchL (f0L a c) 0 = [0] := by
 unfold rchL
 rw [show (f0L a c).length=1 from rfl,show List.range 1=[0] from rfl]
 simp [Rc.here]
theorem FnEscapesOf : jm.Pure := by
 intro code _ _ hc
 refine Ev.rounds (g:=fun k=>jm.f k code) ?_
 unfold jm.f
 refine Ev.both (fun _=>Ev.now _) (fun _=>?_)
 obtain ⟨t,l,eD,hT,hl⟩:=ev_DrawEscapesOf (bytes_of hc)
 have hS:=hT.ts
 have hT8:=hT.1
 have z1:=ev_iEscapesOf hS (l:=l) (by omega)
 have z2:=ev_sEscapesOf hS (l:=l) (by omega)
 have z3:=ev_iVE hS (l:=l) (by omega)
 cases hv:exsB t l with
 | false =>
  rw [hv] at z1 z2 z3
  rw [if_neg (by simp)] at z1 z2
  have z4:=ev_equalInts (r:=([]:List Int)) (by simp)
  refine Ev.bind eD (Ev.bind z1 (Ev.bind z2 (Ev.bind z4 (Ev.pos rfl (Ev.bind z3 ?_)))))
  refine Ev.step (fun k=>by rw [jm.j0]) ?_
  exact Ev.pos rfl (Ev.bind z2 (Ev.bind z4 (Ev.now _)))
 | true =>
  rw [hv] at z1 z2 z3
  have htr:=(exsB_in2 hv).2.1
  obtain ⟨L,hL⟩:∃ L,L=fnL (psB t l) t.length 0:=⟨_,rfl⟩
  rw [if_pos rfl,flN_ci,← hL] at z1 z2
  have hmem:∀ x:Nat,x ∈ L ↔ x<t.length∧psB t l (x:Int)=true:=fun x=>by rw [hL,mem_fnL];simp
  have hasc:L.Pairwise (·<·):=by rw [hL];exact fnL_asc _ _ _
  have hll:L.length≤8:=by have:=fnL_len (psB t l) t.length 0;rw [hL];omega
  have z4:=ev_equalInts (r:=ci L) (by rw [jbb];omega)
  refine Ev.bind eD (Ev.bind z1 (Ev.bind z2 (Ev.bind z4 (Ev.pos rfl (Ev.bind z3 ?_)))))
  refine Ev.step (fun k=>by rw [jm.j0]) ?_
  refine Ev.neg (by simp) ?_
  have go:∀ (n i:Nat),n+i=L.length→Ev (fun k=>jm.l0 k l (ci L) i t) true:=by
   intro n
   induction n with
   | zero =>
    intro i h
    refine Ev.step (fun k=>by rw [jm.l0]) ?_
    exact Ev.neg (by rw [jbb];omega) (Ev.bind (ev_ascends (by omega) hasc) (Ev.now _))
   | succ n ih =>
    intro i h
    have hi:i<L.length:=by omega
    obtain ⟨a,ha⟩:∃ a,a=L.getD i 0:=⟨_,rfl⟩
    have hr:rd (ci L) (i:Int)=(a:Int):=by rw [rd_ci hi,ha]
    have ham:a ∈ L:=by rw [ha];exact getD_mem hi
    obtain ⟨a1,a2⟩:=(hmem a).mp ham
    have hB:hasB t (a:Int)=true:=hasC.mpr ⟨by omega,by omega⟩
    have hst:stV t true (a:Int) 0=true:=by unfold stV;rw [if_pos rfl,hB];rfl
    have c1:=ev_CloseExits hS hv hst
    have o1:=ev_StartOf hS hv hst
    obtain ⟨lg,eF⟩:=clF_pass a2 0
    have hsO:stO (clF t l true (a:Int) 0)=(true,(a:Int),0,true):=by rw [eF];rfl
    have hlE:(clE (clF t l true (a:Int) 0)).2.2.2.length=1:=by
     rw [eF]
     unfold clE
     rw [if_pos (by simp)]
     simp only [isoH,List.length_map]
     rw [show (0:Int).toNat=0 from rfl,rchL_one]
     rfl
    rw [hsO] at o1
    have inner:∀ (m j:Nat),m+j=(above t (a:Int)).length→Ev (fun k=>jm.l1 k l (ci L) i (ci (above t (a:Int))) j t) true:=by
     intro m
     induction m with
     | zero =>
      intro j hj
      refine Ev.step (fun k=>by rw [jm.l1]) ?_
      rw [wS (i:=i) (by omega)]
      exact Ev.neg (by rw [jbb];omega) (ih (i+1) (by omega))
     | succ m ihm =>
      intro j hj
      have hj':j<(above t (a:Int)).length:=by omega
      have hal:=above_len hS.1 (a:=(a:Int)) (by omega)
      have hx:=getD_mem hj'
      have hxl:=abN_lt htr _ _ (by omega) (by omega) _ hx
      have hxA:isAB t (a:Int) (((above t (a:Int)).getD j 0:Nat):Int)=true:=(jgc _ _).mpr hx
      have hxp:=psB_up htr (by omega) (by omega) a2 hxA
      have hin:=ev_isIn L (by omega) (((above t (a:Int)).getD j 0:Nat):Int)
      rw [show hasN (((above t (a:Int)).getD j 0:Nat):Int) L=true from (jgc _ _).mpr ((hmem _).mpr ⟨hxl,hxp⟩)] at hin
      refine Ev.step (fun k=>by rw [jm.l1]) ?_
      rw [rd_ci hj',wS (i:=j) (by omega)]
      exact Ev.pos (by rw [jbb];omega) (Ev.pos (by omega) (Ev.bind hin (Ev.pos rfl (ihm (j+1) (by omega)))))
    refine Ev.step (fun k=>by rw [jm.l0]) ?_
    rw [hr]
    refine Ev.pos (by rw [jbb];omega) (Ev.pos (by omega) (Ev.bind c1 (Ev.bind o1 (Ev.pos rfl (Ev.neg (by simp) ?_)))))
    rw [hlE]
    refine Ev.step (fun k=>by rw [jm.j2]) ?_
    rw [hr]
    exact Ev.neg (by simp) (Ev.pos (by omega) (Ev.pos (by rw [jbb];omega) (Ev.bind (ev_AboveOf hS htr hB) (inner _ 0 rfl))))
  exact go L.length 0 rfl
end Go.Proofs.Ytlhfcmbkjddgiaa.Pure
end
