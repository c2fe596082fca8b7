/- One part of the proofs on this program: functions of the program as plain functions, that the code comes to them, and facts on them. -/
import Derived.Test.YtlhfcmbkjddgiaaYAll6
import Derived.Test.YtlhfcmbkjddgiaaYB3
import Derived.Test.YtlhfcmbkjddgiaaYDe
import Derived.Test.YtlhfcmbkjddgiaaYMqt
section
set_option linter.unusedSimpArgs false
set_option linter.unusedVariables false
namespace Go.Proofs.Ytlhfcmbkjddgiaa.Pure
open Go Go.RowKit Go.Proofs.Ytlhfcmbkjddgiaa.P Go.Proofs.YtlhfcmbkjddgiaaW.PrintWords
set_option linter.unusedVariables false
theorem mnv (a b : Int) : mn a b = if b < a then b else a := rfl
theorem ev_DrawIsQuiet {code : List Int} (hc : ∀ x ∈ code, 0 ≤ x ∧ x ≤ 255) : ∃ t l, Ev (fun k => jrb.f k code) (t, l) ∧ TO t ∧ l.length ≤ 9 := by
 obtain ⟨s,e0,hs⟩:=newReader_eq hc
 obtain ⟨t,l,q,e1,q0,q1,hT,hl⟩:=ev_someExits hs (p:=0) (by omega) (by omega)
 obtain ⟨v,e2,_,_,_⟩:=jVc hs (p:=q) (by omega) (by omega) 2 (by omega)
 unfold jrb.f
 rw [e0]
 simp only [Option.bind_some]
 by_cases hv:v=0
 ·have hm:0≤mn (l.length:Int) 7∧mn (l.length:Int) 7≤(l.length:Int):=by
   rw [mnv];split <;> omega
  refine ⟨t,[⟨2,0,0⟩] ++ l.take (mn (l.length:Int) 7).toNat,?_,hT,?_⟩
  ·refine Ev.bind e1 (Ev.bind e2 (Ev.pos hv (Ev.pos hm.1 (Ev.pos hm.2 (Ev.pos ?_ (Ev.now _))))))
   have:=List.length_take_le (mn (l.length:Int) 7).toNat l
   simp;omega
  ·have:=List.length_take_le' (mn (l.length:Int) 7).toNat l
   rw [List.length_append,List.length_singleton];omega
 ·exact ⟨t,l,Ev.bind e1 (Ev.bind e2 (Ev.neg hv (Ev.now _))),hT,by omega⟩
theorem ev_JoinExits {t : List Cl} (ht : TS t) {p q : List Ex} (hp : p.length ≤ 100) (hq : q.length ≤ 100) : Ev (fun k => jO.f k t p q) (if exsB t p = true ∧ exsB t q = true ∧ exsB t (p ++ q) = true then (p ++ q, true) else ([], false)) := by
 unfold jO.f
 have h1:=ev_iVE ht (l:=p) (by omega)
 have h2:=ev_iVE ht (l:=q) (by omega)
 have h3:=ev_iVE ht (l:=p ++ q) (by rw [List.length_append];omega)
 have hc:jTa.f [p,q]=some (p ++ q):=by
  unfold jTa.f
  rw [if_pos (by simp;omega)]
  simp
 obtain ⟨R,hR⟩:∃ R,R=(if exsB t p=true∧exsB t q=true∧exsB t (p ++ q)=true then (p ++ q,true) else (([]:List Ex),false)):=⟨_,rfl⟩
 rw [← hR]
 by_cases a:exsB t p=true
 ·rw [a] at h1
  refine Ev.bind h1 (Ev.pos rfl (Ev.bind h2 ?_))
  by_cases b:exsB t q=true
  ·rw [b]
   refine Ev.step (fun k=>by rw [jO.j0]) (Ev.neg (by simp) ?_)
   rw [hc]
   simp only [Option.bind_some]
   unfold jtb.f
   by_cases c:exsB t (p ++ q)=true
   ·rw [c] at h3
    rw [if_pos ⟨a,b,c⟩] at hR
    subst hR
    exact Ev.bind (Ev.bind h3 (Ev.pos rfl (Ev.now _))) (Ev.now _)
   ·rw [if_neg (fun h=>c h.2.2)] at hR
    subst hR
    exact Ev.bind (Ev.bind h3 (Ev.neg c (Ev.now _))) (Ev.now _)
  ·rw [if_neg (fun h=>b h.2.1)] at hR
   subst hR
   exact Ev.step (fun k=>by rw [jO.j0]) (Ev.pos (by simpa using b) (Ev.now _))
 ·rw [if_neg (fun h=>a h.1)] at hR
  subst hR
  exact Ev.bind h1 (Ev.neg a (Ev.step (fun k=>by rw [jO.j0]) (Ev.pos rfl (Ev.now _))))
theorem clF_root {t : List Cl} {l : List Ex} (hv : exsB t ([⟨2, 0, 0⟩] ++ l) = true) {a : Bool} {b c : Int} (h : a = true → hasB t b = true) : ¬ 0 ≤ (clF t ([⟨2, 0, 0⟩] ++ l) a b c).2.2 := by
 obtain ⟨e1,e2,e3⟩:=exsB_in2 hv
 have g:=clF_good (a:=a) (b:=b) (c:=c) (l:=l) (fun x hx=>e1 x (List.mem_append_right _ hx)) h
 unfold clF at g ⊢
 rw [List.reverse_append,List.reverse_cons,List.reverse_nil,List.nil_append,List.foldl_append,List.foldl_cons,List.foldl_nil]
 generalize l.reverse.foldl (stT (isAB t)) (st0 a b c)=s at g ⊢
 unfold stT
 rw [if_neg (by simp),if_neg (by simp),if_pos rfl]
 show ¬ 0≤(if (decide (0≤s.2.2) && isAB t (jA s.2.1 s.2.2).f0 0)=true then (-1:Int) else s.2.2)
 by_cases h0:0≤s.2.2
 ·obtain ⟨i,hi⟩:∃ i:Nat,s.2.2=(i:Int):=⟨s.2.2.toNat,by omega⟩
  have h3:=g.hi
  obtain ⟨_,_,g2,g3⟩:=g.g i (by omega)
  rw [← hi] at g2 g3
  rw [decide_eq_true h0,Bool.true_and,isA_root e2 g3 g2,if_pos rfl]
  omega
 ·rw [decide_eq_false h0,Bool.false_and,if_neg (by simp)]
  exact h0
theorem qtN_root {t : List Cl} {l : List Ex} (hv : exsB t ([⟨2, 0, 0⟩] ++ l) = true) : ∀ (n i : Nat), i + n = t.length → qtN t ([⟨2, 0, 0⟩] ++ l) n i = true
 | 0,i,_=>rfl
 | n+1,i,h=>by
  rw [qtN,qtN_root hv n (i+1) (by omega),decide_eq_true (clF_root hv (fun _=>hasC.mpr ⟨by omega,by omega⟩))]
  rfl
theorem qtB_root {t : List Cl} {l : List Ex} (hv : exsB t ([⟨2, 0, 0⟩] ++ l) = true) : qtB t ([⟨2, 0, 0⟩] ++ l) = true := by
 unfold qtB
 rw [hv,decide_eq_true (clF_root hv (fun h=>by cases h)),qtN_root hv _ 0 (by omega)]
 rfl
theorem fl_none {t : List Cl} {l : List Ex} : ∀ (n i : Nat), qtN t l n i = true → flN (fun a => (clF t l true a 0).2.2 == 0) n i = []
 | 0,i,_=>rfl
 | n+1,i,h=>by
  rw [qtN,Bool.and_eq_true,decide_eq_true_eq] at h
  rw [flN,if_neg (by simp only [beq_iff_eq];omega)]
  exact fl_none n (i+1) h.2
theorem ev_EscapesOf {t : List Cl} (ht : TS t) {l : List Ex} (hn : l.length ≤ 1048576) : Ev (fun k => jeb.f k t l) (if exsB t l = true then flN (fun a => (clF t l true a 0).2.2 == 0) t.length 0 else []) := by
 unfold jeb.f
 have h1:=ev_iVE ht hn
 have h2:=ht.1
 cases hv:exsB t l with
 | false =>
  rw [hv] at h1
  exact Ev.bind h1 (Ev.neg (by simp) (Ev.now _))
 | true =>
  rw [hv] at h1
  rw [if_pos rfl]
  refine Ev.bind h1 (Ev.pos rfl (Ev.pos (by omega) (ev_flN (N:=t.length) (fun i hi=>?_) t.length 0 (by omega))))
  unfold esv
  exact Ev.bind (ev_mclosed ht hv (a:=true) (b:=(i:Int)) (fun _=>hasC.mpr ⟨by omega,by omega⟩) 0) (Ev.now _)
theorem FnIsQuiet : jja.Pure := by
 intro code _ _ hc
 refine Ev.rounds (g:=fun k=>jja.f k code) ?_
 unfold jja.f
 refine Ev.both (fun _=>Ev.now _) (fun _=>?_)
 obtain ⟨t,l,eD,hT,hl⟩:=ev_DrawIsQuiet (bytes_of hc)
 have hS:=hT.ts
 have z1:=ev_iIsQuiet hS (l:=l) (by omega)
 have z2:=ev_sIsQuiet hS (l:=l) (by omega)
 have z3:=ev_iVE hS (l:=l) (by omega)
 have z4:=ev_JoinExits hS (p:=[⟨2,0,0⟩]) (q:=l) (by simp) (by omega)
 have z5:=ev_EscapesOf hS (l:=l) (by omega)
 refine Ev.bind eD (Ev.bind z1 (Ev.bind z2 (Ev.neg (by cases qtB t l <;> simp) (Ev.bind z3 ?_))))
 refine Ev.step (fun k=>by rw [jja.j0]) ?_
 cases hv:exsB t l with
 | false =>
  refine Ev.pos rfl (Ev.bind z2 ?_)
  rw [beq_self_eq_true]
  exact Ev.now _
 | true =>
 refine Ev.neg (by simp) (Ev.bind z4 ?_)
 rw [hv,if_pos rfl] at z5
 have hj:∀ (A:List Ex × Bool),(A=([⟨2,0,0⟩] ++ l,true)∧exsB t ([⟨2,0,0⟩] ++ l)=true∨A.2=false)→Ev (fun k=>if A.2=true then ((jga.f k t A.1).bind fun t503=>(some t503)) else (some true)) true:=by
  rintro A (⟨rfl,h⟩ | h)
  ·have z6:=ev_iIsQuiet hS (l:=[⟨2,0,0⟩] ++ l) (by simp;omega)
   rw [qtB_root h] at z6
   exact Ev.pos rfl (Ev.bind z6 (Ev.now _))
  ·exact Ev.neg (by rw [h];simp) (Ev.now _)
 have hA:(if exsB t [⟨2,0,0⟩]=true∧exsB t l=true∧exsB t ([⟨2,0,0⟩] ++ l)=true then (([⟨2,0,0⟩] ++ l,true):List Ex × Bool) else ([],false))=([⟨2,0,0⟩] ++ l,true)∧exsB t ([⟨2,0,0⟩] ++ l)=true∨(if exsB t [⟨2,0,0⟩]=true∧exsB t l=true∧exsB t ([⟨2,0,0⟩] ++ l)=true then (([⟨2,0,0⟩] ++ l,true):List Ex × Bool) else ([],false)).2=false:=by
  by_cases c:exsB t [⟨2,0,0⟩]=true∧exsB t l=true∧exsB t ([⟨2,0,0⟩] ++ l)=true
  ·rw [if_pos c];exact .inl ⟨rfl,c.2.2⟩
  ·rw [if_neg c];exact .inr rfl
 have hJ:=hj _ hA
 cases hq:qtB t l with
 | false=>exact Ev.neg (by simp) hJ
 | true =>
  refine Ev.pos rfl (Ev.bind z5 (Ev.pos ?_ hJ))
  unfold qtB at hq
  simp only [Bool.and_eq_true] at hq
  rw [fl_none _ _ hq.2.2]
  rfl
end Go.Proofs.Ytlhfcmbkjddgiaa.Pure
end
