/- One part of the proofs on this program: functions of the program as plain functions, that the code comes to them, and facts on them. -/
import Derived.Test.YtlhfcmbkjddgiaaYAll2
import Derived.Test.YtlhfcmbkjddgiaaYAll5
import Derived.Test.YtlhfcmbkjddgiaaYAll8
import Derived.Test.YtlhfcmbkjddgiaaYMps
import Derived.Test.YtlhfcmbkjddgiaaYMqt
section
set_option linter.unusedSimpArgs false
set_option linter.unusedVariables false
namespace Go.Proofs.Ytlhfcmbkjddgiaa.Pure
open Go Go.RowKit Go.Proofs.Ytlhfcmbkjddgiaa.P Go.Proofs.YtlhfcmbkjddgiaaW.PrintWords
set_option linter.unusedVariables false
theorem ev_EscapesOf {t : List Cl} (ht : TS t) {l : List Ex} (hn : l.length ≤ 1048576) : Ev (fun k => jfb.f k t l) (if exsB t l = true then flN (fun a => (clF t l true a 0).2.2 == 0) t.length 0 else []) := by
 unfold jfb.f
 have h1:=ev_iVE ht hn
 have h2:=ht.1
 cases hv:exsB t l with
 | false =>
  rw [hv] at h1
  exact Ev.bind h1 (Ev.neg (by simp) (Ev.now _))
 | true =>
  rw [hv] at h1
  rw [if_pos rfl]
  refine Ev.bind h1 (Ev.pos rfl (Ev.pos (by omega) (ev_flN (N:=t.length) (fun i hi=>?_) t.length 0 (by omega))))
  unfold esv
  exact Ev.bind (ev_mclosed ht hv (a:=true) (b:=(i:Int)) (fun _=>hasC.mpr ⟨by omega,by omega⟩) 0) (Ev.now _)
theorem ev_passes {t : List Cl} (ht : TS t) (hv : jOb t = true) {l : List Ex} (hl : l.length ≤ 1048576) {a : Int} (h1 : a < t.length) (h2 : -1 ≤ a) : Ev (fun k => jca.f k t l a) (psB t l a) := by
 have go:∀ (n i:Nat),n+i=l.length→Ev (fun k=>jca.l0 k l a i t) ((l.drop i).all fun x=>!spB t a x):=by
  intro n
  induction n with
  | zero =>
   intro i h
   refine Ev.step (fun k=>by rw [jca.l0]) ?_
   rw [List.drop_eq_nil_of_le (by omega),List.all_nil]
   exact Ev.neg (by omega) (Ev.now _)
  | succ n ih =>
   intro i h
   have hi:i<l.length:=by omega
   have hr:jL l (i:Int)=l[i]:=by simp [jL,List.getD_eq_getElem?_getD,hi]
   have jj:Ev (fun k=>jca.j1 k l a i (spB t a l[i]) t) ((l.drop i).all fun x=>!spB t a x):=by
    refine Ev.step (fun k=>by rw [jca.j1]) ?_
    rw [List.drop_eq_getElem_cons hi,List.all_cons,wS (by omega)]
    cases spB t a l[i] with
    | true=>exact Ev.pos rfl (Ev.now _)
    | false=>rw [Bool.not_false,Bool.true_and];exact Ev.neg (by simp) (ih (i+1) (by omega))
   refine Ev.step (fun k=>by rw [jca.l0]) ?_
   rw [hr]
   refine Ev.pos (by omega) (Ev.pos (by omega) ?_)
   by_cases k3:l[i].f0=3
   ·have e:spB t a l[i]=true:=by unfold spB;rw [decide_eq_true k3,Bool.true_or]
    rw [e] at jj
    exact Ev.pos k3 jj
   ·by_cases k2:l[i].f0=2
    ·have e:spB t a l[i]=isAB t a l[i].f1:=by unfold spB;rw [decide_eq_false k3,Bool.false_or,decide_eq_true k2,Bool.true_and]
     rw [e] at jj
     exact Ev.neg k3 (Ev.pos k2 (Ev.bind (ev_sIsA ht.1 hv h1 h2 _) jj))
    ·have e:spB t a l[i]=false:=by unfold spB;rw [decide_eq_false k3,Bool.false_or,decide_eq_false k2,Bool.false_and]
     rw [e] at jj
     exact Ev.neg k3 (Ev.neg k2 jj)
 exact go l.length 0 (by omega)
theorem ev_sEscapesOf {t : List Cl} (ht : TS t) {l : List Ex} (hl : l.length ≤ 1048576) : Ev (fun k => jY.f k t l) (if exsB t l = true then flN (psB t l) t.length 0 else []) := by
 have h1:=ev_sVE ht hl
 have h0:=ht.1
 unfold jY.f
 cases hv:exsB t l with
 | false =>
  rw [hv] at h1
  exact Ev.bind h1 (Ev.neg (by simp) (Ev.now _))
 | true =>
  rw [hv] at h1
  rw [if_pos rfl]
  refine Ev.bind h1 (Ev.pos rfl ?_)
  have ht2:=(exsB_in2 hv).2.1
  have go:∀ (n i:Nat) (acc:List Int),n+i=t.length→acc.length≤i→Ev (fun k=>jY.l0 k l acc i t) (acc ++ flN (psB t l) n i):=by
   intro n
   induction n with
   | zero =>
    intro i acc h ha
    refine Ev.step (fun k=>by rw [jY.l0]) ?_
    rw [flN,List.append_nil]
    exact Ev.neg (by omega) (Ev.now _)
   | succ n ih =>
    intro i acc h ha
    refine Ev.step (fun k=>by rw [jY.l0]) ?_
    rw [flN,wS (by omega)]
    refine Ev.pos (by omega) (Ev.bind (ev_passes ht ht2 hl (a:=(i:Int)) (by omega) (by omega)) ?_)
    cases psB t l (i:Int) with
    | true =>
     rw [if_pos rfl,show acc ++ (i:Int) :: flN (psB t l) n (i+1)=(acc ++ [(i:Int)]) ++ flN (psB t l) n (i+1) by simp]
     exact Ev.pos rfl (Ev.pos (by omega) (ih (i+1) (acc ++ [(i:Int)]) (by omega) (by rw [List.length_append,List.length_singleton];omega)))
    | false =>
     rw [if_neg (by simp)]
     exact Ev.neg (by simp) (ih (i+1) acc (by omega) (by omega))
  have:=go t.length 0 [] (by omega) (by simp)
  rw [List.nil_append] at this
  exact this
theorem ev_iEscapesOf {t : List Cl} (ht : TS t) {l : List Ex} (hl : l.length ≤ 1048576) : Ev (fun k => jfb.f k t l) (if exsB t l = true then flN (psB t l) t.length 0 else []) := by
 have:=ev_EscapesOf ht hl
 rw [show (fun a=>(clF t l true a 0).2.2 == 0)=psB t l from funext fun a=>clF_zero] at this
 exact this
end Go.Proofs.Ytlhfcmbkjddgiaa.Pure
end
