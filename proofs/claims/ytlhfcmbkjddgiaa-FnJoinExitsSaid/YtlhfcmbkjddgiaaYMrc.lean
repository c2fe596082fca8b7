/- One part of the proofs on this program: functions of the program as plain functions, that the code comes to them, and facts on them. -/
import Derived.Test.YtlhfcmbkjddgiaaYAll3
import Derived.Test.YtlhfcmbkjddgiaaYMgb
section
set_option linter.unusedSimpArgs false
set_option linter.unusedVariables false
namespace Go.Proofs.Ytlhfcmbkjddgiaa.Pure
open Go Go.RowKit Go.Proofs.Ytlhfcmbkjddgiaa.P Go.Proofs.YtlhfcmbkjddgiaaW.PrintWords
set_option linter.unusedVariables false
inductive Rc (h : List Ft) (f : Nat) : Nat → Prop
 | here:Rc h f f
 | ca {i j:Nat}:Rc h f i→fca h i=(j:Int)→Rc h f j
 | cx {i j:Nat}:Rc h f i→fcx h i=(j:Int)→Rc h f j
theorem Rc.lt {h : List Ft} (hL : LO h) {f : Nat} (hf : f < h.length) {a : Nat} (r : Rc h f a) : a < h.length := by
 induction r with
 | here=>exact hf
 | ca _ e ih=>have:=hL _ ih;omega
 | cx _ e ih=>have:=hL _ ih;omega
theorem Rc.trans {h : List Ft} {f a b : Nat} (r : Rc h f a) (s : Rc h a b) : Rc h f b := by
 induction s with
 | here=>exact r
 | ca _ e ih=>exact .ca ih e
 | cx _ e ih=>exact .cx ih e
noncomputable def rchL (h : List Ft) (f : Nat) : List Nat := (List.range h.length).filter (fun a => @decide (Rc h f a) (Classical.propDecidable _))
theorem mem_rchL {h : List Ft} (hL : LO h) {f : Nat} (hf : f < h.length) {a : Nat} : a ∈ rchL h f ↔ Rc h f a := by
 unfold rchL
 rw [List.mem_filter,List.mem_range]
 simp only [decide_eq_true_eq]
 exact ⟨fun x=>x.2,fun x=>⟨x.lt hL hf,x⟩⟩
theorem rchL_asc (h : List Ft) (f : Nat) : (rchL h f).Pairwise (· < ·) := List.Pairwise.filter _ List.pairwise_lt_range
theorem rchL_len (h : List Ft) (f : Nat) : (rchL h f).length ≤ h.length := by
 unfold rchL
 have:=List.length_filter_le (fun a=>@decide (Rc h f a) (Classical.propDecidable _)) (List.range h.length)
 simpa using this
def adN (out : List Nat) (g : Int) : List Nat := if 0 ≤ g then (if g.toNat ∈ out then out else out ++ [g.toNat]) else out
theorem adN_sub {out : List Nat} {g : Int} {a : Nat} (h : a ∈ out) : a ∈ adN out g := by
 unfold adN
 split
 ·split
  ·exact h
  ·exact List.mem_append.mpr (.inl h)
 ·exact h
theorem adN_mem {out : List Nat} {j : Nat} : j ∈ adN out (j : Int) := by
 unfold adN
 rw [if_pos (by omega),Int.toNat_natCast]
 split
 ·assumption
 ·simp
theorem adN_inv {out : List Nat} {g : Int} {a : Nat} (h : a ∈ adN out g) : a ∈ out ∨ (a : Int) = g := by
 unfold adN at h
 split at h
 ·split at h
  ·exact .inl h
  ·rcases List.mem_append.mp h with h | h
   ·exact .inl h
   ·rw [List.mem_singleton] at h;right;omega
 ·exact .inl h
theorem adN_nodup {out : List Nat} {g : Int} (h : out.Nodup) : (adN out g).Nodup := by
 unfold adN
 split
 ·split
  ·exact h
  ·rename_i hm
   rw [List.nodup_append]
   exact ⟨h,by simp,fun a ha b hb e=>hm (by rw [List.mem_singleton] at hb;rw [← hb,← e];exact ha)⟩
 ·exact h
theorem adN_pre {out : List Nat} {g : Int} : ∃ r, adN out g = out ++ r := by
 unfold adN
 split
 ·split
  ·exact ⟨[],by simp⟩
  ·exact ⟨_,rfl⟩
 ·exact ⟨[],by simp⟩
theorem ev_rcStep (out : List Nat) (hl : out.length ≤ 1048576) (g : Int) : Ev (fun k => rcStep k (ci out) g) (ci (adN out g)) := by
 unfold rcStep adN
 by_cases h0:0≤g
 ·obtain ⟨m,rfl⟩:∃ m:Nat,g=(m:Int):=⟨g.toNat,by omega⟩
  rw [if_pos h0,Int.toNat_natCast]
  refine Ev.pos h0 (Ev.bind (ev_Contains out hl (m:Int)) ?_)
  by_cases hm:m ∈ out
  ·rw [if_pos hm]
   exact Ev.pos ((hasN_nat m out).mpr hm) (Ev.now _)
  ·rw [if_neg hm,← ci_snoc]
   exact Ev.neg (fun hh=>hm ((hasN_nat m out).mp hh)) (Ev.pos (by rw [jzb];omega) (Ev.now _))
 ·rw [if_neg h0]
  exact Ev.neg h0 (Ev.now _)
theorem ev_rcAll2 (out : List Nat) (hl : out.length + 1 ≤ 1048576) (c x : Int) : Ev (fun k => rcAll k [c, x] (ci out)) (ci (adN (adN out c) x)) := by
 show Ev (fun k=>(rcStep k (ci out) c).bind fun o=>rcAll k [x] o) _
 refine Ev.bind (ev_rcStep out (by omega) c) ?_
 show Ev (fun k=>(rcStep k (ci (adN out c)) x).bind fun o=>some o) _
 refine Ev.bind (ev_rcStep (adN out c) ?_ x) (Ev.now _)
 unfold adN
 split
 ·split
  ·omega
  ·rw [List.length_append,List.length_singleton];omega
 ·omega
def Shut (h : List Ft) (out : List Nat) (a : Nat) : Prop := ∀ j : Nat, (fca h a = (j : Int) → j ∈ out) ∧ (fcx h a = (j : Int) → j ∈ out)
theorem shut_all {h : List Ft} {f : Nat} {out : List Nat} (hf : f ∈ out) (hs : ∀ a ∈ out, Shut h out a) {a : Nat} (r : Rc h f a) : a ∈ out := by
 induction r with
 | here=>exact hf
 | ca _ e ih=>exact (hs _ ih _).1 e
 | cx _ e ih=>exact (hs _ ih _).2 e
theorem ev_rcGo {h : List Ft} (hL : LO h) (hn : h.length ≤ 1048575) {f : Nat} (hf : f < h.length) : ∀ (n i : Nat) (out : List Nat), h.length ≤ n + i → i ≤ out.length → f ∈ out → out.Nodup → (∀ a ∈ out, Rc h f a) → (∀ j, j < i → Shut h out (out.getD j 0)) →
  ∃ L:List Nat,Ev (fun k=>rcGo h k i (ci out)) (ci L)∧L.Nodup∧∀ a,a ∈ L ↔ Rc h f a
 | n,i,out,hni,hi,hfo,hnd,hr,hs=>by
  have hlt:∀ a ∈ out,a<h.length:=fun a ha=>(hr a ha).lt hL hf
  have hlen:=jmc hnd hlt
  by_cases c:i<out.length
  ·cases n with
   | zero=>omega
   | succ n =>
   have hmem:out.getD i 0 ∈ out:=by
    have:out.getD i 0=out[i]:=by simp [List.getD_eq_getElem?_getD,c]
    rw [this];exact List.getElem_mem c
   have hx:=hlt _ hmem
   obtain ⟨r1,e1⟩:=adN_pre (out:=out) (g:=fca h (out.getD i 0))
   obtain ⟨r2,e2⟩:=adN_pre (out:=adN out (fca h (out.getD i 0))) (g:=fcx h (out.getD i 0))
   have hpre:adN (adN out (fca h (out.getD i 0))) (fcx h (out.getD i 0))=out ++ (r1 ++ r2):=by rw [e2,e1,List.append_assoc]
   have hget:∀ j,j<out.length→(adN (adN out (fca h (out.getD i 0))) (fcx h (out.getD i 0))).getD j 0=out.getD j 0:=fun j hj=>by
    rw [hpre];simp [List.getD_eq_getElem?_getD,List.getElem?_append_left hj]
   obtain ⟨L,h1,h2,h3⟩:=ev_rcGo hL hn hf n (i+1) (adN (adN out (fca h (out.getD i 0))) (fcx h (out.getD i 0))) (by omega) (by rw [hpre,List.length_append];omega) (adN_sub (adN_sub hfo)) (adN_nodup (adN_nodup hnd)) (fun a ha=>by
    rcases adN_inv ha with ha | ha
    ·rcases adN_inv ha with ha | ha
     ·exact hr a ha
     ·exact .ca (hr _ hmem) ha.symm
    ·exact .cx (hr _ hmem) ha.symm) (fun j hj=>by
    rw [hget j (by omega)]
    intro q
    rcases Nat.lt_or_ge j i with g | g
    ·have:=hs j g q
     exact ⟨fun e=>adN_sub (adN_sub (this.1 e)),fun e=>adN_sub (adN_sub (this.2 e))⟩
    ·obtain rfl:j=i:=by omega
     refine ⟨fun e=>?_,fun e=>?_⟩
     ·rw [e];exact adN_sub adN_mem
     ·rw [e];exact adN_mem)
   refine ⟨L,?_,h2,h3⟩
   have hrd:rd (ci out) (i:Int)=((out.getD i 0:Nat):Int):=by simp [rd,ci,List.getD_eq_getElem?_getD,c]
   refine Ev.step (fun k=>by rw [rcGo]) ?_
   refine Ev.pos (by rw [jzb];exact c) ?_
   rw [hrd]
   exact Ev.pos (by omega) (Ev.pos (by omega) (Ev.bind (ev_rcAll2 out (by omega) _ _) h1))
  ·refine ⟨out,?_,hnd,fun a=>⟨hr a,fun r=>shut_all hfo (fun b hb=>?_) r⟩⟩
   ·refine Ev.step (fun k=>by rw [rcGo]) ?_
    exact Ev.neg (by rw [jzb];exact c) (Ev.now _)
   ·obtain ⟨j,hj,rfl⟩:=List.getElem_of_mem hb
    have:=hs j (by omega)
    simpa [List.getD_eq_getElem?_getD,hj] using this
theorem ascI_eq : ∀ {l m : List Int}, l.Pairwise (· < ·) → m.Pairwise (· < ·) → (∀ x, x ∈ l ↔ x ∈ m) → l = m
 | [],[],_,_,_=>rfl
 | [],b :: m,_,_,h=>by have:=(h b).mpr List.mem_cons_self;cases this
 | a :: l,[],_,_,h=>by have:=(h a).mp List.mem_cons_self;cases this
 | a :: l,b :: m,h1,h2,h=>by
  rw [List.pairwise_cons] at h1 h2
  have hab:a=b:=by
   have ha:=(h a).mp List.mem_cons_self
   have hb:=(h b).mpr List.mem_cons_self
   rcases List.mem_cons.mp ha with e | e
   ·exact e
   ·rcases List.mem_cons.mp hb with f | f
    ·exact f.symm
    ·have:=h2.1 a e;have:=h1.1 b f;omega
  subst hab
  rw [ascI_eq h1.2 h2.2 (fun x=>?_)]
  constructor
  ·intro hx
   rcases List.mem_cons.mp ((h x).mp (List.mem_cons_of_mem _ hx)) with e | e
   ·subst e;have:=h1.1 x hx;omega
   ·exact e
  ·intro hx
   rcases List.mem_cons.mp ((h x).mpr (List.mem_cons_of_mem _ hx)) with e | e
   ·subst e;have:=h2.1 x hx;omega
   ·exact e
theorem ci_asc {l : List Nat} (h : l.Pairwise (· < ·)) : (ci l).Pairwise (· < ·) := by
 unfold ci
 rw [List.pairwise_map]
 exact h.imp (fun h=>Int.ofNat_lt.mpr h)
theorem mem_ci {l : List Nat} {x : Int} : x ∈ ci l ↔ ∃ a : Nat, a ∈ l ∧ (a : Int) = x := by unfold ci; rw [List.mem_map]
theorem ci_nodup {l : List Nat} (h : l.Nodup) : (ci l).Nodup := by
 unfold ci List.Nodup
 rw [List.pairwise_map]
 exact List.Pairwise.imp (fun h e=>h (Int.ofNat.inj e)) h
theorem sort_ci {L M : List Nat} (hL : L.Nodup) (hM : M.Pairwise (· < ·)) (hm : ∀ a, a ∈ L ↔ a ∈ M) : (ci L).mergeSort (fun x y => decide (x ≤ y)) = ci M := by
 have hp:=List.mergeSort_perm (ci L) (fun x y=>decide (x≤y))
 refine ascI_eq ?_ (ci_asc hM) (fun x=>?_)
 ·have h1:(List.mergeSort (ci L) (fun x y=>decide (x≤y))).Pairwise (fun a b=>decide (a≤b)=true):=List.pairwise_mergeSort (fun a b c h1 h2=>by simp at *;omega) (fun a b=>by simp;omega) (ci L)
  have h2:(List.mergeSort (ci L) (fun x y=>decide (x≤y))).Nodup:=hp.nodup_iff.mpr (ci_nodup hL)
  exact List.Pairwise.imp (fun {a b} h=>by have:=of_decide_eq_true h.1;have:=h.2;omega) (List.Pairwise.and h1 h2)
 ·rw [hp.mem_iff,mem_ci,mem_ci]
  exact ⟨fun ⟨a,h1,h2⟩=>⟨a,(hm a).mp h1,h2⟩,fun ⟨a,h1,h2⟩=>⟨a,(hm a).mpr h1,h2⟩⟩
theorem ev_iReach {h : List Ft} (hL : LO h) (hn : h.length ≤ 1048575) {f : Nat} (hf : f < h.length) : Ev (fun k => jmb.f k h (f : Int)) (ci (rchL h f)) := by
 obtain ⟨L,h1,h2,h3⟩:=ev_rcGo hL hn hf h.length 0 [f] (by omega) (by simp) (by simp) (by simp) (fun a ha=>by rw [List.mem_singleton] at ha;rw [ha];exact .here) (fun j hj=>by omega)
 have hl:=jmc h2 (fun a ha=>((h3 a).mp ha).lt hL hf)
 have hp:0<L.length:=List.length_pos_of_mem ((h3 f).mpr .here)
 unfold jmb.f
 refine Ev.bind h1 (Ev.pos (by rw [jzb];omega) ?_)
 rw [sort_ci h2 (rchL_asc h f) (fun a=>(h3 a).trans (mem_rchL hL hf).symm)]
 exact Ev.now _
end Go.Proofs.Ytlhfcmbkjddgiaa.Pure
end
