/- One part of the proofs on this program: functions of the program as plain functions, that the code comes to them, and facts on them. -/
import Derived.Test.YtegpknnlggkcpaaDoorYAll1
import Derived.Test.YtegpknnlggkcpaaDoorYAll3
import Derived.Test.YtegpknnlggkcpaaDoorYAll4
import Derived.Test.YtegpknnlggkcpaaDoorYMa
section
set_option linter.unusedSimpArgs false
set_option linter.unusedVariables false
namespace Go.Proofs.YtegpknnlggkcpaaDoor.Pure
open Go Go.RowKit Go.Proofs.YtegpknnlggkcpaaDoor.P Go.Proofs.YtegpknnlggkcpaaDoorW.PrintWords
set_option linter.unusedVariables false
theorem r0 (p : List Ln) (i : Nat) : (jb p (i : Int)).f0 = dp p i := rfl
theorem r1 (p : List Ln) (i : Nat) : (jb p (i : Int)).f1 = kd p i := rfl
theorem r2 (p : List Ln) (i : Nat) : (jb p (i : Int)).f2 = la p i := rfl
theorem r3 (p : List Ln) (i : Nat) : (jb p (i : Int)).f3 = lb p i := rfl
theorem ev_blockEnd_l0 {p : List Ln} (hp : p.length ≤ 1048576) {a : Nat} (ha : a < p.length) : ∀ (n i : Nat), p.length ≤ n + i → Ev (fun k => jU.l0 k p a i) ((endN p (dp p a) n i : Nat) : Int)
 | 0,i,h=>by
  refine Ev.step (fun k=>by rw [jU.l0]) ?_
  exact Ev.neg (by omega) (Ev.now _)
 | n+1,i,h=>by
  refine Ev.step (fun k=>by rw [jU.l0]) ?_
  simp only [endN,r0]
  by_cases h1:i<p.length
  ·refine Ev.pos (by omega) (Ev.pos (by omega) (Ev.pos (by omega) (Ev.pos (by omega) ?_)))
   rw [if_pos h1]
   by_cases h2:dp p i > dp p a
   ·rw [if_pos h2,wS (by omega)]
    exact Ev.pos h2 (ev_blockEnd_l0 hp ha n (i+1) (by omega))
   ·rw [if_neg h2]
    exact Ev.neg h2 (Ev.now _)
  ·rw [if_neg h1]
   exact Ev.neg (by omega) (Ev.now _)
theorem ev_blockEnd {p : List Ln} (hp : p.length ≤ 1048576) {a : Nat} (ha : a < p.length) : Ev (fun k => jU.f k p a) ((bEnd p a : Nat) : Int) := by
 unfold jU.f
 rw [wS (by omega)]
 exact ev_blockEnd_l0 hp ha p.length (a+1) (by omega)
theorem ev_endOf_l0 {p : List Ln} (hp : p.length ≤ 1048576) {a : Nat} (ha : a < p.length) : ∀ (n i : Nat), p.length ≤ n + i → Ev (fun k => jS.l0 k p a i) ((endN p (dp p a) n i : Nat) : Int)
 | 0,i,h=>by
  refine Ev.step (fun k=>by rw [jS.l0]) ?_
  exact Ev.neg (by omega) (Ev.now _)
 | n+1,i,h=>by
  refine Ev.step (fun k=>by rw [jS.l0]) ?_
  simp only [endN,r0]
  by_cases h1:i<p.length
  ·refine Ev.pos (by omega) (Ev.pos (by omega) (Ev.pos (by omega) (Ev.pos (by omega) ?_)))
   rw [if_pos h1]
   by_cases h2:dp p i > dp p a
   ·rw [if_pos h2,wS (by omega)]
    exact Ev.pos h2 (ev_endOf_l0 hp ha n (i+1) (by omega))
   ·rw [if_neg h2]
    exact Ev.neg h2 (Ev.now _)
  ·rw [if_neg h1]
   exact Ev.neg (by omega) (Ev.now _)
theorem ev_endOf {p : List Ln} (hp : p.length ≤ 1048576) {a : Nat} (ha : a < p.length) : Ev (fun k => jS.f k p a) ((bEnd p a : Nat) : Int) := by
 unfold jS.f
 rw [wS (by omega)]
 exact ev_endOf_l0 hp ha p.length (a+1) (by omega)
theorem fol (a : Int) : jNa.f a = some (isF a) := by unfold jNa.f; rw [inR]; rfl
theorem ev_sameNext {p : List Ln} (hp : p.length ≤ 1048576) {a : Nat} (ha : a < p.length) : Ev (fun k => jBa.f k p a) ((if bEnd p a < p.length ∧ dp p (bEnd p a) = dp p a then bEnd p a else p.length : Nat) : Int) := by
 unfold jBa.f
 refine Ev.bind (ev_blockEnd hp ha) ?_
 have g:=jLa p a
 simp only [r0]
 by_cases h1:bEnd p a<p.length
 ·refine Ev.pos (by omega) (Ev.pos (by omega) (Ev.pos (by omega) (Ev.pos (by omega) ?_)))
  by_cases h2:dp p (bEnd p a)=dp p a
  ·rw [if_pos ⟨h1,h2⟩];exact Ev.pos h2 (Ev.now _)
  ·rw [if_neg (show ¬ (bEnd p a<p.length∧_) from fun h=>h2 h.2)];exact Ev.neg h2 (Ev.now _)
 ·rw [if_neg (show ¬ (bEnd p a<p.length∧dp p (bEnd p a)=dp p a) from fun h=>h1 h.1)];exact Ev.neg (by omega) (Ev.now _)
theorem chainN_end (p : List Ln) (d : Int) (n : Nat) : jya p d n p.length = [] := by
 cases n with
 | zero=>rfl
 | succ n=>simp [jya]
theorem jAb {p : List Ln} (hp : p.length ≤ 1048576) {d : Int} : ∀ (n i : Nat) (l : List Nat), p.length ≤ n + i → l.length + p.length ≤ 1048576 * 2 + i → (i < p.length → dp p i = d) →
  Ev (fun k=>jfa.l0 k p (ci l) i) (ci (l ++ jya p d n i))
 | 0,i,l,h,_,_=>by
  simp only [jya,List.append_nil]
  refine Ev.step (fun k=>by rw [jfa.l0]) ?_
  exact (Ev.neg (by omega) (Ev.now _))
 | n+1,i,l,h,hl,hd=>by
  refine Ev.step (fun k=>by rw [jfa.l0]) ?_
  simp only [jya,r1,fol,Option.bind_some,ci_snoc,jIb]
  by_cases h1:i<p.length
  ·have hd:=hd h1
   refine Ev.pos (by omega) (Ev.pos (by omega) ?_)
   by_cases h2:isF (kd p i)=true
   ·rw [if_pos ⟨h1,hd,h2⟩]
    refine Ev.pos h2 (Ev.pos (by omega) (Ev.bind (ev_sameNext hp h1) ?_))
    have g:=jLa p i
    by_cases h3:bEnd p i<p.length∧dp p (bEnd p i)=dp p i
    ·rw [if_pos h3]
     have:=jAb hp n (bEnd p i) (l ++ [i]) (by omega) (by rw [List.length_append,List.length_singleton];omega) (fun _=>by rw [h3.2,hd])
     rw [List.append_assoc] at this
     exact this
    ·rw [if_neg h3]
     have:=jAb (d:=d) hp n p.length (l ++ [i]) (by omega) (by rw [List.length_append,List.length_singleton];omega) (fun h=>by omega)
     rw [List.append_assoc] at this
     have e:=chainN_end p d n
     have e2:jya p d n (bEnd p i)=[]:=by cases n with | zero=>rfl | succ n=>simp only [jya];rw [if_neg (fun h=>h3 ⟨h.1,by rw [h.2.1,hd]⟩)]
     rw [e] at this
     rw [e2]
     exact this
   ·rw [if_neg (fun h=>h2 h.2.2),List.append_nil]
    exact Ev.neg h2 (Ev.now _)
  ·rw [if_neg (fun h=>h1 h.1),List.append_nil]
   exact Ev.neg (by omega) (Ev.now _)
theorem ev_chainOf {p : List Ln} (hp : p.length ≤ 1048576) {a : Nat} (ha : a < p.length) : Ev (fun k => jfa.f k p a) (ci (chain p a)) := by
 unfold jfa.f
 rw [show ([(a:Int)]:List Int)=ci [a] from rfl]
 refine Ev.bind (ev_sameNext hp ha) ?_
 have g:=jLa p a
 by_cases h3:bEnd p a<p.length∧dp p (bEnd p a)=dp p a
 ·rw [if_pos h3]
  exact jAb (d:=dp p a) hp p.length (bEnd p a) [a] (by omega) (by rw [List.length_singleton];omega) (fun _=>h3.2)
 ·rw [if_neg h3]
  have:=jAb (d:=dp p a) hp p.length p.length [a] (by omega) (by rw [List.length_singleton];omega) (fun h=>by omega)
  have e:=chainN_end p (dp p a) p.length
  have e2:jQa p a=[]:=by
   unfold jQa
   cases hq:p.length with
   | zero=>rfl
   | succ n=>simp only [jya];rw [if_neg (fun h=>h3 ⟨h.1,h.2.1⟩)]
  rw [e] at this
  rw [chain,e2]
  exact this
theorem ev_tryFrom_l0 {p : List Ln} (hp : p.length ≤ 1048576) {a : Nat} (ha : a < p.length) : ∀ (n i : Nat) (l : List Nat), p.length ≤ n + i → l.length + p.length ≤ 1048576 * 2 + i →
  Ev (fun k=>jL.l0 k p a (ci l) i) (ci (l ++ jya p (dp p a) n i))
 | 0,i,l,h,_=>by
  simp only [jya,List.append_nil]
  refine Ev.step (fun k=>by rw [jL.l0]) ?_
  refine Ev.neg (by omega) ?_
  refine Ev.step (fun k=>by rw [jL.j1]) ?_
  exact (Ev.neg (by simp) (Ev.now _))
 | n+1,i,l,h,hl=>by
  refine Ev.step (fun k=>by rw [jL.l0]) ?_
  have stop:Ev (fun k=>jL.j1 k p a (ci l) i false) (ci l):=by
   refine Ev.step (fun k=>by rw [jL.j1]) ?_
   exact Ev.neg (by simp) (Ev.now _)
  simp only [jya,r1,r0,inW,Option.bind_some]
  by_cases h1:i<p.length
  ·refine Ev.pos (by omega) (Ev.pos (by omega) (Ev.pos (by omega) (Ev.pos (by omega) ?_)))
   by_cases h2:dp p i=dp p a
   ·refine Ev.pos h2 ?_
    by_cases h3:isF (kd p i)=true
    ·rw [if_pos ⟨h1,h2,h3⟩,show (decide (8≤kd p i) && decide (kd p i≤10))=true from h3]
     refine Ev.step (fun k=>by rw [jL.j1]) (Ev.pos rfl ?_)
     simp only [ci_snoc,jIb]
     refine Ev.pos (by omega) (Ev.bind (ev_endOf hp h1) ?_)
     have g:=jLa p i
     have:=ev_tryFrom_l0 hp ha n (bEnd p i) (l ++ [i]) (by omega) (by rw [List.length_append,List.length_singleton];omega)
     rw [List.append_assoc] at this
     exact this
    ·rw [if_neg (fun h=>h3 h.2.2),List.append_nil,show (decide (8≤kd p i) && decide (kd p i≤10))=false from by simpa [isF] using h3]
     exact stop
   ·rw [if_neg (fun h=>h2 h.2.1),List.append_nil]
    exact Ev.neg h2 stop
  ·rw [if_neg (fun h=>h1 h.1),List.append_nil]
   exact Ev.neg (by omega) stop
theorem ev_tryFrom {p : List Ln} (hp : p.length ≤ 1048576) {a : Nat} (ha : a < p.length) : Ev (fun k => jL.f k p a) (ci (chain p a)) := by
 unfold jL.f
 rw [show ([(a:Int)]:List Int)=ci [a] from rfl]
 refine Ev.bind (ev_endOf hp ha) ?_
 have g:=jLa p a
 exact ev_tryFrom_l0 hp ha p.length (bEnd p a) [a] (by omega) (by rw [List.length_singleton];omega)
theorem ev_validChain_l0 {p : List Ln} (hp : p.length ≤ 1048576) (l : List Nat) (hl : ∀ j ∈ l, j < p.length) (hl2 : l.length ≤ 1048577) : ∀ (r : List Nat) (j : Nat) (ex : Nat) (q : Option Int), l.drop j = r → 1 ≤ j → ex ≤ j → (q = if j > 1 then some (kd p (l.getD (j - 1) 0)) else none) →
  Ev (fun k=>jm.l0 k p (ci l) (ex:Int) (j:Int)) (finB (l.length - 1) (vcGo (r.map (kd p)) ex q))
 | [],j,ex,q,hr,hj,he,hq=>by
  have h1:=ci_end hr
  refine Ev.step (fun k=>by rw [jm.l0]) ?_
  simp only [List.map_nil,vcGo,jIb]
  refine Ev.neg (by omega) ?_
  by_cases h2:1<l.length
  ·refine Ev.pos (by omega) ?_
   have e:finB (l.length - 1) (some (ex:Int))=decide ((ex:Int)≤6):=by simp [finB];omega
   rw [e]
   exact Ev.now _
  ·refine Ev.neg (by omega) ?_
   have e:finB (l.length - 1) (some (ex:Int))=false:=by simp [finB];omega
   rw [e]
   exact Ev.now _
 | a :: r,j,ex,q,hr,hj,he,hq=>by
  obtain ⟨h1,h2,h3⟩:=ci_drop hr
  have ha:a<p.length:=hl a (List.mem_of_mem_drop (by rw [hr];simp))
  have go:∀ ex':Nat,ex'≤j+1→ex'=(if kd p a=8 then ex+1 else ex)→Ev (fun k=>jm.j1 k p (ci l) (ex':Int) (j:Int) (kd p a)) (finB (l.length - 1) (vcGo ((a :: r).map (kd p)) ex q)):=by
   intro ex' hex heq
   have hcast:(if kd p a=8 then (ex:Int)+1 else (ex:Int))=(ex':Int):=by
    by_cases h8:kd p a=8
    ·rw [if_pos h8];rw [if_pos h8] at heq;omega
    ·rw [if_neg h8];rw [if_neg h8] at heq;omega
   have j2:∀ b:Bool,b=badK (kd p a) (ex':Int) q →
     Ev (fun k=>jm.j2 k p (ci l) (ex':Int) (j:Int) b) (finB (l.length - 1) (vcGo ((a :: r).map (kd p)) ex q)):=by
    intro b hb
    refine Ev.step (fun k=>by rw [jm.j2]) ?_
    simp only [List.map_cons,vcGo,hcast,← hb]
    cases b with
    | true=>exact Ev.pos rfl (by simpa only [if_true,finB] using Ev.now false)
    | false =>
     refine Ev.neg (by simp) ?_
     simp only [Bool.false_eq_true,if_false]
     rw [wS (by omega)]
     exact ev_validChain_l0 hp l hl hl2 r (j+1) ex' _ h3 (by omega) hex (by rw [if_pos (by omega)];simp only [Nat.add_sub_cancel];rw [show l.getD j 0=a from by have:=h2;simp only [rd,ci,Int.toNat_natCast,List.getD_eq_getElem?_getD,List.getElem?_map] at this;rw [List.getD_eq_getElem?_getD];cases hh:l[j]? with | none=>rw [List.getElem?_eq_none_iff] at hh;omega | some v=>rw [hh] at this;simp only [Option.map_some,Option.getD_some] at this ⊢;omega])
   refine Ev.step (fun k=>by rw [jm.j1]) ?_
   have e0:((ex':Int) == 0)=decide (ex'=0):=by rw [Bool.eq_iff_iff];simp
   rw [e0]
   by_cases hj1:j > 1
   ·rw [if_pos hj1] at hq
    subst hq
    have hjm:l.getD (j - 1) 0<p.length:=hl _ (by rw [List.getD_eq_getElem?_getD,List.getElem?_eq_getElem (by omega)];exact List.getElem_mem _)
    have hrd:rd (ci l) ((j - 1:Nat):Int)=((l.getD (j - 1) 0:Nat):Int):=by
     simp only [rd,ci,Int.toNat_natCast,List.getD_eq_getElem?_getD,List.getElem?_map]
     rw [List.getElem?_eq_getElem (by omega)];rfl
    have hw:wrap64 ((j:Int) - 1)=((j - 1:Nat):Int):=by rw [wr (by omega)];omega
    rw [hw,hrd]
    generalize l.getD (j - 1) 0=u at *
    simp only [r1,jIb]
    refine Ev.pos (by omega) (Ev.pos (by omega) (Ev.pos (by omega) (Ev.pos (by omega) (Ev.pos (by omega) ?_))))
    refine Ev.both (fun c1=>j2 _ (by rw [Bool.eq_iff_iff];simp [badK] <;> omega)) (fun c1=>?_)
    refine Ev.both (fun c2=>?_) (fun c2=>?_)
    ·refine Ev.both (fun c3=>?_) (fun c3=>j2 _ (by rw [Bool.eq_iff_iff];simp [badK] <;> omega))
     refine Ev.both (fun c4=>by omega) (fun c4=>j2 _ (by rw [Bool.eq_iff_iff];simp [badK] <;> omega))
    ·refine Ev.both (fun c4=>j2 _ (by rw [Bool.eq_iff_iff];simp [badK] <;> omega)) (fun c4=>j2 _ (by rw [Bool.eq_iff_iff];simp [badK] <;> omega))
   ·rw [if_neg hj1] at hq
    subst hq
    refine Ev.neg (by omega) ?_
    refine Ev.both (fun c4=>j2 _ (by rw [Bool.eq_iff_iff];simp [badK] <;> omega)) (fun c4=>j2 _ (by rw [Bool.eq_iff_iff];simp [badK] <;> omega))
  refine Ev.step (fun k=>by rw [jm.l0]) ?_
  rw [h2]
  simp only [jIb,r1]
  refine Ev.pos (by omega) (Ev.pos (by omega) (Ev.pos (by omega) (Ev.pos (by omega) ?_)))
  rw [show wrap64 ((ex:Int)+1)=((ex+1:Nat):Int) from wS (by omega)]
  refine Ev.both (fun c=>go (ex+1) (by omega) (by rw [if_pos c])) (fun c=>go ex (by omega) (by rw [if_neg c]))
theorem chain_len (p : List Ln) (d : Int) : ∀ (n k : Nat), (jya p d n k).length ≤ n
 | 0,k=>Nat.le_refl _
 | n+1,k=>by
  simp only [jya]
  split
  ·have:=chain_len p d n (bEnd p k);simp only [List.length_cons];omega
  ·simp
theorem chain_lt {p : List Ln} {a : Nat} (ha : a < p.length) : ∀ j ∈ chain p a, j < p.length := by
 intro j hj
 rcases List.mem_cons.mp hj with rfl | hj
 ·exact ha
 ·exact (chainN_mem hj).2.1
theorem ev_validChain {p : List Ln} (hp : p.length ≤ 1048576) {a : Nat} (ha : a < p.length) : Ev (fun k => jm.f k p a) (vcB ((jQa p a).map (kd p))) := by
 unfold jm.f
 refine Ev.bind (ev_chainOf hp ha) ?_
 have hl:=chain_len p (dp p a) p.length (bEnd p a)
 have h:=ev_validChain_l0 hp (chain p a) (chain_lt ha) (by simp only [chain,jQa,List.length_cons];omega) (jQa p a) 1 0 none rfl (by omega) (by omega) (by simp)
 have e:(chain p a).length - 1=((jQa p a).map (kd p)).length:=by simp [chain]
 rw [e] at h
 exact h
end Go.Proofs.YtegpknnlggkcpaaDoor.Pure
end
