/- One part of the proofs on this program: functions of the program as plain functions, that the code comes to them, and facts on them. -/
import Derived.Test.YtkokajljeebgdaaYAll6
import Derived.Test.YtkokajljeebgdaaYAll7
import Derived.Test.YtkokajljeebgdaaYMh0
section
set_option linter.unusedSimpArgs false
set_option linter.unusedVariables false
namespace Go.Proofs.Ytkokajljeebgdaa.Pure
open Go Go.RowKit Go.Proofs.Ytkokajljeebgdaa.P Go.Proofs.YtkokajljeebgdaaW.PrintWords
set_option linter.unusedVariables false
def thN (p : List Ln) : Nat → Nat → Nat
 | 0,i=>i
 | n+1,i=>if kd p i=7 then i else match hdN p (dp p i) i with | none=>i | some m=>thN p n m
def thd (p : List Ln) (i : Nat) : Nat := thN p (i + 1) i
def inTry (p : List Ln) (i : Nat) : Prop := kd p i = 7 ∨ isF (kd p i) = true
theorem chain_step {p : List Ln} {T i m : Nat} (hT : T < p.length) (hm : m ∈ chain p T) (h1 : bEnd p m = i) (h2 : i < p.length) (h3 : dp p i = dp p T) (h4 : isF (kd p i) = true) : i ∈ chain p T := by
 have key:∀ (n k:Nat),p.length≤n+k→m ∈ jRa p (dp p T) n k→i ∈ jRa p (dp p T) n k:=by
  intro n
  induction n with
  | zero=>intro k _ h;simp [jRa] at h
  | succ n ih =>
   intro k hk h
   simp only [jRa] at h ⊢
   split at h
   ·rename_i hc
    rw [if_pos hc]
    have g:=jvb p k
    rcases List.mem_cons.mp h with rfl | h
    ·refine List.mem_cons_of_mem _ ?_
     cases n with
     | zero=>omega
     | succ n =>
      simp only [jRa]
      rw [h1,if_pos ⟨h2,h3,h4⟩]
      exact List.mem_cons_self
    ·exact List.mem_cons_of_mem _ (ih _ (by omega) h)
   ·simp at h
 unfold chain jfb at hm ⊢
 rcases List.mem_cons.mp hm with rfl | hm
 ·refine List.mem_cons_of_mem _ ?_
  have g:=jvb p m
  rw [h1]
  cases hl:p.length with
  | zero=>omega
  | succ n =>
   simp only [jRa]
   rw [if_pos ⟨h2,h3,h4⟩]
   exact List.mem_cons_self
 ·exact List.mem_cons_of_mem _ (key _ _ (by omega) hm)
structure IsTry (p : List Ln) (i T : Nat) : Prop where
 le:T≤i
 try_:kd p T=7
 deep:dp p T=dp p i
 only:∀ j,T<j→j≤i→dp p j=dp p i→kd p j≠7
 low:∀ j,T≤j→j≤i→dp p i≤dp p j
 mem:i ∈ chain p T
theorem thN_is {t : List Cl} {p : List Ln} (hv : jNb t p) : ∀ (n i : Nat), i < n → i < p.length → inTry p i → IsTry p i (thN p n i)
 | 0,i,h,_,_=>by omega
 | n+1,i,h,hi,hk=>by
  simp only [thN]
  by_cases h7:kd p i=7
  ·rw [if_pos h7]
   exact ⟨Nat.le_refl _,h7,rfl,fun j a b=>by omega,fun j a b=>by rw [show j=i from by omega];omega,List.mem_cons_self⟩
  ·rw [if_neg h7]
   have hF:isF (kd p i)=true:=by rcases hk with h | h;exact absurd h h7;exact h
   obtain ⟨m,hm,hk2⟩:=((good_top hi).mp (hv.2.2 i hi).2.2.2).2.2 hF
   rw [hm]
   show IsTry p i (thN p n m)
   obtain ⟨a,b,c⟩:=(hdN_iff p _ i m).mp hm
   have ih:=thN_is hv n m (by omega) (by omega) hk2
   have hb:bEnd p m=i:=bEnd_uniq a (by omega) (fun j x y=>by rw [b];exact c j x y) (fun _=>by omega)
   have hle:=ih.le
   refine ⟨by omega,ih.try_,by rw [ih.deep,b],fun j x y z=>?_,fun j x y=>?_,chain_step (by omega) ih.mem hb hi (by rw [ih.deep,b]) hF⟩
   ·by_cases e1:j=i
    ·rw [e1];exact h7
    ·by_cases e2:j≤m
     ·exact ih.only j x e2 (by rw [z,b])
     ·have:=c j (by omega) (by omega);omega
   ·by_cases e1:j=i
    ·rw [e1];omega
    ·by_cases e2:j≤m
     ·have:=ih.low j x e2;omega
     ·have:=c j (by omega) (by omega);omega
theorem thd_is {t : List Cl} {p : List Ln} (hv : jNb t p) {i : Nat} (hi : i < p.length) (hk : inTry p i) : IsTry p i (thd p i) := thN_is hv (i + 1) i (by omega) hi hk
theorem ev_sTryOf {t : List Cl} {p : List Ln} (hp : p.length ≤ 1048576) (hv : jNb t p) {i : Nat} (hi : i < p.length) (hk : inTry p i) : Ev (fun k => jqb.f k p i) ((thd p i : Nat) : Int) := by
 have:∀ (n i:Nat),i<n→i<p.length→inTry p i→Ev (fun k=>jqb.l0 k p i) ((thN p n i:Nat):Int):=by
  intro n
  induction n with
  | zero=>intro i h;omega
  | succ n ih =>
   intro i h hi hk
   refine Ev.step (fun k=>by rw [jqb.l0]) ?_
   simp only [r1,thN]
   refine Ev.pos (by omega) (Ev.pos (by omega) ?_)
   by_cases h7:kd p i=7
   ·rw [if_pos h7]
    exact Ev.pos h7 (Ev.now _)
   ·refine Ev.neg h7 (Ev.bind (ev_headOf hp hi) ?_)
    rw [if_neg h7]
    have hF:isF (kd p i)=true:=by rcases hk with h | h;exact absurd h h7;exact h
    obtain ⟨m,hm,hk2⟩:=((good_top hi).mp (hv.2.2 i hi).2.2.2).2.2 hF
    rw [hm]
    obtain ⟨a,b,c⟩:=(hdN_iff p _ i m).mp hm
    exact ih m (by omega) (by omega) hk2
 exact this (i+1) i (by omega) hi hk
theorem ev_iTryOf {t : List Cl} {p : List Ln} (hp : p.length ≤ 1048576) (hv : jNb t p) {i : Nat} (hi : i < p.length) (hk : inTry p i) : Ev (fun k => jKa.f k p i) (ci (chain p (thd p i))) := by
 have ht:=thd_is hv hi hk
 have hle:=ht.le
 have:∀ (n j:Nat),thd p i≤j→j≤i→j≤n+thd p i→Ev (fun k=>jKa.l0 k p i j) (ci (chain p (thd p i))):=by
  intro n
  induction n with
  | zero =>
   intro j h1 h2 h3
   obtain rfl:j=thd p i:=by omega
   refine Ev.step (fun k=>by rw [jKa.l0]) ?_
   simp only [r0,r1,eqd]
   refine Ev.pos (by omega) (Ev.pos (by omega) (Ev.pos (by omega) (Ev.pos ht.try_ (Ev.pos (by omega) (Ev.pos (by omega) ?_)))))
   rw [decide_eq_true ht.deep]
   refine Ev.step (fun k=>by rw [jKa.j1]) ?_
   simp only [jma.f,Option.bind_some]
   exact Ev.pos (by simp) (Ev.bind (ev_tryFrom hp (by omega)) (Ev.now _))
  | succ n ih =>
   intro j h1 h2 h3
   by_cases he:j=thd p i
   ·exact ih j h1 h2 (by omega)
   ·have no:∀ q:Bool,q=false→Ev (fun k=>jKa.j1 k p i j q) (ci (chain p (thd p i))):=by
     intro q hq
     subst hq
     refine Ev.step (fun k=>by rw [jKa.j1]) ?_
     rw [wr (x:=(j:Int) - 1) (by omega),show (j:Int) - 1=((j - 1:Nat):Int) from by omega]
     exact Ev.neg (by simp) (ih (j - 1) (by omega) (by omega) (by omega))
    refine Ev.step (fun k=>by rw [jKa.l0]) ?_
    simp only [r0,r1,eqd]
    refine Ev.pos (by omega) (Ev.pos (by omega) (Ev.pos (by omega) ?_))
    refine Ev.both (fun c=>?_) (fun c=>no _ rfl)
    refine Ev.pos (by omega) (Ev.pos (by omega) (no _ ?_))
    have:=ht.only j (by omega) h2
    rw [decide_eq_false_iff_not]
    exact fun h=>this h c
 exact this i i hle (Nat.le_refl _) (by omega)
def jsc (p : List Ln) (a : Nat) : Option Nat :=
 if kd p a=11 then some a else if kd p a=12∨kd p a=10 then none else if kd p (lastOf (jfb p (thd p a)) (thd p a))=10 then some (lastOf (jfb p (thd p a)) (thd p a)) else none
def wayL (p : List Ln) : List Nat → List Nat
 | []=>[]
 | a :: r=>match jsc p a with | none=>wayL p r | some n=>n :: wayL p r
theorem wayL_len (p : List Ln) : ∀ l : List Nat, (wayL p l).length ≤ l.length
 | []=>by simp [wayL]
 | a :: r=>by
  simp only [wayL]
  have:=wayL_len p r
  split <;> simp only [List.length_cons] <;> omega
theorem chain_last {p : List Ln} (T : Nat) : (chain p T).getLastD 0 = lastOf (jfb p T) T := by
 unfold chain lastOf
 rw [List.getLastD_cons]
theorem rd_last {l : List Nat} (a : Nat) : rd (ci (a :: l)) ((l.length : Nat) : Int) = ((l.getLastD a : Nat) : Int) := by
 simp only [rd,Int.toNat_natCast]
 rw [List.getD_eq_getElem?_getD]
 have:(ci (a :: l))[l.length]?=some ((l.getLastD a:Nat):Int):=by
  simp only [ci,List.getElem?_map]
  have:(a :: l)[l.length]?=some (l.getLastD a):=by
   rw [show l.length=(a :: l).length - 1 from by simp,← List.getLast?_eq_getElem?,List.getLast?_cons,List.getLastD_eq_getLast?]
  rw [this];rfl
 rw [this];rfl
theorem lastOf_lt {p : List Ln} {T : Nat} (hT : T < p.length) : lastOf (jfb p T) T < p.length := by
 rw [← chain_last]
 have:(chain p T).getLastD 0 ∈ chain p T:=by
  unfold chain
  rw [List.getLastD_cons]
  cases h:jfb p T with
  | nil=>simp
  | cons b r=>rw [List.getLastD_cons];exact List.mem_cons_of_mem _ (by rw [List.getLastD_eq_getLast?];cases h2:r.getLast? with | none=>simp | some v=>simp;exact .inr (List.mem_of_getLast? h2))
 exact chain_lt hT _ this
theorem enc_open {p : List Ln} (hr : DR p) {a : Nat} (ha : a < p.length) : ∀ j ∈ enc p a, isO (kd p j) = true ∧ a < bEnd p j := by
 rw [← enc_eq hr ha]
 have:∀ i j,j ∈ encI p a i→isO (kd p j)=true∧a<bEnd p j:=by
  intro i
  induction i with
  | zero=>intro j h;simp [encI] at h
  | succ i ih =>
   intro j h
   simp only [encI] at h
   split at h
   ·rename_i hc
    rcases List.mem_cons.mp h with rfl | h
    ·exact hc
    ·exact ih j h
   ·exact ih j h
 exact this a
end Go.Proofs.Ytkokajljeebgdaa.Pure
end
