/- One part of the proofs on this program: functions of the program as plain functions, that the code comes to them, and facts on them. -/
import Derived.Test.YtkhiiiddbmgiaaaYD2
import Derived.Test.YtkhiiiddbmgiaaaYD3
import Derived.Test.YtkhiiiddbmgiaaaYMb
import Derived.Test.YtkhiiiddbmgiaaaYMe
import Derived.Test.YtkhiiiddbmgiaaaYMg
section
set_option linter.unusedSimpArgs false
set_option linter.unusedVariables false
namespace Go.Proofs.Ytkhiiiddbmgiaaa.Pure
open Go Go.RowKit Go.Proofs.Ytkhiiiddbmgiaaa.P Go.Proofs.YtkhiiiddbmgiaaaW.PrintWords
set_option linter.unusedVariables false
theorem bEnd_nest {p : List Ln} {a b : Nat} (ha : a < p.length) (h1 : b < a) (h2 : a < bEnd p b) : bEnd p a ≤ bEnd p b := by
 rcases Nat.lt_or_ge (bEnd p b) (bEnd p a) with h | h
 ·have l1:=jqb h2 h
  have l2:=jEc ha
  have l3:=bEnd_at (p:=p) (i:=b) (by omega)
  have l4:=jqb h1 h2
  omega
 ·exact h
def prN (g : Nat → Bool) (p : List Ln) : Nat → Nat → List Ln
 | 0,_=>[]
 | n+1,i=>if i<p.length then (if g i=true then prN g p n (bEnd p i) else p.getD i z52 :: prN g p n (i+1)) else []
theorem prN_len (g : Nat → Bool) (p : List Ln) : ∀ n i, i ≤ p.length → (prN g p n i).length ≤ p.length - i
 | 0,i,_=>by simp [prN]
 | n+1,i,h=>by
  unfold prN
  by_cases h1:i<p.length
  ·rw [if_pos h1]
   by_cases h2:g i=true
   ·rw [if_pos h2]
    have:=prN_len g p n (bEnd p i) (jEc h1)
    have:=jNa p i
    omega
   ·rw [if_neg h2]
    have:=prN_len g p n (i+1) h1
    simp only [List.length_cons]
    omega
  ·rw [if_neg h1];simp
theorem prN_congr {g g' : Nat → Bool} {p : List Ln} (h : ∀ i, i < p.length → (∀ x, x < i → g x = true → bEnd p x ≤ i) → g i = g' i) : ∀ n i, (∀ x, x < i → g x = true → bEnd p x ≤ i) → prN g p n i = prN g' p n i
 | 0,_,_=>rfl
 | n+1,i,hi=>by
  unfold prN
  by_cases h1:i<p.length
  ·rw [if_pos h1,if_pos h1,← h i h1 hi]
   by_cases h2:g i=true
   ·rw [if_pos h2,if_pos h2]
    refine prN_congr h n _ (fun x hx hg=>?_)
    rcases Nat.lt_trichotomy x i with e | e | e
    ·have:=hi x e hg;have:=jNa p i;omega
    ·subst e;exact Nat.le_refl _
    ·exact bEnd_nest (by have:=jEc h1;omega) e hx
   ·rw [if_neg h2,if_neg h2]
    rw [prN_congr h n _ (fun x hx hg=>?_)]
    rcases Nat.lt_or_ge x i with e | e
    ·have:=hi x e hg;omega
    ·obtain rfl:x=i:=by omega
     exact absurd hg h2
  ·rw [if_neg h1,if_neg h1]
theorem ev_woG {p : List Ln} (hp : p.length ≤ 1048576) (gone : Int → Bool) : ∀ (n i : Nat) (acc : List Ln), p.length ≤ n + i → acc.length ≤ i → i ≤ p.length → Ev (fun k => woG p gone k i acc) (acc ++ prN (fun j => gone j) p n i)
 | 0,i,acc,h,ha,hi=>by
  refine Ev.step (fun k=>by rw [woG]) ?_
  refine Ev.neg (by omega) ?_
  rw [prN,List.append_nil]
  exact Ev.now _
 | n+1,i,acc,h,ha,hi=>by
  refine Ev.step (fun k=>by rw [woG]) ?_
  unfold prN
  by_cases h1:i<p.length
  ·rw [if_pos h1]
   refine Ev.pos (by omega) (Ev.pos (by omega) ?_)
   by_cases h2:gone i=true
   ·rw [if_pos h2]
    have g1:=jNa p i
    exact Ev.pos h2 (Ev.bind (ev_endOf hp h1) (ev_woG hp gone n (bEnd p i) acc (by omega) (by omega) (jEc h1)))
   ·rw [if_neg h2]
    refine Ev.neg h2 (Ev.pos (by omega) ?_)
    rw [wS (by omega)]
    have e:acc ++ p.getD i z52 :: prN (fun j=>gone j) p n (i+1)=(acc ++ [jc p (i:Int)]) ++ prN (fun j=>gone j) p n (i+1):=by
     rw [List.append_assoc];rfl
    rw [e]
    exact ev_woG hp gone n (i+1) _ (by omega) (by rw [List.length_append,List.length_singleton];omega) h1
  ·rw [if_neg h1,List.append_nil]
   exact Ev.neg (by omega) (Ev.now _)
def bjD (p : List Ln) (i : Nat) : Nat → Bool
 | 0=>false
 | n+1=>if dp p i≤dp p n then (if dp p n=dp p i∧jmpB (kd p n)=true then true else bjD p i n) else false
theorem ev_jumps (a : Int) (k : Nat) : jBb.f a = some (jmpB a) := by unfold jBb.f; rw [inR]; rfl
theorem ev_bj {p : List Ln} (hp : p.length ≤ 1048576) {i : Nat} (hi : i < p.length) : ∀ n, n ≤ i → Ev (fun k => jY.l0 k p i ((n : Int) - 1)) (bjD p i n)
 | 0,_=>by
  refine Ev.step (fun k=>by rw [jY.l0]) ?_
  refine Ev.neg (by omega) ?_
  refine Ev.step (fun k=>by rw [jY.j1]) ?_
  exact Ev.neg (by simp) (Ev.now _)
 | n+1,h=>by
  have ih:=ev_bj hp hi n (by omega)
  have e:(((n+1:Nat):Int) - 1)=(n:Int):=by omega
  have e2:wrap64 ((n:Int) - 1)=(n:Int) - 1:=by rw [wr (by omega)]
  rw [e]
  refine Ev.step (fun k=>by rw [jY.l0]) ?_
  refine Ev.pos (by omega) (Ev.pos (by omega) (Ev.pos (by omega) (Ev.pos (by omega) (Ev.pos (by omega) ?_))))
  refine Ev.step (fun k=>by rw [jY.j1]) ?_
  simp only [r0,r1,ev_jumps _ 0]
  unfold bjD
  by_cases h1:dp p i≤dp p n
  ·rw [if_pos h1]
   refine Ev.pos (by simpa using h1) (Ev.pos (by omega) (Ev.pos (by omega) (Ev.pos (by omega) (Ev.pos (by omega) ?_))))
   by_cases h2:dp p n=dp p i
   ·refine Ev.pos h2 (Ev.bind (Ev.now _) ?_)
    by_cases h3:jmpB (kd p n)=true
    ·rw [if_pos ⟨h2,h3⟩];exact Ev.pos h3 (Ev.now _)
    ·rw [if_neg (fun h=>h3 h.2)];rw [e2];exact Ev.neg h3 ih
   ·rw [if_neg (fun h=>h2 h.1),e2];exact Ev.neg h2 ih
  ·rw [if_neg h1]
   exact Ev.neg (by simpa using h1) (Ev.now _)
theorem ev_behindJump {p : List Ln} (hp : p.length ≤ 1048576) {i : Nat} (hi : i < p.length) : Ev (fun k => jY.f k p i) (bjD p i i) := by
 unfold jY.f
 rw [wr (by omega)]
 exact ev_bj hp hi i (Nat.le_refl _)
theorem bjD_iff (p : List Ln) (i : Nat) : ∀ n, bjD p i n = true ↔ ∃ m, m < n ∧ jmpB (kd p m) = true ∧ dp p m = dp p i ∧ ∀ x, m < x → x < n → dp p i ≤ dp p x
 | 0=>by simp [bjD]
 | n+1=>by
  have ih:=bjD_iff p i n
  unfold bjD
  by_cases h1:dp p i≤dp p n
  ·rw [if_pos h1]
   by_cases h2:dp p n=dp p i∧jmpB (kd p n)=true
   ·rw [if_pos h2]
    exact ⟨fun _=>⟨n,by omega,h2.2,h2.1,fun x a b=>by omega⟩,fun _=>rfl⟩
   ·rw [if_neg h2,ih]
    constructor
    ·rintro ⟨m,a,b,c,d⟩
     refine ⟨m,by omega,b,c,fun x x1 x2=>?_⟩
     rcases Nat.lt_or_ge x n with e | e
     ·exact d x x1 e
     ·rw [show x=n by omega];exact h1
    ·rintro ⟨m,a,b,c,d⟩
     rcases Nat.lt_or_ge m n with e | e
     ·exact ⟨m,e,b,c,fun x x1 x2=>d x x1 (by omega)⟩
     ·rw [show m=n by omega] at b c;exact absurd ⟨c,b⟩ h2
  ·rw [if_neg h1]
   constructor
   ·intro h;cases h
   ·rintro ⟨m,a,b,c,d⟩
    rcases Nat.lt_or_ge m n with e | e
    ·exact absurd (d n e (by omega)) h1
    ·rw [show m=n by omega] at c;omega
theorem bjE_spec (p : List Ln) (d : Int) : ∀ (n k : Nat), p.length ≤ n + k →
  k≤bjE p d n k∧(∀ j,k≤j→j<bjE p d n k→d≤dp p j)∧(bjE p d n k<p.length→dp p (bjE p d n k)<d)
 | 0,k,h=>⟨Nat.le_refl _,fun j h1 h2=>absurd h2 (by simp only [bjE];omega),fun h2=>absurd h2 (by simp only [bjE];omega)⟩
 | n+1,k,h=>by
  simp only [bjE]
  by_cases h1:(k:Int)<(p.length:Int)∧d≤(jc p (k:Int)).f0
  ·rw [if_pos h1]
   obtain ⟨a,b,c⟩:=bjE_spec p d n (k+1) (by omega)
   refine ⟨by omega,fun j h2 h3=>?_,c⟩
   by_cases e:j=k
   ·rw [e];exact h1.2
   ·exact b j (by omega) h3
  ·rw [if_neg h1]
   refine ⟨Nat.le_refl _,fun j h2 h3=>by omega,fun h2=>?_⟩
   have:¬ d≤dp p k:=fun h3=>h1 ⟨by omega,h3⟩
   omega
theorem bjN_iff (p : List Ln) (y : Int) : ∀ n, bjN p n y = true ↔ ∃ m, m < n ∧ bjR p m y = true
 | 0=>by simp [bjN]
 | n+1=>by
  unfold bjN
  rw [Bool.or_eq_true,bjN_iff p y n]
  constructor
  ·rintro (⟨m,a,b⟩ | h)
   ·exact ⟨m,by omega,b⟩
   ·exact ⟨n,by omega,h⟩
  ·rintro ⟨m,a,b⟩
   rcases Nat.lt_or_ge m n with e | e
   ·exact .inl ⟨m,e,b⟩
   ·rw [show m=n by omega] at b;exact .inr b
theorem jpc {p : List Ln} {i : Nat} (hi : i < p.length) : bjS p (i : Int) = true ↔ ∃ m, m < i ∧ jmpB (kd p m) = true ∧ ∀ x, m < x → x ≤ i → dp p m ≤ dp p x := by
 unfold bjS
 rw [bjN_iff]
 constructor
 ·rintro ⟨m,h1,h2⟩
  simp only [bjR,Bool.and_eq_true,decide_eq_true_eq,r0,r1] at h2
  obtain ⟨h2,h3,h4⟩:=h2
  exact ⟨m,by omega,h2,fun x a b=>(bjE_spec p (dp p m) (p.length - (m+1)) (m+1) (by omega)).2.1 x (by omega) (Int.ofNat_lt.mp (Int.lt_of_le_of_lt (Int.ofNat_le.mpr b) (of_decide_eq_true h4)))⟩
 ·rintro ⟨m,h1,h2,h3⟩
  refine ⟨m,by omega,?_⟩
  simp only [bjR,Bool.and_eq_true,decide_eq_true_eq,r0,r1]
  obtain ⟨a,b,c⟩:=bjE_spec p (dp p m) (p.length - (m+1)) (m+1) (by omega)
  refine ⟨h2,by omega,?_⟩
  rcases Nat.lt_or_ge i (bjE p (dp p m) (p.length - (m+1)) (m+1)) with e | e
  ·exact decide_eq_true (Int.ofNat_lt.mpr e)
  ·have:=h3 _ (by omega:m<bjE p (dp p m) (p.length - (m+1)) (m+1)) e
   have:=c (by omega)
   omega
theorem last_low {p : List Ln} {m i : Nat} {d : Int} (h : ∀ x, m < x → x ≤ i → d ≤ dp p x) (hm : m < i) (h1 : dp p (m + 1) = d) : ∃ x, m < x ∧ x ≤ i ∧ dp p x = d ∧ ∀ y, x < y → y ≤ i → d < dp p y := by
 induction i with
 | zero=>omega
 | succ i ih =>
  by_cases e:dp p (i+1)=d
  ·exact ⟨i+1,hm,Nat.le_refl _,e,fun y a b=>by omega⟩
  ·have h2:=h (i+1) hm (Nat.le_refl _)
   have hmi:m<i:=by
    rcases Nat.lt_or_ge m i with g | g
    ·exact g
    ·rw [show m=i by omega] at h1;exact absurd h1 e
   obtain ⟨x,a,b,c,f⟩:=ih (fun x a b=>h x a (by omega)) hmi
   refine ⟨x,a,by omega,c,fun y g1 g2=>?_⟩
   rcases Nat.lt_or_ge i y with g | g
   ·rw [show y=i+1 by omega];omega
   ·exact f y g1 g
theorem jmp_flat {p : List Ln} (hr : DR p) {m : Nat} (h : jmpB (kd p m) = true) (hm : m + 1 < p.length) : dp p (m + 1) ≤ dp p m := by
 refine hr.none m hm ?_
 simp only [jmpB,Bool.and_eq_true,decide_eq_true_eq] at h
 rw [isO_not];omega
theorem bj_same {p : List Ln} (hr : DR p) {i : Nat} (hi : i < p.length) (hI : ∀ x, x < i → bjD p x x = true → bEnd p x ≤ i) : bjD p i i = bjS p (i : Int) := by
 rw [Bool.eq_iff_iff,bjD_iff,jpc hi]
 constructor
 ·rintro ⟨m,a,b,c,d⟩
  refine ⟨m,a,b,fun x x1 x2=>?_⟩
  rcases Nat.lt_or_ge x i with e | e
  ·rw [c];exact d x x1 e
  ·rw [show x=i by omega,c];exact Int.le_refl _
 ·rintro ⟨m,a,b,c⟩
  have hf:=jmp_flat hr b (by omega)
  have h1:=c (m+1) (by omega) (by omega)
  obtain ⟨x,x1,x2,x3,x4⟩:=last_low c a (by omega)
  rcases Nat.lt_or_ge x i with e | e
  ·have hx:bjD p x x=true:=(bjD_iff p x x).mpr ⟨m,x1,b,x3.symm,fun y y1 y2=>by rw [x3];exact c y y1 (by omega)⟩
   have h2:=hI x e hx
   have h3:=(jtc e hi).mpr (fun j j1 j2=>by rw [x3];exact x4 j j1 j2)
   omega
  ·obtain rfl:x=i:=by omega
   exact ⟨m,a,b,x3.symm,fun y y1 y2=>by rw [x3];exact c y y1 (by omega)⟩
theorem ev_sPrune {p : List Ln} (hp : p.length ≤ 1048576) : ∀ (n i : Nat) (acc : List Ln), p.length ≤ n + i → acc.length ≤ i → i ≤ p.length → Ev (fun k => jT.l0 k p acc i) (acc ++ prN (fun j => bjD p j j) p n i)
 | 0,i,acc,h,ha,hi=>by
  refine Ev.step (fun k=>by rw [jT.l0]) ?_
  refine Ev.neg (by omega) ?_
  rw [prN,List.append_nil]
  exact Ev.now _
 | n+1,i,acc,h,ha,hi=>by
  refine Ev.step (fun k=>by rw [jT.l0]) ?_
  unfold prN
  by_cases h1:i<p.length
  ·rw [if_pos h1]
   refine Ev.pos (by omega) (Ev.bind (ev_behindJump hp h1) ?_)
   by_cases h2:bjD p i i=true
   ·rw [if_pos h2]
    have g1:=jNa p i
    exact Ev.pos h2 (Ev.bind (ev_blockEnd hp h1) (ev_sPrune hp n (bEnd p i) acc (by omega) (by omega) (jEc h1)))
   ·rw [if_neg h2]
    refine Ev.neg h2 (Ev.pos (by omega) (Ev.pos (by omega) ?_))
    rw [wS (by omega)]
    have e:acc ++ p.getD i z52 :: prN (fun j=>bjD p j j) p n (i+1)=(acc ++ [jc p (i:Int)]) ++ prN (fun j=>bjD p j j) p n (i+1):=by
     rw [List.append_assoc];rfl
    rw [e]
    exact ev_sPrune hp n (i+1) _ (by omega) (by rw [List.length_append,List.length_singleton];omega) h1
  ·rw [if_neg h1,List.append_nil]
   exact Ev.neg (by omega) (Ev.now _)
noncomputable def prP (t : List Cl) (p : List Ln) : List Ln := if vB t p = true then prN (fun j => bjD p j j) p p.length 0 else []
theorem prP_len (t : List Cl) (p : List Ln) : (prP t p).length ≤ p.length := by
 unfold prP
 split
 ·have:=prN_len (fun j=>bjD p j j) p p.length 0 (by omega);omega
 ·simp
theorem ev_PruneLines {p : List Ln} {t : List Cl} (hp : p.length ≤ 1048576) (ht : TS t) : Ev (fun k => jT.f k t p) (prP t p) ∧ Ev (fun k => jTa.f k t p) (prP t p) := by
 unfold jT.f jTa.f prP
 have h1:=sValid hp ht
 have h2:=iValid hp ht
 cases hv:vB t p with
 | false =>
  rw [hv] at h1 h2
  rw [if_neg (by simp)]
  exact ⟨Ev.bind h1 (Ev.neg (by simp) (Ev.now _)),Ev.bind h2 (Ev.neg (by simp) (Ev.now _))⟩
 | true =>
  rw [hv] at h1 h2
  rw [if_pos rfl]
  have hV:=vB_iff.mp hv
  have a:=ev_sPrune hp p.length 0 [] (by omega) (by simp) (by omega)
  have b:=ev_woG hp (bjS p) p.length 0 [] (by omega) (by simp) (by omega)
  rw [← prN_congr (fun i hi hI=>bj_same hV.dr hi hI) p.length 0 (fun x hx=>by omega)] at b
  rw [List.nil_append] at a b
  exact ⟨Ev.bind h1 (Ev.pos rfl a),Ev.bind h2 (Ev.pos rfl (Ev.pos (by have:=hV.2.1;unfold M6;omega) b))⟩
end Go.Proofs.Ytkhiiiddbmgiaaa.Pure
end
