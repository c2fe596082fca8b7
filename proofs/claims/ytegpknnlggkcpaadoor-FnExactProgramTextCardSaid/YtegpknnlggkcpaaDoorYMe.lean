/- One part of the proofs on this program: functions of the program as plain functions, that the code comes to them, and facts on them. -/
import Derived.Test.YtegpknnlggkcpaaDoorYAll1
import Derived.Test.YtegpknnlggkcpaaDoorYAll2
import Derived.Test.YtegpknnlggkcpaaDoorYAll4
import Derived.Test.YtegpknnlggkcpaaDoorYMd
section
set_option linter.unusedSimpArgs false
set_option linter.unusedVariables false
namespace Go.Proofs.YtegpknnlggkcpaaDoor.Pure
open Go Go.RowKit Go.Proofs.YtegpknnlggkcpaaDoor.P Go.Proofs.YtegpknnlggkcpaaDoorW.PrintWords
set_option linter.unusedVariables false
def inLN (p : List Ln) : Nat → Int → Bool
 | 0,_=>false
 | i+1,d=>if dp p i<d then (if kd p i=12 then true else inLN p i (dp p i)) else inLN p i d
def hdN (p : List Ln) (d : Int) : Nat → Option Nat
 | 0=>none
 | i+1=>if dp p i<d then none else if dp p i=d then some i else hdN p d i
theorem ev_inLoop_l0 {p : List Ln} (hp : p.length ≤ 1048576) : ∀ (i : Nat) (d : Int), i ≤ p.length → Ev (fun k => jua.l0 k p d ((i : Int) - 1)) (inLN p i d)
 | 0,d,h=>by
  refine Ev.step (fun k=>by rw [jua.l0]) ?_
  exact Ev.neg (by omega) (Ev.now _)
 | i+1,d,h=>by
  refine Ev.step (fun k=>by rw [jua.l0]) ?_
  rw [iP]
  simp only [r0,r1]
  refine Ev.pos (by omega) (Ev.pos (by omega) (Ev.pos (by omega) ?_))
  rw [iM (by omega)]
  by_cases h1:dp p i<d
  ·refine Ev.pos h1 ?_
   rw [inLN,if_pos h1]
   by_cases h2:kd p i=12
   ·refine Ev.pos h2 ?_
    rw [if_pos h2];exact Ev.now _
   ·refine Ev.neg h2 ?_
    rw [if_neg h2];exact ev_inLoop_l0 hp i _ (by omega)
  ·refine Ev.neg h1 ?_
   rw [inLN,if_neg h1];exact ev_inLoop_l0 hp i _ (by omega)
theorem ev_inLoop {p : List Ln} (hp : p.length ≤ 1048576) {a : Nat} (ha : a < p.length) : Ev (fun k => jua.f k p a) (inLN p a (dp p a)) := by
 unfold jua.f
 simp only [r0]
 rw [iM (by omega)]
 exact Ev.pos (by omega) (Ev.pos (by omega) (ev_inLoop_l0 hp a _ (by omega)))
def oi (o : Option Nat) : Int := match o with | none => -1 | some m => (m : Int)
theorem ev_headOf_l0 {p : List Ln} (hp : p.length ≤ 1048576) {a : Nat} (ha : a < p.length) : ∀ (i : Nat), i ≤ p.length → Ev (fun k => jza.l0 k p a ((i : Int) - 1)) (oi (hdN p (dp p a) i))
 | 0,h=>by
  refine Ev.step (fun k=>by rw [jza.l0]) ?_
  exact Ev.neg (by omega) (Ev.now _)
 | i+1,h=>by
  refine Ev.step (fun k=>by rw [jza.l0]) ?_
  rw [iP]
  simp only [r0]
  refine Ev.pos (by omega) (Ev.pos (by omega) (Ev.pos (by omega) (Ev.pos (by omega) (Ev.pos (by omega) ?_))))
  rw [iM (by omega)]
  by_cases h1:dp p i<dp p a
  ·refine Ev.pos h1 ?_
   rw [hdN,if_pos h1];exact Ev.now _
  ·refine Ev.neg h1 ?_
   rw [hdN,if_neg h1]
   by_cases h2:dp p i=dp p a
   ·refine Ev.pos h2 ?_
    rw [if_pos h2];exact Ev.now _
   ·refine Ev.neg h2 ?_
    rw [if_neg h2];exact ev_headOf_l0 hp ha i (by omega)
theorem ev_headOf {p : List Ln} (hp : p.length ≤ 1048576) {a : Nat} (ha : a < p.length) : Ev (fun k => jza.f k p a) (oi (hdN p (dp p a) a)) := by
 unfold jza.f
 rw [iM (by omega)]
 exact ev_headOf_l0 hp ha a (by omega)
theorem inLN_iff (p : List Ln) : ∀ (i : Nat) (d : Int), inLN p i d = true ↔ ∃ m, m < i ∧ kd p m = 12 ∧ dp p m < d ∧ ∀ j, m < j → j < i → dp p m < dp p j
 | 0,d=>by simp [inLN]
 | i+1,d=>by
  rw [inLN]
  by_cases h1:dp p i<d
  ·rw [if_pos h1]
   by_cases h2:kd p i=12
   ·rw [if_pos h2]
    exact ⟨fun _=>⟨i,by omega,h2,h1,fun j a b=>by omega⟩,fun _=>rfl⟩
   ·rw [if_neg h2,inLN_iff p i]
    constructor
    ·rintro ⟨m,a,b,c,e⟩
     refine ⟨m,by omega,b,by omega,fun j x y=>?_⟩
     by_cases hj:j=i
     ·rw [hj];exact c
     ·exact e j x (by omega)
    ·rintro ⟨m,a,b,c,e⟩
     have hm:m≠i:=fun h=>h2 (by rw [← h];exact b)
     exact ⟨m,by omega,b,e i (by omega) (by omega),fun j x y=>e j x (by omega)⟩
  ·rw [if_neg h1,inLN_iff p i]
   constructor
   ·rintro ⟨m,a,b,c,e⟩
    refine ⟨m,by omega,b,c,fun j x y=>?_⟩
    by_cases hj:j=i
    ·rw [hj];omega
    ·exact e j x (by omega)
   ·rintro ⟨m,a,b,c,e⟩
    have hm:m≠i:=fun h=>h1 (by rw [← h];exact c)
    exact ⟨m,by omega,b,c,fun j x y=>e j x (by omega)⟩
theorem hdN_iff (p : List Ln) (d : Int) : ∀ (i m : Nat), hdN p d i = some m ↔ m < i ∧ dp p m = d ∧ ∀ j, m < j → j < i → d < dp p j
 | 0,m=>by simp [hdN]
 | i+1,m=>by
  rw [hdN]
  by_cases h1:dp p i<d
  ·rw [if_pos h1]
   constructor
   ·intro h;cases h
   ·rintro ⟨a,b,c⟩
    by_cases hm:m=i
    ·subst hm;omega
    ·have:=c i (by omega) (by omega);omega
  ·rw [if_neg h1]
   by_cases h2:dp p i=d
   ·rw [if_pos h2]
    constructor
    ·intro h
     injection h with h
     subst h
     exact ⟨by omega,h2,fun j a b=>by omega⟩
    ·rintro ⟨a,b,c⟩
     by_cases hm:m=i
     ·rw [hm]
     ·have:=c i (by omega) (by omega);omega
   ·rw [if_neg h2,hdN_iff p d i]
    constructor
    ·rintro ⟨a,b,c⟩
     refine ⟨by omega,b,fun j x y=>?_⟩
     by_cases hj:j=i
     ·rw [hj];omega
     ·exact c j x (by omega)
    ·rintro ⟨a,b,c⟩
     have hm:m≠i:=fun h=>h2 (by rw [← h];exact b)
     exact ⟨by omega,b,fun j x y=>c j x (by omega)⟩
theorem good_top {p : List Ln} {i : Nat} (hi : i < p.length) : Good p 0 false i ↔ (kd p i = 7 → vcB ((jQa p i).map (kd p)) = true) ∧ ((kd p i = 5 ∨ kd p i = 6) → inLN p i (dp p i) = true) ∧
  (isF (kd p i)=true→∃ m,hdN p (dp p i) i=some m∧(kd p m=7∨isF (kd p m)=true)):=by
 refine and_congr Iff.rfl (and_congr (imp_congr Iff.rfl ?_) (imp_congr Iff.rfl ?_))
 ·rw [inLN_iff]
  constructor
  ·rintro (h | ⟨m,a,b,c,e⟩)
   ·cases h
   ·refine ⟨m,b,c,jfb b e,fun j x y=>jfb x (by omega)⟩
  ·rintro ⟨m,b,c,e,g⟩
   refine .inr ⟨m,by omega,b,c,(bEnd_lt_iff b hi).mpr fun j x y=>?_⟩
   by_cases hj:j=i
   ·rw [hj];exact e
   ·exact g j x (by omega)
 ·constructor
  ·rintro ⟨m,a,b,c,e,g⟩
   exact ⟨m,(hdN_iff p _ i m).mpr ⟨b,e,fun j x y=>by rw [← e];exact jfb x (by omega)⟩,g⟩
  ·rintro ⟨m,h,g⟩
   obtain ⟨a,b,c⟩:=(hdN_iff p _ i m).mp h
   exact ⟨m,by omega,a,bEnd_uniq a (by omega) (fun j x y=>by rw [b];exact c j x y) (fun _=>by omega),b,g⟩
def offB (p : List Ln) (i : Nat) : Bool :=
 (if i=0 then decide (dp p i≠0) else decide (dp p (i - 1)+1<dp p i) ||(isO (kd p (i - 1)) != decide (dp p i=dp p (i - 1)+1))) ||(decide (i+1=p.length) && isO (kd p i))
theorem off_DR (p : List Ln) : (∀ i, i < p.length → offB p i = false) ↔ DR p := by
 constructor
 ·intro h
  refine ⟨fun h0=>?_,fun i hi ho=>?_,fun i hi ho=>?_,fun i hi=>?_⟩
  ·have:=h 0 h0;simp [offB] at this;exact this.1
  ·have:=h (i+1) hi;simp [offB,ho] at this;exact this.1.2
  ·have:=h (i+1) hi;simp [offB,ho] at this;omega
  ·have:=h i (by omega)
   simp only [offB,Bool.or_eq_false_iff,Bool.and_eq_false_iff,decide_eq_false_iff_not] at this
   rcases this.2 with h2 | h2
   ·exact absurd hi h2
   ·exact h2
 ·intro h i hi
  simp only [offB,Bool.or_eq_false_iff,Bool.and_eq_false_iff,decide_eq_false_iff_not]
  refine ⟨?_,?_⟩
  ·by_cases h0:i=0
   ·subst h0;rw [if_pos rfl];simp [h.first hi]
   ·rw [if_neg h0]
    obtain ⟨m,rfl⟩:∃ m,i=m+1:=⟨i - 1,by omega⟩
    simp only [Nat.add_sub_cancel]
    cases ho:isO (kd p m) with
    | true=>have:=h.deeper m hi ho;simp [this]
    | false=>have:=h.none m hi ho;simp;omega
  ·by_cases hl:i+1=p.length
   ·exact .inr (h.last i hl)
   ·exact .inl hl
def LineOk (t : List Cl) (p : List Ln) (i : Nat) : Prop := numB t (kd p i) (la p i) (lb p i) = true ∧ bw (dp p i) 0 5 = true ∧ offB p i = false ∧ Good p 0 false i
theorem sB (a lo hi : Int) : jg.inB a lo hi = bw a lo hi := rfl
theorem off_eq {p : List Ln} {i : Nat} (hi : i < p.length) (hprev : ∀ m, i = m + 1 → bw (dp p m) 0 5 = true) : jg.off p i (jb p (i : Int)) = offB p i := by
 have e0:jg.off p i (jb p (i:Int))=(if (if (i:Int)=0 then decide (dp p i≠0) else if wrap64 ((jb p ((i:Int) - 1)).f0+1)<dp p i then true else (bw (jb p ((i:Int) - 1)).f1 7 12 != (dp p i == wrap64 ((jb p ((i:Int) - 1)).f0+1))))=true then true else decide ((i:Int)+1=(p.length:Int)) && isO (kd p i)):=rfl
 rw [e0]
 unfold offB
 have e1:decide ((i:Int)+1=(p.length:Int))=decide (i+1=p.length):=by rw [decide_eq_decide];omega
 rw [e1]
 by_cases h0:i=0
 ·subst h0
  rw [if_pos (show ((0:Nat):Int)=0 from rfl),if_pos (show (0:Nat)=0 from rfl)]
  by_cases h1:dp p 0=0 <;> simp [h1]
 ·obtain ⟨m,rfl⟩:∃ m,i=m+1:=⟨i - 1,by omega⟩
  have hb:=bw_iff.mp (hprev m rfl)
  have e2:(jb p (((m+1:Nat):Int) - 1))=jb p (m:Int):=by rw [iP]
  rw [if_neg (show ¬ ((m+1:Nat):Int)=0 by omega),if_neg h0,e2,show (jb p (m:Int)).f0=dp p m from rfl,show bw (jb p (m:Int)).f1 7 12=isO (kd p m) from rfl,wr (x:=dp p m+1) (by omega),eqd]
  simp only [Nat.add_sub_cancel]
  by_cases h1:dp p m+1<dp p (m+1)
  ·simp [h1]
  ·simp only [h1,if_false,decide_false,Bool.false_or]
   cases (isO (kd p m) != decide (dp p (m+1)=dp p m+1)) <;> simp
theorem ev_validLine {t : List Cl} {p : List Ln} (hp : p.length ≤ 1048576) (ht : t.length ≤ 1048576) {i : Nat} (hi : i < p.length) (hprev : ∀ m, i = m + 1 → bw (dp p m) 0 5 = true) :
  ∃ b,Ev (fun k=>jg.f k t p i) b∧(b=true ↔ LineOk t p i):=by
 unfold LineOk
 rw [good_top hi]
 have e:∀ b:Bool,Ev (fun k =>
  (jV.f k t (dp p i) (kd p i) (la p i) (lb p i)).bind fun v =>
  if v=false then some false else if bw (dp p i) 0 5=false then some false else
  if offB p i then some false else
  (if kd p i=7 then jm.f k p i else some true).bind fun c1=>if c1=false then some false else
  (if kd p i=5∨kd p i=6 then jua.f k p i else some true).bind fun c2=>if c2=false then some false else
  if isF (kd p i)=false then some true else
  (jza.f k p i).bind fun h=>if 0≤h then if h<(p.length:Int) then some ((jb p h).f1 == 7 || jg.inB (jb p h).f1 8 10) else none else some false) b→Ev (fun k=>jg.f k t p i) b:=by
  intro b h
  unfold jg.f
  rw [off_eq hi hprev]
  exact Ev.pos (by omega) (Ev.pos (by omega) h)
 have hn:=ev_validNumbers ht (dp p i) (kd p i) (la p i) (lb p i)
 cases h1:numB t (kd p i) (la p i) (lb p i) with
 | false=>rw [h1] at hn;exact ⟨false,e _ (Ev.bind hn (Ev.pos rfl (Ev.now _))),by simp⟩
 | true =>
 rw [h1] at hn
 cases h2:bw (dp p i) 0 5 with
 | false=>exact ⟨false,e _ (Ev.bind hn (Ev.neg (by simp) (Ev.pos h2 (Ev.now _)))),by simp⟩
 | true =>
 cases h3:offB p i with
 | true=>exact ⟨false,e _ (Ev.bind hn (Ev.neg (by simp) (Ev.neg (by simp [h2]) (Ev.pos h3 (Ev.now _))))),by simp⟩
 | false =>
 have hc1:Ev (fun k=>if kd p i=7 then jm.f k p i else some true) (!decide (kd p i=7) || vcB ((jQa p i).map (kd p))):=by
  refine Ev.both (fun c=>?_) (fun c=>?_)
  ·simp only [c,decide_true,Bool.not_true,Bool.false_or];exact ev_validChain hp hi
  ·simp only [c,decide_false,Bool.not_false,Bool.true_or];exact Ev.now _
 have hc2:Ev (fun k=>if kd p i=5∨kd p i=6 then jua.f k p i else some true) (!decide (kd p i=5∨kd p i=6) || inLN p i (dp p i)):=by
  refine Ev.both (fun c=>?_) (fun c=>?_)
  ·rw [decide_eq_true c];simp only [Bool.not_true,Bool.false_or];exact ev_inLoop hp hi
  ·rw [decide_eq_false c];simp only [Bool.not_false,Bool.true_or];exact Ev.now _
 cases h4:(!decide (kd p i=7) || vcB ((jQa p i).map (kd p))) with
 | false =>
  rw [h4] at hc1
  refine ⟨false,e _ (Ev.bind hn (Ev.neg (by simp) (Ev.neg (by simp [h2]) (Ev.neg (by simp [h3]) (Ev.bind hc1 (Ev.pos rfl (Ev.now _))))))),?_⟩
  simp at h4
  simp [h4]
 | true =>
 rw [h4] at hc1
 have g1:kd p i=7→vcB ((jQa p i).map (kd p))=true:=by
  intro h;simpa [h] using h4
 cases h5:(!decide (kd p i=5∨kd p i=6) || inLN p i (dp p i)) with
 | false =>
  rw [h5] at hc2
  refine ⟨false,e _ (Ev.bind hn (Ev.neg (by simp) (Ev.neg (by simp [h2]) (Ev.neg (by simp [h3]) (Ev.bind hc1 (Ev.neg (by simp) (Ev.bind hc2 (Ev.pos rfl (Ev.now _))))))))),?_⟩
  simp only [Bool.or_eq_false_iff,Bool.not_eq_false',decide_eq_true_eq] at h5
  constructor
  ·intro h;cases h
  ·rintro ⟨_,_,_,_,h,_⟩
   rw [h h5.1] at h5
   exact absurd h5.2 (by simp)
 | true =>
 rw [h5] at hc2
 have g2:(kd p i=5∨kd p i=6)→inLN p i (dp p i)=true:=by
  intro h
  simp only [Bool.or_eq_true,Bool.not_eq_true',decide_eq_false_iff_not] at h5
  rcases h5 with h5 | h5
  ·exact absurd h h5
  ·exact h5
 have e2:=fun b hb=>e b (Ev.bind hn (Ev.neg (by simp) (Ev.neg (by simp [h2]) (Ev.neg (by simp [h3]) (Ev.bind hc1 (Ev.neg (by simp) (Ev.bind hc2 (Ev.neg (by simp) hb))))))))
 cases h6:isF (kd p i) with
 | false=>exact ⟨true,e2 _ (Ev.pos h6 (Ev.now _)),⟨fun _=>⟨rfl,rfl,rfl,g1,g2,fun h=>by cases h⟩,fun _=>rfl⟩⟩
 | true =>
 have hh:=ev_headOf hp hi
 cases h7:hdN p (dp p i) i with
 | none =>
  rw [h7] at hh
  exact ⟨false,e2 _ (Ev.neg (by simp [h6]) (Ev.bind hh (Ev.neg (by simp [oi]) (Ev.now _)))),by simp⟩
 | some m =>
  rw [h7] at hh
  have hm:=(hdN_iff p _ i m).mp h7
  refine ⟨decide (kd p m=7) || isF (kd p m),e2 _ (Ev.neg (by simp [h6]) (Ev.bind hh (Ev.pos (by simp [oi]) (Ev.pos (by simp only [oi];omega) ?_)))),?_⟩
  ·simp only [oi,r1,eqd,sB];exact Ev.now _
  ·constructor
   ·intro h
    exact ⟨rfl,rfl,rfl,g1,g2,fun _=>⟨m,rfl,by simpa using h⟩⟩
   ·rintro ⟨_,_,_,_,_,h⟩
    obtain ⟨m',x,y⟩:=h rfl
    injection x with x
    subst x
    simpa using y
def ValidP (t : List Cl) (p : List Ln) : Prop := treeB t = true ∧ p.length ≤ 24 ∧ ∀ i, i < p.length → LineOk t p i
theorem ev_validProgram {t : List Cl} {p : List Ln} (hp : p.length ≤ 1048576) (ht : TS t) : ∃ b, Ev (fun k => jG.f k t p) b ∧ (b = true ↔ ValidP t p) := by
 have:∀ (n i:Nat),p.length≤n+i→(∀ j,j<i→LineOk t p j)→∃ b,Ev (fun k=>jG.l0 k p i t) b∧(b=true ↔ ValidP t p):=by
  intro n
  induction n with
  | zero =>
   intro i h hok
   have hv:=ev_validTree ht
   have step:∀ b:Bool,Ev (fun k=>if (i:Int)<(p.length:Int) then ((jg.f k t p i).bind fun t156=>(if t156=true then (jG.l0 k p (wrap64 ((i:Int)+1)) t) else (some false))) else ((jw.f k t).bind fun t155=>(if t155=true then (some (decide ((p.length:Int)≤24))) else (some false)))) b→Ev (fun k=>jG.l0 k p i t) b :=
    fun b hb=>Ev.step (fun k=>by rw [jG.l0]) hb
   cases h1:treeB t with
   | false =>
    rw [h1] at hv
    exact ⟨false,step _ (Ev.neg (by omega) (Ev.bind hv (Ev.neg (by simp) (Ev.now _)))),by simp [ValidP,h1]⟩
   | true =>
    rw [h1] at hv
    refine ⟨decide ((p.length:Int)≤24),step _ (Ev.neg (by omega) (Ev.bind hv (Ev.pos rfl (Ev.now _)))),?_⟩
    rw [decide_eq_true_eq]
    exact ⟨fun h2=>⟨h1,by omega,fun j hj=>hok j (by omega)⟩,fun h2=>by have:=h2.2.1;omega⟩
  | succ n ih =>
   intro i h hok
   by_cases hi:i<p.length
   ·obtain ⟨b,hb1,hb2⟩:=ev_validLine hp ht.1 hi (fun m hm=>(hok m (by omega)).2.1)
    cases b with
    | false =>
     refine ⟨false,?_,?_⟩
     ·refine Ev.step (fun k=>by rw [jG.l0]) ?_
      exact Ev.pos (by omega) (Ev.bind hb1 (Ev.neg (by simp) (Ev.now _)))
     constructor
     ·intro h;cases h
     ·intro h2;exact hb2.mpr (h2.2.2 i hi)
    | true =>
     obtain ⟨b,hc1,hc2⟩:=ih (i+1) (by omega) (fun j hj=>by
      by_cases hj2:j=i
      ·rw [hj2];exact hb2.mp rfl
      ·exact hok j (by omega))
     refine ⟨b,?_,hc2⟩
     refine Ev.step (fun k=>by rw [jG.l0]) ?_
     refine Ev.pos (by omega) (Ev.bind hb1 (Ev.pos rfl ?_))
     rw [wS (by omega)]
     exact hc1
   ·have hv:=ev_validTree ht
    have step:∀ b:Bool,Ev (fun k=>if (i:Int)<(p.length:Int) then ((jg.f k t p i).bind fun t156=>(if t156=true then (jG.l0 k p (wrap64 ((i:Int)+1)) t) else (some false))) else ((jw.f k t).bind fun t155=>(if t155=true then (some (decide ((p.length:Int)≤24))) else (some false)))) b→Ev (fun k=>jG.l0 k p i t) b :=
     fun b hb=>Ev.step (fun k=>by rw [jG.l0]) hb
    cases h1:treeB t with
    | false =>
     rw [h1] at hv
     exact ⟨false,step _ (Ev.neg (by omega) (Ev.bind hv (Ev.neg (by simp) (Ev.now _)))),by simp [ValidP,h1]⟩
    | true =>
     rw [h1] at hv
     refine ⟨decide ((p.length:Int)≤24),step _ (Ev.neg (by omega) (Ev.bind hv (Ev.pos rfl (Ev.now _)))),?_⟩
     rw [decide_eq_true_eq]
     exact ⟨fun h2=>⟨h1,by omega,fun j hj=>hok j (by omega)⟩,fun h2=>by have:=h2.2.1;omega⟩
 exact this p.length 0 (by omega) (fun j hj=>by omega)
def jEb (p : List Ln) (i : Nat) : Ln := if i = 0 then ⟨-1, 7, 0, 0⟩ else p.getD (i - 1) z42
theorem ev_go {t : List Cl} {p : List Ln} (hp : p.length ≤ 1048576) (ht : t.length ≤ 1048576) : ∀ (r : List Ln) (i : Nat), p.drop i = r → i ≤ p.length →
  ∃ b,Ev (fun k=>jo.go k t r (jEb p i)) (if b=true then some (jEb p p.length) else none)∧(b=true ↔ ∀ j,i≤j→j<p.length→numB t (kd p j) (la p j) (lb p j)=true∧jo.bad (p.getD j z42) (jEb p j)=false)
 | [],i,h,hi=>by
  have:p.length≤i:=by simpa using h
  obtain rfl:i=p.length:=by omega
  exact ⟨true,Ev.now _,⟨fun _ j a b=>by omega,fun _=>rfl⟩⟩
 | x :: r,i,h,hi=>by
  have hlt:i<p.length:=by
   rcases Nat.lt_or_ge i p.length with h1 | h1
   ·exact h1
   ·rw [List.drop_eq_nil_of_le h1] at h;cases h
  rw [List.drop_eq_getElem_cons hlt] at h
  injection h with h1 h2
  have hx:p.getD i z42=x:=by rw [List.getD_eq_getElem?_getD,List.getElem?_eq_getElem hlt,h1];rfl
  have e:jEb p (i+1)=x:=by rw [jEb,if_neg (by omega)];exact hx
  have hn:=ev_argued ht x.f0 x.f1 x.f2 x.f3
  have hn2:numB t x.f1 x.f2 x.f3=numB t (kd p i) (la p i) (lb p i):=by unfold kd la lb;rw [hx]
  rw [hn2] at hn
  simp only [jo.go]
  cases h3:numB t (kd p i) (la p i) (lb p i) with
  | false =>
   rw [h3] at hn
   refine ⟨false,Ev.bind hn (Ev.pos rfl (Ev.now _)),?_⟩
   constructor
   ·intro h;cases h
   ·intro h;have:=(h i (Nat.le_refl _) hlt).1;rw [h3] at this;cases this
  | true =>
  rw [h3] at hn
  cases h4:jo.bad x (jEb p i) with
  | true =>
   refine ⟨false,Ev.bind hn (Ev.neg (by simp) (Ev.pos rfl (Ev.now _))),?_⟩
   constructor
   ·intro h;cases h
   ·intro h;have:=(h i (Nat.le_refl _) hlt).2;rw [hx,h4] at this;cases this
  | false =>
   obtain ⟨b,hb1,hb2⟩:=ev_go hp ht r (i+1) h2 (by omega)
   rw [e] at hb1
   refine ⟨b,Ev.bind hn (Ev.neg (by simp) (Ev.neg (by simp) hb1)),?_⟩
   rw [hb2]
   constructor
   ·intro h j a c
    by_cases hj:j=i
    ·subst hj;exact ⟨h3,by rw [hx];exact h4⟩
    ·exact h j (by omega) c
   ·intro h j a c;exact h j (by omega) c
theorem bad_iff {p : List Ln} : ((∀ j, j < p.length → jo.bad (p.getD j z42) (jEb p j) = false) ∧ (∀ i, i + 1 = p.length → isO (kd p i) = false)) ↔ ((∀ j, j < p.length → bw (dp p j) 0 5 = true) ∧ DR p) := by
 have key:∀ j,j<p.length→(jo.bad (p.getD j z42) (jEb p j)=false ↔ (bw (dp p j) 0 5=true∧(j=0→dp p 0=0)∧∀ m,j=m+1→(isO (kd p m)=true→dp p j=dp p m+1)∧(isO (kd p m)=false→dp p j≤dp p m))):=by
  intro j hj
  unfold jo.bad
  rw [show (p.getD j z42).f0=dp p j from rfl,show inB (dp p j) 0 5=bw (dp p j) 0 5 from rfl]
  by_cases h0:j=0
  ·subst h0
   rw [jEb,if_pos rfl]
   have e7:inB 7 7 12=true:=by decide
   simp only [e7,Bool.true_and,Bool.not_true,Bool.false_and,Bool.or_false,Bool.or_eq_false_iff,Bool.not_eq_false',decide_eq_false_iff_not]
   constructor
   ·rintro ⟨a,b⟩;exact ⟨a,fun _=>by omega,fun m hm=>by omega⟩
   ·rintro ⟨a,b,_⟩;exact ⟨a,by have:=b (by simp);omega⟩
  ·obtain ⟨m,rfl⟩:∃ m,j=m+1:=⟨j - 1,by omega⟩
   rw [jEb,if_neg h0,Nat.add_sub_cancel,show (p.getD m z42).f0=dp p m from rfl,show inB (p.getD m z42).f1 7 12=isO (kd p m) from rfl]
   cases ho:isO (kd p m) with
   | true =>
    simp only [Bool.true_and,Bool.not_true,Bool.false_and,Bool.or_false,Bool.or_eq_false_iff,Bool.not_eq_false',decide_eq_false_iff_not]
    constructor
    ·rintro ⟨a,b⟩
     refine ⟨a,fun h=>by omega,fun m' hm=>?_⟩
     obtain rfl:m'=m:=by omega
     exact ⟨fun _=>by omega,fun h=>(by rw [ho] at h;cases h)⟩
    ·rintro ⟨a,_,b⟩;exact ⟨a,by have:=(b m rfl).1 ho;omega⟩
   | false =>
    simp only [Bool.false_and,Bool.not_false,Bool.true_and,Bool.or_false,Bool.or_eq_false_iff,Bool.not_eq_false',decide_eq_false_iff_not]
    constructor
    ·rintro ⟨a,b⟩
     refine ⟨a,fun h=>by omega,fun m' hm=>?_⟩
     obtain rfl:m'=m:=by omega
     exact ⟨fun h=>(by rw [ho] at h;cases h),fun _=>by omega⟩
    ·rintro ⟨a,_,b⟩;exact ⟨a,by have:=(b m rfl).2 ho;omega⟩
 constructor
 ·rintro ⟨h1,h2⟩
  refine ⟨fun j hj=>((key j hj).mp (h1 j hj)).1,fun h0=>((key 0 h0).mp (h1 0 h0)).2.1 rfl,fun i hi ho=>(((key _ hi).mp (h1 _ hi)).2.2 i rfl).1 ho,fun i hi ho=>(((key _ hi).mp (h1 _ hi)).2.2 i rfl).2 ho,h2⟩
 ·rintro ⟨h1,h2⟩
  refine ⟨fun j hj=>(key j hj).mpr ⟨h1 j hj,fun h0=>h2.first (by omega),fun m hm=>?_⟩,h2.last⟩
  subst hm
  exact ⟨h2.deeper m hj,h2.none m hj⟩
theorem ValidP_iff {t : List Cl} {p : List Ln} : ValidP t p ↔ treeB t = true ∧ p.length ≤ 24 ∧ (∀ j, j < p.length → numB t (kd p j) (la p j) (lb p j) = true) ∧ ((∀ j, j < p.length → bw (dp p j) 0 5 = true) ∧ DR p) ∧ ∀ j, j < p.length → Good p 0 false j := by
 constructor
 ·rintro ⟨a,b,c⟩
  exact ⟨a,b,fun j hj=>(c j hj).1,⟨fun j hj=>(c j hj).2.1,(off_DR p).mp fun j hj=>(c j hj).2.2.1⟩,fun j hj=>(c j hj).2.2.2⟩
 ·rintro ⟨a,b,c,⟨e,f⟩,g⟩
  exact ⟨a,b,fun j hj=>⟨c j hj,e j hj,(off_DR p).mpr f j hj,g j hj⟩⟩
theorem ev_ValidProgram {t : List Cl} {p : List Ln} (hp : p.length ≤ 1048576) (ht : TS t) : ∃ b, Ev (fun k => jo.f k t p) b ∧ (b = true ↔ ValidP t p) := by
 rw [ValidP_iff]
 unfold jo.f
 have hv:=ev_ValidTree ht
 cases h1:treeB t with
 | false=>rw [h1] at hv;exact ⟨false,Ev.bind hv (Ev.pos rfl (Ev.now _)),by simp⟩
 | true =>
 rw [h1] at hv
 by_cases h2:24<p.length
 ·refine ⟨false,Ev.bind hv (Ev.neg (by simp) (Ev.pos h2 (Ev.now _))),?_⟩
  constructor
  ·intro h;cases h
  ·rintro ⟨_,h,_⟩;omega
 obtain ⟨b,hb1,hb2⟩:=ev_go (t:=t) (p:=p) hp ht.1 p 0 rfl (by omega)
 rw [show jEb p 0=⟨-1,7,0,0⟩ from rfl] at hb1
 have hb2':b=true ↔ ((∀ j,j<p.length→numB t (kd p j) (la p j) (lb p j)=true)∧∀ j,j<p.length→jo.bad (p.getD j z42) (jEb p j)=false):=by
  rw [hb2]
  exact ⟨fun h=>⟨fun j hj=>(h j (by omega) hj).1,fun j hj=>(h j (by omega) hj).2⟩,fun h j _ hj=>⟨h.1 j hj,h.2 j hj⟩⟩
 cases b with
 | false =>
  refine ⟨false,Ev.bind hv (Ev.neg (by simp) (Ev.neg h2 (Ev.bind hb1 (Ev.now _)))),?_⟩
  constructor
  ·intro h;cases h
  ·rintro ⟨_,_,h3,h4,_⟩
   exact hb2'.mpr ⟨h3,(bad_iff.mpr h4).1⟩
 | true =>
  obtain ⟨hn,hbad⟩:=hb2'.mp rfl
  rw [if_pos rfl] at hb1
  have hbk:((∀ i,i+1=p.length→isO (kd p i)=false))→∃ b,Ev (fun k=>jd.f k p 0 (p.length:Int) false) b∧(b=true ↔ true=true∧p.length≤24∧(∀ j,j<p.length→numB t (kd p j) (la p j) (lb p j)=true)∧((∀ j,j<p.length→bw (dp p j) 0 5=true)∧DR p)∧∀ j,j<p.length→Good p 0 false j):=by
   intro hlast
   obtain ⟨g1,g2⟩:=bad_iff.mp ⟨hbad,hlast⟩
   have hl:∀ j,j<p.length→0≤dp p j:=fun j hj=>(bw_iff.mp (g1 j hj)).1
   refine ⟨_,ev_blockOk hp g2 hl,?_⟩
   rw [bOk_iff g2 p.length 0 0 0 p.length false (Blk.all g2 hl) (by omega) (fun _ _ m a b=>by omega)]
   exact ⟨fun h=>⟨rfl,by omega,hn,⟨g1,g2⟩,fun j hj=>h j (by omega) hj⟩,fun h j _ hj=>h.2.2.2.2 j hj⟩
  by_cases h3:p.length=0
  ·obtain ⟨b,hc1,hc2⟩:=hbk (fun i hi=>by omega)
   exact ⟨b,Ev.bind hv (Ev.neg (by simp) (Ev.neg h2 (Ev.bind hb1 (Ev.pos h3 hc1)))),hc2⟩
  ·have hla:inB (jEb p p.length).f1 7 12=isO (kd p (p.length - 1)):=by rw [jEb,if_neg h3];rfl
   cases h4:isO (kd p (p.length - 1)) with
   | true =>
    refine ⟨false,Ev.bind hv (Ev.neg (by simp) (Ev.neg h2 (Ev.bind hb1 (Ev.neg h3 (Ev.pos (by rw [hla];exact h4) (Ev.now _)))))),?_⟩
    constructor
    ·intro h;cases h
    ·rintro ⟨_,_,_,⟨_,h⟩,_⟩
     have:=h.last (p.length - 1) (by omega)
     rw [h4] at this;cases this
   | false =>
    obtain ⟨b,hc1,hc2⟩:=hbk (fun i hi=>by rw [show i=p.length - 1 from by omega];exact h4)
    exact ⟨b,Ev.bind hv (Ev.neg (by simp) (Ev.neg h2 (Ev.bind hb1 (Ev.neg h3 (Ev.neg (by rw [hla,h4];simp) hc1))))),hc2⟩
noncomputable def vB (t : List Cl) (p : List Ln) : Bool := @decide (ValidP t p) (Classical.propDecidable _)
theorem vB_iff {t : List Cl} {p : List Ln} : vB t p = true ↔ ValidP t p := by simp [vB]
theorem sValid {t : List Cl} {p : List Ln} (hp : p.length ≤ 1048576) (ht : TS t) : Ev (fun k => jG.f k t p) (vB t p) := by
 obtain ⟨b,h1,h2⟩:=ev_validProgram hp ht
 have:vB t p=b:=by rw [Bool.eq_iff_iff,vB_iff,h2]
 rw [this];exact h1
theorem iValid {t : List Cl} {p : List Ln} (hp : p.length ≤ 1048576) (ht : TS t) : Ev (fun k => jo.f k t p) (vB t p) := by
 obtain ⟨b,h1,h2⟩:=ev_ValidProgram hp ht
 have:vB t p=b:=by rw [Bool.eq_iff_iff,vB_iff,h2]
 rw [this];exact h1
end Go.Proofs.YtegpknnlggkcpaaDoor.Pure
end
