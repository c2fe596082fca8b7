/- One part of the proofs on this program: functions of the program as plain functions, that the code comes to them, and facts on them. -/
import Derived.Test.YtkhiiiddbmgiaaaYMdm
import Derived.Test.YtkhiiiddbmgiaaaYMw2
section
set_option linter.unusedSimpArgs false
set_option linter.unusedVariables false
namespace Go.Proofs.Ytkhiiiddbmgiaaa.Pure
open Go Go.RowKit Go.Proofs.Ytkhiiiddbmgiaaa.P Go.Proofs.YtkhiiiddbmgiaaaW.PrintWords
set_option linter.unusedVariables false
def kp (p : List Ln) (G : Nat → Bool) : List Nat := (List.range p.length).filter (fun i => !G i)
def flt (p : List Ln) (G : Nat → Bool) : List Ln := (kp p G).map (fun i => p.getD i z52)
theorem prN_flt {p : List Ln} {g G : Nat → Bool} (hg : ∀ i, i < p.length → (G i = true ↔ ∃ e, e ≤ i ∧ g e = true ∧ i < bEnd p e)) : ∀ (n i : Nat), p.length ≤ n + i → (∀ x, x < i → g x = true → bEnd p x ≤ i) → i ≤ p.length →
  prN g p n i=((List.range' i (p.length - i)).filter (fun i=>!G i)).map (fun i=>p.getD i z52)
 | 0,i,h,hi,hl=>by
  rw [show p.length - i=0 by omega];rfl
 | n+1,i,h,hi,hl=>by
  unfold prN
  by_cases h1:i<p.length
  ·rw [if_pos h1]
   by_cases h2:g i=true
   ·rw [if_pos h2]
    have b1:=jNa p i
    have b2:=jEc h1
    rw [prN_flt hg n (bEnd p i) (by omega) (fun x hx hgx=>by
     rcases Nat.lt_trichotomy x i with e | e | e
     ·have:=hi x e hgx;omega
     ·subst e;exact Nat.le_refl _
     ·exact bEnd_nest (by omega) e hx) b2]
    have e:p.length - i=(bEnd p i - i)+(p.length - bEnd p i):=by omega
    rw [e,← List.range'_append_1,List.filter_append,show i+(bEnd p i - i)=bEnd p i by omega]
    have e0:(List.range' i (bEnd p i - i)).filter (fun i=>!G i)=[]:=by
     rw [List.filter_eq_nil_iff]
     intro j hj
     have hj2:=List.mem_range'_1.mp hj
     have:G j=true:=(hg j (by omega)).mpr ⟨i,hj2.1,h2,by omega⟩
     simp [this]
    rw [e0,List.nil_append]
   ·rw [if_neg h2]
    have hG:G i=false:=by
     cases c:G i with
     | false=>rfl
     | true =>
      obtain ⟨e,e1,e2,e3⟩:=(hg i h1).mp c
      rcases Nat.lt_or_ge e i with f | f
      ·have:=hi e f e2;omega
      ·obtain rfl:e=i:=by omega
       exact absurd e2 h2
    rw [prN_flt hg n (i+1) (by omega) (fun x hx hgx=>by
     rcases Nat.lt_or_ge x i with f | f
     ·have:=hi x f hgx;omega
     ·obtain rfl:x=i:=by omega
      exact absurd hgx h2) h1]
    rw [show p.length - i=(p.length - (i+1))+1 by omega,List.range'_succ,List.filter_cons_of_pos (by simp [hG]),List.map_cons]
  ·rw [if_neg h1,show p.length - i=0 by omega];rfl
theorem prN_all {p : List Ln} {g G : Nat → Bool} (hg : ∀ i, i < p.length → (G i = true ↔ ∃ e, e ≤ i ∧ g e = true ∧ i < bEnd p e)) : prN g p p.length 0 = flt p G := by
 rw [prN_flt hg p.length 0 (by omega) (fun x hx=>by omega) (by omega),flt,kp,List.range_eq_range'];rfl
structure Sub (p q : List Ln) (G : Nat → Bool) (e : Nat → Nat) : Prop where
 lt:∀ a,a<q.length→e a<p.length
 ln:∀ a,a<q.length→q.getD a z52=p.getD (e a) z52
 mono:∀ a b,a<b→b<q.length→e a<e b
 left:∀ a,a<q.length→G (e a)=false
 onto:∀ i,i<p.length→G i=false→∃ a,a<q.length∧e a=i
 cl:∀ i j,i<j→j<bEnd p i→j<p.length→G i=true→G j=true
theorem kp_pair (p : List Ln) (G : Nat → Bool) : (kp p G).Pairwise (· < ·) := by
 unfold kp
 exact List.Pairwise.filter _ List.pairwise_lt_range
theorem kp_mem {p : List Ln} {G : Nat → Bool} {i : Nat} : i ∈ kp p G ↔ i < p.length ∧ G i = false := by
 unfold kp
 rw [List.mem_filter,List.mem_range]
 simp
theorem flt_len (p : List Ln) (G : Nat → Bool) : (flt p G).length = (kp p G).length := by simp [flt]
theorem sub_flt {p : List Ln} {G : Nat → Bool} (cl : ∀ i j, i < j → j < bEnd p i → j < p.length → G i = true → G j = true) : Sub p (flt p G) G (fun a => (kp p G).getD a 0) := by
 have hget:∀ a,a<(flt p G).length→∃ h:a<(kp p G).length,(kp p G).getD a 0=(kp p G)[a]:=fun a ha=>by
  rw [flt_len] at ha
  exact ⟨ha,by simp [List.getD_eq_getElem?_getD,ha]⟩
 have hm:∀ a,a<(flt p G).length→(kp p G).getD a 0 ∈ kp p G:=fun a ha=>by
  obtain ⟨h,e⟩:=hget a ha
  rw [e];exact List.getElem_mem h
 refine ⟨fun a ha=>(kp_mem.mp (hm a ha)).1,fun a ha=>?_,fun a b hab hb=>?_,fun a ha=>(kp_mem.mp (hm a ha)).2,fun i hi hG=>?_,cl⟩
 ·obtain ⟨h,e⟩:=hget a ha
  rw [e,flt,List.getD_eq_getElem?_getD,List.getElem?_map,List.getElem?_eq_getElem h];rfl
 ·obtain ⟨h1,e1⟩:=hget a (by omega)
  obtain ⟨h2,e2⟩:=hget b hb
  rw [e1,e2]
  exact List.pairwise_iff_getElem.mp (kp_pair p G) a b h1 h2 hab
 ·obtain ⟨a,ha,rfl⟩:=List.getElem_of_mem (kp_mem.mpr ⟨hi,hG⟩)
  exact ⟨a,by rw [flt_len];exact ha,by simp [List.getD_eq_getElem?_getD,ha]⟩
theorem Sub.dp {p q : List Ln} {G : Nat → Bool} {e : Nat → Nat} (S : Sub p q G e) {a : Nat} (ha : a < q.length) : Pure.dp q a = Pure.dp p (e a) := by unfold Pure.dp; rw [S.ln a ha]
theorem Sub.kd {p q : List Ln} {G : Nat → Bool} {e : Nat → Nat} (S : Sub p q G e) {a : Nat} (ha : a < q.length) : Pure.kd q a = Pure.kd p (e a) := by unfold Pure.kd; rw [S.ln a ha]
theorem Sub.la {p q : List Ln} {G : Nat → Bool} {e : Nat → Nat} (S : Sub p q G e) {a : Nat} (ha : a < q.length) : Pure.la q a = Pure.la p (e a) := by unfold Pure.la; rw [S.ln a ha]
theorem Sub.lb {p q : List Ln} {G : Nat → Bool} {e : Nat → Nat} (S : Sub p q G e) {a : Nat} (ha : a < q.length) : Pure.lb q a = Pure.lb p (e a) := by unfold Pure.lb; rw [S.ln a ha]
theorem Sub.le {p q : List Ln} {G : Nat → Bool} {e : Nat → Nat} (S : Sub p q G e) {a b : Nat} (ha : a < q.length) (h : e a ≤ e b) : a ≤ b := by
 rcases Nat.lt_or_ge b a with g | g
 ·have:=S.mono b a g ha;omega
 ·exact g
theorem Sub.lt' {p q : List Ln} {G : Nat → Bool} {e : Nat → Nat} (S : Sub p q G e) {a b : Nat} (hb : b < q.length) (ha : a < q.length) (h : e a < e b) : a < b := by
 rcases Nat.lt_or_ge a b with g | g
 ·exact g
 ·rcases Nat.lt_or_ge b a with f | f
  ·have:=S.mono b a f ha;omega
  ·rw [show a=b by omega] at h;omega
theorem Sub.low {p q : List Ln} {G : Nat → Bool} {e : Nat → Nat} (S : Sub p q G e) {m b : Nat} {d : Int} (hb : b < q.length) (h : ∀ c, c ≤ b → m < e c → d ≤ Pure.dp q c) : ∀ (n x : Nat), e b ≤ n + x → m < x → x ≤ e b → d ≤ Pure.dp p x := by
 have hlt:=S.lt b hb
 have base:∀ x,m<x→x≤e b→(∀ y,x<y→y≤e b→d≤Pure.dp p y)→d≤Pure.dp p x:=by
  intro x h1 h2 h3
  cases c:G x with
  | false =>
   obtain ⟨a,ha,rfl⟩:=S.onto x (by omega) c
   have:=h a (S.le ha h2) h1
   rwa [S.dp ha] at this
  | true =>
   rcases Int.lt_or_le (Pure.dp p x) d with g | g
   ·have hne:x≠e b:=fun he=>by have:=S.left b hb;rw [← he,c] at this;cases this
    have hx:e b<bEnd p x:=(jtc (by omega) hlt).mpr (fun j a b=>by have:=h3 j a b;omega)
    have:=S.cl x (e b) (by omega) hx hlt c
    rw [S.left b hb] at this;cases this
   ·exact g
 intro n
 induction n with
 | zero=>intro x h0 h1 h2;exact base x h1 h2 (fun y a b=>by omega)
 | succ n ih=>intro x h0 h1 h2;exact base x h1 h2 (fun y a b=>ih y (by omega) (by omega) b)
theorem Sub.low' {p q : List Ln} {G : Nat → Bool} {e : Nat → Nat} (S : Sub p q G e) {a b : Nat} {d : Int} (ha : a < q.length) (hb : b < q.length) : (∀ c, a < c → c ≤ b → d ≤ Pure.dp q c) ↔ (∀ x, e a < x → x ≤ e b → d ≤ Pure.dp p x) := by
 constructor
 ·intro h x h1 h2
  exact S.low (m:=e a) hb (fun c c1 c2=>h c (S.lt' (by omega) ha c2) c1) (e b) x (by omega) h1 h2
 ·intro h c h1 h2
  rw [S.dp (by omega)]
  have h3:=S.mono a c h1 (by omega)
  have h4:e c≤e b:=by
   rcases Nat.lt_or_ge c b with g | g
   ·exact Nat.le_of_lt (S.mono c b g hb)
   ·rw [show c=b by omega];exact Nat.le_refl _
  exact h _ h3 h4
theorem Sub.blk {p q : List Ln} {G : Nat → Bool} {e : Nat → Nat} (S : Sub p q G e) {a b : Nat} (hab : a < b) (hb : b < q.length) : b < bEnd q a ↔ e b < bEnd p (e a) := by
 rw [jtc hab hb,jtc (S.mono a b hab hb) (S.lt b hb)]
 have h:=S.low' (a:=a) (b:=b) (d:=Pure.dp p (e a)+1) (by omega) hb
 rw [S.dp (show a<q.length by omega)]
 exact h
theorem Sub.bj {p q : List Ln} {G : Nat → Bool} {e : Nat → Nat} (S : Sub p q G e) (hK : ∀ m i, m < i → i < p.length → G m = true → G i = false → jmpB (Pure.kd p m) = true → (∀ x, m < x → x ≤ i → Pure.dp p m ≤ Pure.dp p x) → False) {b : Nat} (hb : b < q.length) : bjS q (b : Int) = bjS p ((e b : Nat) : Int) := by
 rw [Bool.eq_iff_iff,jpc hb,jpc (S.lt b hb)]
 constructor
 ·rintro ⟨m,h1,h2,h3⟩
  rw [S.kd (by omega)] at h2
  rw [S.dp (by omega)] at h3
  exact ⟨e m,S.mono m b h1 hb,h2,(S.low' (by omega) hb).mp h3⟩
 ·rintro ⟨m,h1,h2,h3⟩
  have hG:G m=false:=by
   cases c:G m with
   | false=>rfl
   | true=>exact (hK m (e b) h1 (S.lt b hb) c (S.left b hb) h2 h3).elim
  obtain ⟨a,ha,rfl⟩:=S.onto m (by have:=S.lt b hb;omega) hG
  refine ⟨a,S.lt' hb ha h1,by rw [S.kd ha];exact h2,?_⟩
  rw [S.dp ha]
  exact (S.low' ha hb).mpr h3
theorem last_same {p : List Ln} {d : Int} {T : Nat} (hT : dp p T = d) : ∀ (j : Nat), T < j → (∀ x, T < x → x < j → d ≤ dp p x) → ∃ m, T ≤ m ∧ m < j ∧ dp p m = d ∧ ∀ y, m < y → y < j → d < dp p y
 | 0,h,_=>by omega
 | j+1,h,hl=>by
  by_cases e:T=j
  ·exact ⟨T,Nat.le_refl _,h,hT,fun y a b=>by omega⟩
  ·have hj:=hl j (by omega) (by omega)
   by_cases c:dp p j=d
   ·exact ⟨j,by omega,by omega,c,fun y a b=>by omega⟩
   ·obtain ⟨m,a,b,f,g⟩:=last_same hT j (by omega) (fun x x1 x2=>hl x x1 (by omega))
    refine ⟨m,a,by omega,f,fun y y1 y2=>?_⟩
    rcases Nat.lt_or_ge y j with g2 | g2
    ·exact g y y1 g2
    ·rw [show y=j by omega];omega
theorem jwb {p : List Ln} {T : Nat} (hT : T < p.length) (j : Nat) : j ∈ jHa p T ↔ j < p.length ∧ T < j ∧ dp p j = dp p T ∧ isF (kd p j) = true ∧ ∀ x, T < x → x < j → dp p T ≤ dp p x ∧ (dp p x = dp p T → isF (kd p x) = true) := by
 constructor
 ·intro h
  have hm:=jbc h
  have g:=jNa p T
  refine ⟨hm.2.1,by omega,hm.2.2.1,hm.2.2.2,fun x x1 x2=>?_⟩
  by_cases hx:x<bEnd p T
  ·have:=jqb (p:=p) x1 hx
   exact ⟨by omega,fun h=>by omega⟩
  ·exact chainN_low _ _ (by omega) j h x (by omega) (by omega)
 ·rintro ⟨h1,h2,h3,h4,h5⟩
  have key:∀ (n j:Nat),j≤n→j<p.length→T<j→dp p j=dp p T→isF (kd p j)=true→(∀ x,T<x→x<j→dp p T≤dp p x∧(dp p x=dp p T→isF (kd p x)=true))→j ∈ jHa p T:=by
   intro n
   induction n with
   | zero=>intro j a b c;omega
   | succ n ih =>
    intro j a b c f g h
    obtain ⟨m,m1,m2,m3,m4⟩:=last_same (p:=p) (T:=T) rfl j c (fun x x1 x2=>(h x x1 x2).1)
    have hb:bEnd p m=j:=bEnd_uniq m2 (by omega) (fun y y1 y2=>by rw [m3];exact m4 y y1 y2) (fun _=>by rw [m3,f];exact Int.le_refl _)
    have hmem:m ∈ chain p T:=by
     by_cases e:m=T
     ·rw [e];exact List.mem_cons_self
     ·exact List.mem_cons_of_mem _ (ih m (by omega) (by omega) (by omega) m3 ((h m (by omega) m2).2 m3) (fun x x1 x2=>h x x1 (by omega)))
    have hj:=chain_step hT hmem hb b f g
    rcases List.mem_cons.mp hj with e | e
    ·omega
    ·exact e
  exact key j j (Nat.le_refl _) h1 h2 h3 h4 h5
def DX (t : List Cl) (p : List Ln) (i j : Nat) : Prop := j < i ∧ kd p i = 8 ∧ kd p j = 8 ∧ dp p j = dp p i ∧ (∀ x, j < x → x < i → dp p i ≤ dp p x ∧ (dp p x = dp p i → isF (kd p x) = true)) ∧ isAB t (la p i) (la p j) = true
theorem tw_imp {P : Nat → Bool} {j : Nat} : ∀ {l : List Nat}, j ∈ l.takeWhile P → P j = true
 | [],h=>by cases h
 | x :: l,h=>by
  rw [List.takeWhile_cons] at h
  split at h
  ·rcases List.mem_cons.mp h with rfl | h
   ·assumption
   ·exact tw_imp h
  ·cases h
theorem jgc {t : List Cl} {p : List Ln} (hv : jyb t p) {i : Nat} (hi : i < p.length) : dvS t p (i : Int) = true ↔ ∃ j, DX t p i j := by
 by_cases h8:kd p i=8
 ·have hk:inTry p i:=.inr (jRb.mpr ⟨by omega,by omega⟩)
  have hT:=thd_is hv hi hk
  have hlt:thd p i<p.length:=by have:=hT.le;omega
  have hm:i ∈ jHa p (thd p i):=by
   rcases List.mem_cons.mp hT.mem with g | g
   ·have:=hT.try_;rw [← g] at this;omega
   ·exact g
  have he:=chain_eights hv hlt hT.try_ hm h8
  have hd:=dvL_mem t p h8 (jHa p (thd p i)) [] (jcc _ _).2 hm he
  have hdv:dvL t p (chain p (thd p i)) []=dvL t p (jHa p (thd p i)) []:=by
   show dvL t p (thd p i :: jHa p (thd p i)) []=_
   rw [dvL,if_neg (by have:=hT.try_;omega)]
  rw [← hdv] at hd
  have hA:=dvA_mem t p hd hT.try_ p.length 0 (by omega) (by omega)
  have hS:dvS t p (i:Int)=_:=updV_in (dvA_keys hv p.length 0 rfl).2 hA
  rw [hS,List.nil_append,List.any_map,List.any_eq_true]
  have hdi:=hT.deep
  have hmi:=(jwb hlt i).mp hm
  constructor
  ·rintro ⟨j,j1,j2⟩
   have j3:=tw_imp j1
   have j4:=(List.takeWhile_sublist _).subset j1
   have hji:j<i:=by simpa using j3
   have hmj:=(jwb hlt j).mp j4
   exact ⟨j,hji,h8,he j j4 hji,by rw [hmj.2.2.1,hdi],fun x x1 x2=>by rw [← hdi];exact hmi.2.2.2.2 x (by omega) x2,j2⟩
  ·rintro ⟨j,hji,_,k8,k1,k2,k3⟩
   have hkj:inTry p j:=.inr (jRb.mpr ⟨by omega,by omega⟩)
   have hTj:=thd_is hv (by omega) hkj
   have e7:=hT.try_
   have f7:=hTj.try_
   have e1:=hT.le
   have f1:=hTj.le
   have f2:=hTj.deep
   have hTlt:thd p i<j:=by
    rcases Nat.lt_trichotomy (thd p i) j with g | g | g
    ·exact g
    ·rw [g] at e7;omega
    ·have hne:thd p i≠i:=fun h=>by rw [h] at e7;omega
     have:=jRb.mp ((k2 (thd p i) g (by omega)).2 hdi)
     omega
   have hjT:j ∈ jHa p (thd p i):=by
    refine (jwb hlt j).mpr ⟨by omega,hTlt,by rw [k1,hdi],jRb.mpr ⟨by omega,by omega⟩,fun x x1 x2=>hmi.2.2.2.2 x x1 (by omega)⟩
   refine ⟨j,?_,k3⟩
   have hp:=(jcc (p:=p) (d:=dp p (thd p i)) p.length (bEnd p (thd p i))).2
   have key:∀ l:List Nat,l.Pairwise (·<·)→j ∈ l→j ∈ l.takeWhile (fun e=>decide (e<i)):=by
    intro l
    induction l with
    | nil=>intro _ h;cases h
    | cons x l ih =>
     intro hp h
     rw [List.pairwise_cons] at hp
     rcases List.mem_cons.mp h with rfl | h
     ·rw [List.takeWhile_cons,if_pos (by simpa using hji)];exact List.mem_cons_self
     ·have:=hp.1 j h
      rw [List.takeWhile_cons,if_pos (by simp;omega)]
      exact List.mem_cons_of_mem _ (ih hp.2 h)
   exact key _ hp hjT
 ·have hS:dvS t p (i:Int)=false:=updV_not (fun x hx e=>h8 (by rw [show i=x.1 from Int.ofNat.inj e];exact dvA_kd t p _ _ x hx))
  rw [hS]
  exact ⟨(fun h=>by cases h),(fun h=>by obtain ⟨j,h⟩:=h;exact absurd h.2.1 h8)⟩
structure Fine (p : List Ln) (G : Nat → Bool) : Prop where
 cl:∀ i j,i<j→j<bEnd p i→j<p.length→G i=true→G j=true
 g0:0<p.length→G 0=false
 gO:∀ i,i+1<p.length→isO (kd p i)=true→G i=false→G (i+1)=false
 gF:∀ T x i,T<x→x<i→i<p.length→G T=false→G i=false→G x=true→(∀ y,T<y→y≤i→dp p T≤dp p y)→dp p i=dp p T→dp p x=dp p T→isF (kd p x)=true
 gT:∀ T i,T<i→i<p.length→G i=false→kd p T=7→dp p T=dp p i→(∀ y,T<y→y≤i→dp p T≤dp p y)→G T=false
 gV:∀ T,T<p.length→kd p T=7→G T=false→vcB (((jHa p T).filter (fun j=>!G j)).map (kd p))=true
theorem Sub.dr {p q : List Ln} {G : Nat → Bool} {e : Nat → Nat} (S : Sub p q G e) (F : Fine p G) (hr : DR p) : DR q := by
 have hnext:∀ a,a<q.length→isO (Pure.kd q a)=true→e a+1<p.length∧G (e a+1)=false:=by
  intro a ha ho
  have h1:=S.lt a ha
  rw [S.kd ha] at ho
  rcases Nat.lt_or_ge (e a+1) p.length with g | g
  ·exact ⟨g,F.gO _ g ho (S.left a ha)⟩
  ·have:=hr.last (e a) (by omega);rw [ho] at this;cases this
 refine ⟨fun h0=>?_,fun a ha ho=>?_,fun a ha ho=>?_,fun a ha=>?_⟩
 ·have h1:=S.lt 0 h0
  obtain ⟨c,c1,c2⟩:=S.onto 0 (by omega) (F.g0 (by omega))
  have:c≤0:=S.le c1 (by omega)
  obtain rfl:c=0:=by omega
  rw [S.dp h0,c2]
  exact hr.first (by omega)
 ·obtain ⟨h1,h2⟩:=hnext a (by omega) ho
  obtain ⟨c,c1,c2⟩:=S.onto _ h1 h2
  have c3:a<c:=S.lt' c1 (by omega) (by omega)
  have c4:=S.mono a (a+1) (by omega) ha
  have c5:c≤a+1:=S.le c1 (by omega)
  obtain rfl:c=a+1:=by omega
  rw [S.dp ha,S.dp (show a<q.length by omega),c2]
  exact hr.deeper _ h1 (by rw [S.kd (by omega)] at ho;exact ho)
 ·rcases Int.lt_or_le (Pure.dp q a) (Pure.dp q (a+1)) with g | g
  ·have c4:=S.mono a (a+1) (by omega) ha
   have hl:=(S.low' (a:=a) (b:=a+1) (d:=Pure.dp p (e a)+1) (by omega) ha).mp (fun c x1 x2=>by
    obtain rfl:c=a+1:=by omega
    rw [S.dp (show a<q.length by omega)] at g;omega) (e a+1) (by omega) (by omega)
   have:=hr.none (e a) (by have:=S.lt _ ha;omega) (by rw [S.kd (by omega)] at ho;exact ho)
   omega
  ·exact g
 ·cases ho:isO (Pure.kd q a) with
  | false=>rfl
  | true =>
   obtain ⟨h1,h2⟩:=hnext a (by omega) ho
   obtain ⟨c,c1,c2⟩:=S.onto _ h1 h2
   have c3:a<c:=S.lt' c1 (by omega) (by omega)
   omega
theorem asc_eq : ∀ {l m : List Nat}, l.Pairwise (· < ·) → m.Pairwise (· < ·) → (∀ x, x ∈ l ↔ x ∈ m) → l = m
 | [],[],_,_,_=>rfl
 | [],b :: m,_,_,h=>by have:=(h b).mpr List.mem_cons_self;cases this
 | a :: l,[],_,_,h=>by have:=(h a).mp List.mem_cons_self;cases this
 | a :: l,b :: m,h1,h2,h=>by
  rw [List.pairwise_cons] at h1 h2
  have hab:a=b:=by
   have ha:=(h a).mp List.mem_cons_self
   have hb:=(h b).mpr List.mem_cons_self
   rcases List.mem_cons.mp ha with e | e
   ·exact e
   ·rcases List.mem_cons.mp hb with f | f
    ·exact f.symm
    ·have:=h2.1 a e;have:=h1.1 b f;omega
  subst hab
  rw [asc_eq h1.2 h2.2 (fun x=>?_)]
  constructor
  ·intro hx
   rcases List.mem_cons.mp ((h x).mp (List.mem_cons_of_mem _ hx)) with e | e
   ·subst e;have:=h1.1 x hx;omega
   ·exact e
  ·intro hx
   rcases List.mem_cons.mp ((h x).mpr (List.mem_cons_of_mem _ hx)) with e | e
   ·subst e;have:=h2.1 x hx;omega
   ·exact e
theorem Sub.chain {p q : List Ln} {G : Nat → Bool} {e : Nat → Nat} (S : Sub p q G e) (F : Fine p G) {b : Nat} (hb : b < q.length) : (jHa q b).map e = (jHa p (e b)).filter (fun j => !G j) := by
 have hT:=S.lt b hb
 have hmem:∀ j,j<q.length→(j ∈ jHa q b ↔ e j ∈ jHa p (e b)):=by
  intro j hj
  rw [jwb hb,jwb hT,S.dp hj,S.dp hb,S.kd hj]
  constructor
  ·rintro ⟨_,h2,h3,h4,h5⟩
   have hbj:=S.mono b j h2 hj
   have hl:=(S.low' (a:=b) (b:=j) (d:=Pure.dp p (e b)) hb hj).mp (fun c c1 c2=>by
    rcases Nat.lt_or_ge c j with g | g
    ·exact (h5 c c1 g).1
    ·rw [show c=j by omega,S.dp hj,h3];exact Int.le_refl _)
   refine ⟨S.lt j hj,hbj,h3,h4,fun x x1 x2=>⟨hl x x1 (by omega),fun hx=>?_⟩⟩
   have hjl:=S.lt j hj
   cases c:G x with
   | false =>
    obtain ⟨a,ha,rfl⟩:=S.onto x (by omega) c
    have a1:=S.lt' ha hb x1
    have a2:=S.lt' hj ha x2
    rw [← S.kd ha]
    exact (h5 a a1 a2).2 (by rw [S.dp ha];exact hx)
   | true=>exact F.gF (e b) x (e j) x1 x2 hjl (S.left b hb) (S.left j hj) c hl h3 hx
  ·rintro ⟨_,h2,h3,h4,h5⟩
   refine ⟨hj,S.lt' hj hb h2,h3,h4,fun x x1 x2=>?_⟩
   have hx:x<q.length:=by omega
   have:=h5 (e x) (S.mono b x x1 hx) (S.mono x j x2 hj)
   rw [S.dp hx,S.kd hx]
   exact this
 have hlt:∀ j ∈ jHa q b,j<q.length:=fun j hj=>((jwb hb j).mp hj).1
 refine asc_eq ?_ ?_ ?_
 ·rw [List.pairwise_map]
  have ha:=(jcc (p:=q) (d:=Pure.dp q b) q.length (bEnd q b)).2
  exact List.Pairwise.imp_of_mem (fun {x y} hx hy hxy=>S.mono x y hxy (hlt y hy)) ha
 ·exact List.Pairwise.filter _ (jcc (p:=p) (d:=Pure.dp p (e b)) p.length (bEnd p (e b))).2
 ·intro x
  rw [List.mem_map,List.mem_filter]
  constructor
  ·rintro ⟨j,h1,rfl⟩
   exact ⟨(hmem j (hlt j h1)).mp h1,by rw [S.left j (hlt j h1)];rfl⟩
  ·rintro ⟨h1,h2⟩
   obtain ⟨j,hj,rfl⟩:=S.onto x ((jwb hT x).mp h1).1 (by simpa using h2)
   exact ⟨j,(hmem j hj).mpr h1,rfl⟩
theorem last_kept {p : List Ln} {G : Nat → Bool} {d : Int} {T : Nat} (hT : dp p T = d) (hG : G T = false) : ∀ (j : Nat), T < j → (∀ x, T < x → x < j → d ≤ dp p x) → ∃ m, T ≤ m ∧ m < j ∧ G m = false ∧ dp p m = d ∧ ∀ y, m < y → y < j → G y = false → d < dp p y
 | 0,h,_=>by omega
 | j+1,h,hl=>by
  by_cases e:T=j
  ·exact ⟨T,Nat.le_refl _,h,hG,hT,fun y a b=>by omega⟩
  ·have hj:=hl j (by omega) (by omega)
   by_cases c:dp p j=d∧G j=false
   ·exact ⟨j,by omega,by omega,c.2,c.1,fun y a b=>by omega⟩
   ·obtain ⟨m,a,b,f,g,k⟩:=last_kept hT hG j (by omega) (fun x x1 x2=>hl x x1 (by omega))
    refine ⟨m,a,by omega,f,g,fun y y1 y2 y3=>?_⟩
    rcases Nat.lt_or_ge y j with g2 | g2
    ·exact k y y1 g2 y3
    ·obtain rfl:y=j:=by omega
     have:dp p y≠d:=fun h=>c ⟨h,y3⟩
     omega
theorem Sub.valid {t : List Cl} {p q : List Ln} {G : Nat → Bool} {e : Nat → Nat} (S : Sub p q G e) (F : Fine p G) (hv : jyb t p) (hl : q.length ≤ p.length) : jyb t q := by
 have hr:=S.dr F hv.dr
 refine ⟨hv.1,by have:=hv.2.1;omega,fun b hb=>?_⟩
 have hlt:=S.lt b hb
 obtain ⟨h1,h2,_,h4⟩:=hv.2.2 (e b) hlt
 refine ⟨by rw [S.kd hb,S.la hb,S.lb hb];exact h1,by rw [S.dp hb];exact h2,(off_DR q).mpr hr b hb,fun h7=>?_,fun h56=>?_,fun hF=>?_⟩
 ·have hm:(jHa q b).map (Pure.kd q)=((jHa q b).map e).map (Pure.kd p):=by
   rw [List.map_map]
   refine List.map_congr_left (fun j hj=>?_)
   exact S.kd ((jwb hb j).mp hj).1
  rw [hm,S.chain F hb]
  exact F.gV (e b) hlt (by rw [← S.kd hb];exact h7) (S.left b hb)
 ·rw [S.kd hb] at h56
  rcases h4.2.1 h56 with c | ⟨m,m1,m2,m3,m4⟩
  ·cases c
  ·right
   have hGm:G m=false:=by
    cases c:G m with
    | false=>rfl
    | true=>have:=F.cl m (e b) m2 m4 hlt c;rw [S.left b hb] at this;cases this
   obtain ⟨a,ha,rfl⟩:=S.onto m (by omega) hGm
   have hab:=S.lt' hb ha m2
   exact ⟨a,Nat.zero_le _,hab,by rw [S.kd ha];exact m3,(S.blk hab hb).mpr m4⟩
 ·rw [S.kd hb] at hF
  have hk:inTry p (e b):=.inr hF
  have hT:=thd_is hv hlt hk
  have hne:thd p (e b)≠e b:=fun h=>by have:=hT.try_;rw [h] at this;have:=jRb.mp hF;omega
  have hTl:thd p (e b)<e b:=by have:=hT.le;omega
  have hmem:e b ∈ jHa p (thd p (e b)):=by
   rcases List.mem_cons.mp hT.mem with g | g
   ·exact absurd g.symm hne
   ·exact g
  have hpat:=(jwb (by omega) _).mp hmem
  have hlow:∀ y,thd p (e b)<y→y≤e b→Pure.dp p (thd p (e b))≤Pure.dp p y:=fun y a c=>by rw [hT.deep];exact hT.low y (by omega) c
  have hGT:=F.gT _ _ hTl hlt (S.left b hb) hT.try_ hT.deep hlow
  obtain ⟨m,m1,m2,m3,m4,m5⟩:=last_kept (G:=G) hT.deep hGT (e b) hTl (fun x x1 x2=>by have:=hlow x x1 (by omega);rw [hT.deep] at this;exact this)
  obtain ⟨a,ha,rfl⟩:=S.onto m (by omega) m3
  have hab:=S.lt' hb ha m2
  refine ⟨a,Nat.zero_le _,hab,bEnd_uniq hab (by omega) (fun j j1 j2=>?_) (fun _=>by rw [S.dp ha,S.dp hb,m4];exact Int.le_refl _),by rw [S.dp ha,S.dp hb,m4],?_⟩
  ·rw [S.dp ha,S.dp (show j<q.length by omega),m4]
   exact m5 _ (S.mono a j j1 (by omega)) (S.mono j b j2 hb) (S.left j (by omega))
  ·rw [S.kd ha]
   by_cases c:e a=thd p (e b)
   ·left;rw [c];exact hT.try_
   ·right;exact (hpat.2.2.2.2 (e a) (by omega) m2).2 (by rw [m4,hT.deep])
end Go.Proofs.Ytkhiiiddbmgiaaa.Pure
end
