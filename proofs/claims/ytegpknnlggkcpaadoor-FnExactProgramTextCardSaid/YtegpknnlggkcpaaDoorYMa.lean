/- One part of the proofs on this program: functions of the program as plain functions, that the code comes to them, and facts on them. -/
import Derived.Test.YtegpknnlggkcpaaDoorYMx
section
set_option linter.unusedSimpArgs false
set_option linter.unusedVariables false
namespace Go.Proofs.YtegpknnlggkcpaaDoor.Pure
open Go Go.RowKit Go.Proofs.YtegpknnlggkcpaaDoor.P Go.Proofs.YtegpknnlggkcpaaDoorW.PrintWords
set_option linter.unusedVariables false
abbrev Ln := S42
def dp (p : List Ln) (i : Nat) : Int := (p.getD i z42).f0
def kd (p : List Ln) (i : Nat) : Int := (p.getD i z42).f1
def la (p : List Ln) (i : Nat) : Int := (p.getD i z42).f2
def lb (p : List Ln) (i : Nat) : Int := (p.getD i z42).f3
def isF (k : Int) : Bool := decide (8 ≤ k) && decide (k ≤ 10)
def isO (k : Int) : Bool := decide (7 ≤ k) && decide (k ≤ 12)
theorem isF_iff {k : Int} : isF k = true ↔ 8 ≤ k ∧ k ≤ 10 := by simp [isF]
theorem isO_iff {k : Int} : isO k = true ↔ 7 ≤ k ∧ k ≤ 12 := by simp [isO]
theorem isO_not {k : Int} : isO k = false ↔ ¬ (7 ≤ k ∧ k ≤ 12) := by rw [← isO_iff]; simp
def endN (p : List Ln) (d : Int) : Nat → Nat → Nat
 | 0,k=>k
 | n+1,k=>if k<p.length then (if dp p k > d then endN p d n (k+1) else k) else k
def bEnd (p : List Ln) (i : Nat) : Nat := endN p (dp p i) p.length (i + 1)
theorem endN_spec (p : List Ln) (d : Int) : ∀ (n k : Nat), p.length ≤ n + k →
  k≤endN p d n k∧(k≤p.length→endN p d n k≤p.length)∧(∀ j,k≤j→j<endN p d n k→d<dp p j)∧(endN p d n k<p.length→dp p (endN p d n k)≤d)
 | 0,k,h=>⟨Nat.le_refl _,fun h=>h,fun j h1 h2=>absurd h2 (by simp only [endN];omega),fun h2=>absurd h2 (by simp only [endN];omega)⟩
 | n+1,k,h=>by
  simp only [endN]
  by_cases h1:k<p.length
  ·rw [if_pos h1]
   by_cases h2:dp p k > d
   ·rw [if_pos h2]
    obtain ⟨a,b,c,e⟩:=endN_spec p d n (k+1) (by omega)
    refine ⟨by omega,fun _=>b h1,fun j hj1 hj2=>?_,e⟩
    by_cases hj:j=k
    ·rw [hj];exact h2
    ·exact c j (by omega) hj2
   ·rw [if_neg h2]
    exact ⟨Nat.le_refl _,fun h=>h,fun j h1 h2=>absurd h2 (by omega),fun _=>by omega⟩
  ·rw [if_neg h1]
   exact ⟨Nat.le_refl _,fun h=>h,fun j h1 h2=>absurd h2 (by omega),fun h=>absurd h h1⟩
theorem jLa (p : List Ln) (i : Nat) : i < bEnd p i := (endN_spec p (dp p i) p.length (i + 1) (by omega)).1
theorem bEnd_le {p : List Ln} {i : Nat} (h : i < p.length) : bEnd p i ≤ p.length := (endN_spec p (dp p i) p.length (i + 1) (by omega)).2.1 h
theorem jfb {p : List Ln} {i j : Nat} (h1 : i < j) (h2 : j < bEnd p i) : dp p i < dp p j := (endN_spec p (dp p i) p.length (i + 1) (by omega)).2.2.1 j h1 h2
theorem bEnd_at {p : List Ln} {i : Nat} (h : bEnd p i < p.length) : dp p (bEnd p i) ≤ dp p i := (endN_spec p (dp p i) p.length (i + 1) (by omega)).2.2.2 h
theorem bEnd_uniq {p : List Ln} {i e : Nat} (h1 : i < e) (h2 : e ≤ p.length) (h3 : ∀ j, i < j → j < e → dp p i < dp p j) (h4 : e < p.length → dp p e ≤ dp p i) : bEnd p i = e := by
 have g:=jLa p i
 have l:bEnd p i≤p.length:=bEnd_le (by omega)
 rcases Nat.lt_trichotomy (bEnd p i) e with h | h | h
 ·have a:=h3 (bEnd p i) g h
  have b:=bEnd_at (p:=p) (i:=i) (by omega)
  omega
 ·exact h
 ·have a:=jfb (p:=p) h1 h
  have b:=h4 (by omega)
  omega
theorem bEnd_lt_iff {p : List Ln} {k i : Nat} (h : k < i) (hi : i < p.length) : i < bEnd p k ↔ ∀ j, k < j → j ≤ i → dp p k < dp p j := by
 constructor
 ·intro h1 j h2 h3
  exact jfb h2 (by omega)
 ·intro h1
  rcases Nat.lt_or_ge i (bEnd p k) with h2 | h2
  ·exact h2
  ·have g:=jLa p k
   have a:=h1 (bEnd p k) g h2
   have b:=bEnd_at (p:=p) (i:=k) (by omega)
   omega
def jya (p : List Ln) (d : Int) : Nat → Nat → List Nat
 | 0,_=>[]
 | n+1,k=>if k<p.length∧dp p k=d∧isF (kd p k)=true then k :: jya p d n (bEnd p k) else []
def jQa (p : List Ln) (i : Nat) : List Nat := jya p (dp p i) p.length (bEnd p i)
def chain (p : List Ln) (i : Nat) : List Nat := i :: jQa p i
def lastOf (l : List Nat) (i : Nat) : Nat := l.getLastD i
def sibs (p : List Ln) (b : Nat) : Nat → Nat → List Nat
 | 0,_=>[]
 | n+1,i=>if i<b then i :: sibs p b n (bEnd p i) else []
theorem sibs_more (p : List Ln) (b : Nat) : ∀ (n m k : Nat), b ≤ n + k → n ≤ m → sibs p b m k = sibs p b n k
 | 0,0,_,_,_=>rfl
 | 0,m+1,k,h,_=>by simp only [sibs];rw [if_neg (by omega)]
 | n+1,0,_,_,h=>by omega
 | n+1,m+1,k,h,h2=>by
  simp only [sibs]
  have g:=jLa p k
  rw [sibs_more p b n m (bEnd p k) (by omega) (by omega)]
theorem chainN_mem {p : List Ln} {d : Int} : ∀ {n k j : Nat}, j ∈ jya p d n k → k ≤ j ∧ j < p.length ∧ dp p j = d ∧ isF (kd p j) = true
 | 0,_,_,h=>by simp [jya] at h
 | n+1,k,j,h=>by
  simp only [jya] at h
  split at h
  ·rename_i hc
   rcases List.mem_cons.mp h with rfl | h
   ·exact ⟨Nat.le_refl _,hc⟩
   ·have:=chainN_mem h
    have g:=jLa p k
    exact ⟨by omega,this.2⟩
  ·simp at h
def okGo : List Int → Int → Int → Option Int
 | [],ex,_=>some ex
 | k :: ks,ex,last=>if k=8 then (if last≤8 then okGo ks (ex+1) k else none) else if k=9 then (if last=8 then okGo ks ex k else none) else if k=10 then (if last<10 then okGo ks ex k else none) else none
def finB (n : Nat) (o : Option Int) : Bool := match o with | none => false | some ex => decide (1 ≤ n) && decide (ex ≤ 6)
def okB (ks : List Int) : Bool := finB ks.length (okGo ks 0 7)
def badK (k ex : Int) (q : Option Int) : Bool := (match q with | some q => decide (k < q) || (decide (k = q) && decide (k ≠ 8)) | none => false) || (decide (k = 9) && decide (ex = 0))
def vcGo : List Int → Int → Option Int → Option Int
 | [],ex,_=>some ex
 | k :: ks,ex,q=>if badK k (if k=8 then ex+1 else ex) q=true then none else vcGo ks (if k=8 then ex+1 else ex) (some k)
def vcB (ks : List Int) : Bool := finB ks.length (vcGo ks 0 none)
theorem okGo_vc : ∀ (ks : List Int) (ex last : Int) (q : Option Int), (∀ k ∈ ks, isF k = true) → (0 ≤ ex) → ((q = none ∧ last = 7 ∧ ex = 0) ∨ (q = some last ∧ 8 ≤ last ∧ last ≤ 10 ∧ (last = 8 → 1 ≤ ex))) → okGo ks ex last = vcGo ks ex q
 | [],_,_,_,_,_,_=>rfl
 | k :: ks,ex,last,q,hk,he,hq=>by
  have h1:=isF_iff.mp (hk k (by simp))
  have hk':∀ k ∈ ks,isF k=true:=fun x hx=>hk x (by simp [hx])
  simp only [okGo,vcGo,badK]
  rcases (by omega:k=8∨k=9∨k=10) with rfl | rfl | rfl
  ·rcases hq with ⟨rfl,rfl,rfl⟩ | ⟨rfl,a,b,c⟩
   ·simp;exact okGo_vc ks _ _ _ hk' (by omega) (.inr ⟨rfl,by omega,by omega,by omega⟩)
   ·by_cases h:last≤8
    ·obtain rfl:last=8:=by omega
     simp;exact okGo_vc ks _ _ _ hk' (by omega) (.inr ⟨rfl,by omega,by omega,by omega⟩)
    ·simp [h]
  ·rcases hq with ⟨rfl,rfl,rfl⟩ | ⟨rfl,a,b,c⟩
   ·simp
   ·by_cases h:last=8
    ·subst h
     have:ex≠0:=by have:=c rfl;omega
     simp [this];exact okGo_vc ks _ _ _ hk' (by omega) (.inr ⟨rfl,by omega,by omega,by omega⟩)
    ·have:9<last∨9=last:=by omega
     rcases this with h2 | h2 <;> simp [h,h2] <;> omega
  ·rcases hq with ⟨rfl,rfl,rfl⟩ | ⟨rfl,a,b,c⟩
   ·simp;exact okGo_vc ks _ _ _ hk' (by omega) (.inr ⟨rfl,by omega,by omega,by omega⟩)
   ·by_cases h:last<10
    ·have h1:¬ (10<last):=by omega
     have h2:¬ (10=last):=by omega
     simp [h,h1,h2];exact okGo_vc ks _ _ _ hk' (by omega) (.inr ⟨rfl,by omega,by omega,by omega⟩)
    ·obtain rfl:last=10:=by omega
     simp
theorem okB_vcB (ks : List Int) (h : ∀ k ∈ ks, isF k = true) : okB ks = vcB ks := by
 unfold okB vcB
 rw [okGo_vc ks 0 7 none h (by omega) (.inl ⟨rfl,rfl,rfl⟩)]
structure DR (p : List Ln) : Prop where
 first:0<p.length→dp p 0=0
 deeper:∀ i,i+1<p.length→isO (kd p i)=true→dp p (i+1)=dp p i+1
 none:∀ i,i+1<p.length→isO (kd p i)=false→dp p (i+1)≤dp p i
 last:∀ i,i+1=p.length→isO (kd p i)=false
structure Blk (p : List Ln) (d : Int) (a i b : Nat) : Prop where
 ai:a≤i
 ib:i≤b
 bl:b≤p.length
 low:∀ j,a≤j→j<b→d≤dp p j
 at_:i<b→dp p i=d
 out:b<p.length→dp p b<d
theorem Blk.next {p : List Ln} {d : Int} {a i b : Nat} (h : Blk p d a i b) (hi : i < b) : bEnd p i ≤ b ∧ Blk p d a (bEnd p i) b := by
 have hd:=h.at_ hi
 have h1:=h.bl
 have h2:=h.ai
 have g:=jLa p i
 have hb:bEnd p i≤b:=by
  rcases Nat.lt_or_ge b (bEnd p i) with h3 | h3
  ·have a1:=jfb hi h3
   have a2:=bEnd_le (p:=p) (i:=i) (by omega)
   have a3:=h.out (by omega)
   omega
  ·exact h3
 refine ⟨hb,by omega,hb,h.bl,h.low,fun h3=>?_,h.out⟩
 have a1:=bEnd_at (p:=p) (i:=i) (by omega)
 have a2:=h.low (bEnd p i) (by omega) h3
 omega
theorem Blk.inner {p : List Ln} {d : Int} {a i b : Nat} (hr : DR p) (h : Blk p d a i b) (hi : i < b) : Blk p (d + 1) (i + 1) (i + 1) (bEnd p i) := by
 have hd:=h.at_ hi
 have h1:=h.bl
 have g:=jLa p i
 have l:=bEnd_le (p:=p) (i:=i) (by omega)
 refine ⟨Nat.le_refl _,g,l,fun j h2 h3=>?_,fun h2=>?_,fun h2=>?_⟩
 ·have:=jfb (p:=p) (i:=i) (j:=j) (by omega) h3
  omega
 ·have a1:=jfb (p:=p) (i:=i) (j:=i+1) (by omega) h2
  cases ho:isO (kd p i) with
  | true=>rw [hr.deeper i (by omega) ho,hd]
  | false=>have:=hr.none i (by omega) ho;omega
 ·have:=bEnd_at (p:=p) (i:=i) h2
  omega
theorem chain_in {p : List Ln} {d : Int} {a b : Nat} : ∀ (n i : Nat), Blk p d a i b → i < b → p.length ≤ n + bEnd p i →
  (∀ j ∈ jya p d n (bEnd p i),j<b∧a≤j)∧Blk p d a (bEnd p (lastOf (jya p d n (bEnd p i)) i)) b∧i≤lastOf (jya p d n (bEnd p i)) i∧lastOf (jya p d n (bEnd p i)) i<b∧dp p (lastOf (jya p d n (bEnd p i)) i)=d ∧
  ¬ (bEnd p (lastOf (jya p d n (bEnd p i)) i)<b∧isF (kd p (bEnd p (lastOf (jya p d n (bEnd p i)) i)))=true)
 | 0,i,h,hi,hn=>by
  obtain ⟨h1,h2⟩:=h.next hi
  have:=h.bl
  simp only [jya,lastOf,List.getLastD_nil]
  exact ⟨by simp,h2,Nat.le_refl _,hi,h.at_ hi,fun hh=>by omega⟩
 | n+1,i,h,hi,hn=>by
  obtain ⟨h1,h2⟩:=h.next hi
  have hbl:=h.bl
  have g:=jLa p i
  have hai:=h.ai
  simp only [jya]
  by_cases hc:bEnd p i<p.length∧dp p (bEnd p i)=d∧isF (kd p (bEnd p i))=true
  ·rw [if_pos hc]
   have hlt:bEnd p i<b:=by
    rcases Nat.lt_or_ge (bEnd p i) b with h3 | h3
    ·exact h3
    ·have:bEnd p i=b:=by omega
     have a2:=h.out (by omega)
     rw [this] at hc
     omega
   have g2:=jLa p (bEnd p i)
   obtain ⟨c1,c2,c3,c4,c5,c6⟩:=chain_in n (bEnd p i) h2 hlt (by omega)
   have e:lastOf (bEnd p i :: jya p d n (bEnd p (bEnd p i))) i=lastOf (jya p d n (bEnd p (bEnd p i))) (bEnd p i):=by
    simp only [lastOf,List.getLastD_cons]
   rw [e]
   refine ⟨fun j hj=>?_,c2,by omega,c4,c5,c6⟩
   rcases List.mem_cons.mp hj with rfl | hj
   ·exact ⟨hlt,by omega⟩
   ·exact c1 j hj
  ·rw [if_neg hc]
   simp only [lastOf,List.getLastD_nil]
   refine ⟨by simp,h2,Nat.le_refl _,hi,h.at_ hi,fun hh=>hc ⟨by omega,h2.at_ hh.1,hh.2⟩⟩
def bOk (p : List Ln) : Nat → Nat → Nat → Bool → Bool
 | 0,_,_,_=>true
 | n+1,i,b,lp=>if i<b then
   (if kd p i=5∨kd p i=6 then lp && bOk p n (bEnd p i) b lp
   else if isF (kd p i)=true then false
   else if kd p i=7 then okB ((jQa p i).map (kd p)) && (chain p i).all (fun k=>bOk p n (k+1) (bEnd p k) lp) && bOk p n (bEnd p (lastOf (jQa p i) i)) b lp
   else if kd p i=11∨kd p i=12 then bOk p n (i+1) (bEnd p i) (lp || decide (kd p i=12)) && bOk p n (bEnd p i) b lp
   else bOk p n (bEnd p i) b lp)
  else true
def Good (p : List Ln) (a : Nat) (lp : Bool) (i : Nat) : Prop :=
 (kd p i=7→vcB ((jQa p i).map (kd p))=true) ∧
 ((kd p i=5∨kd p i=6)→lp=true∨∃ m,a≤m∧m<i∧kd p m=12∧i<bEnd p m) ∧
 (isF (kd p i)=true→∃ m,a≤m∧m<i∧bEnd p m=i∧dp p m=dp p i∧(kd p m=7∨isF (kd p m)=true))
theorem good_inner {p : List Ln} {d : Int} {a i b : Nat} (lp : Bool) (h : Blk p d a i b) (hi : i < b) (j : Nat) (h1 : i < j) (h2 : j < bEnd p i) :
  Good p (i+1) (lp || decide (kd p i=12)) j ↔ Good p a lp j:=by
 have hd:=h.at_ hi
 have hai:=h.ai
 have hj:=jfb h1 h2
 have key:∀ m,a≤m→m<j→j≤bEnd p m→dp p m≤dp p j→m<i→False:=by
  intro m e1 e2 e3 _ e5
  have:=jfb (p:=p) e5 (by omega)
  have:=h.low m e1 (by omega)
  omega
 refine and_congr Iff.rfl (and_congr (imp_congr Iff.rfl ?_) (imp_congr Iff.rfl ?_))
 ·constructor
  ·rintro (h3 | ⟨m,e1,e2,e3,e4⟩)
   ·simp only [Bool.or_eq_true,decide_eq_true_eq] at h3
    rcases h3 with h3 | h3
    ·exact .inl h3
    ·exact .inr ⟨i,hai,h1,h3,h2⟩
   ·exact .inr ⟨m,by omega,e2,e3,e4⟩
  ·rintro (h3 | ⟨m,e1,e2,e3,e4⟩)
   ·exact .inl (by rw [h3];rfl)
   ·rcases Nat.lt_trichotomy m i with e5 | e5 | e5
    ·have:=jfb (p:=p) e5 (by omega)
     have:=h.low m e1 (by omega)
     omega
    ·subst e5;exact .inl (by simp [e3])
    ·exact .inr ⟨m,e5,e2,e3,e4⟩
 ·constructor
  ·rintro ⟨m,e1,e⟩
   exact ⟨m,by omega,e⟩
  ·rintro ⟨m,e1,e2,e3,e4,e5⟩
   rcases Nat.lt_trichotomy m i with e6 | e6 | e6
   ·have:=jfb (p:=p) e6 (by omega)
    have:=h.low m e1 (by omega)
    omega
   ·subst e6;omega
   ·exact ⟨m,e6,e2,e3,e4,e5⟩
theorem all_split {P : Nat → Prop} {i e b : Nat} (h1 : i < e) (h2 : e ≤ b) : (∀ j, i ≤ j → j < b → P j) ↔ P i ∧ (∀ j, i + 1 ≤ j → j < e → P j) ∧ (∀ j, e ≤ j → j < b → P j) := by
 constructor
 ·intro h
  exact ⟨h i (Nat.le_refl _) (by omega),fun j h3 h4=>h j (by omega) (by omega),fun j h3 h4=>h j (by omega) h4⟩
 ·rintro ⟨h3,h4,h5⟩ j h6 h7
  by_cases e1:j=i
  ·rw [e1];exact h3
  ·by_cases e2:j<e
   ·exact h4 j (by omega) e2
   ·exact h5 j (by omega) h7
def NoHead (p : List Ln) (a i b : Nat) : Prop := i < b → isF (kd p i) = true → ∀ m, a ≤ m → m < i → bEnd p m = i → dp p m = dp p i → ¬ (kd p m = 7 ∨ isF (kd p m) = true)
theorem head_one {p : List Ln} {d : Int} {a i b m : Nat} (h : Blk p d a i b) (hi : i < b) (h1 : a ≤ m) (h2 : m < bEnd p i) (h3 : bEnd p m = bEnd p i) (h4 : bEnd p i < b) (h5 : dp p m = dp p (bEnd p i)) : m = i := by
 have hd:=h.at_ hi
 have hn:=(h.next hi).2.at_ h4
 rcases Nat.lt_trichotomy m i with e | e | e
 ·have:=jfb (p:=p) e (by have:=jLa p i;omega)
  omega
 ·exact e
 ·have:=jfb (p:=p) e h2
  omega
theorem NoHead.not {p : List Ln} {a i b : Nat} {lp : Bool} (h : NoHead p a i b) (hi : i < b) (hg : Good p a lp i) : ¬ isF (kd p i) = true := by
 intro hf
 obtain ⟨m,h1,h2,h3,h4,h5⟩:=hg.2.2 hf
 exact h hi hf m h1 h2 h3 h4 h5
theorem bOk_iff {p : List Ln} (hr : DR p) : ∀ (n : Nat) (d : Int) (a i b : Nat) (lp : Bool), Blk p d a i b → b ≤ n + i → NoHead p a i b →
  (bOk p n i b lp=true ↔ ∀ j,i≤j→j<b→Good p a lp j):=by
 intro n
 induction n with
 | zero=>intro d a i b lp h hn _;exact ⟨fun _ j h1 h2=>by omega,fun _=>rfl⟩
 | succ n ih =>
 intro d a i b lp h hn hno
 by_cases hi:i<b
 case neg=>simp only [bOk];rw [if_neg hi];exact ⟨fun _ j h1 h2=>by omega,fun _=>rfl⟩
 have g:=jLa p i
 obtain ⟨hle,hnx⟩:=h.next hi
 have hin:=h.inner hr hi
 have hd:=h.at_ hi
 have hai:=h.ai
 have hbl:=h.bl
 have noin:∀ k e,NoHead p (k+1) (k+1) e:=fun k e _ _ m h1 h2=>by omega
 have nonx:¬ (kd p i=7∨isF (kd p i)=true)→NoHead p a (bEnd p i) b:=by
  intro hk hb _ m e1 e2 e3 e4
  rw [head_one h hi e1 e2 e3 hb e4];exact hk
 have chains:∀ (m i:Nat),Blk p d a i b→i<b→b≤n+bEnd p i→(kd p i=7∨isF (kd p i)=true)→p.length≤m+bEnd p i →
   (((jya p d m (bEnd p i)).all (fun k=>bOk p n (k+1) (bEnd p k) lp)=true∧bOk p n (bEnd p (lastOf (jya p d m (bEnd p i)) i)) b lp=true) ↔ ∀ j,bEnd p i≤j→j<b→Good p a lp j):=by
  intro m
  induction m with
  | zero =>
   intro i h hi hn hk hm
   have:=h.bl
   have:=(h.next hi).1
   simp only [jya,lastOf,List.getLastD_nil,List.all_nil,true_and]
   exact ⟨fun _ j h1 h2=>by omega,fun _=>by cases n with | zero=>rfl | succ n=>simp only [bOk];rw [if_neg (by omega)]⟩
  | succ m ihm =>
   intro i h hi hn hk hm
   obtain ⟨hle,hnx⟩:=h.next hi
   have hbl:=h.bl
   have g:=jLa p i
   have hai:=h.ai
   simp only [jya]
   by_cases hc:bEnd p i<p.length∧dp p (bEnd p i)=d∧isF (kd p (bEnd p i))=true
   ·rw [if_pos hc]
    have hlt:bEnd p i<b:=by
     rcases Nat.lt_or_ge (bEnd p i) b with h3 | h3
     ·exact h3
     ·have e:bEnd p i=b:=by omega
      have a2:=h.out (by omega)
      rw [e] at hc
      omega
    have g2:=jLa p (bEnd p i)
    have hf:=isF_iff.mp hc.2.2
    have e:lastOf (bEnd p i :: jya p d m (bEnd p (bEnd p i))) i=lastOf (jya p d m (bEnd p (bEnd p i))) (bEnd p i):=by
     simp only [lastOf,List.getLastD_cons]
    have hin:=hnx.inner hr hlt
    have hgk:Good p a lp (bEnd p i):=⟨fun h=>by omega,fun h=>by omega,fun _=>⟨i,hai,g,rfl,by rw [h.at_ hi,hc.2.1],hk⟩⟩
    rw [e,all_split g2 (hnx.next hlt).1,← ihm (bEnd p i) hnx hlt (by omega) (.inr hc.2.2) (by omega),List.all_cons]
    simp only [Bool.and_eq_true]
    have hi2:=ih (d+1) (bEnd p i+1) (bEnd p i+1) (bEnd p (bEnd p i)) lp hin (by have:=(hnx.next hlt).1;omega) (noin _ _)
    have e12:(lp || decide (kd p (bEnd p i)=12))=lp:=by simp;intro h;omega
    rw [hi2]
    constructor
    ·rintro ⟨⟨h1,h2⟩,h3⟩
     exact ⟨hgk,fun j h4 h5=>by rw [← good_inner lp hnx hlt j (by omega) h5,e12];exact h1 j h4 h5,h2,h3⟩
    ·rintro ⟨_,h1,h2,h3⟩
     exact ⟨⟨fun j h4 h5=>by rw [← e12,good_inner lp hnx hlt j (by omega) h5];exact h1 j h4 h5,h2⟩,h3⟩
   ·rw [if_neg hc]
    simp only [lastOf,List.getLastD_nil,List.all_nil,true_and]
    exact ih d a (bEnd p i) b lp hnx (by omega) (fun hb hf=>absurd ⟨by omega,hnx.at_ hb,hf⟩ hc)
 have inner:∀ (lp':Bool),lp'=(lp || decide (kd p i=12))→((bOk p n (i+1) (bEnd p i) lp'=true) ↔ ∀ j,i+1≤j→j<bEnd p i→Good p a lp j):=by
  intro lp' he
  rw [ih (d+1) (i+1) (i+1) (bEnd p i) lp' hin (by omega) (noin i _)]
  constructor
  ·intro h1 j h2 h3;rw [← good_inner lp h hi j (by omega) h3,← he];exact h1 j h2 h3
  ·intro h1 j h2 h3;rw [he,good_inner lp h hi j (by omega) h3];exact h1 j h2 h3
 have next:¬ (kd p i=7∨isF (kd p i)=true)→((bOk p n (bEnd p i) b lp=true) ↔ ∀ j,bEnd p i≤j→j<b→Good p a lp j):=fun hk=>ih d a (bEnd p i) b lp hnx (by omega) (nonx hk)
 have flat:isO (kd p i)=false→∀ j,i+1≤j→j<bEnd p i→Good p a lp j:=by
  intro ho j h2 h3
  have h4:=jfb (p:=p) (i:=i) (j:=i+1) (by omega) (by omega)
  have h5:=hr.none i (by omega) ho
  omega
 simp only [bOk]
 rw [if_pos hi,all_split g hle]
 by_cases hk1:kd p i=5∨kd p i=6
 ·have nF:¬ isF (kd p i)=true:=by rw [isF_iff];omega
  rw [if_pos hk1]
  simp only [Bool.and_eq_true]
  rw [next (by rw [isF_iff];omega)]
  have ho:isO (kd p i)=false:=isO_not.mpr (by omega)
  constructor
  ·rintro ⟨h1,h2⟩
   exact ⟨⟨fun h=>by omega,fun _=>.inl h1,fun h=>absurd h nF⟩,flat ho,h2⟩
  ·rintro ⟨h1,_,h3⟩
   refine ⟨?_,h3⟩
   rcases h1.2.1 hk1 with h4 | ⟨m,e1,e2,e3,e4⟩
   ·exact h4
   ·have x1:=jfb (p:=p) e2 e4
    have x2:=h.low m e1 (by omega)
    omega
 rw [if_neg hk1]
 by_cases hk2:isF (kd p i)=true
 ·rw [if_pos hk2]
  constructor
  ·intro h;cases h
  ·rintro ⟨h1,_⟩
   exact absurd hk2 (hno.not hi h1)
 rw [if_neg hk2]
 by_cases hk3:kd p i=7
 ·rw [if_pos hk3]
  have hvc:okB ((jQa p i).map (kd p))=vcB ((jQa p i).map (kd p)):=okB_vcB _ (by
   intro k hk
   obtain ⟨j,hj,rfl⟩:=List.mem_map.mp hk
   exact (chainN_mem hj).2.2.2)
  have hch:=chains p.length i h hi (by omega) (.inl hk3) (by omega)
  simp only [chain,List.all_cons,Bool.and_eq_true,jQa,hd] at hch hvc ⊢
  rw [hvc,inner lp (by simp;intro h;omega),← hch]
  constructor
  ·rintro ⟨⟨h1,h2,h3⟩,h4⟩
   exact ⟨⟨fun _=>by simpa only [jQa,hd] using h1,fun h=>absurd h hk1,fun h=>absurd h hk2⟩,h2,h3,h4⟩
  ·rintro ⟨h1,h2,h3,h4⟩
   exact ⟨⟨by simpa only [jQa,hd] using h1.1 hk3,h2,h3⟩,h4⟩
 rw [if_neg hk3]
 have hn7:¬ (kd p i=7∨isF (kd p i)=true):=by rintro (h | h);exact hk3 h;exact hk2 h
 have gi:Good p a lp i:=⟨fun h=>absurd h hk3,fun h=>absurd h hk1,fun h=>absurd h hk2⟩
 by_cases hk4:kd p i=11∨kd p i=12
 ·rw [if_pos hk4]
  simp only [Bool.and_eq_true]
  rw [next hn7,inner _ rfl]
  exact ⟨fun h=>⟨gi,h.1,h.2⟩,fun h=>⟨h.2.1,h.2.2⟩⟩
 ·rw [if_neg hk4,next hn7]
  have ho:isO (kd p i)=false:=isO_not.mpr (by rw [isF_iff] at hk2;omega)
  exact ⟨fun h=>⟨gi,flat ho,h⟩,fun h=>h.2.2⟩
end Go.Proofs.YtegpknnlggkcpaaDoor.Pure
end
