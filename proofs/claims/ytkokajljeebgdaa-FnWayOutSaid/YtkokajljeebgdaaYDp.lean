/- One part of the proofs on this program: functions of the program as plain functions, that the code comes to them, and facts on them. -/
import Derived.Test.YtkokajljeebgdaaYAll2
import Derived.Test.YtkokajljeebgdaaYAll3
import Derived.Test.YtkokajljeebgdaaYAll5
import Derived.Test.YtkokajljeebgdaaYAll6
import Derived.Test.YtkokajljeebgdaaYDt
import Derived.Test.YtkokajljeebgdaaYMa
section
set_option linter.unusedSimpArgs false
set_option linter.unusedVariables false
namespace Go.Proofs.Ytkokajljeebgdaa.Pure
open Go Go.RowKit Go.Proofs.Ytkokajljeebgdaa.P Go.Proofs.YtkokajljeebgdaaW.PrintWords
set_option linter.unusedVariables false
def Ok (g : Nat → Option (List Ln × Int)) (p : Int) (P a b : Nat) : Prop := ∃ r q, Ev g (r, q) ∧ p ≤ q ∧ q ≤ p + P ∧ a ≤ r.length ∧ r.length ≤ b
theorem Ok.bind {g : Nat → Option (List Ln × Int)} {f : Nat → List Ln × Int → Option (List Ln × Int)} {p : Int} {P P' a b a' b' : Nat} (h : Ok g p P a b)
  (k:∀ r q,p≤q→q≤p+P→a≤r.length→r.length≤b→Ok (fun n=>f n (r,q)) q P' a' b'):Ok (fun n=>(g n).bind (f n)) p (P+P') a' b':=by
 obtain ⟨r,q,e,h1,h2,h3,h4⟩:=h
 obtain ⟨r',q',e',k1,k2,k3,k4⟩:=k r q h1 h2 h3 h4
 exact ⟨r',q',Ev.bind e e',by omega,by omega,k3,k4⟩
theorem Ok.weak {g : Nat → Option (List Ln × Int)} {p : Int} {P P' a b a' b' : Nat} (h : Ok g p P a b) (h1 : P ≤ P') (h2 : a' ≤ a) (h3 : b ≤ b') : Ok g p P' a' b' := by
 obtain ⟨r,q,e,k1,k2,k3,k4⟩:=h
 exact ⟨r,q,e,k1,by omega,by omega,by omega⟩
theorem Ok.now {p : Int} {r : List Ln} {P a b : Nat} (h1 : a ≤ r.length) (h2 : r.length ≤ b) : Ok (fun _ => some (r, p)) p P a b := ⟨r, p, Ev.now _, by omega, by omega, h1, h2⟩
theorem Ok.step {g f : Nat → Option (List Ln × Int)} {p : Int} {P a b : Nat} (h : ∀ k, g (k + 1) = f k) (k : Ok f p P a b) : Ok g p P a b := by
 obtain ⟨r,q,e,k⟩:=k
 exact ⟨r,q,Ev.step h e,k⟩
theorem Ok.pos {c : Prop} [Decidable c] {f g : Nat → Option (List Ln × Int)} {p : Int} {P a b : Nat} (h : c) (k : Ok f p P a b) : Ok (fun n => if c then f n else g n) p P a b := by
 obtain ⟨r,q,e,k⟩:=k
 exact ⟨r,q,Ev.pos h e,k⟩
theorem Ok.neg {c : Prop} [Decidable c] {f g : Nat → Option (List Ln × Int)} {p : Int} {P a b : Nat} (h : ¬ c) (k : Ok g p P a b) : Ok (fun n => if c then f n else g n) p P a b := by
 obtain ⟨r,q,e,k⟩:=k
 exact ⟨r,q,Ev.neg h e,k⟩
theorem Ok.both {c : Prop} [Decidable c] {f g : Nat → Option (List Ln × Int)} {p : Int} {P a b : Nat} (h1 : c → Ok f p P a b) (h2 : ¬ c → Ok g p P a b) : Ok (fun n => if c then f n else g n) p P a b := by
 by_cases h:c
 ·exact Ok.pos h (h1 h)
 ·exact Ok.neg h (h2 h)
theorem Ok.pick {s : List Int} (hs : Rd s) {f : Nat → Int × Int → Option (List Ln × Int)} {p : Int} {P a b : Nat} (h0 : 0 ≤ p) (h1 : p ≤ 1073741824) (n : Int) (hn : n ≤ 1073741824)
  (k:∀ v,0≤v→(1≤n→v<n)→Ok (fun m=>f m (v,p+1)) (p+1) P a b):Ok (fun m=>(jg.f m s p n).bind (f m)) p (P+1) a b:=by
 obtain ⟨v,e,v0,v1,_⟩:=jBc hs h0 (by omega) n (by omega)
 obtain ⟨r,q,e',k1,k2,k3,k4⟩:=k v v0 v1
 exact ⟨r,q,Ev.bind e e',by omega,by omega,k3,k4⟩
theorem Ok.one {s : List Int} (hs : Rd s) {f : Nat → Int × Int → Option (List Ln × Int)} {p : Int} {P a b : Nat} (h0 : 0 ≤ p) (h1 : p ≤ 1073741824) (l : List Int) (hl : 1 ≤ l.length) (hl2 : l.length ≤ 1000)
  (k:∀ v,v ∈ l→Ok (fun m=>f m (v,p+1)) (p+1) P a b):Ok (fun m=>(ji.f m s p l).bind (f m)) p (P+1) a b:=by
 obtain ⟨v,e,hv⟩:=ev_one hs h0 (by omega) l hl hl2
 obtain ⟨r,q,e',k1,k2,k3,k4⟩:=k v hv
 exact ⟨r,q,Ev.bind e e',by omega,by omega,k3,k4⟩
def StOK (d : Int) (P L : Nat) : Prop := ∀ (s : List Int) (p : Int) (t : List Cl) (lp : Bool), Rd s → 0 ≤ p → p + P ≤ 1073741824 → t.length ≤ 8 → Ok (fun k => jA.f k s p t d lp) p P 1 L
def BlOK (d : Int) (P L : Nat) : Prop := ∀ (s : List Int) (p : Int) (t : List Cl) (lp : Bool), Rd s → 0 ≤ p → p + P ≤ 1073741824 → t.length ≤ 8 → Ok (fun k => jI.f k s p t d lp) p P 1 L
def TrOK (d : Int) (P L : Nat) : Prop := ∀ (s : List Int) (p : Int) (t : List Cl) (lp : Bool), Rd s → 0 ≤ p → p + P ≤ 1073741824 → t.length ≤ 8 → Ok (fun k => jW.f k s p t d lp) p P 1 L
theorem block_of {d : Int} {P L : Nat} (h : StOK d P L) (hP : P ≤ 1048576) (hL : L ≤ 1048576) (hL1 : 1 ≤ L) : BlOK d (3 * P + 1) (3 * L) := by
 intro s p t lp hs h0 h1 ht
 have nil:∀ (x:List Ln) (q:Int),Ok (fun k=>jI.l0 k d lp x 0 s q t) q 0 x.length x.length:=by
  intro x q
  refine Ok.step (fun k=>by rw [jI.l0]) ?_
  exact Ok.neg (by omega) (Ok.now (Nat.le_refl _) (Nat.le_refl _))
 have cons:∀ (m:Int) (Q A C:Nat),0≤m→m≤2→(∀ (y:List Ln) (z:Int),0≤z→z+Q≤1073741824→y.length+C≤1099511627776→Ok (fun k=>jI.l0 k d lp y m s z t) z Q (y.length+A) (y.length+C)) →
   ∀ (x:List Ln) (q:Int),0≤q→q+(P+Q:Nat)≤1073741824→x.length+(C+L)≤1099511627776→Ok (fun k=>jI.l0 k d lp x (m+1) s q t) q (P+Q) (x.length+(A+1)) (x.length+(C+L)):=by
  intro m Q A C hm hm2 hk x q hq0 hq hx
  refine Ok.step (fun k=>by rw [jI.l0]) ?_
  rw [wr (x:=m+1 - 1) (by omega),show m+1 - 1=m from by omega]
  refine Ok.pos (by omega) (Ok.bind (h s q t lp hs hq0 (by omega) ht) fun r z k1 k2 k3 k4=>Ok.pos (by simp only [];omega) ?_)
  exact (hk (x ++ r) z (by omega) (by omega) (by rw [List.length_append];omega)).weak (Nat.le_refl _) (by rw [List.length_append];omega) (by rw [List.length_append];omega)
 have b0:=fun (y:List Ln) (z:Int) (_:0≤z) (_:z+(0:Nat)≤1073741824) (_:y.length+0≤1099511627776)=>nil y z
 have b1:=cons 0 0 0 0 (by omega) (by omega) b0
 have b2:=cons 1 (P+0) 1 (0+L) (by omega) (by omega) b1
 have b3:=cons 2 (P+(P+0)) 2 (0+L+L) (by omega) (by omega) b2
 refine Ok.step (fun k=>by rw [jI.f]) ?_
 rw [show 3 * P+1=3 * P+1 from rfl]
 refine Ok.one hs h0 (by omega) [1,2,1,2,3] (by simp) (by simp) fun n hn=>?_
 have hn3:n=1∨n=2∨n=3:=by
  simp only [List.mem_cons,List.not_mem_nil,or_false] at hn
  omega
 rcases hn3 with rfl | rfl | rfl
 ·exact (b1 [] (p+1) (by omega) (by omega) (by simp;omega)).weak (by omega) (by simp) (by simp;omega)
 ·exact (b2 [] (p+1) (by omega) (by omega) (by simp;omega)).weak (by omega) (by simp) (by simp;omega)
 ·exact (b3 [] (p+1) (by omega) (by omega) (by simp;omega)).weak (by omega) (by simp) (by simp;omega)
theorem try_of {d : Int} {P L : Nat} (hd : 0 ≤ d) (hd2 : d ≤ 3) (h : BlOK (d + 1) P L) (hP : P ≤ 1048576) (hL : L ≤ 1048576) : TrOK d (5 * P + 10) (5 * L + 5) := by
 intro s p t lp hs h0 h1 ht
 have ew:wrap64 (d+1)=d+1:=wr (by omega)
 have put:∀ (x:List Ln) (c:Ln) (q:Int) (Q A C:Nat) (f:Nat→List Ln→Int→Option (List Ln × Int)),0≤q→q+(P+Q:Nat)≤1073741824→x.length≤1099511627776 →
   (∀ y z,q≤z→z+Q≤1073741824→x.length+1≤y.length→y.length≤x.length+1+L→Ok (fun k=>f k y z) z Q A C) →
   Ok (fun k=>if x.length<4398046511104 then ((some (x ++ [c]:List Ln)).bind fun y=>((jI.f k s q t (wrap64 (d+1)) lp).bind fun b=>(if y.length+b.1.length<4398046511104 then f k (y ++ b.1) b.2 else none))) else none) q (P+Q) A C:=by
  intro x c q Q A C f hq0 hq hx hk
  simp only [Option.bind_some]
  rw [ew]
  refine Ok.pos (by omega) (Ok.bind (h s q t lp hs hq0 (by omega) ht) fun r z k1 k2 k3 k4=>Ok.pos (by rw [List.length_append,List.length_singleton];simp only [];omega) ?_)
  exact hk _ z k1 (by omega) (by simp only [List.length_append,List.length_singleton];omega) (by simp only [List.length_append,List.length_singleton];omega)
 have j2:∀ (x:List Ln) (n:Int) (q:Int),0≤q→q+(P+1:Nat)≤1073741824→x.length≤1099511627776→Ok (fun k=>jW.j2 k d lp x n s q t) q (P+1) x.length (x.length+1+L):=by
  intro x n q hq0 hq hx
  refine Ok.step (fun k=>by rw [jW.j2]) ?_
  refine Ok.both (fun _=>?_) (fun _=>?_)
  ·exact (put x _ q 0 _ _ (fun k y z=>some (y,z)) hq0 (by omega) hx (fun y z _ _ k1 k2=>Ok.now k1 k2)).weak (by omega) (by omega) (by omega)
  ·refine Ok.pick hs hq0 (by omega) 2 (by omega) fun v _ _=>?_
   refine Ok.both (fun _=>?_) (fun _=>?_)
   ·exact (put x _ (q+1) 0 _ _ (fun k y z=>some (y,z)) (by omega) (by omega) hx (fun y z _ _ k1 k2=>Ok.now k1 k2)).weak (by omega) (by omega) (by omega)
   ·exact Ok.now (by omega) (by omega)
 have j1:∀ (x:List Ln) (n:Int) (b:Bool) (q:Int),0≤q→q+(P+(P+1):Nat)≤1073741824→x.length≤549755813888→Ok (fun k=>jW.j1 k d lp x n b s q t) q (P+(P+1)) x.length (x.length+1+L+1+L):=by
  intro x n b q hq0 hq hx
  refine Ok.step (fun k=>by rw [jW.j1]) ?_
  refine Ok.both (fun _=>?_) (fun _=>?_)
  ·exact (put x _ q (P+1) (x.length+1) _ (fun k y z=>jW.j2 k d lp y n s z t) hq0 (by omega) (by omega) (fun y z k0 k3 k1 k2=>(j2 y n z (by omega) k3 (by omega)).weak (Nat.le_refl _) k1 (by omega))).weak (by omega) (by omega) (Nat.le_refl _)
  ·exact (j2 x n q hq0 (by omega) (by omega)).weak (by omega) (by omega) (by omega)
 have l00:∀ (x:List Ln) (n:Int) (q:Int),0≤q→q+(P+(P+1)+1:Nat)≤1073741824→x.length≤549755813888→Ok (fun k=>jW.l0 k d lp x n 0 s q t) q (P+(P+1)+1) x.length (x.length+1+L+1+L):=by
  intro x n q hq0 hq hx
  refine Ok.step (fun k=>by rw [jW.l0]) ?_
  refine Ok.neg (by omega) (Ok.both (fun _=>?_) (fun _=>?_))
  ·refine Ok.pick hs hq0 (by omega) 3 (by omega) fun v _ _=>?_
   exact j1 x n _ (q+1) (by omega) (by omega) hx
  ·exact (j1 x n _ q hq0 (by omega) hx).weak (by omega) (Nat.le_refl _) (Nat.le_refl _)
 have cons:∀ (m:Int) (n:Int) (Q A C:Nat),0≤m→m≤1→(∀ (y:List Ln) (z:Int),0≤z→z+Q≤1073741824→y.length+C≤549755813888→Ok (fun k=>jW.l0 k d lp y n m s z t) z Q (y.length+A) (y.length+C)) →
   ∀ (x:List Ln) (q:Int),0≤q→q+(P+Q+1+1:Nat)≤1073741824→x.length+(C+1+L)≤549755813888→Ok (fun k=>jW.l0 k d lp x n (m+1) s q t) q (P+Q+1+1) (x.length+A) (x.length+(C+1+L)):=by
  intro m n Q A C hm hm2 hk x q hq0 hq hx
  refine Ok.step (fun k=>by rw [jW.l0]) ?_
  rw [wr (x:=m+1 - 1) (by omega),show m+1 - 1=m from by omega]
  refine Ok.pos (by omega) (Ok.pick hs hq0 (by omega) _ (by omega) fun v _ _=>Ok.one hs (by omega) (by omega) [v,0] (by simp) (by simp) fun u _=>?_)
  exact (put x _ (q+1+1) Q (x.length+1+A) (x.length+1+L+C) (fun k y z=>jW.l0 k d lp y n m s z t) (by omega) (by omega) (by omega) (fun y z k0 k3 k1 k2=>(hk y z (by omega) k3 (by omega)).weak (Nat.le_refl _) (by omega) (by omega))).weak (Nat.le_refl _) (by omega) (by omega)
 have b0:=fun (n:Int) (y:List Ln) (z:Int) (a:0≤z) (b:z+(P+(P+1)+1:Nat)≤1073741824) (c:y.length+(1+L+1+L)≤549755813888)=>(l00 y n z a b (by omega)).weak (a':=y.length+0) (b':=y.length+(1+L+1+L)) (Nat.le_refl _) (by omega) (by omega)
 have b1:=fun n=>cons 0 n _ _ _ (by omega) (by omega) (b0 n)
 have b2:=fun n=>cons 1 n _ _ _ (by omega) (by omega) (b1 n)
 refine Ok.step (fun k=>by rw [jW.f]) ?_
 simp only [Option.bind_some]
 rw [ew]
 have hx:=Ok.bind (h s p t lp hs h0 (by omega) ht) (f:=fun k bt809=>if ([(⟨d,7,0,0⟩:Ln)]:List Ln).length+bt809.1.length<4398046511104 then ((ji.f k s bt809.2 ([1,2,0,1]:List Int)).bind fun bt819=>(jW.l0 k d lp (([(⟨d,7,0,0⟩:Ln)]:List Ln) ++ bt809.1) bt819.1 bt819.1 s bt819.2 t)) else none) (P':=4 * P+8) (a':=1) (b':=5 * L+5) fun r z k1 k2 k3 k4=>by
  refine Ok.pos (by simp only [List.length_singleton];omega) ?_
  have hlen:(([(⟨d,7,0,0⟩:Ln)]:List Ln) ++ r).length=1+r.length:=by rw [List.length_append,List.length_singleton]
  have:=Ok.one hs (f:=fun k bt819=>jW.l0 k d lp (([(⟨d,7,0,0⟩:Ln)]:List Ln) ++ r) bt819.1 bt819.1 s bt819.2 t) (p:=z) (P:=4 * P+7) (a:=1) (b:=5 * L+5) (by omega) (by omega) [1,2,0,1] (by simp) (by simp) fun n hn=>by
   have hn3:n=0∨n=1∨n=2:=by
    simp only [List.mem_cons,List.not_mem_nil,or_false] at hn
    omega
   rcases hn3 with rfl | rfl | rfl
   ·exact (b0 0 _ (z+1) (by omega) (by omega) (by omega)).weak (by omega) (by omega) (by omega)
   ·exact (b1 1 _ (z+1) (by omega) (by omega) (by omega)).weak (by omega) (by omega) (by omega)
   ·exact (b2 2 _ (z+1) (by omega) (by omega) (by omega)).weak (by omega) (by omega) (by omega)
  exact this
 exact hx.weak (by omega) (by omega) (by omega)
theorem stat_flat : StOK 3 6 1 := by
 intro s p t lp hs h0 h1 ht
 refine Ok.step (fun k=>by rw [jA.f]) ?_
 refine (Ok.pick (P:=5) (a:=1) (b:=1) hs h0 (by omega) 16 (by omega) fun v _ _=>Ok.pos (by omega) (Ok.pick (P:=4) (a:=1) (b:=1) hs (by omega) (by omega) 9 (by omega) fun u u0 u1=>?_)).weak (by omega) (by omega) (by omega)
 have hu:=u1 (by omega)
 refine Ok.step (fun k=>by rw [jA.j0]) ?_
 have j1:∀ b:Bool,6<u→Ok (fun k=>jA.j1 k 3 lp u b s (p+1+1) t 3 0 0 0) (p+1+1) 4 1 1:=by
  intro b hu6
  refine Ok.step (fun k=>by rw [jA.j1]) ?_
  refine Ok.both (fun _=>?_) (fun _=>Ok.both (fun _=>?_) (fun h7=>Ok.pos (by omega) ?_))
  ·exact (Ok.one (P:=3) hs (by omega) (by omega) [5,6] (by simp) (by simp) fun w _=>Ok.now (a:=1) (b:=1) (by simp) (by simp)).weak (by omega) (by omega) (by omega)
  ·exact (Ok.one (P:=3) hs (by omega) (by omega) [7,8] (by simp) (by simp) fun w _=>Ok.now (a:=1) (b:=1) (by simp) (by simp)).weak (by omega) (by omega) (by omega)
  ·exact Ok.now (by simp) (by simp)
 refine Ok.both (fun _=>?_) (fun _=>Ok.both (fun _=>?_) (fun _=>Ok.both (fun _=>?_) (fun _=>Ok.both (fun _=>?_) (fun _=>?_))))
 ·exact (Ok.one (P:=3) hs (by omega) (by omega) [1,2,3,4,5] (by simp) (by simp) fun w _=>Ok.now (a:=1) (b:=1) (by simp) (by simp)).weak (by omega) (by omega) (by omega)
 ·exact (Ok.pick (P:=3) hs (by omega) (by omega) _ (by omega) fun w _ _=>Ok.one (P:=2) hs (by omega) (by omega) [1,2,3] (by simp) (by simp) fun z _=>Ok.now (a:=1) (b:=1) (by simp) (by simp)).weak (by omega) (by omega) (by omega)
 ·exact Ok.now (by simp) (by simp)
 ·exact j1 _ (by omega)
 ·exact j1 _ (by omega)
theorem stat_of {d : Int} {P L : Nat} (hd : 0 ≤ d) (hd2 : d < 3) (h : BlOK (d + 1) P L) (hT : TrOK d (5 * P + 10) (5 * L + 5)) (hP : P ≤ 1048576) (hL : L ≤ 1048576) : StOK d (5 * P + 20) (5 * L + 5) := by
 intro s p t lp hs h0 h1 ht
 have ew:wrap64 (d+1)=d+1:=wr (by omega)
 refine Ok.step (fun k=>by rw [jA.f]) ?_
 refine (Ok.pick (P:=5 * P+19) (a:=1) (b:=5 * L+5) hs h0 (by omega) 16 (by omega) fun u u0 u1=>Ok.neg (by omega) ?_).weak (by omega) (by omega) (by omega)
 have hu:=u1 (by omega)
 refine Ok.step (fun k=>by rw [jA.j0]) ?_
 have j1:∀ b:Bool,6<u→Ok (fun k=>jA.j1 k d lp u b s (p+1) t d 0 0 0) (p+1) (5 * P+19) 1 (5 * L+5):=by
  intro b hu6
  refine Ok.step (fun k=>by rw [jA.j1]) ?_
  rw [ew]
  refine Ok.both (fun _=>?_) (fun _=>Ok.both (fun _=>?_) (fun h7=>Ok.both (fun _=>?_) (fun _=>Ok.both (fun _=>?_) (fun _=>Ok.both (fun _=>?_) (fun _=>?_)))))
  ·exact (Ok.one (P:=3) hs (by omega) (by omega) [5,6] (by simp) (by simp) fun w _=>Ok.now (a:=1) (b:=1) (by simp) (by simp)).weak (by omega) (by omega) (by omega)
  ·exact (Ok.one (P:=3) hs (by omega) (by omega) [7,8] (by simp) (by simp) fun w _=>Ok.now (a:=1) (b:=1) (by simp) (by simp)).weak (by omega) (by omega) (by omega)
  ·exact Ok.now (by simp) (by simp)
  ·refine (Ok.pick (P:=P+1) (a:=1) (b:=L+1) hs (by omega) (by omega) 4 (by omega) fun w _ _=>Ok.pick (P:=P) (a:=1) (b:=L+1) hs (by omega) (by omega) 2 (by omega) fun z _ _=>?_).weak (by omega) (Nat.le_refl 1) (by omega)
   simp only [Option.bind_some]
   exact Ok.bind (P':=0) (a':=1) (b':=L+1) (h s _ t lp hs (by omega) (by omega) ht) fun r q k1 k2 k3 k4=>Ok.pos (by simp only [List.length_singleton];omega) (Ok.now (by simp) (by simp;omega))
  ·refine (Ok.one (P:=P) (a:=1) (b:=L+1) hs (by omega) (by omega) [2,1,3,0] (by simp) (by simp) fun z _=>?_).weak (by omega) (Nat.le_refl 1) (by omega)
   simp only [Option.bind_some]
   exact Ok.bind (P':=0) (a':=1) (b':=L+1) (h s _ t true hs (by omega) (by omega) ht) fun r q k1 k2 k3 k4=>Ok.pos (by simp only [List.length_singleton];omega) (Ok.now (by simp) (by simp;omega))
  ·exact (Ok.bind (P':=0) (a':=1) (b':=5 * L+5) (hT s _ t lp hs (by omega) (by omega) ht) fun r q k1 k2 k3 k4=>Ok.now k3 k4).weak (by omega) (Nat.le_refl _) (Nat.le_refl _)
 refine Ok.both (fun _=>?_) (fun _=>Ok.both (fun _=>?_) (fun _=>Ok.both (fun _=>?_) (fun _=>Ok.both (fun _=>?_) (fun _=>?_))))
 ·exact (Ok.one (P:=3) hs (by omega) (by omega) [1,2,3,4,5] (by simp) (by simp) fun w _=>Ok.now (a:=1) (b:=1) (by simp) (by simp)).weak (by omega) (by omega) (by omega)
 ·exact (Ok.pick (P:=3) hs (by omega) (by omega) _ (by omega) fun w _ _=>Ok.one (P:=2) hs (by omega) (by omega) [1,2,3] (by simp) (by simp) fun z _=>Ok.now (a:=1) (b:=1) (by simp) (by simp)).weak (by omega) (by omega) (by omega)
 ·exact Ok.now (by simp) (by simp)
 ·exact j1 _ (by omega)
 ·exact j1 _ (by omega)
theorem bl3 : BlOK 3 19 3 := block_of (P := 6) (L := 1) stat_flat (by omega) (by omega) (by omega)
theorem tr2 : TrOK 2 105 20 := try_of (d := 2) (P := 19) (L := 3) (by omega) (by omega) bl3 (by omega) (by omega)
theorem st2 : StOK 2 115 20 := stat_of (d := 2) (P := 19) (L := 3) (by omega) (by omega) bl3 tr2 (by omega) (by omega)
theorem bl2 : BlOK 2 346 60 := block_of (P := 115) (L := 20) st2 (by omega) (by omega) (by omega)
theorem tr1 : TrOK 1 1740 305 := try_of (d := 1) (P := 346) (L := 60) (by omega) (by omega) bl2 (by omega) (by omega)
theorem st1 : StOK 1 1750 305 := stat_of (d := 1) (P := 346) (L := 60) (by omega) (by omega) bl2 tr1 (by omega) (by omega)
theorem bl1 : BlOK 1 5251 915 := block_of (P := 1750) (L := 305) st1 (by omega) (by omega) (by omega)
theorem tr0 : TrOK 0 26265 4580 := try_of (d := 0) (P := 5251) (L := 915) (by omega) (by omega) bl1 (by omega) (by omega)
theorem st0 : StOK 0 26275 4580 := stat_of (d := 0) (P := 5251) (L := 915) (by omega) (by omega) bl1 tr0 (by omega) (by omega)
theorem bl0 : BlOK 0 78826 13740 := block_of (P := 26275) (L := 4580) st0 (by omega) (by omega) (by omega)
theorem ev_goodProgram {s : List Int} (hs : Rd s) {p : Int} (h0 : 0 ≤ p) (h1 : p ≤ 536870912) {t : List Cl} (ht : t.length ≤ 8) : Ok (fun k => jC.f k s p t) p 735680 1 24 := by
 have last:∀ q:Int,Ok (fun k=>jC.l0 k 4 s q t) q 0 1 24:=by
  intro q
  refine Ok.step (fun k=>by rw [jC.l0]) ?_
  exact Ok.neg (by omega) (Ok.now (by simp) (by simp))
 have cons:∀ (n:Int) (Q:Nat),0≤n→n<4→Q≤735680→(∀ q:Int,0≤q→q+Q≤1073741824→Ok (fun k=>jC.l0 k (n+1) s q t) q Q 1 24)→∀ q:Int,0≤q→q+(183920+Q:Nat)≤1073741824→Ok (fun k=>jC.l0 k n s q t) q (183920+Q) 1 24:=by
  intro n Q hn hn4 hQ hk q hq0 hq
  have j2:∀ (x:List Ln) (z:Int),1≤x.length→0≤z→z+Q≤1073741824→Ok (fun k=>jC.j2 k n x s z t) z Q 1 24:=by
   intro x z hx hz0 hz
   refine Ok.step (fun k=>by rw [jC.j2]) ?_
   rw [wr (x:=n+1) (by omega)]
   exact Ok.both (fun c=>Ok.now hx (by omega)) (fun _=>hk z hz0 hz)
  have j1:∀ (x:List Ln) (z:Int),1≤x.length→0≤z→z+(78826+Q+1:Nat)≤1073741824→Ok (fun k=>jC.j1 k n x s z t) z (78826+Q+1) 1 24:=by
   intro x z hx hz0 hz
   refine Ok.step (fun k=>by rw [jC.j1]) ?_
   refine Ok.pick hs hz0 (by omega) 4 (by omega) fun v _ _=>Ok.both (fun _=>?_) (fun _=>?_)
   ·exact Ok.bind (bl0 s _ t false hs (by omega) (by omega) ht) fun r y k1 k2 k3 k4=>j2 r y k3 (by omega) (by omega)
   ·exact (j2 x _ hx (by omega) (by omega)).weak (by omega) (Nat.le_refl _) (Nat.le_refl _)
  refine Ok.step (fun k=>by rw [jC.l0]) ?_
  refine Ok.pos (by omega) ?_
  refine (Ok.bind (P':=157654+Q) (a':=1) (b':=24) (tr0 s q t false hs hq0 (by omega) ht) fun r y k1 k2 k3 k4=>?_).weak (by omega) (Nat.le_refl _) (Nat.le_refl _)
  refine (Ok.pick (P:=78826+(78826+Q+1)) hs (by omega) (by omega) 3 (by omega) fun v _ _=>Ok.both (fun _=>?_) (fun _=>?_)).weak (by omega) (Nat.le_refl _) (Nat.le_refl _)
  ·refine Ok.bind (bl0 s _ t false hs (by omega) (by omega) ht) fun r2 y2 k5 k6 k7 k8=>Ok.pos (by simp only [];omega) ?_
   exact j1 _ y2 (by simp only [List.length_append];omega) (by omega) (by omega)
  ·exact (j1 r _ k3 (by omega) (by omega)).weak (by omega) (Nat.le_refl _) (Nat.le_refl _)
 have c3:=cons 3 0 (by omega) (by omega) (by omega) (fun q _ _=>last q)
 have c2:=cons 2 _ (by omega) (by omega) (by omega) c3
 have c1:=cons 1 _ (by omega) (by omega) (by omega) c2
 have c0:=cons 0 _ (by omega) (by omega) (by omega) c1
 unfold jC.f
 exact (c0 p h0 (by omega)).weak (by omega) (Nat.le_refl _) (Nat.le_refl _)
theorem ev_someProgram {s : List Int} (hs : Rd s) {p : Int} (h0 : 0 ≤ p) (h1 : p ≤ 268435456) : ∃ t l q, Ev (fun k => jWa.f k s p) (t, l, q) ∧ p ≤ q ∧ q ≤ p + 735710 ∧ TO t ∧ l.length ≤ 24 := by
 obtain ⟨t,q1,e1,a1,a2,a3⟩:=ev_someTree hs h0 (by omega)
 unfold jWa.f
 by_cases ht:(t.length:Int)=0
 ·exact ⟨_,_,_,Ev.bind e1 (Ev.pos ht (Ev.now _)),a1,by simp only [];omega,a3,by simp⟩
 obtain ⟨l,q2,e2,b1,b2,b3,b4⟩:=ev_goodProgram hs (p:=q1) (by omega) (by omega) a3.1
 obtain ⟨v,e3,v0,v1,_⟩:=jBc hs (p:=q2) (by omega) (by omega) (l.length:Int) (by omega)
 have hv:=v1 (by omega)
 obtain ⟨u,e4,u0,u1,_⟩:=jBc hs (p:=q2+1) (by omega) (by omega) 24 (by omega)
 have pre:∀ r,Ev (fun k=>if u=0 then ((ji.f k s (q2+1+1) (([(-1),6,0,1]:List Int))).bind fun bt915=>(if 0≤v then (if v<(l.length:Int) then (some (t,(l.set (v:Int).toNat (⟨bt915.1,(jc l v).f1,(jc l v).f2,(jc l v).f3⟩:Ln)),bt915.2)) else (none)) else (none))) else (if u=1 then ((ji.f k s (q2+1+1) (([(-1),13,5,9,0]:List Int))).bind fun bt921=>(if 0≤v then (if v<(l.length:Int) then (some (t,(l.set (v:Int).toNat (⟨(jc l v).f0,bt921.1,(jc l v).f2,(jc l v).f3⟩:Ln)),bt921.2)) else (none)) else (none))) else (if u=2 then ((ji.f k s (q2+1+1) (([(-1),100,8]:List Int))).bind fun bt927=>(if 0≤v then (if v<(l.length:Int) then (some (t,(l.set (v:Int).toNat (⟨(jc l v).f0,(jc l v).f1,bt927.1,(jc l v).f3⟩:Ln)),bt927.2)) else (none)) else (none))) else (if u=3 then (if 1≤(l.length:Int) then (some (t,(l.drop (1:Int).toNat),(q2+1+1))) else (none)) else (some (t,l,(q2+1+1))))))) r→Ev (fun k=>jWa.f k s p) r:=by
  intro r hr
  unfold jWa.f
  exact Ev.bind e1 (Ev.neg ht (Ev.bind e2 (Ev.bind e3 (Ev.bind e4 hr))))
 unfold jWa.f at pre
 by_cases c0:u=0
 ·obtain ⟨w,e5,_⟩:=ev_one hs (p:=q2+1+1) (by omega) (by omega) [(-1),6,0,1] (by simp) (by simp)
  exact ⟨_,_,_,pre _ (Ev.pos c0 (Ev.bind e5 (Ev.pos v0 (Ev.pos hv (Ev.now _))))),by simp only [];omega,by simp only [];omega,a3,by rw [List.length_set];omega⟩
 by_cases c1:u=1
 ·obtain ⟨w,e5,_⟩:=ev_one hs (p:=q2+1+1) (by omega) (by omega) [(-1),13,5,9,0] (by simp) (by simp)
  exact ⟨_,_,_,pre _ (Ev.neg c0 (Ev.pos c1 (Ev.bind e5 (Ev.pos v0 (Ev.pos hv (Ev.now _)))))),by simp only [];omega,by simp only [];omega,a3,by rw [List.length_set];omega⟩
 by_cases c2:u=2
 ·obtain ⟨w,e5,_⟩:=ev_one hs (p:=q2+1+1) (by omega) (by omega) [(-1),100,8] (by simp) (by simp)
  exact ⟨_,_,_,pre _ (Ev.neg c0 (Ev.neg c1 (Ev.pos c2 (Ev.bind e5 (Ev.pos v0 (Ev.pos hv (Ev.now _))))))),by simp only [];omega,by simp only [];omega,a3,by rw [List.length_set];omega⟩
 by_cases c3:u=3
 ·exact ⟨_,_,_,pre _ (Ev.neg c0 (Ev.neg c1 (Ev.neg c2 (Ev.pos c3 (Ev.pos (by omega) (Ev.now _)))))),by omega,by omega,a3,by rw [List.length_drop];omega⟩
 ·exact ⟨_,_,_,pre _ (Ev.neg c0 (Ev.neg c1 (Ev.neg c2 (Ev.neg c3 (Ev.now _))))),by omega,by omega,a3,by omega⟩
theorem ev_lineIn {s : List Int} (hs : Rd s) {p : Int} (h0 : 0 ≤ p) (h1 : p ≤ 268435456) : ∃ t l a q, Ev (fun k => jEa.f k s p) (t, l, a, q) ∧ p ≤ q ∧ q ≤ p + 735720 ∧ TO t ∧ l.length ≤ 24 := by
 obtain ⟨t,l,q1,e1,a1,a2,a3,a4⟩:=ev_someProgram hs h0 h1
 obtain ⟨u,e2,u0,u1,_⟩:=jBc hs (p:=q1) (by omega) (by omega) 16 (by omega)
 unfold jEa.f
 by_cases c:u=0
 ·obtain ⟨w,e3,_⟩:=ev_one hs (p:=q1+1) (by omega) (by omega) [(-1),(l.length:Int),24] (by simp) (by simp)
  exact ⟨_,_,_,_,Ev.bind e1 (Ev.bind e2 (Ev.pos c (Ev.bind e3 (Ev.now _)))),by omega,by omega,a3,a4⟩
 ·obtain ⟨w,e3,_⟩:=jBc hs (p:=q1+1) (by omega) (by omega) (l.length:Int) (by omega)
  exact ⟨_,_,_,_,Ev.bind e1 (Ev.bind e2 (Ev.neg c (Ev.bind e3 (Ev.now _)))),by omega,by omega,a3,a4⟩
end Go.Proofs.Ytkokajljeebgdaa.Pure
end
