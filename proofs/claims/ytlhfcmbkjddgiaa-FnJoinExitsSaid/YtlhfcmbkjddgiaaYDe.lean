/- One part of the proofs on this program: functions of the program as plain functions, that the code comes to them, and facts on them. -/
import Derived.Test.YtlhfcmbkjddgiaaYAll1
import Derived.Test.YtlhfcmbkjddgiaaYAll2
import Derived.Test.YtlhfcmbkjddgiaaYDt
import Derived.Test.YtlhfcmbkjddgiaaYMxv
section
set_option linter.unusedSimpArgs false
set_option linter.unusedVariables false
namespace Go.Proofs.Ytlhfcmbkjddgiaa.Pure
open Go Go.RowKit Go.Proofs.Ytlhfcmbkjddgiaa.P Go.Proofs.YtlhfcmbkjddgiaaW.PrintWords
set_option linter.unusedVariables false
theorem ev_anExit {s : List Int} (hs : Rd s) {p : Int} (h0 : 0 ≤ p) (h1 : p ≤ 536870912) {t : List Cl} (ht : t.length ≤ 8) : ∃ a b c q, Ev (fun k => jIa.f k s p t) (a, b, c, q) ∧ p ≤ q ∧ q ≤ p + 3 := by
 obtain ⟨a,e1,_,_,_⟩:=jBc hs (p:=p) h0 (by omega) 4 (by omega)
 have j:∀ (b:Int) (r:Int),0≤r→r≤536871912→∃ c q,Ev (fun k=>jIa.j0 k s r a b 0) (a,b,c,q)∧r≤q∧q≤r+1:=by
  intro b r r0 r1
  by_cases h3:a=3
  ·obtain ⟨c,e3,_⟩:=ev_one hs (p:=r) r0 (by omega) [1,2,3] (by simp) (by simp)
   exact ⟨c,r+1,Ev.step (fun k=>by rw [jIa.j0]) (Ev.pos h3 (Ev.bind e3 (Ev.now _))),by omega,by omega⟩
  ·exact ⟨0,r,Ev.step (fun k=>by rw [jIa.j0]) (Ev.neg h3 (Ev.now _)),by omega,by omega⟩
 unfold jIa.f
 by_cases h2:a≥2
 ·obtain ⟨b,e2,_,_,_⟩:=jBc hs (p:=p+1) (by omega) (by omega) (t.length:Int) (by omega)
  obtain ⟨c,q,e3,q0,q1⟩:=j b (p+1+1) (by omega) (by omega)
  exact ⟨a,b,c,q,Ev.bind e1 (Ev.pos h2 (Ev.bind e2 e3)),by omega,by omega⟩
 ·obtain ⟨b,e2,_⟩:=ev_one hs (p:=p+1) (by omega) (by omega) [1,2,3,0,99] (by simp) (by simp)
  obtain ⟨c,q,e3,q0,q1⟩:=j b (p+1+1) (by omega) (by omega)
  exact ⟨a,b,c,q,Ev.bind e1 (Ev.neg h2 (Ev.bind e2 e3)),by omega,by omega⟩
theorem ev_goodExits_l0 {s : List Int} (hs : Rd s) {t : List Cl} (ht : t.length ≤ 8) : ∀ (m : Nat) (l : List Ex) (n p : Int), n ≤ (m : Int) → 0 ≤ n → 0 ≤ p → m ≤ 8 → p + 4 * m ≤ 536870000 → l.length + m ≤ 8 →
  ∃ r q,Ev (fun k=>jca.l0 k l n s p t) (r,q)∧p≤q∧q≤p+4 * m∧r.length≤l.length+m
 | 0,l,n,p,hn,hn0,h0,_,h1,hl=>by
  refine ⟨l,p,Ev.step (fun k=>by rw [jca.l0]) (Ev.neg (by omega) (Ev.now _)),by omega,by omega,by omega⟩
 | m+1,l,n,p,hn,hn0,h0,hm,h1,hl=>by
  by_cases hz:n > 0
  ·obtain ⟨a,b,c,q,e1,q0,q1⟩:=ev_anExit hs h0 (by omega) ht
   obtain ⟨r,q',e2,q2,q3,q4⟩:=ev_goodExits_l0 hs ht m (l ++ [⟨a,b,c⟩]) (n - 1) q (by omega) (by omega) (by omega) (by omega) (by omega) (by rw [List.length_append,List.length_singleton];omega)
   rw [List.length_append,List.length_singleton] at q4
   refine ⟨r,q',?_,by omega,by omega,by omega⟩
   refine Ev.step (fun k=>by rw [jca.l0]) ?_
   refine Ev.pos hz (Ev.bind e1 ?_)
   refine Ev.pos (by omega) ?_
   rw [wr (x:=n - 1) (by omega)]
   exact e2
  ·exact ⟨l,p,Ev.step (fun k=>by rw [jca.l0]) (Ev.neg hz (Ev.now _)),by omega,by omega,by omega⟩
theorem ev_goodExits {s : List Int} (hs : Rd s) {t : List Cl} (ht : t.length ≤ 8) {p : Int} (h0 : 0 ≤ p) (h1 : p ≤ 536860000) : ∃ r q, Ev (fun k => jca.f k s p t) (r, q) ∧ p ≤ q ∧ q ≤ p + 40 ∧ r.length ≤ 8 := by
 obtain ⟨n,e,hn⟩:=ev_one hs (p:=p) h0 (by omega) [3,4,2,1,5,0,8] (by simp) (by simp)
 have hn8:n≤8∧0≤n:=by
  simp only [List.mem_cons,List.not_mem_nil,or_false] at hn
  omega
 obtain ⟨r,q,e2,a,b,c⟩:=ev_goodExits_l0 hs ht 8 [] n (p+1) (by omega) (by omega) (by omega) (by omega) (by omega) (by simp)
 refine ⟨r,q,?_,by omega,by omega,by simpa using c⟩
 unfold jca.f
 exact Ev.bind e e2
theorem ev_someExits {s : List Int} (hs : Rd s) {p : Int} (h0 : 0 ≤ p) (h1 : p ≤ 536850000) : ∃ t l q, Ev (fun k => jib.f k s p) (t, l, q) ∧ p ≤ q ∧ q ≤ p + 100 ∧ TO t ∧ l.length ≤ 8 := by
 obtain ⟨t,q1,e1,a1,a2,hT⟩:=ev_someTree hs h0 (by omega)
 obtain ⟨l,q2,e2,b1,b2,hl⟩:=ev_goodExits hs hT.1 (p:=q1) (by omega) (by omega)
 unfold jib.f
 by_cases hz:(l.length:Int) > 0
 ·obtain ⟨v,e3,v0,v1,_⟩:=jBc hs (p:=q2) (by omega) (by omega) (l.length:Int) (by omega)
  obtain ⟨u,e4,_,_,_⟩:=jBc hs (p:=q2+1) (by omega) (by omega) 24 (by omega)
  have hv:=v1 (by omega)
  have st:∀ (L:List Int),1≤L.length→L.length≤1000→∃ w,Ev (fun k=>jG.f k s (q2+1+1) L) (w,q2+1+1+1):=fun L h1 h2=>by
   obtain ⟨w,e,_⟩:=ev_one hs (p:=q2+1+1) (by omega) (by omega) L h1 h2
   exact ⟨w,e⟩
  have hlen:∀ x,(l.set v.toNat x).length≤8:=fun x=>by rw [List.length_set];exact hl
  by_cases c0:u=0
  ·obtain ⟨w,e5⟩:=st [-1,4,2] (by simp) (by simp)
   exact ⟨_,_,_,Ev.bind e1 (Ev.bind e2 (Ev.pos hz (Ev.bind e3 (Ev.bind e4 (Ev.pos c0 (Ev.bind e5 (Ev.pos v0 (Ev.pos hv (Ev.now _))))))))),by simp only [];omega,by simp only [];omega,hT,hlen _⟩
  by_cases c1:u=1
  ·obtain ⟨w,e5⟩:=st [-1,100] (by simp) (by simp)
   exact ⟨_,_,_,Ev.bind e1 (Ev.bind e2 (Ev.pos hz (Ev.bind e3 (Ev.bind e4 (Ev.neg c0 (Ev.pos c1 (Ev.bind e5 (Ev.pos v0 (Ev.pos hv (Ev.now _)))))))))),by simp only [];omega,by simp only [];omega,hT,hlen _⟩
  by_cases c2:u=2
  ·obtain ⟨w,e5⟩:=st [5,100, -1] (by simp) (by simp)
   exact ⟨_,_,_,Ev.bind e1 (Ev.bind e2 (Ev.pos hz (Ev.bind e3 (Ev.bind e4 (Ev.neg c0 (Ev.neg c1 (Ev.pos c2 (Ev.bind e5 (Ev.pos v0 (Ev.pos hv (Ev.now _))))))))))),by simp only [];omega,by simp only [];omega,hT,hlen _⟩
  ·exact ⟨_,_,_,Ev.bind e1 (Ev.bind e2 (Ev.pos hz (Ev.bind e3 (Ev.bind e4 (Ev.neg c0 (Ev.neg c1 (Ev.neg c2 (Ev.now _)))))))),by simp only [];omega,by simp only [];omega,hT,hl⟩
 ·exact ⟨_,_,_,Ev.bind e1 (Ev.bind e2 (Ev.neg hz (Ev.now _))),by omega,by omega,hT,hl⟩
end Go.Proofs.Ytlhfcmbkjddgiaa.Pure
end
