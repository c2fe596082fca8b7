/- One part of the proofs on this program: functions of the program as plain functions, that the code comes to them, and facts on them. -/
import Derived.Test.YtdmafmebllhlkaaDoorYAll2
import Derived.Test.YtdmafmebllhlkaaDoorYAll3
import Derived.Test.YtdmafmebllhlkaaDoorYDr
section
set_option linter.unusedSimpArgs false
set_option linter.unusedVariables false
namespace Go.Proofs.YtdmafmebllhlkaaDoor.Pure
open Go Go.RowKit Go.Proofs.YtdmafmebllhlkaaDoor.P Go.Proofs.YtdmafmebllhlkaaDoorW.PrintWords
set_option linter.unusedVariables false
theorem ev_of {s : List Int} (hs : Rd s) {p : Int} (h0 : 0 ≤ p) (h1 : p ≤ 1099511627776) (l : List ByteArray) (hl : 1 ≤ l.length) (hl2 : l.length ≤ 1000) : ∃ v, Ev (fun k => jH.f k s p l) (v, p + 1) ∧ v ∈ l := by
 obtain ⟨v,e,v0,v1,_⟩:=ev_pick hs h0 h1 (l.length:Int) (by omega)
 have:=v1 (by omega)
 refine ⟨rdOf ByteArray.empty l v,?_,?_⟩
 ·unfold jH.f
  exact Ev.bind e (Ev.pos v0 (Ev.pos this (Ev.now _)))
 ·unfold rdOf
  rw [List.getD_eq_getElem?_getD,List.getElem?_eq_getElem (by omega)]
  exact List.getElem_mem _
abbrev Fr := S38
def FO (l : List Fr) : Prop := l.length ≤ 12 ∧ ∀ c ∈ l, c.f0.size ≤ 100
theorem FO.set {l : List Fr} (h : FO l) (i : Nat) {c : Fr} (hc : c.f0.size ≤ 100) : FO (l.set i c) :=
 ⟨by rw [List.length_set];exact h.1,fun x hx=>by
  rcases List.mem_or_eq_of_mem_set hx with e | e
  ·exact h.2 x e
  ·rw [e];exact hc⟩
theorem FO.snoc {l : List Fr} (h : FO l) (h2 : l.length < 12) {c : Fr} (hc : c.f0.size ≤ 100) : FO (l ++ [c]) :=
 ⟨by rw [List.length_append,List.length_singleton];omega,fun x hx=>by
  rcases List.mem_append.1 hx with e | e
  ·exact h.2 x e
  ·rw [List.mem_singleton] at e;rw [e];exact hc⟩
theorem ev_aFrame {s : List Int} (hs : Rd s) {p : Int} (h0 : 0 ≤ p) (h1 : p ≤ 536870912) : ∃ a b, Ev (fun k => jEa.f k s p) (a, b, p + 1 + 1) ∧ a.size ≤ 100 := by
 obtain ⟨a,e1,ha⟩:=ev_of hs (p:=p) h0 (by omega) [(⟨#[102]⟩:ByteArray),(⟨#[103]⟩:ByteArray),(⟨#[109,97,105,110]⟩:ByteArray),(⟨#[102]⟩:ByteArray)] (by simp) (by simp)
 obtain ⟨b,e2,_⟩:=ev_one hs (p:=p+1) (by omega) (by omega) [3,7,3,999] (by simp) (by simp)
 refine ⟨a,b,?_,?_⟩
 ·unfold jEa.f
  exact Ev.bind e1 (Ev.bind e2 (Ev.now _))
 ·simp only [List.mem_cons,List.not_mem_nil,or_false] at ha
  rcases ha with rfl | rfl | rfl | rfl <;> decide
theorem jQa {s : List Int} (hs : Rd s) : ∀ (m : Nat) (l : List Fr) (n p : Int), n ≤ (m : Int) → m ≤ 100 → 0 ≤ n → 0 ≤ p → p + 3 * m ≤ 536870912 → FO l →
  ∃ r q,Ev (fun k=>je.l0 k l n s p) (r,q)∧0≤q∧q≤p+3 * m∧FO r
 | 0,l,n,p,hn,_,hn0,h0,h1,hl=>⟨l,p,Ev.step (fun k=>by rw [je.l0]) (Ev.neg (by omega) (Ev.now _)),h0,by omega,hl⟩
 | m+1,l,n,p,hn,hm,hn0,h0,h1,hl=>by
  by_cases hz:n > 0
  ·obtain ⟨a,b,e1,ha⟩:=ev_aFrame hs (p:=p) h0 (by omega)
   obtain ⟨v,e2,hv⟩:=ev_one hs (p:=p+1+1) (by omega) (by omega) [1,1,2,3] (by simp) (by simp)
   have hv3:v≤3∧0≤v:=by
    simp only [List.mem_cons,List.not_mem_nil,or_false] at hv
    omega
   have inner:∀ (j:Nat) (l:List Fr) (x:Int),x≤(j:Int)→j≤3→0≤x→FO l→∃ r q,Ev (fun k=>je.l1 k l n x s (p+1+1+1) a b) (r,q)∧0≤q∧q≤p+3 * (m+1:Nat)∧FO r:=by
    intro j
    induction j with
    | zero =>
     intro l x hx _ hx0 hl
     obtain ⟨r,q,e3,q0,q1,hr⟩:=jQa hs m l (n - 1) (p+1+1+1) (by omega) (by omega) (by omega) (by omega) (by omega) hl
     refine ⟨r,q,?_,q0,by omega,hr⟩
     refine Ev.step (fun k=>by rw [je.l1]) ?_
     rw [wr (x:=n - 1) (by omega)]
     exact Ev.neg (by omega) e3
    | succ j ih =>
     intro l x hx hj hx0 hl
     obtain ⟨r,q,e3,q0,q1,hr⟩:=jQa hs m l (n - 1) (p+1+1+1) (by omega) (by omega) (by omega) (by omega) (by omega) hl
     have out:Ev (fun k=>je.l0 k l (wrap64 (n - 1)) s (p+1+1+1)) (r,q):=by rw [wr (x:=n - 1) (by omega)];exact e3
     by_cases hx1:x > 0
     ·by_cases hlen:(l.length:Int)<12
      ·obtain ⟨r2,q2,e4,c0,c1,hr2⟩:=ih (l ++ [⟨a,b⟩]) (x - 1) (by omega) (by omega) (by omega) (hl.snoc (by omega) ha)
       refine ⟨r2,q2,?_,c0,c1,hr2⟩
       refine Ev.step (fun k=>by rw [je.l1]) ?_
       refine Ev.pos hx1 (Ev.pos hlen (Ev.pos (by omega) ?_))
       rw [wr (x:=x - 1) (by omega)]
       exact e4
      ·refine ⟨r,q,?_,q0,by omega,hr⟩
       refine Ev.step (fun k=>by rw [je.l1]) ?_
       exact Ev.pos hx1 (Ev.neg hlen out)
     ·refine ⟨r,q,?_,q0,by omega,hr⟩
      refine Ev.step (fun k=>by rw [je.l1]) ?_
      exact Ev.neg hx1 out
   obtain ⟨r,q,e3,q0,q1,hr⟩:=inner 3 l v (by omega) (by omega) (by omega) hl
   refine ⟨r,q,?_,q0,q1,hr⟩
   refine Ev.step (fun k=>by rw [je.l0]) ?_
   exact Ev.pos hz (Ev.bind e1 (Ev.bind e2 e3))
  ·exact ⟨l,p,Ev.step (fun k=>by rw [je.l0]) (Ev.neg hz (Ev.now _)),h0,by omega,hl⟩
theorem ev_goodTrace {s : List Int} (hs : Rd s) {p : Int} (h0 : 0 ≤ p) (h1 : p ≤ 536860000) : ∃ r q, Ev (fun k => je.f k s p) (r, q) ∧ 0 ≤ q ∧ q ≤ p + 100 ∧ FO r := by
 obtain ⟨n,e,hn⟩:=ev_one hs (p:=p) h0 (by omega) [3,4,2,5,1,0,6] (by simp) (by simp)
 have hn8:n≤6∧0≤n:=by
  simp only [List.mem_cons,List.not_mem_nil,or_false] at hn
  omega
 obtain ⟨r,q,e2,a,b,c⟩:=jQa hs 6 [] n (p+1) (by omega) (by omega) (by omega) (by omega) (by omega) ⟨by simp,by simp⟩
 refine ⟨r,q,?_,a,by omega,c⟩
 unfold je.f
 exact Ev.bind e e2
theorem ev_someTrace {s : List Int} (hs : Rd s) {p : Int} (h0 : 0 ≤ p) (h1 : p ≤ 536850000) : ∃ l q, Ev (fun k => jia.f k s p) (l, q) ∧ FO l := by
 obtain ⟨l,q2,e2,b1,b2,hl⟩:=ev_goodTrace hs h0 (by omega)
 unfold jia.f
 by_cases hz:(l.length:Int) > 0
 ·obtain ⟨v,e3,v0,v1,_⟩:=ev_pick hs (p:=q2) (by omega) (by omega) (l.length:Int) (by have:=hl.1;omega)
  obtain ⟨u,e4,_,_,_⟩:=ev_pick hs (p:=q2+1) (by omega) (by omega) 24 (by omega)
  have hv:=v1 (by omega)
  by_cases c0:u=0
  ·obtain ⟨w,e5,hw⟩:=ev_of hs (p:=q2+1+1) (by omega) (by omega) [(⟨#[]⟩:ByteArray),(⟨#[70]⟩:ByteArray),(⟨#[116,111,111,108,111,110,103]⟩:ByteArray)] (by simp) (by simp)
   have hw2:w.size≤100:=by
    simp only [List.mem_cons,List.not_mem_nil,or_false] at hw
    rcases hw with rfl | rfl | rfl <;> decide
   exact ⟨_,_,Ev.bind e2 (Ev.pos hz (Ev.bind e3 (Ev.bind e4 (Ev.pos c0 (Ev.bind e5 (Ev.pos v0 (Ev.pos hv (Ev.now _)))))))),hl.set _ hw2⟩
  by_cases c1:u=1
  ·obtain ⟨w,e5,_⟩:=ev_one hs (p:=q2+1+1) (by omega) (by omega) [0,1000] (by simp) (by simp)
   refine ⟨_,_,Ev.bind e2 (Ev.pos hz (Ev.bind e3 (Ev.bind e4 (Ev.neg c0 (Ev.pos c1 (Ev.bind e5 (Ev.pos v0 (Ev.pos hv (Ev.now _))))))))),hl.set _ ?_⟩
   have hvl:v.toNat<l.length:=by omega
   show (jb l v).f0.size≤100
   have e:jb l v=l[v.toNat]:=by simp [jb,List.getD_eq_getElem?_getD,hvl]
   rw [e]
   exact hl.2 _ (List.getElem_mem hvl)
  ·exact ⟨_,_,Ev.bind e2 (Ev.pos hz (Ev.bind e3 (Ev.bind e4 (Ev.neg c0 (Ev.neg c1 (Ev.now _)))))),hl⟩
 ·exact ⟨_,_,Ev.bind e2 (Ev.neg hz (Ev.now _)),hl⟩
end Go.Proofs.YtdmafmebllhlkaaDoor.Pure
end
