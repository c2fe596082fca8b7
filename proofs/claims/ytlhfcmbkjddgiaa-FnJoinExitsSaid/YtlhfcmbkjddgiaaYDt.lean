/- One part of the proofs on this program: functions of the program as plain functions, that the code comes to them, and facts on them. -/
import Derived.Test.YtlhfcmbkjddgiaaYAll1
import Derived.Test.YtlhfcmbkjddgiaaYDr
import Derived.Test.YtlhfcmbkjddgiaaYMt
section
set_option linter.unusedSimpArgs false
set_option linter.unusedVariables false
namespace Go.Proofs.Ytlhfcmbkjddgiaa.Pure
open Go Go.RowKit Go.Proofs.Ytlhfcmbkjddgiaa.P Go.Proofs.YtlhfcmbkjddgiaaW.PrintWords
set_option linter.unusedVariables false
theorem ev_of {s : List Int} (hs : Rd s) {p : Int} (h0 : 0 ≤ p) (h1 : p ≤ 1099511627776) (l : List ByteArray) (hl : 1 ≤ l.length) (hl2 : l.length ≤ 1000) : ∃ v, Ev (fun k => jab.f k s p l) (v, p + 1) ∧ v ∈ l := by
 obtain ⟨v,e,v0,v1,_⟩:=jBc hs h0 h1 (l.length:Int) (by omega)
 have:=v1 (by omega)
 refine ⟨rdOf ByteArray.empty l v,?_,?_⟩
 ·unfold jab.f
  exact Ev.bind e (Ev.pos v0 (Ev.pos this (Ev.now _)))
 ·unfold rdOf
  rw [List.getD_eq_getElem?_getD,List.getElem?_eq_getElem (by omega)]
  exact List.getElem_mem _
def TO (t : List Cl) : Prop := t.length ≤ 8 ∧ ∀ c ∈ t, c.f0.size ≤ 100
theorem TO.ts {t : List Cl} (h : TO t) : TS t := by
 refine ⟨by have:=h.1;omega,fun i hi=>?_⟩
 have:cn t i=t[i].f0:=by simp [cn,List.getD_eq_getElem?_getD,hi]
 rw [this]
 have:=h.2 t[i] (List.getElem_mem _)
 omega
theorem TO.set {t : List Cl} (h : TO t) (i : Nat) {c : Cl} (hc : c.f0.size ≤ 100) : TO (t.set i c) := by
 refine ⟨by rw [List.length_set];exact h.1,fun x hx=>?_⟩
 rcases List.mem_or_eq_of_mem_set hx with hx | rfl
 ·exact h.2 x hx
 ·exact hc
def nameL : List ByteArray := [(⟨#[97, 110, 121]⟩ : ByteArray), (⟨#[105, 111]⟩ : ByteArray), (⟨#[107, 101, 121]⟩ : ByteArray), (⟨#[116, 105, 109, 101]⟩ : ByteArray), (⟨#[110, 101, 116]⟩ : ByteArray), (⟨#[100, 105, 115, 107]⟩ : ByteArray), (⟨#[116, 121, 112, 101]⟩ : ByteArray), (⟨#[111, 100, 100]⟩ : ByteArray)]
theorem ev_goodTree_l0 {s : List Int} (hs : Rd s) {n : Int} (hn : n ≤ 8) : ∀ (m : Nat) (i : Int) (p : Int) (t : List Cl), n ≤ i + m → 1 ≤ i → 0 ≤ p → p + 2 * m ≤ 1073741824 → TO t → t.length ≤ i → 1 ≤ t.length → m ≤ 8 →
  ∃ r q,Ev (fun k=>jba.l0 k nameL n i s p t) (r,q)∧p≤q∧q≤p+2 * m∧TO r∧1≤r.length
 | 0,i,p,t,h,hi,h0,h1,ht,hl,hl1,_=>by
  refine ⟨t,p,?_,by omega,by omega,ht,hl1⟩
  refine Ev.step (fun k=>by rw [jba.l0]) ?_
  exact Ev.neg (by omega) (Ev.now _)
 | m+1,i,p,t,h,hi,h0,h1,ht,hl,hl1,hm=>by
  by_cases hlt:i<n
  ·obtain ⟨v,e,v0,v1,v2⟩:=jBc hs (p:=p) h0 (by omega) i (by omega)
   obtain ⟨u,e2,hu⟩:=ev_one hs (p:=p+1) (by omega) (by omega) [0,v,i - 1] (by simp) (by simp)
   have hnm:(rdOf ByteArray.empty nameL i).size≤100:=by
    have:∀ x ∈ nameL,x.size≤100:=by
     intro x hx
     simp only [nameL,List.mem_cons,List.not_mem_nil,or_false] at hx
     rcases hx with rfl | rfl | rfl | rfl | rfl | rfl | rfl | rfl <;> decide
    refine this _ ?_
    unfold rdOf
    rw [List.getD_eq_getElem?_getD,List.getElem?_eq_getElem (by simp [nameL];omega)]
    exact List.getElem_mem _
   have hT:TO (t ++ [⟨rdOf ByteArray.empty nameL i,u⟩]):=by
    refine ⟨by rw [List.length_append,List.length_singleton];omega,fun c hc=>?_⟩
    rcases List.mem_append.mp hc with hc | hc
    ·exact ht.2 c hc
    ·obtain rfl:=List.mem_singleton.mp hc;exact hnm
   obtain ⟨r,q,e3,q0,q1,q2,q3⟩:=ev_goodTree_l0 hs hn m (i+1) (p+1+1) _ (by omega) (by omega) (by omega) (by omega) hT (by rw [List.length_append,List.length_singleton];omega) (by rw [List.length_append,List.length_singleton];omega) (by omega)
   refine ⟨r,q,?_,by omega,by omega,q2,q3⟩
   refine Ev.step (fun k=>by rw [jba.l0]) ?_
   rw [wr (x:=i - 1) (by omega),wr (x:=i+1) (by omega)]
   exact Ev.pos hlt (Ev.pos (by omega) (Ev.pos (by simp [nameL];omega) (Ev.bind e (Ev.bind e2 (Ev.pos (by omega) e3)))))
  ·refine ⟨t,p,?_,by omega,by omega,ht,hl1⟩
   refine Ev.step (fun k=>by rw [jba.l0]) ?_
   exact Ev.neg hlt (Ev.now _)
theorem ev_goodTree {s : List Int} (hs : Rd s) {p : Int} (h0 : 0 ≤ p) (h1 : p ≤ 536870912) : ∃ r q, Ev (fun k => jba.f k s p) (r, q) ∧ p ≤ q ∧ q ≤ p + 20 ∧ TO r ∧ 1 ≤ r.length := by
 obtain ⟨n,e,hn⟩:=ev_one hs (p:=p) h0 (by omega) [4,5,3,6,2,1,8] (by simp) (by simp)
 have hn8:n≤8∧1≤n:=by
  simp only [List.mem_cons,List.not_mem_nil,or_false] at hn
  omega
 obtain ⟨r,q,e2,a,b,c,d⟩:=ev_goodTree_l0 hs hn8.1 8 1 (p+1) [(⟨(⟨#[97,110,121]⟩:ByteArray),(-1)⟩:Cl)] (by omega) (by omega) (by omega) (by omega) ⟨by simp,fun c hc=>by obtain rfl:=List.mem_singleton.mp hc;decide⟩ (by simp) (by simp) (by omega)
 refine ⟨r,q,?_,by omega,by omega,c,d⟩
 unfold jba.f
 exact Ev.bind e e2
theorem ev_someTree {s : List Int} (hs : Rd s) {p : Int} (h0 : 0 ≤ p) (h1 : p ≤ 536870000) : ∃ r q, Ev (fun k => joa.f k s p) (r, q) ∧ p ≤ q ∧ q ≤ p + 23 ∧ TO r := by
 obtain ⟨t,q1,e1,a1,a2,a3,a4⟩:=ev_goodTree hs h0 (by omega)
 obtain ⟨v,e2,v0,v1,_⟩:=jBc hs (p:=q1) (by omega) (by omega) (t.length:Int) (by have:=a3.1;omega)
 obtain ⟨u,e3,u0,u1,_⟩:=jBc hs (p:=q1+1) (by omega) (by omega) 24 (by omega)
 have hv:=v1 (by omega)
 unfold joa.f
 by_cases c0:u=0
 ·obtain ⟨w,e4,hw⟩:=ev_of hs (p:=q1+1+1) (by omega) (by omega) [(⟨#[]⟩:ByteArray),(⟨#[97,110,121]⟩:ByteArray),(⟨#[65]⟩:ByteArray),(⟨#[116,111,111,108,111,110,103]⟩:ByteArray)] (by simp) (by simp)
  refine ⟨_,_,Ev.bind e1 (Ev.bind e2 (Ev.bind e3 (Ev.pos c0 (Ev.bind e4 (Ev.pos v0 (Ev.pos hv (Ev.now _))))))),by simp only [];omega,by simp only [];omega,a3.set _ ?_⟩
  simp only [List.mem_cons,List.not_mem_nil,or_false] at hw
  show w.size≤100
  rcases hw with rfl | rfl | rfl | rfl <;> decide
 by_cases c1:u=1
 ·obtain ⟨w,e4,hw⟩:=ev_one hs (p:=q1+1+1) (by omega) (by omega) [v,(-1),8,(-2)] (by simp) (by simp)
  refine ⟨_,_,Ev.bind e1 (Ev.bind e2 (Ev.bind e3 (Ev.neg c0 (Ev.pos c1 (Ev.bind e4 (Ev.pos v0 (Ev.pos hv (Ev.now _)))))))),by simp only [];omega,by simp only [];omega,a3.set _ ?_⟩
  obtain ⟨m,rfl⟩:=Int.eq_ofNat_of_zero_le v0
  show (cn t m).size≤100
  have:cn t m=t[m].f0:=by simp [cn,List.getD_eq_getElem?_getD,show m<t.length by omega]
  rw [this]
  exact a3.2 _ (List.getElem_mem _)
 by_cases c2:u=2
 ·exact ⟨_,_,Ev.bind e1 (Ev.bind e2 (Ev.bind e3 (Ev.neg c0 (Ev.neg c1 (Ev.pos c2 (Ev.now _)))))),by simp only [];omega,by simp only [];omega,⟨by simp,by simp⟩⟩
 ·exact ⟨_,_,Ev.bind e1 (Ev.bind e2 (Ev.bind e3 (Ev.neg c0 (Ev.neg c1 (Ev.neg c2 (Ev.now _)))))),by simp only [];omega,by simp only [];omega,a3⟩
end Go.Proofs.Ytlhfcmbkjddgiaa.Pure
end
