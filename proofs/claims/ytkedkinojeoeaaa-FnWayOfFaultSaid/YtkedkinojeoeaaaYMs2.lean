/- One part of the proofs on this program: functions of the program as plain functions, that the code comes to them, and facts on them. -/
import Derived.Test.YtkedkinojeoeaaaYAll8
import Derived.Test.YtkedkinojeoeaaaYAll9
import Derived.Test.YtkedkinojeoeaaaYMcl
import Derived.Test.YtkedkinojeoeaaaYMq
section
set_option linter.unusedSimpArgs false
set_option linter.unusedVariables false
namespace Go.Proofs.Ytkedkinojeoeaaa.Pure
open Go Go.RowKit Go.Proofs.Ytkedkinojeoeaaa.P Go.Proofs.YtkedkinojeoeaaaW.PrintWords
set_option linter.unusedVariables false
def noCat (t : List Cl) (p : List Ln) (c : Int) : List Nat → List Nat
 | []=>[]
 | a :: r=>match catB t p c a with | some _=>[] | none=>a :: noCat t p c r
theorem catL_at {t : List Cl} {p : List Ln} {c : Int} : ∀ {L : List Nat} {b e : Nat}, catL t p c L = some (b, e) → catB t p c b = some e
 | [],b,e,h=>by simp [catL] at h
 | a :: r,b,e,h=>by
  rw [catL] at h
  cases ha:catB t p c a with
  | some x=>rw [ha] at h;simp at h;rw [← h.1,ha,h.2]
  | none=>rw [ha] at h;exact catL_at h
theorem upTo_cat {t : List Cl} {p : List Ln} {c : Int} : ∀ (L : List Nat), upTo (cp2 (catL t p c L)).1 L = noCat t p c L
 | []=>rfl
 | a :: r=>by
  rw [catL,noCat]
  cases ha:catB t p c a with
  | some x=>simp only [cp2];rw [upTo,if_pos rfl]
  | none =>
   simp only []
   rw [upTo,if_neg,upTo_cat r]
   intro h
   cases hc:catL t p c r with
   | none=>rw [hc] at h;simp [cp2] at h
   | some be =>
    obtain ⟨b,e⟩:=be
    rw [hc] at h
    simp only [cp2] at h
    have:=catL_at hc
    rw [show a=b from by omega,this] at ha
    cases ha
theorem noCat_len {t : List Cl} {p : List Ln} {c : Int} : ∀ (L : List Nat), (noCat t p c L).length ≤ L.length
 | []=>Nat.le_refl _
 | a :: r=>by
  rw [noCat]
  split
  ·simp
  ·have:=noCat_len (t:=t) (p:=p) (c:=c) r;simp only [List.length_cons];omega
theorem ci_take2 (l : List Nat) (n : Nat) : (ci l).take n = ci (l.take n) := by simp [ci, List.map_take]
theorem ev_sWof {t : List Cl} {p : List Ln} (hp : p.length ≤ 1048576) (ht : t.length ≤ 1048576) (hv : jmc t p) {c : Int} (h1 : c < t.length) (h2 : -1 ≤ c) (L : List Nat) (hL : ∀ j ∈ L, j < p.length ∧ isO (kd p j) = true) (hl : L.length ≤ 1048576) : ∀ (r : List Nat) (j : Nat), L.drop j = r → j ≤ L.length →
  Ev (fun k=>jO.l0 k p c (ci L) j t) (ci (wayL p (L.take j ++ noCat t p c r)))
 | [],j,h,hj=>by
  have:=jgd h
  refine Ev.step (fun k=>by rw [jO.l0]) ?_
  rw [jwb,show (j:Int).toNat=j from rfl,ci_take2,noCat,List.append_nil]
  exact Ev.neg (by omega) (Ev.pos (by omega) (Ev.pos (by omega) (Ev.bind (ev_wayOut hp hv _ (fun x hx=>hL x (List.mem_of_mem_take hx)) (by rw [List.length_take];omega)) (Ev.now _))))
 | a :: r,j,h,hj=>by
  obtain ⟨x1,x2,x3⟩:=jJc h
  have ha:=hL a (List.mem_of_mem_drop (by rw [h];simp))
  refine Ev.step (fun k=>by rw [jO.l0]) ?_
  rw [x2,jwb,show (j:Int).toNat=j from rfl,ci_take2,wS (by omega),noCat]
  refine Ev.pos (by omega) (Ev.pos (by omega) (Ev.bind (ev_sCatcher hp ht hv h1 h2 ha.1) ?_))
  cases catB t p c a with
  | some e =>
   simp only [oi,List.append_nil]
   exact Ev.neg (by omega) (Ev.pos (by omega) (Ev.bind (ev_wayOut hp hv _ (fun x hx=>hL x (List.mem_of_mem_take hx)) (by rw [List.length_take];omega)) (Ev.now _)))
  | none =>
   simp only [oi]
   have:=ev_sWof hp ht hv h1 h2 L hL hl r (j+1) x3 (by omega)
   have e:L.take (j+1)=L.take j ++ [a]:=by
    rw [List.take_succ_eq_append_getElem x1]
    have:L.drop j=L[j] :: L.drop (j+1):=List.drop_eq_getElem_cons x1
    rw [h] at this
    injection this with this _
    rw [this]
   rw [e,List.append_assoc] at this
   exact Ev.pos (by omega) this
noncomputable def rWof (t : List Cl) (p : List Ln) (a c : Int) : List Int := @ite _ (At t p a ∧ hasB t c = true) (Classical.propDecidable _) (ci (wayL p (noCat t p c (enc p a.toNat)))) []
theorem ev_WayOfFault' {p : List Ln} {t : List Cl} (hp : p.length ≤ 1048576) (ht : TS t) (a c : Int) : Ev (fun k => jO.f k t p a c) (rWof t p a c) ∧ Ev (fun k => jva.f k t p a c) (rWof t p a c) ∧ (rWof t p a c).length ≤ 1048576 := by
 obtain ⟨b,h1,h2,h3⟩:=ev_goods hp ht a
 have hg:=ev_goodRaise ht h1 c
 unfold jO.f jva.f rWof
 have jt:Ev (fun k=>jva.j0 k p a c true t) ([]:List Int):=by
  refine Ev.step (fun k=>by rw [jva.j0]) ?_
  exact Ev.pos rfl (Ev.now _)
 cases b with
 | false =>
  rw [if_neg (fun h=>by cases h3.mpr h.1)]
  exact ⟨Ev.bind hg (Ev.neg (by simp) (Ev.now _)),Ev.bind h2 (Ev.neg (by simp) jt),by simp⟩
 | true =>
  have hA:=h3.mp rfl
  simp only [iHas ht.1,Option.bind_some]
  cases hc:hasB t c with
  | false =>
   rw [hc] at hg
   rw [if_neg (fun h=>by cases h.2)]
   exact ⟨Ev.bind hg (Ev.neg (by simp) (Ev.now _)),Ev.bind h2 (Ev.pos rfl jt),by simp⟩
  | true =>
   rw [hc] at hg
   have hb:=hasB_iff.mp hc
   obtain ⟨n,rfl,hn⟩:=hA.nat
   rw [if_pos ⟨hA,rfl⟩,Int.toNat_natCast]
   have hle:=jYc p n (dp p n)
   have hen:(enc p n).length≤1048576:=by unfold enc;omega
   have hL:∀ j ∈ enc p n,j<p.length∧isO (kd p j)=true:=fun j hj=>⟨enc_lt hn j hj,(enc_open hA.1.dr hn j hj).1⟩
   have hw:=wayL_len p (noCat t p c (enc p n))
   have hnc:=noCat_len (t:=t) (p:=p) (c:=c) (enc p n)
   refine ⟨Ev.bind hg (Ev.pos rfl (Ev.bind (ev_sEnc hp hn) (ev_sWof hp ht.1 hA.1 hb.2 (by omega) (enc p n) hL hen _ 0 rfl (by omega)))),Ev.bind h2 (Ev.pos rfl ?_),by rw [jwb];omega⟩
   refine Ev.step (fun k=>by rw [jva.j0]) ?_
   have:=ev_way hp hA.1 hn (cp2 (catL t p c (enc p n))).1
   rw [upTo_cat] at this
   exact Ev.neg (by simp) (Ev.bind (ev_iCatcher hp ht.1 hA.1 hb.2 (by omega) hn) (Ev.bind this (Ev.now _)))
end Go.Proofs.Ytkedkinojeoeaaa.Pure
end
