/- One part of the proofs on this program: functions of the program as plain functions, that the code comes to them, and facts on them. -/
import Derived.Test.YtlhfcmbkjddgiaaYAll2
import Derived.Test.YtlhfcmbkjddgiaaYAll3
import Derived.Test.YtlhfcmbkjddgiaaYAll6
import Derived.Test.YtlhfcmbkjddgiaaYMrs
section
set_option linter.unusedSimpArgs false
set_option linter.unusedVariables false
namespace Go.Proofs.Ytlhfcmbkjddgiaa.Pure
open Go Go.RowKit Go.Proofs.Ytlhfcmbkjddgiaa.P Go.Proofs.YtlhfcmbkjddgiaaW.PrintWords
set_option linter.unusedVariables false
def ixN (l : List Nat) (b : Int) : Nat → Int
 | i=>match l with | []=>-1 | a :: r=>if (a:Int)=b then (i:Int) else ixN r b (i+1)
def ixOf (l : List Nat) (b : Int) : Int := ixN l b 0
theorem ev_sIndexOf (L : List Nat) (hl : L.length ≤ 1048576) (b : Int) : Ev (fun k => jjb.f k (ci L) b) (ixOf L b) := by
 have:∀ (r:List Nat) (j:Nat),L.drop j=r→Ev (fun k=>jjb.l0 k (ci L) b j) (ixN r b j):=by
  intro r
  induction r with
  | nil =>
   intro j h
   have:=ci_end h
   refine Ev.step (fun k=>by rw [jjb.l0]) ?_
   rw [jzb,ixN]
   exact Ev.neg (by omega) (Ev.now _)
  | cons a r ih =>
   intro j h
   obtain ⟨h1,h2,h3⟩:=ci_drop h
   refine Ev.step (fun k=>by rw [jjb.l0]) ?_
   rw [h2,wS (by omega),jzb,ixN]
   refine Ev.pos (by omega) (Ev.pos (by omega) ?_)
   by_cases hs:(a:Int)=b
   ·rw [if_pos hs];exact Ev.pos hs (Ev.now _)
   ·rw [if_neg hs];exact Ev.neg hs (ih (j+1) h3)
 exact this L 0 rfl
theorem ev_iIndex (L : List Nat) (hl : L.length ≤ 1048576) (b : Int) : Ev (fun k => jC.f k (ci L) b) (ixOf L b) := by
 have:∀ (r:List Nat) (j:Nat),L.drop j=r→Ev (fun k=>jC.l0 k (ci L) b ((ci L).length:Int) j) (ixN r b j):=by
  intro r
  induction r with
  | nil =>
   intro j h
   have:=ci_end h
   refine Ev.step (fun k=>by rw [jC.l0]) ?_
   rw [jzb,ixN]
   exact Ev.neg (by omega) (Ev.now _)
  | cons a r ih =>
   intro j h
   obtain ⟨h1,h2,h3⟩:=ci_drop h
   refine Ev.step (fun k=>by rw [jC.l0]) ?_
   rw [h2,wS (by omega),jzb,ixN]
   refine Ev.pos (by omega) (Ev.pos (by omega) (Ev.pos (by omega) ?_))
   by_cases hs:(a:Int)=b
   ·rw [if_pos hs];exact Ev.pos hs.symm (Ev.now _)
   ·rw [if_neg hs]
    have:=ih (j+1) h3
    rw [jzb] at this
    exact Ev.neg (fun e=>hs e.symm) this
 exact this L 0 rfl
def isoF (h : List Ft) (L : List Nat) (a : Nat) : Ft := ⟨(jo h (a : Int)).f0, (jo h (a : Int)).f1, ixOf L (fca h a), ixOf L (fcx h a), (jo h (a : Int)).f4⟩
def isoH (h : List Ft) (L : List Nat) : List Ft := L.map (isoF h L)
theorem ev_sIso_l0 {h : List Ft} {L : List Nat} (hL : ∀ a ∈ L, a < h.length) (hl : L.length ≤ 1048576) (f : Int) : ∀ (r : List Nat) (j : Nat) (acc : List Ft), L.drop j = r → acc.length ≤ j → j ≤ L.length → Ev (fun k => jpb.l0 k f (ci L) j h acc) (acc ++ r.map (isoF h L), ixOf L f)
 | [],j,acc,e,ha,hj=>by
  have:=ci_end e
  refine Ev.step (fun k=>by rw [jpb.l0]) ?_
  refine Ev.neg (by rw [jzb];omega) (Ev.bind (ev_sIndexOf L hl f) ?_)
  simpa using Ev.now (α:=List Ft × Int) _
 | a :: r,j,acc,e,ha,hj=>by
  obtain ⟨h1,h2,h3⟩:=ci_drop e
  have hm:a<h.length:=hL a (List.mem_of_mem_drop (e ▸ List.mem_cons_self))
  refine Ev.step (fun k=>by rw [jpb.l0]) ?_
  rw [h2,wS (i:=j) (by omega)]
  refine Ev.pos (by rw [jzb];omega) (Ev.pos (by omega) (Ev.pos (by omega) (Ev.pos (by omega) (Ev.bind (ev_sIndexOf L hl _) (Ev.bind (ev_sIndexOf L hl _) (Ev.pos (by omega) ?_))))))
  have:=ev_sIso_l0 hL hl f r (j+1) (acc ++ [isoF h L a]) h3 (by rw [List.length_append,List.length_singleton];omega) (by omega)
  rw [List.map_cons,show acc ++ isoF h L a :: r.map (isoF h L)=(acc ++ [isoF h L a]) ++ r.map (isoF h L) by simp]
  exact this
theorem ev_iIso_l0 {h : List Ft} {L : List Nat} (hL : ∀ a ∈ L, a < h.length) (hl : L.length ≤ 1048576) (f : Int) : ∀ (r : List Nat) (j : Nat) (acc : List Ft), L.drop j = r → acc.length ≤ j → j ≤ L.length → Ev (fun k => jX.l0 k f (ci L) (ci L) ((ci L).length : Int) j h acc) (acc ++ r.map (isoF h L), ixOf L f)
 | [],j,acc,e,ha,hj=>by
  have:=ci_end e
  refine Ev.step (fun k=>by rw [jX.l0]) ?_
  refine Ev.neg (by rw [jzb];omega) (Ev.bind (ev_iIndex L hl f) ?_)
  simpa using Ev.now (α:=List Ft × Int) _
 | a :: r,j,acc,e,ha,hj=>by
  obtain ⟨h1,h2,h3⟩:=ci_drop e
  have hm:a<h.length:=hL a (List.mem_of_mem_drop (e ▸ List.mem_cons_self))
  refine Ev.step (fun k=>by rw [jX.l0]) ?_
  rw [h2,wS (i:=j) (by omega)]
  refine Ev.pos (by rw [jzb];omega) (Ev.pos (by omega) (Ev.pos (by rw [jzb];omega) (Ev.pos (by omega) (Ev.pos (by omega) (Ev.bind (ev_iIndex L hl _) (Ev.bind (ev_iIndex L hl _) (Ev.pos (by omega) ?_)))))))
  have:=ev_iIso_l0 hL hl f r (j+1) (acc ++ [isoF h L a]) h3 (by rw [List.length_append,List.length_singleton];omega) (by omega)
  rw [List.map_cons,show acc ++ isoF h L a :: r.map (isoF h L)=(acc ++ [isoF h L a]) ++ r.map (isoF h L) by simp]
  exact this
theorem ev_isolated {h : List Ft} (hL : LO h) (hn : h.length ≤ 1048575) {f : Nat} (hf : f < h.length) : Ev (fun k => jpb.f k h (f : Int)) (isoH h (rchL h f), ixOf (rchL h f) (f : Int)) ∧ Ev (fun k => jX.f k h (f : Int)) (isoH h (rchL h f), ixOf (rchL h f) (f : Int)) := by
 have hlt:∀ a ∈ rchL h f,a<h.length:=fun a ha=>((mem_rchL hL hf).mp ha).lt hL hf
 have hl:=rchL_len h f
 constructor
 ·unfold jpb.f
  refine ev_sReachS hL hn hf ?_
  exact ev_sIso_l0 hlt (by omega) (f:Int) (rchL h f) 0 [] rfl (by simp) (by omega)
 ·unfold jX.f
  refine Ev.bind (ev_iReach hL hn hf) (Ev.pos (by omega) (Ev.pos (by rw [jzb];omega) ?_))
  exact ev_iIso_l0 hlt (by omega) (f:Int) (rchL h f) 0 [] rfl (by simp) (by omega)
end Go.Proofs.Ytlhfcmbkjddgiaa.Pure
end
