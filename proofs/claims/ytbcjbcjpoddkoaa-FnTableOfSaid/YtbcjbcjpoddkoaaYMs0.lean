/- One part of the proofs on this program: functions of the program as plain functions, that the code comes to them, and facts on them. -/
import Derived.Test.YtbcjbcjpoddkoaaYAll5
import Derived.Test.YtbcjbcjpoddkoaaYMh0
import Derived.Test.YtbcjbcjpoddkoaaYMj
section
set_option linter.unusedSimpArgs false
set_option linter.unusedVariables false
namespace Go.Proofs.Ytbcjbcjpoddkoaa.Pure
open Go Go.RowKit Go.Proofs.Ytbcjbcjpoddkoaa.P Go.Proofs.YtbcjbcjpoddkoaaW.PrintWords
set_option linter.unusedVariables false
def exF (t : List Cl) (p : List Ln) (c : Int) : List Nat → Option Nat
 | []=>none
 | e :: r=>if kd p e=8∧isAB t c (la p e)=true then some e else exF t p c r
def catB (t : List Cl) (p : List Ln) (c : Int) (a : Nat) : Option Nat :=
 if kd p a=11 then (if lb p a=1 then some a else none) else if kd p a=7 then exF t p c (jib p a) else none
def catL (t : List Cl) (p : List Ln) (c : Int) : List Nat → Option (Nat × Nat)
 | []=>none
 | a :: r=>match catB t p c a with | some e=>some (a,e) | none=>catL t p c r
theorem exF_chain {t : List Cl} {p : List Ln} {c : Int} {a : Nat} (h : kd p a = 7) : exF t p c (chain p a) = exF t p c (jib p a) := by
 rw [chain,exF,if_neg (fun h2=>by omega)]
def cp2 (o : Option (Nat × Nat)) : Int × Int := match o with | none => (-1, -1) | some (a, e) => ((a : Int), (e : Int))
theorem ev_iCatcher {t : List Cl} {p : List Ln} (hp : p.length ≤ 1048576) (ht : t.length ≤ 1048576) (hv : jPb t p) {c : Int} (h1 : c < t.length) (h2 : -1 ≤ c) {i : Nat} (hi : i < p.length) : Ev (fun k => jP.f k t p i c) (cp2 (catL t p c (enc p i))) := by
 have hL:=enc_lt hi
 have hl:(enc p i).length≤1048576:=by have:=encN_len p i (dp p i);unfold enc;omega
 unfold jP.f
 refine Ev.bind (ev_iEnc hp hv.dr hi) ?_
 generalize enc p i=L at *
 have:∀ (r:List Nat) (j:Nat),L.drop j=r→Ev (fun k=>jP.l0 k p c (ci L) (L.length:Int) j t) (cp2 (catL t p c r)):=by
  intro r
  induction r with
  | nil =>
   intro j h
   have:=ci_end h
   refine Ev.step (fun k=>by rw [jP.l0]) ?_
   exact Ev.neg (by omega) (Ev.now _)
  | cons a r ih =>
   intro j h
   obtain ⟨x1,x2,x3⟩:=ci_drop h
   have ha:=hL a (List.mem_of_mem_drop (by rw [h];simp))
   have hlen:=jsc p (dp p a) p.length (bEnd p a)
   have hl2:(chain p a).length≤1048577:=by rw [chain,List.length_cons,jib];omega
   have next:Ev (fun k=>jP.l0 k p c (ci L) (L.length:Int) (wrap64 ((j:Int)+1)) t) (cp2 (catL t p c r)):=by
    rw [wS (by omega)];exact ih (j+1) x3
   have l1:∀ (q:List Nat) (m:Nat),(chain p a).drop m=q→Ev (fun k=>jP.l1 k p c a (ci L) (L.length:Int) j (ci (chain p a)) ((chain p a).length:Int) m t) (cp2 (match exF t p c q with | some e=>some (a,e) | none=>catL t p c r)):=by
    intro q
    induction q with
    | nil =>
     intro m h
     have:=ci_end h
     refine Ev.step (fun k=>by rw [jP.l1]) ?_
     exact Ev.neg (by omega) next
    | cons e q ihq =>
     intro m h
     obtain ⟨y1,y2,y3⟩:=ci_drop h
     have he:=jDc ha e (List.mem_of_mem_drop (by rw [h];simp))
     refine Ev.step (fun k=>by rw [jP.l1]) ?_
     rw [y2,wS (i:=m) (by omega),exF]
     simp only [jKb,r1,r2]
     refine Ev.pos (by omega) (Ev.pos (by omega) (Ev.pos (by omega) (Ev.pos (by omega) (Ev.pos (by omega) ?_))))
     by_cases h8:kd p e=8
     ·refine Ev.pos h8 (Ev.bind (ev_iIs ht hv.1 h1 h2 _) ?_)
      by_cases hi:isAB t c (la p e)=true
      ·rw [if_pos ⟨h8,hi⟩];exact Ev.pos hi (Ev.now _)
      ·rw [if_neg (fun h=>hi h.2)];exact Ev.neg hi (ihq (m+1) y3)
     ·rw [if_neg (fun h=>h8 h.1)];exact Ev.neg h8 (ihq (m+1) y3)
   refine Ev.step (fun k=>by rw [jP.l0]) ?_
   rw [x2,catL,catB]
   simp only [jKb,r1,r3]
   refine Ev.pos (by omega) (Ev.pos (by omega) (Ev.pos (by omega) (Ev.pos (by omega) (Ev.pos (by omega) ?_))))
   by_cases h11:kd p a=11
   ·refine Ev.pos h11 ?_
    simp only [h11,if_true]
    by_cases hb:lb p a=1
    ·simp only [hb,if_true];exact Ev.now _
    ·simp only [hb,if_false];exact next
   ·refine Ev.neg h11 ?_
    simp only [h11,if_false]
    by_cases h7:kd p a=7
    ·refine Ev.pos h7 (Ev.bind (ev_tryFrom hp ha) ?_)
     rw [jKb]
     have:=l1 (chain p a) 0 rfl
     rw [exF_chain h7] at this
     simp only [h7,if_true]
     exact this
    ·simp only [h7,if_false]
     exact next
 rw [jKb]
 exact this L 0 rfl
end Go.Proofs.Ytbcjbcjpoddkoaa.Pure
end
