/- One part of the proofs on this program: functions of the program as plain functions, that the code comes to them, and facts on them. -/
import Derived.Test.YtkokajljeebgdaaYAll6
import Derived.Test.YtkokajljeebgdaaYAll7
import Derived.Test.YtkokajljeebgdaaYMi
section
set_option linter.unusedSimpArgs false
set_option linter.unusedVariables false
namespace Go.Proofs.Ytkokajljeebgdaa.Pure
open Go Go.RowKit Go.Proofs.Ytkokajljeebgdaa.P Go.Proofs.YtkokajljeebgdaaW.PrintWords
set_option linter.unusedVariables false
theorem lastIdx {l : List Nat} (a : Nat) (h : l.length ≤ 1048576) : wrap64 (((ci (a :: l)).length : Int) - 1) = ((l.length : Nat) : Int) := by
 rw [jKb,List.length_cons,wr (by omega)];omega
theorem ev_lastOf {t : List Cl} {p : List Ln} (hp : p.length ≤ 1048576) (hv : jNb t p) {a : Nat} (ha : a < p.length) (ho : isO (kd p a) = true) : Ev (fun k => jdb.f k p a) (oi (jsc p a)) := by
 have ho:=isO_iff.mp ho
 have j:∀ q:Bool,q=decide (kd p a=12∨kd p a=10)→¬ kd p a=11→Ev (fun k=>jdb.j0 k p a q) (oi (jsc p a)):=by
  intro q hq h11
  refine Ev.step (fun k=>by rw [jdb.j0]) ?_
  by_cases hk:kd p a=12∨kd p a=10
  ·rw [jsc,if_neg h11,if_pos hk]
   exact Ev.pos (by rw [hq];simpa using hk) (Ev.now _)
  ·have hi:inTry p a:=by rw [inTry,isF_iff];omega
   have hT:=thd_is hv ha hi
   have hTl:thd p a<p.length:=by have:=hT.le;omega
   have hlen:=chain_len p (dp p (thd p a)) p.length (bEnd p (thd p a))
   have hll:=lastOf_lt hTl
   rw [jsc,if_neg h11,if_neg hk]
   refine Ev.neg (by rw [hq];simpa using hk) (Ev.bind (ev_sTryOf hp hv ha hi) (Ev.bind (ev_chainOf hp hTl) ?_))
   unfold chain
   rw [lastIdx _ (by unfold jfb;omega),rd_last,jKb,show (jfb p (thd p a)).getLastD (thd p a)=lastOf (jfb p (thd p a)) (thd p a) from rfl]
   generalize lastOf (jfb p (thd p a)) (thd p a)=u at *
   simp only [r1,List.length_cons]
   refine Ev.pos (by omega) (Ev.pos (by omega) (Ev.pos (by omega) (Ev.pos (by omega) ?_)))
   by_cases h10:kd p u=10
   ·rw [if_pos h10] ;exact Ev.pos h10 (Ev.now _)
   ·rw [if_neg h10] ;exact Ev.neg h10 (Ev.now _)
 unfold jdb.f
 simp only [r1,eqd]
 refine Ev.pos (by omega) (Ev.pos (by omega) ?_)
 by_cases h11:kd p a=11
 ·rw [jsc,if_pos h11]
  exact Ev.pos h11 (Ev.now _)
 ·refine Ev.neg h11 (Ev.both (fun c=>j _ (by simp [c]) h11) (fun c=>j _ (by simp [c]) h11))
theorem ev_wayOut {t : List Cl} {p : List Ln} (hp : p.length ≤ 1048576) (hv : jNb t p) (L : List Nat) (hL : ∀ j ∈ L, j < p.length ∧ isO (kd p j) = true) (hl : L.length ≤ 1048576) : Ev (fun k => jIa.f k p (ci L)) (ci (wayL p L)) := by
 have:∀ (r:List Nat) (j:Nat) (x:List Nat),L.drop j=r→x.length≤j→Ev (fun k=>jIa.l0 k p (ci L) (ci x) j) (ci (x ++ wayL p r)):=by
  intro r
  induction r with
  | nil =>
   intro j x h hx
   have:=ci_end h
   refine Ev.step (fun k=>by rw [jIa.l0]) ?_
   rw [jKb,wayL,List.append_nil]
   exact Ev.neg (by omega) (Ev.now _)
  | cons a r ih =>
   intro j x h hx
   obtain ⟨h1,h2,h3⟩:=ci_drop h
   have ha:=hL a (List.mem_of_mem_drop (by rw [h];simp))
   refine Ev.step (fun k=>by rw [jIa.l0]) ?_
   rw [h2,wS (by omega)]
   simp only [jKb]
   refine Ev.pos (by omega) (Ev.pos (by omega) (Ev.bind (ev_lastOf hp hv ha.1 ha.2) ?_))
   rw [wayL]
   cases jsc p a with
   | none =>
    simp only [oi]
    exact Ev.neg (by omega) (ih (j+1) x h3 (by omega))
   | some n =>
    simp only [oi,ci_snoc]
    have:=ih (j+1) (x ++ [n]) h3 (by rw [List.length_append,List.length_singleton];omega)
    rw [List.append_assoc] at this
    exact Ev.pos (by omega) (Ev.pos (by omega) this)
 exact this L 0 [] rfl (by simp)
def upTo (s : Int) : List Nat → List Nat
 | []=>[]
 | a :: r=>if (a:Int)=s then [] else a :: upTo s r
theorem ev_way {t : List Cl} {p : List Ln} (hp : p.length ≤ 1048576) (hv : jNb t p) {i : Nat} (hi : i < p.length) (s : Int) : Ev (fun k => jCa.f k p i s) (ci (wayL p (upTo s (enc p i)))) := by
 have hL:∀ j ∈ enc p i,j<p.length∧isO (kd p j)=true:=fun j hj=>⟨enc_lt hi j hj,(enc_open hv.dr hi j hj).1⟩
 have hl:(enc p i).length≤1048576:=by have:=encN_len p i (dp p i);unfold enc;omega
 unfold jCa.f
 refine Ev.bind (ev_iEnc hp hv.dr hi) ?_
 generalize enc p i=L at *
 have:∀ (r:List Nat) (j:Nat) (x:List Nat),L.drop j=r→x.length≤j→Ev (fun k=>jCa.l0 k p s (ci x) (ci L) (L.length:Int) j) (ci (x ++ wayL p (upTo s r))):=by
  intro r
  induction r with
  | nil =>
   intro j x h hx
   have:=ci_end h
   refine Ev.step (fun k=>by rw [jCa.l0]) ?_
   simp only [jma.f,Option.bind_some]
   rw [upTo,wayL,List.append_nil]
   exact Ev.neg (by omega) (Ev.now _)
  | cons a r ih =>
   intro j x h hx
   obtain ⟨h1,h2,h3⟩:=ci_drop h
   have ha:=hL a (List.mem_of_mem_drop (by rw [h];simp))
   have ho:=isO_iff.mp ha.2
   have hal:=ha.1
   refine Ev.step (fun k=>by rw [jCa.l0]) ?_
   rw [h2]
   simp only [jma.f,Option.bind_some,jKb,ci_snoc,r1,eqd]
   refine Ev.pos (by omega) (Ev.pos (by omega) (Ev.pos (by omega) ?_))
   by_cases hs:(a:Int)=s
   ·rw [upTo,if_pos hs,wayL,List.append_nil]
    exact Ev.pos hs (Ev.now _)
   rw [upTo,if_neg hs,wayL]
   refine Ev.neg hs (Ev.pos (by omega) (Ev.pos (by omega) ?_))
   have skip:Ev (fun k=>jCa.l0 k p s (ci x) (ci L) (L.length:Int) (wrap64 ((j:Int)+1))) (ci (x ++ wayL p (upTo s r))):=by
    rw [wS (by omega)]
    exact ih (j+1) x h3 (by omega)
   have put:∀ n:Nat,Ev (fun k=>jCa.l0 k p s (ci (x ++ [n])) (ci L) (L.length:Int) (wrap64 ((j:Int)+1))) (ci (x ++ (n :: wayL p (upTo s r)))):=by
    intro n
    rw [wS (by omega)]
    have:=ih (j+1) (x ++ [n]) h3 (by rw [List.length_append,List.length_singleton];omega)
    rw [List.append_assoc] at this
    exact this
   by_cases h11:kd p a=11
   ·rw [jsc,if_pos h11]
    exact Ev.pos h11 (Ev.pos (by omega) (put a))
   have j1:∀ q:Bool,q=decide (kd p a=7∨kd p a=8∨kd p a=9)→Ev (fun k=>jCa.j1 k p s (ci x) a (ci L) (L.length:Int) j q) (ci (x ++ (match jsc p a with | none=>wayL p (upTo s r) | some n=>n :: wayL p (upTo s r)))):=by
    intro q hq
    refine Ev.step (fun k=>by rw [jCa.j1]) ?_
    by_cases hk:kd p a=7∨kd p a=8∨kd p a=9
    ·have hin:inTry p a:=by rw [inTry,isF_iff];omega
     have hT:=thd_is hv hal hin
     have hTl:thd p a<p.length:=by have:=hT.le;omega
     have hlen:=chain_len p (dp p (thd p a)) p.length (bEnd p (thd p a))
     have hll:=lastOf_lt hTl
     refine Ev.pos (by rw [hq];simpa using hk) (Ev.bind (ev_iTryOf hp hv hal hin) ?_)
     rw [jsc,if_neg h11,if_neg (by omega)]
     unfold chain
     rw [lastIdx _ (by unfold jfb;omega),rd_last,jKb,show (jfb p (thd p a)).getLastD (thd p a)=lastOf (jfb p (thd p a)) (thd p a) from rfl]
     generalize lastOf (jfb p (thd p a)) (thd p a)=u at *
     simp only [r1,List.length_cons,ci_snoc,jKb]
     refine Ev.pos (by omega) (Ev.pos (by omega) (Ev.pos (by omega) (Ev.pos (by omega) ?_)))
     by_cases h10:kd p u=10
     ·simp only [h10,if_true]
      exact Ev.pos (by omega) (put u)
     ·simp only [h10,if_false]
      exact skip
    ·have e:jsc p a=none:=by rw [jsc,if_neg h11,if_pos (by omega)]
     rw [e]
     exact Ev.neg (by rw [hq];simpa using hk) skip
   refine Ev.neg h11 (Ev.both (fun c=>j1 _ (by simp [c])) (fun c=>Ev.both (fun c2=>j1 _ (by simp [c2])) (fun c2=>j1 _ (by simp [c,c2]))))
 rw [jKb]
 exact this L 0 [] rfl (by simp)
theorem upTo_neg : ∀ (l : List Nat), upTo (-1) l = l
 | []=>rfl
 | a :: r=>by rw [upTo,if_neg (by omega),upTo_neg r]
end Go.Proofs.Ytkokajljeebgdaa.Pure
end
