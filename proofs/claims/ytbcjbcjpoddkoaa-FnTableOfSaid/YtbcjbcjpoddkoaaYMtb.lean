/- One part of the proofs on this program: functions of the program as plain functions, that the code comes to them, and facts on them. -/
import Derived.Test.YtbcjbcjpoddkoaaYAll1
import Derived.Test.YtbcjbcjpoddkoaaYMb
section
set_option linter.unusedSimpArgs false
set_option linter.unusedVariables false
namespace Go.Proofs.Ytbcjbcjpoddkoaa.Pure
open Go Go.RowKit Go.Proofs.Ytbcjbcjpoddkoaa.P Go.Proofs.YtbcjbcjpoddkoaaW.PrintWords
set_option linter.unusedVariables false
abbrev Rg := S48
def tbX (p : List Ln) (i : Nat) (l : List Nat) : List Rg := (l.filter fun c => kd p c == 8).map fun (c : Nat) => (⟨((i + 1 : Nat) : Int), ((bEnd p i : Nat) : Int), (c : Int), la p c⟩ : Rg)
def tbL (p : List Ln) (i : Nat) : List Rg := (if kd p i = 11 ∧ lb p i = 1 then [⟨((i + 1 : Nat) : Int), ((bEnd p i : Nat) : Int), (i : Int), 0⟩] else []) ++ if kd p i = 7 then tbX p i (jib p i) else []
def tbN (p : List Ln) : Nat → List Rg
 | 0=>[]
 | i+1=>tbL p i ++ tbN p i
theorem tbX_len (p : List Ln) (i : Nat) (l : List Nat) : (tbX p i l).length ≤ l.length := by
 simp only [tbX,List.length_map];exact List.length_filter_le _ _
theorem tbL_len {p : List Ln} (hp : p.length ≤ 1048576) (i : Nat) : (tbL p i).length ≤ p.length + 1 := by
 have h1:=tbX_len p i (jib p i)
 have h2:=jsc p (dp p i) p.length (bEnd p i)
 have h3:(jib p i).length≤p.length:=h2
 simp only [tbL,List.length_append]
 by_cases a:kd p i=11∧lb p i=1
 ·rw [if_pos a,if_neg (by omega)];simp
 ·rw [if_neg a]
  by_cases b:kd p i=7
  ·rw [if_pos b];simp;omega
  ·rw [if_neg b];simp
theorem tbN_len {p : List Ln} (hp : p.length ≤ 1048576) : ∀ i, (tbN p i).length ≤ i * (p.length + 1)
 | 0=>by simp [tbN]
 | i+1=>by
  have h1:=tbL_len hp i
  have h2:=tbN_len hp i
  simp only [tbN,List.length_append,Nat.add_mul,Nat.one_mul]
  omega
theorem ev_tbX {p : List Ln} (hp : p.length ≤ 1048576) {i : Nat} (hi : i < p.length) {C : List Nat} (hC : ∀ c ∈ C, c < p.length) (hC2 : C.length ≤ 1048577) {R : List Rg} :
  ∀ (r:List Nat) (n:Nat) (acc:List Rg),C.drop n=r→n≤C.length→acc.length+r.length≤4398046511103→Ev (fun k=>jH.l0 k p (acc ++ tbX p i r) ((i:Int) - 1)) R →
  Ev (fun k=>jH.l1 k p acc i (ci C) n) R
 | [],n,acc,h,hn,hb,hR=>by
  refine Ev.step (fun k=>by rw [jH.l1]) ?_
  have hc:=ci_end h
  rw [wr (x:=(i:Int) - 1) (by omega)]
  refine Ev.neg (by rw [jKb];omega) ?_
  simpa [tbX] using hR
 | c :: r,n,acc,h,hn,hb,hR=>by
  obtain ⟨h1,h2,h3⟩:=ci_drop h
  have hc:c<p.length:=hC c (List.mem_of_mem_drop (h ▸ List.mem_cons_self))
  refine Ev.step (fun k=>by rw [jH.l1]) ?_
  rw [h2,wS (i:=n) (by omega),wS (i:=i) (by omega)]
  simp only [r1,r2]
  refine Ev.pos (by rw [jKb];omega) (Ev.pos (by omega) (Ev.pos (by omega) (Ev.pos (by omega) ?_)))
  simp only [List.length_cons] at hb
  by_cases h8:kd p c=8
  ·have hx:tbX p i (c :: r)=⟨((i+1:Nat):Int),((bEnd p i:Nat):Int),(c:Int),la p c⟩ :: tbX p i r:=by simp [tbX,h8]
   rw [hx,List.append_cons] at hR
   refine Ev.pos h8 (Ev.bind (ev_blockEnd hp hi) (Ev.pos (by omega) ?_))
   exact ev_tbX hp hi hC hC2 r (n+1) _ h3 (by omega) (by rw [List.length_append,List.length_singleton];omega) hR
  ·have hx:tbX p i (c :: r)=tbX p i r:=by simp [tbX,h8]
   rw [hx] at hR
   exact Ev.neg h8 (ev_tbX hp hi hC hC2 r (n+1) acc h3 (by omega) (by omega) hR)
theorem ev_tableOf_l0 {p : List Ln} (hp : p.length ≤ 1048576) : ∀ (i : Nat) (acc : List Rg), i ≤ p.length → acc.length + i * (p.length + 1) ≤ 4398046511103 → Ev (fun k => jH.l0 k p acc ((i : Int) - 1)) (acc ++ tbN p i)
 | 0,acc,_,_=>by
  refine Ev.step (fun k=>by rw [jH.l0]) ?_
  refine Ev.neg (by omega) ?_
  simpa [tbN] using Ev.now acc
 | i+1,acc,hi,hb=>by
  have hb2:acc.length+i * (p.length+1)+(p.length+1)≤4398046511103:=by rw [Nat.add_mul,Nat.one_mul] at hb;omega
  have tail:∀ acc2:List Rg,acc2.length≤acc.length+1→(kd p i=7→acc2.length≤acc.length)→acc2 ++ (if kd p i=7 then tbX p i (jib p i) else [])=acc ++ tbL p i→Ev (fun k=>jH.j2 k p acc2 (i:Int)) (acc ++ (tbL p i ++ tbN p i)):=by
   intro acc2 hl h7l he
   refine Ev.step (fun k=>by rw [jH.j2]) ?_
   simp only [r1]
   refine Ev.pos (by omega) (Ev.pos (by omega) ?_)
   have hgo:=ev_tableOf_l0 hp i (acc ++ tbL p i) (by omega) (by have:=tbL_len hp i;rw [List.length_append];omega)
   rw [List.append_assoc] at hgo
   by_cases h7:kd p i=7
   ·rw [if_pos h7] at he
    refine Ev.pos h7 (Ev.bind (ev_chainOf hp (by omega)) ?_)
    have h2:(jib p i).length≤p.length:=jsc p (dp p i) p.length (bEnd p i)
    refine ev_tbX hp (by omega) (jDc (by omega)) (by rw [chain,List.length_cons];omega) (jib p i) 1 acc2 rfl (by rw [chain,List.length_cons];omega) (by have:=h7l h7;omega) ?_
    rw [he]
    exact hgo
   ·rw [if_neg h7,List.append_nil] at he
    refine Ev.neg h7 ?_
    rw [he,wr (by omega)]
    exact hgo
  refine Ev.step (fun k=>by rw [jH.l0]) ?_
  rw [iP]
  simp only [r1,r3,tbN]
  have one:∀ b:Bool,b=decide (kd p i=11∧lb p i=1)→Ev (fun k=>jH.j1 k p acc (i:Int) b) (acc ++ (tbL p i ++ tbN p i)):=by
   intro b hbb
   refine Ev.step (fun k=>by rw [jH.j1]) ?_
   rw [wS (i:=i) (by omega)]
   by_cases h1:kd p i=11∧lb p i=1
   ·rw [decide_eq_true h1] at hbb
    subst hbb
    refine Ev.pos rfl (Ev.bind (ev_blockEnd hp (by omega)) (Ev.pos (by omega) ?_))
    exact tail _ (by rw [List.length_append,List.length_singleton];omega) (fun h=>by omega) (by rw [tbL,if_pos h1,List.append_assoc])
   ·rw [decide_eq_false h1] at hbb
    subst hbb
    exact Ev.neg (by simp) (tail acc (by omega) (fun _=>Nat.le_refl _) (by rw [tbL,if_neg h1,List.nil_append]))
  refine Ev.pos (by omega) (Ev.pos (by omega) (Ev.pos (by omega) ?_))
  by_cases h11:kd p i=11
  ·exact Ev.pos h11 (one _ (by rw [eqd];simp [h11]))
  ·exact Ev.neg h11 (one _ (by simp [h11]))
theorem ev_tableOf {p : List Ln} (hp : p.length ≤ 1048576) : Ev (fun k => jH.f k p) (tbN p p.length) := by
 unfold jH.f
 rw [iM hp]
 have h:=ev_tableOf_l0 hp p.length [] (Nat.le_refl _) (by
  have:p.length * (p.length+1)≤1048576 * 1048577:=Nat.mul_le_mul hp (by omega)
  simp;omega)
 simpa using h
end Go.Proofs.Ytbcjbcjpoddkoaa.Pure
end
