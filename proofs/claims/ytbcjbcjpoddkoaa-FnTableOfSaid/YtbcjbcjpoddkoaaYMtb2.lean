/- One part of the proofs on this program: functions of the program as plain functions, that the code comes to them, and facts on them. -/
import Derived.Test.YtbcjbcjpoddkoaaYAll1
import Derived.Test.YtbcjbcjpoddkoaaYAll2
import Derived.Test.YtbcjbcjpoddkoaaYMe
import Derived.Test.YtbcjbcjpoddkoaaYMtb
section
set_option linter.unusedSimpArgs false
set_option linter.unusedVariables false
namespace Go.Proofs.Ytbcjbcjpoddkoaa.Pure
open Go Go.RowKit Go.Proofs.Ytbcjbcjpoddkoaa.P Go.Proofs.YtbcjbcjpoddkoaaW.PrintWords
set_option linter.unusedVariables false
theorem rows_eq {p : List Ln} (hp : p.length ≤ 1048576) {i : Nat} (hi : i < p.length) : ∀ L : List Nat, (∀ j ∈ L, j < p.length) → jJ.rows p (i : Int) ((bEnd p i : Nat) : Int) (ci L) = some (tbX p i L)
 | [],_=>rfl
 | q :: L,h=>by
  have hq:=h q List.mem_cons_self
  have ih:=rows_eq hp hi L fun j hj=>h j (List.mem_cons_of_mem _ hj)
  rw [ci_cons]
  simp only [jJ.rows]
  rw [if_pos (by omega),if_pos (by omega),ih,Option.bind_some,wS (by omega)]
  by_cases k8:kd p q=8
  ·rw [if_pos (show (jd p (q:Int)).f1=8 from k8)]
   simp only [r2]
   simp [tbX,k8]
  ·rw [if_neg (show ¬ (jd p (q:Int)).f1=8 from k8)];simp [tbX,k8]
theorem ev_row {p : List Ln} (hp : p.length ≤ 1048576) {i : Nat} (hi : i < p.length) (hl : p.length ≤ 24) : Ev (fun k => jJ.row k p (i : Int) (jd p (i : Int))) (tbL p i) := by
 unfold jJ.row tbL
 refine Ev.bind (jSc hp hi) ?_
 simp only [r1,r3]
 by_cases h1:kd p i=11∧lb p i=1
 ·rw [if_pos h1,if_neg (by omega),wS (by omega)]
  exact Ev.pos h1 (by simpa using Ev.now _)
 ·rw [if_neg h1]
  refine Ev.neg h1 ?_
  by_cases h7:kd p i=7
  ·rw [if_pos h7]
   have hlen:=jsc p (dp p i) p.length (bEnd p i)
   refine Ev.pos h7 (Ev.bind (ev_tryFrom hp hi) (Ev.pos ?_ ?_))
   ·rw [jKb,chain,List.length_cons,jib];omega
   ·rw [rows_eq hp hi (chain p i) (jDc hi)]
    have:tbX p i (chain p i)=tbX p i (jib p i):=by
     rw [chain,tbX,List.filter_cons,if_neg (by simp [h7])];rfl
    rw [this]
    exact Ev.now _
  ·rw [if_neg h7]
   exact Ev.neg h7 (Ev.now _)
theorem ev_tb {p : List Ln} (hp : p.length ≤ 1048576) (hl : p.length ≤ 24) : ∀ n, n ≤ p.length → Ev (fun k => jJ.tb k p n) (tbN p n)
 | 0,_=>Ev.now _
 | n+1,hn=>by
  simp only [jJ.tb,tbN]
  exact Ev.bind (ev_row hp (by omega) hl) (Ev.bind (ev_tb hp hl n (by omega)) (Ev.now _))
noncomputable def rTab (t : List Cl) (p : List Ln) : List Rg := if vB t p = true then tbN p p.length else []
theorem ev_TableOf {p : List Ln} {t : List Cl} (hp : p.length ≤ 1048576) (ht : TS t) : Ev (fun k => jkb.f k t p) (rTab t p) ∧ Ev (fun k => jJ.f k t p) (rTab t p) := by
 unfold jkb.f jJ.f rTab
 have h1:=sValid hp ht
 have h2:=iValid hp ht
 cases hv:vB t p with
 | false =>
  rw [hv] at h1 h2
  exact ⟨Ev.bind h1 (Ev.neg (by simp) (by simpa using Ev.now _)),Ev.bind h2 (Ev.neg (by simp) (by simpa using Ev.now _))⟩
 | true =>
  rw [hv] at h1 h2
  have h24:=(vB_iff.mp hv).2.1
  rw [if_pos rfl]
  exact ⟨Ev.bind h1 (Ev.pos rfl (Ev.bind (ev_tableOf hp) (Ev.now _))),Ev.bind h2 (Ev.pos rfl (Ev.pos (by omega) (ev_tb hp h24 _ (Nat.le_refl _))))⟩
theorem rTab_len {t : List Cl} {p : List Ln} : (rTab t p).length ≤ 1048576 := by
 unfold rTab
 split
 ·rename_i hv
  have h24:=(vB_iff.mp hv).2.1
  have:=tbN_len (p:=p) (by omega) p.length
  have:p.length * (p.length+1)≤24 * 25:=Nat.mul_le_mul h24 (by omega)
  omega
 ·simp
end Go.Proofs.Ytbcjbcjpoddkoaa.Pure
end
