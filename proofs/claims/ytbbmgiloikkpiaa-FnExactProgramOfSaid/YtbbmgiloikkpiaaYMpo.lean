/- One part of the proofs on this program: functions of the program as plain functions, that the code comes to them, and facts on them. -/
import Derived.Test.YtbbmgiloikkpiaaYAll1
import Derived.Test.YtbbmgiloikkpiaaYAll2
import Derived.Test.YtbbmgiloikkpiaaYAll3
import Derived.Test.YtbbmgiloikkpiaaYAll4
import Derived.Test.YtbbmgiloikkpiaaYAll5
import Derived.Test.YtbbmgiloikkpiaaYMth
import Derived.Test.YtbbmgiloikkpiaaYMxv
section
set_option linter.unusedSimpArgs false
set_option linter.unusedVariables false
namespace Go.Proofs.Ytbbmgiloikkpiaa.Pure
open Go Go.RowKit Go.Proofs.Ytbbmgiloikkpiaa.P Go.Proofs.YtbbmgiloikkpiaaW.PrintWords
set_option linter.unusedVariables false
def stB (t : List Cl) (a : Bool) (b c : Int) : Bool := if a = true then hasB t b && bw c 0 99 else decide (b = 0) && decide (c = 0)
theorem sSt {t : List Cl} (ht : t.length ≤ 1048576) (a : Bool) (b c : Int) : jab.f t a b c = some (stB t a b c) := by
 unfold jab.f stB
 cases a with
 | true =>
  rw [if_pos rfl,if_pos rfl,sHas ht,iR]
  simp only [Option.bind_some]
  cases hasB t b <;> simp
 | false =>
  by_cases h:b=0
  ·simp [h,eqd]
  ·simp [h]
theorem iSt {t : List Cl} (ht : t.length ≤ 1048576) (a : Bool) (b c : Int) : job.f a b c t = some (stB t a b c) := by
 unfold job.f stB
 cases a with
 | true =>
  rw [if_pos rfl,if_pos rfl,iHas ht,iCd]
  simp only [Option.bind_some]
  cases hasB t b <;> simp
 | false =>
  rw [if_neg (by simp),if_neg (by simp),eqd,eqd]
  simp
theorem Ev.from {α : Type} {f : Nat → Option α} {r : α} {n : Nat} (h : Ev f r) : Ev (fun k => if n ≤ k then f k else none) r := by
 obtain ⟨K,h⟩:=h
 exact ⟨max K n,fun k hk=>by show (if n≤k then f k else none)=some r;rw [if_pos (by omega)];exact h k (by omega)⟩
theorem poIn_inn (p : List Ln) : poIn p = inn p := by
 unfold poIn inn
 cases p with
 | nil=>rfl
 | cons x l=>rw [if_neg (by simp),if_neg (by simp)];rfl
theorem poAr_inn (p more : List Ln) : poAr p more = (⟨0, 7, 0, 0⟩ :: inn p) ++ more := by rw [poAr, poIn_inn]; rfl
theorem exB_kind {t : List Cl} {x : Ex} (h : exB t x = true) : x.f0 = 0 ∨ x.f0 = 1 ∨ x.f0 = 2 ∨ x.f0 = 3 := by
 unfold exB at h
 by_cases h0:x.f0=0∨x.f0=1
 ·rcases h0 with h0 | h0
  ·exact .inl h0
  ·exact .inr (.inl h0)
 ·rw [if_neg h0] at h
  by_cases h2:x.f0=2
  ·exact .inr (.inr (.inl h2))
  ·rw [if_neg h2] at h
   by_cases h3:x.f0=3
   ·exact .inr (.inr (.inr h3))
   ·rw [if_neg h3] at h;cases h
theorem ev_exitLines {t : List Cl} {p : List Ln} (hp : p.length ≤ 1000000) {x : Ex} (hx : exB t x = true) : Ev (fun k => jDb.f k p x.f0 x.f1 x.f2) (jbb p x) := by
 have hl:=inn_len p
 have hu:=ev_under (p:=p) (by omega) 0 7 0 0
 have hL:(⟨0,7,0,0⟩ :: inn p:List Ln).length≤1000002:=by simp only [List.length_cons];omega
 have st0:x.f0=0→jbb p x=(⟨0,7,0,0⟩ :: inn p) ++ [⟨0,10,0,0⟩,⟨1,1,x.f1,0⟩]:=fun h=>by simp [jbb,jdc,h,poAr_inn]
 have st2:x.f0=2→jbb p x=(⟨0,7,0,0⟩ :: inn p) ++ [⟨0,8,x.f1,0⟩,⟨1,0,0,0⟩]:=fun h=>by simp [jbb,jdc,h,poAr_inn]
 have st3:x.f0=3→jbb p x=(⟨0,7,0,0⟩ :: inn p) ++ [⟨0,10,0,0⟩,⟨1,2,x.f1,x.f2⟩]:=fun h=>by simp [jbb,jdc,h,poAr_inn]
 have st1:x.f0=1→jbb p x=(⟨0,7,0,0⟩ :: inn p) ++ [⟨0,8,0,0⟩,⟨1,1,x.f1,0⟩,⟨1,3,0,0⟩]:=fun h=>by simp [jbb,jdc,h,poAr_inn]
 have hk:=exB_kind hx
 unfold jDb.f
 refine Ev.bind hu ?_
 generalize (⟨0,7,0,0⟩ :: inn p:List Ln)=u at *
 generalize jbb p x=v at *
 simp only [Option.bind_some]
 by_cases h0:x.f0=0
 ·rw [st0 h0];exact Ev.pos h0 (Ev.pos (by simp only [List.length_cons,List.length_nil];omega) (Ev.now _))
 ·refine Ev.neg h0 ?_
  by_cases h2:x.f0=2
  ·rw [st2 h2];exact Ev.pos h2 (Ev.pos (by simp only [List.length_cons,List.length_nil];omega) (Ev.now _))
  ·refine Ev.neg h2 ?_
   by_cases h3:x.f0=3
   ·rw [st3 h3];exact Ev.pos h3 (Ev.pos (by simp only [List.length_cons,List.length_nil];omega) (Ev.now _))
   ·rw [st1 (by omega)];exact Ev.neg h3 (Ev.pos (by simp only [List.length_cons,List.length_nil];omega) (Ev.now _))
theorem ev_spo {t : List Cl} (ht : TS t) {l : List Ex} (hl : ∀ x ∈ l, exB t x = true) (hn : l.length ≤ 8) : ∀ (i : Nat) (p : List Ln), i ≤ l.length → p.length + 5 * i ≤ 1000 → Ev (fun k => jJ.l0 k l p ((i : Int) - 1) t) (okP t ((l.take i).reverse.foldl jbb p))
 | 0,p,hi,hp=>by
  refine Ev.step (fun k=>by rw [jJ.l0]) ?_
  exact Ev.neg (by omega) (Ev.bind (ev_checked (by omega) ht) (Ev.now _))
 | i+1,p,hi,hp=>by
  have hlt:i<l.length:=by omega
  have hr:jN l (i:Int)=l[i]:=by simp [jN,List.getD_eq_getElem?_getD,hlt]
  have hs:=poStep_len p l[i]
  refine Ev.step (fun k=>by rw [jJ.l0]) ?_
  rw [iP,hr,iM (by omega),List.take_succ_eq_append_getElem hlt,List.reverse_append,List.reverse_cons,List.reverse_nil,List.nil_append,List.singleton_append,List.foldl_cons]
  exact Ev.pos (by omega) (Ev.pos (by omega) (Ev.pos (by omega) (Ev.bind (ev_exitLines (t:=t) (by omega) (hl _ (List.getElem_mem hlt))) (ev_spo ht hl hn i _ (by omega) (by omega)))))
noncomputable def poR (t : List Cl) (l : List Ex) (a : Bool) (b c : Int) : List Ln × Bool := if exsB t l = true then (if stB t a b c = true then okP t (poAll l (jfc a b c)) else ([], false)) else ([], false)
theorem exsB_in {t : List Cl} {l : List Ex} (h : exsB t l = true) : (∀ x ∈ l, exB t x = true) ∧ l.length ≤ 8 := by
 unfold exsB at h
 simp only [Bool.and_eq_true,List.all_eq_true,decide_eq_true_eq] at h
 exact ⟨h.1,h.2.2⟩
theorem poFirst_len (a : Bool) (b c : Int) : (jfc a b c).length = 1 := by unfold jfc; split <;> rfl
theorem poAll_len (l : List Ex) (p : List Ln) : (poAll l p).length ≤ p.length + 5 * l.length := by
 unfold poAll
 rw [← show l.reverse.length=l.length from by simp]
 generalize l.reverse=m
 induction m generalizing p with
 | nil=>simp
 | cons x r ih =>
  rw [List.foldl_cons,List.length_cons]
  have h1:=ih (jbb p x)
  have h2:=poStep_len p x
  omega
theorem ev_ProgramOf {t : List Cl} (ht : TS t) {l : List Ex} (hl : l.length ≤ 1048576) (a : Bool) (b c : Int) : Ev (fun k => jJ.f k t l a b c) (poR t l a b c) ∧ Ev (fun k => jea.f k t l a b c) (poR t l a b c) := by
 have q0:exsB t l=false→poR t l a b c=([],false):=fun h=>by unfold poR;rw [h];rfl
 have q1:exsB t l=true→stB t a b c=false→poR t l a b c=([],false):=fun h h2=>by unfold poR;rw [h,h2];rfl
 have q2:exsB t l=true→stB t a b c=true→poR t l a b c=okP t (poAll l (jfc a b c)):=fun h h2=>by unfold poR;rw [h,h2];rfl
 generalize poR t l a b c=R at *
 unfold jJ.f jea.f jtb.f
 have h1:=ev_sVE ht hl
 have h2:=ev_iVE ht hl
 rw [sSt ht.1,iSt ht.1]
 cases hv:exsB t l with
 | false =>
  rw [hv] at h1 h2
  rw [q0 hv]
  exact ⟨Ev.bind (Ev.bind h1 (Ev.neg (by simp) (Ev.now _))) (Ev.neg (by simp) (Ev.now _)),Ev.bind h2 (Ev.neg (by simp) (Ev.now _))⟩
 | true =>
  rw [hv] at h1 h2
  obtain ⟨e1,e2⟩:=exsB_in hv
  cases hs:stB t a b c with
  | false =>
   rw [q1 hv hs]
   exact ⟨Ev.bind (Ev.bind h1 (Ev.pos rfl (Ev.bind (Ev.now _) (Ev.now _)))) (Ev.neg (by simp) (Ev.now _)),Ev.bind h2 (Ev.pos rfl (Ev.bind (Ev.now _) (Ev.neg (by simp) (Ev.now _))))⟩
  | true =>
   rw [q2 hv hs]
   have hf:=poFirst_len a b c
   have hA:=poAll_len l (jfc a b c)
   have sl:=ev_spo ht e1 e2 l.length (jfc a b c) (Nat.le_refl _) (by omega)
   rw [List.take_of_length_le (Nat.le_refl _)] at sl
   have j0:∀ q,q=jfc a b c→Ev (fun k=>jJ.j0 k l q t) (okP t (poAll l (jfc a b c))):=by
    rintro q rfl
    refine Ev.step (fun k=>by rw [jJ.j0]) ?_
    rw [iM (by omega)]
    exact sl
   refine ⟨Ev.bind (Ev.bind h1 (Ev.pos rfl (Ev.bind (Ev.now _) (Ev.now _)))) (Ev.pos rfl ?_),Ev.bind h2 (Ev.pos rfl (Ev.bind (Ev.now _) (Ev.pos rfl (Ev.pos (by omega) (Ev.from (ev_made (by omega) ht))))))⟩
   cases a with
   | true=>exact Ev.pos rfl (j0 _ rfl)
   | false=>exact Ev.neg (by simp) (j0 _ rfl)
theorem poR_len {t : List Cl} {l : List Ex} {a : Bool} {b c : Int} : (poR t l a b c).1.length ≤ 1048576 := by
 unfold poR
 split
 ·rename_i h
  split
  ·have h1:=poFirst_len a b c
   have h2:=poAll_len l (jfc a b c)
   have h3:=(exsB_in h).2
   have h4:=@okP_len t (poAll l (jfc a b c))
   omega
  ·simp
 ·simp
end Go.Proofs.Ytbbmgiloikkpiaa.Pure
end
