/- One part of the proofs on this program: functions of the program as plain functions, that the code comes to them, and facts on them. -/
import Derived.Test.YtlhfcmbkjddgiaaYAll2
import Derived.Test.YtlhfcmbkjddgiaaYAll3
import Derived.Test.YtlhfcmbkjddgiaaYAll8
import Derived.Test.YtlhfcmbkjddgiaaYMsx
section
set_option linter.unusedSimpArgs false
set_option linter.unusedVariables false
namespace Go.Proofs.Ytlhfcmbkjddgiaa.Pure
open Go Go.RowKit Go.Proofs.Ytlhfcmbkjddgiaa.P Go.Proofs.YtlhfcmbkjddgiaaW.PrintWords
set_option linter.unusedVariables false
def stV (t : List Cl) (a : Bool) (b c : Int) : Bool := if a = true then hasB t b && bw c 0 99 else decide (b = 0) && decide (c = 0)
theorem iStV {t : List Cl} (ht : t.length ≤ 1048576) (a : Bool) (b c : Int) : jjb.f a b c t = some (stV t a b c) := by
 unfold jjb.f stV
 rw [iHas ht,iCd]
 cases a with
 | true =>
  rw [if_pos rfl,if_pos rfl]
  cases hasB t b <;> simp
 | false =>
  rw [if_neg (by simp),if_neg (by simp),eqd,eqd]
  rfl
theorem stV_has {t : List Cl} {a : Bool} {b c : Int} (h : stV t a b c = true) (ha : a = true) : hasB t b = true ∧ bw c 0 99 = true := by
 unfold stV at h
 rw [if_pos ha,Bool.and_eq_true] at h
 exact h
theorem clF_keeps {t : List Cl} {l : List Ex} (hl : exsB t l = true) {a : Bool} {b c : Int} (h : stV t a b c = true) : gS t.length l.length (clF t l a b c) ∧ noCa (clF t l a b c).2.1 ∧ gC (clF t l a b c).2.1 ∧ DH t (clF t l a b c).2.1 := by
 obtain ⟨e1,e2,e3⟩:=exsB_in2 hl
 have g:=clF_good (c:=c) e1 (fun ha=>(stV_has h ha).1)
 have n:noCa (clF t l a b c).2.1:=foldl_noCa _ _ (st0_noCa a b c)
 have d:gC (clF t l a b c).2.1:=foldl_gC _ _ (st0_gC (fun ha=>(stV_has h ha).2)) (fun x hx=>e1 x (List.mem_reverse.1 hx))
 exact ⟨g,n,d,DH_of g.g n d⟩
theorem ev_CloseExits {t : List Cl} (ht : TS t) {l : List Ex} (hl : exsB t l = true) {a : Bool} {b c : Int} (h : stV t a b c = true) : Ev (fun k => jna.f k t l a b c) (clE (clF t l a b c)) := by
 obtain ⟨e1,e2,e3⟩:=exsB_in2 hl
 obtain ⟨g,hn,_,_⟩:=clF_keeps hl h
 have hv:=ev_iVE ht (l:=l) (by omega)
 rw [hl] at hv
 unfold jna.f
 rw [iStV ht.1,h]
 refine Ev.bind hv (Ev.pos rfl (Ev.bind (Ev.now _) (Ev.pos rfl ?_)))
 unfold jyb.f
 refine Ev.bind (ev_mclosed ht hl (fun ha=>(stV_has h ha).1) c) ?_
 generalize clF t l a b c=s at *
 unfold ceEnd clE
 by_cases hf:0≤s.2.2
 ·rw [if_pos hf]
  obtain ⟨i,hi⟩:∃ i:Nat,s.2.2=(i:Int):=⟨s.2.2.toNat,by omega⟩
  have:=g.hi
  have:=g.lh
  obtain ⟨_,e1⟩:=ev_isolated (LO_gH g.g hn) (by omega) (f:=i) (by omega)
  refine Ev.pos hf ?_
  rw [hi,Int.toNat_natCast]
  exact Ev.bind e1 (Ev.now _)
 ·rw [if_neg hf]
  exact Ev.neg hf (Ev.now _)
theorem clE_log (s : MSt) : (clE s).1 = s.1 := by unfold clE; split <;> rfl
theorem clE_sim {lg : List Int} {s r : MSt} (h : Sim lg s r) : (clE s).1 = lg ++ (clE r).1 ∧ (clE s).2.1 = (clE r).2.1 := by
 rw [clE_log,clE_log]
 refine ⟨h.1,?_⟩
 unfold clE
 rcases h.2 with h | ⟨h1,h2,h3,h4⟩
 ·rw [if_neg (by omega),if_neg (by omega)]
 ·rw [if_pos h1,if_pos h2]
theorem clF_log {t : List Cl} {l : List Ex} (hl : exsB t l = true) {a : Bool} {b c : Int} (h : stV t a b c = true) : (clE (clF t l a b c)).1.length ≤ 8 := by
 obtain ⟨e1,e2,e3⟩:=exsB_in2 hl
 have:=(clF_keeps hl h).1.ll
 rw [clE_log];omega
end Go.Proofs.Ytlhfcmbkjddgiaa.Pure
end
