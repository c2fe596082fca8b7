/- One part of the proofs on this program: functions of the program as plain functions, that the code comes to them, and facts on them. -/
import Derived.Test.YtlhfcmbkjddgiaaYAll3
import Derived.Test.YtlhfcmbkjddgiaaYAll4
import Derived.Test.YtlhfcmbkjddgiaaYMsx
section
set_option linter.unusedSimpArgs false
set_option linter.unusedVariables false
namespace Go.Proofs.Ytlhfcmbkjddgiaa.Pure
open Go Go.RowKit Go.Proofs.Ytlhfcmbkjddgiaa.P Go.Proofs.YtlhfcmbkjddgiaaW.PrintWords
set_option linter.unusedVariables false
def stV (t : List Cl) (a : Bool) (b c : Int) : Bool := if a = true then hasB t b && bw c 0 99 else decide (b = 0) && decide (c = 0)
theorem iStV {t : List Cl} (ht : t.length ≤ 1048576) (a : Bool) (b c : Int) : jnb.f a b c t = some (stV t a b c) := by
 unfold jnb.f stV
 rw [iHas ht,iCd]
 cases a with
 | true =>
  rw [if_pos rfl,if_pos rfl]
  cases hasB t b <;> simp
 | false =>
  rw [if_neg (by simp),if_neg (by simp),eqd,eqd]
  rfl
theorem stV_has {t : List Cl} {a : Bool} {b c : Int} (h : stV t a b c = true) (ha : a = true) : hasB t b = true ∧ bw c 0 99 = true := by
 unfold stV at h
 rw [if_pos ha,Bool.and_eq_true] at h
 exact h
theorem clF_keeps {t : List Cl} {l : List Ex} (hl : exsB t l = true) {a : Bool} {b c : Int} (h : stV t a b c = true) : gS t.length l.length (clF t l a b c) ∧ noCa (clF t l a b c).2.1 ∧ gC (clF t l a b c).2.1 ∧ DH t (clF t l a b c).2.1 := by
 obtain ⟨e1,e2,e3⟩:=exsB_in2 hl
 have g:=clF_good (c:=c) e1 (fun ha=>(stV_has h ha).1)
 have n:noCa (clF t l a b c).2.1:=foldl_noCa _ _ (st0_noCa a b c)
 have d:gC (clF t l a b c).2.1:=foldl_gC _ _ (st0_gC (fun ha=>(stV_has h ha).2)) (fun x hx=>e1 x (List.mem_reverse.1 hx))
 exact ⟨g,n,d,DH_of g.g n d⟩
theorem jCc {t : List Cl} (ht : TS t) {l : List Ex} (hl : exsB t l = true) {a : Bool} {b c : Int} (h : stV t a b c = true) : Ev (fun k => jKa.f k t l a b c) (clE (clF t l a b c)) := by
 obtain ⟨e1,e2,e3⟩:=exsB_in2 hl
 obtain ⟨g,hn,_,_⟩:=clF_keeps hl h
 have hv:=ev_iVE ht (l:=l) (by omega)
 rw [hl] at hv
 unfold jKa.f
 rw [iStV ht.1,h]
 refine Ev.bind hv (Ev.pos rfl (Ev.bind (Ev.now _) (Ev.pos rfl ?_)))
 unfold jLb.f
 refine Ev.bind (ev_mclosed ht hl (fun ha=>(stV_has h ha).1) c) ?_
 generalize clF t l a b c=s at *
 unfold ceEnd clE
 by_cases hf:0≤s.2.2
 ·rw [if_pos hf]
  obtain ⟨i,hi⟩:∃ i:Nat,s.2.2=(i:Int):=⟨s.2.2.toNat,by omega⟩
  have:=g.hi
  have:=g.lh
  obtain ⟨_,e1⟩:=ev_isolated (LO_gH g.g hn) (by omega) (f:=i) (by omega)
  refine Ev.pos hf ?_
  rw [hi,Int.toNat_natCast]
  exact Ev.bind e1 (Ev.now _)
 ·rw [if_neg hf]
  exact Ev.neg hf (Ev.now _)
def stO (s : MSt) : Bool × Int × Int × Bool := if 0 ≤ s.2.2 then (true, (jo s.2.1 s.2.2).f0, (jo s.2.1 s.2.2).f1, true) else (false, 0, 0, true)
theorem ev_StartOf {t : List Cl} (ht : TS t) {l : List Ex} (hl : exsB t l = true) {a : Bool} {b c : Int} (h : stV t a b c = true) : Ev (fun k => jGa.f k t (clE (clF t l a b c)).1 (clE (clF t l a b c)).2.1 (clE (clF t l a b c)).2.2.1 (clE (clF t l a b c)).2.2.2) (stO (clF t l a b c)) := by
 obtain ⟨e1,e2,e3⟩:=exsB_in2 hl
 obtain ⟨g,hn,_,hD⟩:=clF_keeps hl h
 have hv:=ev_ValidTree ht
 rw [e2] at hv
 generalize clF t l a b c=s at *
 unfold jGa.f stO
 refine Ev.bind hv (Ev.pos rfl ?_)
 by_cases hf:0≤s.2.2
 ·rw [if_pos hf]
  obtain ⟨i,hi⟩:∃ i:Nat,s.2.2=(i:Int):=⟨s.2.2.toNat,by omega⟩
  have hlt:i<s.2.1.length:=by have:=g.hi;omega
  have hlh:=g.lh
  have hLO:=LO_gH g.g hn
  have hE:clE s=(s.1,2,ixOf (rchL s.2.1 i) (i:Int),isoH s.2.1 (rchL s.2.1 i)):=by unfold clE;rw [if_pos hf,hi,Int.toNat_natCast]
  rw [hE]
  have hin:∀ x ∈ rchL s.2.1 i,x<s.2.1.length:=fun x hx=>((mem_rchL hLO hlt).mp hx).lt hLO hlt
  have hll:=rchL_len s.2.1 i
  have hsz:(isoH s.2.1 (rchL s.2.1 i)).length≤9:=by simp only [isoH,List.length_map];omega
  have hHV:=(hD.iso hin (rchL_asc s.2.1 i)).hv e2 (by omega)
  obtain ⟨j,j1,j2,j3,j4⟩:=isoH_at (H:=s.2.1) (L:=rchL s.2.1 i) (f:=i) ((mem_rchL hLO hlt).mpr .here)
  have hG:=iGood ht (h:=isoH s.2.1 (rchL s.2.1 i)) (by omega) (j:Int)
  rw [show gB t (isoH s.2.1 (rchL s.2.1 i)) (j:Int)=true from gB_iff.mpr ⟨hHV,j,rfl,j1⟩] at hG
  rw [j2,hi]
  refine Ev.neg (show ¬ ((2:Int)=0) by omega) (Ev.pos rfl (Ev.bind hG (Ev.pos rfl (Ev.pos (show (0:Int)≤(j:Int) by omega) (Ev.pos (show (j:Int)<((isoH s.2.1 (rchL s.2.1 i)).length:Int) by omega) ?_)))))
  have w1:(jo (isoH s.2.1 (rchL s.2.1 i)) (j:Int)).f0=(jo s.2.1 (i:Int)).f0:=j3
  have w2:(jo (isoH s.2.1 (rchL s.2.1 i)) (j:Int)).f1=(jo s.2.1 (i:Int)).f1:=j4
  rw [← w1,← w2]
  exact Ev.now _
 ·rw [if_neg hf]
  have hE:clE s=(s.1,0,0,[]):=by unfold clE;rw [if_neg hf]
  rw [hE]
  exact Ev.pos rfl (Ev.now _)
theorem stO_stV {t : List Cl} {l : List Ex} (hl : exsB t l = true) {a : Bool} {b c : Int} (h : stV t a b c = true) : stV t (stO (clF t l a b c)).1 (stO (clF t l a b c)).2.1 (stO (clF t l a b c)).2.2.1 = true := by
 obtain ⟨g,_,_,hD⟩:=clF_keeps hl h
 generalize clF t l a b c=s at *
 unfold stO
 by_cases hf:0≤s.2.2
 ·rw [if_pos hf]
  obtain ⟨i,hi⟩:∃ i:Nat,s.2.2=(i:Int):=⟨s.2.2.toNat,by omega⟩
  have hlt:i<s.2.1.length:=by have:=g.hi;omega
  obtain ⟨d1,d2,_⟩:=hD i hlt
  have:stV t true (jo s.2.1 (i:Int)).f0 (jo s.2.1 (i:Int)).f1=true:=by
   unfold stV
   rw [if_pos rfl,u0,u1,d1,d2]
   rfl
  rw [hi]
  exact this
 ·rw [if_neg hf];rfl
theorem stO_sim {lg : List Int} {s r : MSt} (h : Sim lg s r) : stO s = stO r := by
 unfold stO
 rcases h.2 with h | ⟨h1,h2,h3,h4⟩
 ·rw [if_neg (by omega),if_neg (by omega)]
 ·rw [if_pos h1,if_pos h2,h3,h4]
theorem clE_log (s : MSt) : (clE s).1 = s.1 := by unfold clE; split <;> rfl
theorem clE_sim {lg : List Int} {s r : MSt} (h : Sim lg s r) : (clE s).1 = lg ++ (clE r).1 ∧ (clE s).2.1 = (clE r).2.1 := by
 rw [clE_log,clE_log]
 refine ⟨h.1,?_⟩
 unfold clE
 rcases h.2 with h | ⟨h1,h2,h3,h4⟩
 ·rw [if_neg (by omega),if_neg (by omega)]
 ·rw [if_pos h1,if_pos h2]
theorem sim_start (s : MSt) : Sim s.1 s (st0 (stO s).1 (stO s).2.1 (stO s).2.2.1) := by
 unfold stO
 by_cases hf:0≤s.2.2
 ·rw [if_pos hf]
  exact ⟨by simp [st0], .inr ⟨hf,by simp [st0],rfl,rfl⟩⟩
 ·rw [if_neg hf]
  exact ⟨by simp [st0], .inl ⟨by omega,by simp [st0]⟩⟩
theorem stO_four (s : MSt) : (stO s).2.2.2 = true := by unfold stO; split <;> rfl
theorem clF_log {t : List Cl} {l : List Ex} (hl : exsB t l = true) {a : Bool} {b c : Int} (h : stV t a b c = true) : (clE (clF t l a b c)).1.length ≤ 8 := by
 obtain ⟨e1,e2,e3⟩:=exsB_in2 hl
 have:=(clF_keeps hl h).1.ll
 rw [clE_log];omega
end Go.Proofs.Ytlhfcmbkjddgiaa.Pure
end
