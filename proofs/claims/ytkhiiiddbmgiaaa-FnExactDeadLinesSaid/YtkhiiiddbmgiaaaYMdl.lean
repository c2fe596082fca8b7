/- One part of the proofs on this program: functions of the program as plain functions, that the code comes to them, and facts on them. -/
import Derived.Test.YtkhiiiddbmgiaaaYAll6
import Derived.Test.YtkhiiiddbmgiaaaYMdd
import Derived.Test.YtkhiiiddbmgiaaaYMn
section
set_option linter.unusedSimpArgs false
set_option linter.unusedVariables false
namespace Go.Proofs.Ytkhiiiddbmgiaaa.Pure
open Go Go.RowKit Go.Proofs.Ytkhiiiddbmgiaaa.P Go.Proofs.YtkhiiiddbmgiaaaW.PrintWords
set_option linter.unusedVariables false
def dlG (p : List Ln) (S : Int → Bool) (i : Nat) : Bool := bjS p (i : Int) || (S (i : Int) || (enc p i).any (fun j => shutF p S (j : Int)))
theorem ev_shutIdx {p : List Ln} (S : Int → Bool) : ∀ (L : List Nat) (n : Nat), (∀ j ∈ L, j < p.length) → ∃ r, Ev (fun _ => idxFrom (fun x => shutO p S x) (ci L) n) r ∧ decide (r ≥ 0) = L.any (fun j => shutF p S (j : Int))
 | [],n,_=>⟨-1,Ev.now _,rfl⟩
 | j :: L,n,h=>by
  have hj:=h j List.mem_cons_self
  have hx:shutO p S (j:Int)=some (shutF p S (j:Int)):=by unfold shutO;rw [if_pos (by omega),if_pos (by omega)]
  show ∃ r,Ev (fun _=>(shutO p S (j:Int)).bind fun b=>if b=true then some (n:Int) else idxFrom (fun x=>shutO p S x) (ci L) (n+1)) r∧_
  rw [hx]
  by_cases c:shutF p S (j:Int)=true
  ·exact ⟨n,Ev.bind (Ev.now _) (Ev.pos c (Ev.now _)),by simp [c]⟩
  ·obtain ⟨r,e1,e2⟩:=ev_shutIdx S L (n+1) (fun x hx=>h x (List.mem_cons_of_mem _ hx))
   have c':shutF p S (j:Int)=false:=by simpa using c
   exact ⟨r,Ev.bind (Ev.now _) (Ev.neg c e1),by rw [e2,List.any_cons,c',Bool.false_or]⟩
theorem ev_dlN {t : List Cl} {p : List Ln} (hv : jlb t p) (S : Int → Bool) : ∀ (n i : Nat) (acc : List Int), n + i = p.length → Ev (fun k => dlN k p S n i acc) (acc ++ ci ((List.range' i n).filter (fun j => dlG p S j)))
 | 0,i,acc,_=>by
  show Ev (fun _=>some acc) _
  simpa [ci] using Ev.now (α:=List Int) acc
 | n+1,i,acc,h=>by
  have hp:=hv.2.1
  have hi:i<p.length:=by omega
  have ih:=fun acc=>ev_dlN hv S n (i+1) acc (by omega)
  have yes:dlG p S i=true→Ev (fun k=>dlN k p S n (i+1) (acc ++ [(i:Int)])) (acc ++ ci ((List.range' i (n+1)).filter (fun j=>dlG p S j))):=by
   intro hg
   have:=ih (acc ++ [(i:Int)])
   rw [List.range'_succ,List.filter_cons_of_pos hg]
   simpa [ci] using this
  have no:dlG p S i=false→Ev (fun k=>dlN k p S n (i+1) acc) (acc ++ ci ((List.range' i (n+1)).filter (fun j=>dlG p S j))):=by
   intro hg
   have:=ih acc
   rw [List.range'_succ,List.filter_cons_of_neg (by simp [hg])]
   exact this
  simp only [dlN]
  by_cases d1:bjS p (i:Int)=true
  ·exact Ev.pos d1 (yes (by simp [dlG,d1]))
  ·refine Ev.neg d1 ?_
   by_cases d2:S (i:Int)=true
   ·exact Ev.pos d2 (yes (by simp [dlG,d2]))
   ·refine Ev.neg d2 (Ev.bind (ev_iEnc (by omega) hv.dr hi) ?_)
    obtain ⟨r,e1,e2⟩:=ev_shutIdx S (enc p i) 0 (enc_lt hi)
    refine Ev.bind e1 ?_
    have d1':bjS p (i:Int)=false:=by simpa using d1
    have d2':S (i:Int)=false:=by simpa using d2
    have hG:dlG p S i=decide (r≥0):=by rw [e2,dlG,d1',d2',Bool.false_or,Bool.false_or]
    by_cases d3:r≥0
    ·exact Ev.pos d3 (yes (by rw [hG];exact decide_eq_true d3))
    ·exact Ev.neg d3 (no (by rw [hG];exact decide_eq_false d3))
theorem enc_cons {p : List Ln} {i up : Nat} {r : List Nat} (h : enc p i = up :: r) : r = enc p up := encN_next p _ _ up r h
theorem dlG_iff {t : List Cl} {p : List Ln} (hv : jlb t p) (S : Int → Bool) {i : Nat} (hi : i < p.length) :
  dlG p S i=true ↔ (bjD p i i=true∨S (i:Int)=true∨∃ up r,enc p i=up :: r∧(dlG p S up=true∨(kd p up=12∧la p up=0))):=by
 have hr:=hv.dr
 have he:=enc_deep hv hi
 constructor
 ·intro h
  simp only [dlG,Bool.or_eq_true] at h
  rcases h with h | h | h
  ·obtain ⟨m,h1,h2,h3⟩:=(bjS_iff hi).mp h
   cases hE:enc p i with
   | nil =>
    left
    have h0:dp p i=0:=by rw [← he.1,hE];rfl
    have hm0:=bw_iff.mp (hv.2.2 m (by omega)).2.1
    have hmi:=h3 i h1 (Nat.le_refl _)
    exact (bjD_iff p i i).mpr ⟨m,h1,h2,by omega,fun x a b=>by have:=h3 x a (by omega);omega⟩
   | cons up r =>
    have hup:=(mem_enc hr hi (m:=up)).mp (by rw [hE];exact List.mem_cons_self)
    have hd:dp p up=dp p i - 1:=by
     have:=he.2 0 (by rw [hE];simp)
     simp only [hE] at this
     simpa using this
    rcases Nat.lt_or_ge m up with g | g
    ·right;right
     exact ⟨up,r,rfl, .inl (by simp only [dlG,Bool.or_eq_true];exact .inl ((bjS_iff (by omega)).mpr ⟨m,g,h2,fun x a b=>h3 x a (by omega)⟩))⟩
    ·left
     have hne:m≠up:=by
      rintro rfl
      have:=isO_iff.mp hup.2.1
      simp only [jmpB,Bool.and_eq_true,decide_eq_true_eq] at h2
      omega
     have h4:=jfb (p:=p) (i:=up) (j:=m) (by omega) (by omega)
     have h5:=h3 i h1 (Nat.le_refl _)
     exact (bjD_iff p i i).mpr ⟨m,h1,h2,by omega,fun x a b=>by have:=h3 x a (by omega);omega⟩
  ·exact .inr (.inl h)
  ·obtain ⟨j,h1,h2⟩:=List.any_eq_true.mp h
   cases hE:enc p i with
   | nil=>rw [hE] at h1;cases h1
   | cons up r =>
    right;right
    refine ⟨up,r,rfl,?_⟩
    rw [hE] at h1
    rcases List.mem_cons.mp h1 with rfl | h1
    ·simp only [shutF,Bool.or_eq_true,Bool.and_eq_true,beq_iff_eq,r1,r2] at h2
     rcases h2 with h2 | h2
     ·exact .inr h2
     ·exact .inl (by simp only [dlG,Bool.or_eq_true];exact .inr (.inl h2))
    ·rw [enc_cons hE] at h1
     exact .inl (by simp only [dlG,Bool.or_eq_true];exact .inr (.inr (List.any_eq_true.mpr ⟨j,h1,h2⟩)))
 ·intro h
  simp only [dlG,Bool.or_eq_true]
  rcases h with h | h | ⟨up,r,hE,h⟩
  ·left
   obtain ⟨m,a,b,c,d⟩:=(bjD_iff p i i).mp h
   refine (bjS_iff hi).mpr ⟨m,a,b,fun x x1 x2=>?_⟩
   rcases Nat.lt_or_ge x i with e | e
   ·rw [c];exact d x x1 e
   ·rw [show x=i by omega,c];exact Int.le_refl _
  ·exact .inr (.inl h)
  ·have hup:=(mem_enc hr hi (m:=up)).mp (by rw [hE];exact List.mem_cons_self)
   have hany:∀ j,j ∈ enc p i→shutF p S (j:Int)=true→(enc p i).any (fun j=>shutF p S (j:Int))=true:=fun j a b=>List.any_eq_true.mpr ⟨j,a,b⟩
   have hmem:up ∈ enc p i:=by rw [hE];exact List.mem_cons_self
   rcases h with h | h
   ·simp only [dlG,Bool.or_eq_true] at h
    rcases h with h | h | h
    ·left
     obtain ⟨m,a,b,c⟩:=(bjS_iff (by omega)).mp h
     refine (bjS_iff hi).mpr ⟨m,by omega,b,fun x x1 x2=>?_⟩
     rcases Nat.lt_or_ge up x with e | e
     ·have h4:=jfb (p:=p) (i:=up) (j:=x) e (by omega)
      have h5:=c up a (Nat.le_refl _)
      omega
     ·exact c x x1 e
    ·exact .inr (.inr (hany up hmem (by simp [shutF,h])))
    ·obtain ⟨j,h1,h2⟩:=List.any_eq_true.mp h
     refine .inr (.inr (hany j ?_ h2))
     rw [hE,enc_cons hE]
     exact List.mem_cons_of_mem _ h1
   ·exact .inr (.inr (hany up hmem (by simp [shutF,r1,r2,h.1,h.2])))
noncomputable def dvS (t : List Cl) (p : List Ln) : Int → Bool := updV (fun _ => false) (dvA t p p.length 0)
noncomputable def dlP (t : List Cl) (p : List Ln) : List Int := if vB t p = true then ci ((List.range' 0 p.length).filter (fun j => dlG p (dvS t p) j)) else []
theorem dlP_len (t : List Cl) (p : List Ln) : (dlP t p).length ≤ p.length := by
 unfold dlP
 split
 ·rw [jkb]
  have:=List.length_filter_le (fun j=>dlG p (dvS t p) j) (List.range' 0 p.length)
  rwa [List.length_range'] at this
 ·simp
theorem ev_iDeadLines {p : List Ln} {t : List Cl} (hp : p.length ≤ 1048576) (ht : TS t) : Ev (fun k => jka.f k t p) (dlP t p) := by
 unfold jka.f dlP
 have h2:=iValid hp ht
 cases hv:vB t p with
 | false =>
  rw [hv] at h2
  rw [if_neg (by simp)]
  exact Ev.bind h2 (Ev.neg (by simp) (Ev.now _))
 | true =>
  rw [hv] at h2
  rw [if_pos rfl]
  have hV:=vB_iff.mp hv
  have c:=ev_dxOut ht.1 hV p.length 0 (fun _=>false) rfl
  have b:=ev_dlN hV (dvS t p) p.length 0 [] rfl
  rw [List.nil_append] at b
  exact Ev.bind h2 (Ev.pos rfl (Ev.pos (by have:=hV.2.1;unfold M6;omega) (Ev.bind (show Ev (fun k=>dxF k t p) (dvS t p) from c) b)))
end Go.Proofs.Ytkhiiiddbmgiaaa.Pure
end
