/- One part of the proofs on this program: functions of the program as plain functions, that the code comes to them, and facts on them. -/
import Derived.Test.YtkhiiiddbmgiaaaYAll5
import Derived.Test.YtkhiiiddbmgiaaaYAll6
import Derived.Test.YtkhiiiddbmgiaaaYMj
import Derived.Test.YtkhiiiddbmgiaaaYMpr
import Derived.Test.YtkhiiiddbmgiaaaYMw2
section
set_option linter.unusedSimpArgs false
set_option linter.unusedVariables false
namespace Go.Proofs.Ytkhiiiddbmgiaaa.Pure
open Go Go.RowKit Go.Proofs.Ytkhiiiddbmgiaaa.P Go.Proofs.YtkhiiiddbmgiaaaW.PrintWords
set_option linter.unusedVariables false
noncomputable def dvL (t : List Cl) (p : List Ln) : List Nat → List Int → List (Nat × Bool)
 | [],_=>[]
 | e :: es,acc=>if kd p e=8 then (e,acc.any (fun b=>isAB t (la p e) b)) :: dvL t p es (acc ++ [la p e]) else dvL t p es acc
noncomputable def dvA (t : List Cl) (p : List Ln) : Nat → Nat → List (Nat × Bool)
 | 0,_=>[]
 | n+1,i=>(if kd p i=7 then dvL t p (chain p i) [] else []) ++ dvA t p n (i+1)
def updV (S : Int → Bool) (V : List (Nat × Bool)) : Int → Bool := V.foldl (fun S x => fun y => if y = (x.1 : Int) then x.2 else S y) S
theorem la_has {t : List Cl} {p : List Ln} (hv : jlb t p) {e : Nat} (he : e < p.length) (h8 : kd p e = 8) : -1 ≤ la p e ∧ la p e < t.length := by
 have h:=(hv.2.2 e he).1
 unfold numB at h
 rw [h8,if_neg (by omega),if_neg (by omega),if_pos rfl,Bool.and_eq_true] at h
 have h2:=h.1
 unfold hasB at h2
 rw [bw_iff] at h2
 omega
theorem ev_iFC {t : List Cl} (ht : t.length ≤ 1048576) (hv : treeB t = true) {a : Int} (h1 : a < t.length) (h2 : -1 ≤ a) : ∀ (L : List Int) (n : Nat), ∃ r, Ev (fun k => idxFrom (fun x => jjb.f k t a x) L n) r ∧ decide (r ≥ 0) = L.any (fun b => isAB t a b)
 | [],n=>⟨-1,Ev.now _,rfl⟩
 | x :: L,n=>by
  have hx:=ev_iIs ht hv h1 h2 x
  by_cases c:isAB t a x=true
  ·rw [c] at hx
   exact ⟨n,Ev.bind hx (Ev.pos rfl (Ev.now _)),by simp [c]⟩
  ·obtain ⟨r,e1,e2⟩:=ev_iFC ht hv h1 h2 L (n+1)
   have c':isAB t a x=false:=by simpa using c
   rw [c'] at hx
   exact ⟨r,Ev.bind hx (Ev.neg (by simp) e1),by rw [e2,List.any_cons,c',Bool.false_or]⟩
theorem ev_dxIn {t : List Cl} {p : List Ln} (ht : t.length ≤ 1048576) (hv : jlb t p) : ∀ (es : List Nat) (acc : List Int) (S : Int → Bool), (∀ e ∈ es, e < p.length) → Ev (fun k => dxIn k t p (ci es) acc S) (updV S (dvL t p es acc))
 | [],acc,S,_=>Ev.now _
 | e :: es,acc,S,h=>by
  have he:=h e List.mem_cons_self
  have ih:=fun acc S=>ev_dxIn ht hv es acc S (fun x hx=>h x (List.mem_cons_of_mem _ hx))
  show Ev (fun k=>dxIn k t p ((e:Int) :: ci es) acc S) _
  simp only [dxIn,r1,r2]
  refine Ev.pos (by omega) (Ev.pos (by omega) ?_)
  unfold dvL
  by_cases h8:kd p e=8
  ·rw [if_pos h8]
   obtain ⟨l1,l2⟩:=la_has hv he h8
   obtain ⟨r,e1,e2⟩:=ev_iFC ht hv.1 l2 l1 acc 0
   refine Ev.pos h8 (Ev.bind (show Ev (fun k=>jpb.f k t acc (la p e)) r from e1) ?_)
   rw [e2]
   exact ih _ _
  ·rw [if_neg h8]
   exact Ev.neg h8 (ih acc S)
theorem updV_append (S : Int → Bool) (V W : List (Nat × Bool)) : updV S (V ++ W) = updV (updV S V) W := by unfold updV; rw [List.foldl_append]
theorem ev_dxOut {t : List Cl} {p : List Ln} (ht : t.length ≤ 1048576) (hv : jlb t p) : ∀ (n i : Nat) (S : Int → Bool), n + i = p.length → Ev (fun k => dxOut k t p n i S) (updV S (dvA t p n i))
 | 0,i,S,_=>Ev.now _
 | n+1,i,S,h=>by
  have hp:=hv.2.1
  have hi:i<p.length:=by omega
  have ih:=fun S=>ev_dxOut ht hv n (i+1) S (by omega)
  simp only [dxOut,r1]
  unfold dvA
  by_cases h7:kd p i=7
  ·rw [if_pos h7,updV_append]
   have hl:(jZa p i).length≤p.length:=chain_len p (dp p i) p.length (bEnd p i)
   refine Ev.pos h7 (Ev.bind (ev_tryFrom (by omega) hi) (Ev.pos (by rw [jkb,chain,List.length_cons];unfold M6;omega) ?_))
   exact Ev.bind (ev_dxIn ht hv (chain p i) [] S (chain_lt hi)) (ih _)
  ·rw [if_neg h7,List.nil_append]
   exact Ev.neg h7 (ih S)
theorem dvL_keys (t : List Cl) (p : List Ln) : ∀ (es : List Nat) (acc : List Int), List.Sublist ((dvL t p es acc).map (·.1)) es
 | [],acc=>by simp [dvL]
 | e :: es,acc=>by
  unfold dvL
  split
  ·exact (dvL_keys t p es _).cons_cons e
  ·exact (dvL_keys t p es _).cons e
theorem dvA_keys {t : List Cl} {p : List Ln} (hv : jlb t p) : ∀ (n i : Nat), n + i = p.length → (∀ e ∈ (dvA t p n i).map (·.1), i ≤ thd p e) ∧ ((dvA t p n i).map (·.1)).Nodup
 | 0,i,_=>by simp [dvA]
 | n+1,i,h=>by
  obtain ⟨h1,h2⟩:=dvA_keys hv n (i+1) (by omega)
  unfold dvA
  by_cases h7:kd p i=7
  ·rw [if_pos h7,List.map_append]
   have hs:=dvL_keys t p (chain p i) []
   have hT:∀ e ∈ (dvL t p (chain p i) []).map (·.1),thd p e=i:=fun e he=>(thd_chain hv (by omega) h7 (hs.subset he)).1
   have hn:(chain p i).Nodup:=by
    obtain ⟨a,b⟩:=chainN_asc (p:=p) (d:=dp p i) p.length (bEnd p i)
    refine List.nodup_cons.mpr ⟨fun hm=>?_,b.imp (fun {x y} hxy=>Nat.ne_of_lt hxy)⟩
    have:=a i hm
    have:=jYa p i
    omega
   refine ⟨fun e he=>?_,List.nodup_append.mpr ⟨hs.nodup hn,h2,fun a ha b hb e=>?_⟩⟩
   ·rcases List.mem_append.mp he with he | he
    ·rw [hT e he];exact Nat.le_refl _
    ·have:=h1 e he;omega
   ·subst e
    have:=hT a ha
    have:=h1 a hb
    omega
  ·rw [if_neg h7,List.nil_append]
   exact ⟨fun e he=>by have:=h1 e he;omega,h2⟩
theorem updV_not {V : List (Nat × Bool)} : ∀ {S : Int → Bool} {y : Int}, (∀ x ∈ V, y ≠ (x.1 : Int)) → updV S V y = S y := by
 induction V with
 | nil=>intro S y _;rfl
 | cons x V ih =>
  intro S y h
  show updV _ V y=_
  rw [ih (fun z hz=>h z (List.mem_cons_of_mem _ hz))]
  exact if_neg (h x List.mem_cons_self)
theorem updV_in {V : List (Nat × Bool)} : ∀ {S : Int → Bool} {e : Nat} {b : Bool}, (V.map (·.1)).Nodup → (e, b) ∈ V → updV S V (e : Int) = b := by
 induction V with
 | nil=>intro S e b _ h;cases h
 | cons x V ih =>
  intro S e b hn h
  rw [List.map_cons,List.nodup_cons] at hn
  rcases List.mem_cons.mp h with rfl | h
  ·show updV _ V _=_
   have hno:∀ z ∈ V,(e:Int)≠(z.1:Int):=fun z hz he=>hn.1 (List.mem_map.mpr ⟨z,hz,(Int.ofNat.inj he).symm⟩)
   rw [updV_not hno]
   exact if_pos rfl
  ·exact ih hn.2 h
end Go.Proofs.Ytkhiiiddbmgiaaa.Pure
end
