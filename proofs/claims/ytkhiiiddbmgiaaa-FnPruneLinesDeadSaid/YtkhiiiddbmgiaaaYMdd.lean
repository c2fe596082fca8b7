/- One part of the proofs on this program: functions of the program as plain functions, that the code comes to them, and facts on them. -/
import Derived.Test.YtkhiiiddbmgiaaaYD4
import Derived.Test.YtkhiiiddbmgiaaaYD8
import Derived.Test.YtkhiiiddbmgiaaaYMj
import Derived.Test.YtkhiiiddbmgiaaaYMpr
import Derived.Test.YtkhiiiddbmgiaaaYMw2
section
set_option linter.unusedSimpArgs false
set_option linter.unusedVariables false
namespace Go.Proofs.Ytkhiiiddbmgiaaa.Pure
open Go Go.RowKit Go.Proofs.Ytkhiiiddbmgiaaa.P Go.Proofs.YtkhiiiddbmgiaaaW.PrintWords
set_option linter.unusedVariables false
theorem rd_drop {l : List Int} {n : Nat} {x : Int} {r : List Int} (h : l.drop n = x :: r) : n < l.length ∧ rd l (n : Int) = x ∧ l.drop (n + 1) = r := by
 have hl:n<l.length:=by
  rcases Nat.lt_or_ge n l.length with g | g
  ·exact g
  ·rw [List.drop_of_length_le g] at h;cases h
 rw [List.drop_eq_getElem_cons hl] at h
 injection h with h1 h2
 exact ⟨hl,by rw [← h1];simp [rd,List.getD_eq_getElem?_getD,hl],h2⟩
noncomputable def dvL (t : List Cl) (p : List Ln) : List Nat → List Int → List (Nat × Bool)
 | [],_=>[]
 | e :: es,acc=>if kd p e=8 then (e,acc.any (fun b=>isAB t (la p e) b)) :: dvL t p es (acc ++ [la p e]) else dvL t p es acc
noncomputable def dvA (t : List Cl) (p : List Ln) : Nat → Nat → List (Nat × Bool)
 | 0,_=>[]
 | n+1,i=>(if kd p i=7 then dvL t p (chain p i) [] else []) ++ dvA t p n (i+1)
def updV (S : Int → Bool) (V : List (Nat × Bool)) : Int → Bool := V.foldl (fun S x => fun y => if y = (x.1 : Int) then x.2 else S y) S
def dropped (V : List (Nat × Bool)) : List Nat := (V.filter (·.2)).map (·.1)
theorem dropped_append (V W : List (Nat × Bool)) : dropped (V ++ W) = dropped V ++ dropped W := by simp [dropped]
theorem la_has {t : List Cl} {p : List Ln} (hv : jyb t p) {e : Nat} (he : e < p.length) (h8 : kd p e = 8) : -1 ≤ la p e ∧ la p e < t.length := by
 have h:=(hv.2.2 e he).1
 unfold numB at h
 rw [h8,if_neg (by omega),if_neg (by omega),if_pos rfl,Bool.and_eq_true] at h
 have h2:=h.1
 unfold hasB at h2
 rw [bw_iff] at h2
 omega
theorem ev_sFC {t : List Cl} (ht : t.length ≤ 1048576) (hv : treeB t = true) {a : Int} (h1 : a < t.length) (h2 : -1 ≤ a) {acc : List Int} (hl : acc.length ≤ 1048576) : ∀ (L : List Int) (n : Nat), acc.drop n = L → n ≤ acc.length → ∃ r, Ev (fun k => jjb.l0 k acc a n t) r ∧ decide (r ≥ 0) = L.any (fun b => isAB t a b)
 | [],n,h,hn=>by
  have:acc.length≤n:=by simpa using h
  exact ⟨-1,Ev.step (fun k=>by rw [jjb.l0]) (Ev.neg (by omega) (Ev.now _)),rfl⟩
 | x :: L,n,h,hn=>by
  obtain ⟨g1,g2,g3⟩:=rd_drop h
  have hx:=ev_sIsA ht hv h1 h2 x
  by_cases c:isAB t a x=true
  ·rw [c] at hx
   refine ⟨n,Ev.step (fun k=>by rw [jjb.l0]) (Ev.pos (by omega) (Ev.pos (by omega) ?_)),by simp [c]⟩
   rw [g2]
   exact Ev.bind hx (Ev.pos rfl (Ev.now _))
  ·obtain ⟨r,e1,e2⟩:=ev_sFC ht hv h1 h2 hl L (n+1) g3 g1
   have c':isAB t a x=false:=by simpa using c
   rw [c'] at hx
   refine ⟨r,Ev.step (fun k=>by rw [jjb.l0]) (Ev.pos (by omega) (Ev.pos (by omega) ?_)),by rw [e2,List.any_cons,c',Bool.false_or]⟩
   rw [g2,wS (by omega)]
   exact Ev.bind hx (Ev.neg (by simp) e1)
theorem ev_iFC {t : List Cl} (ht : t.length ≤ 1048576) (hv : treeB t = true) {a : Int} (h1 : a < t.length) (h2 : -1 ≤ a) : ∀ (L : List Int) (n : Nat), ∃ r, Ev (fun k => idxFrom (fun x => jCb.f k t a x) L n) r ∧ decide (r ≥ 0) = L.any (fun b => isAB t a b)
 | [],n=>⟨-1,Ev.now _,rfl⟩
 | x :: L,n=>by
  have hx:=ev_iIs ht hv h1 h2 x
  by_cases c:isAB t a x=true
  ·rw [c] at hx
   exact ⟨n,Ev.bind hx (Ev.pos rfl (Ev.now _)),by simp [c]⟩
  ·obtain ⟨r,e1,e2⟩:=ev_iFC ht hv h1 h2 L (n+1)
   have c':isAB t a x=false:=by simpa using c
   rw [c'] at hx
   exact ⟨r,Ev.bind hx (Ev.neg (by simp) e1),by rw [e2,List.any_cons,c',Bool.false_or]⟩
theorem ev_dxIn {t : List Cl} {p : List Ln} (ht : t.length ≤ 1048576) (hv : jyb t p) : ∀ (es : List Nat) (acc : List Int) (S : Int → Bool), (∀ e ∈ es, e < p.length) → Ev (fun k => dxIn k t p (ci es) acc S) (updV S (dvL t p es acc))
 | [],acc,S,_=>Ev.now _
 | e :: es,acc,S,h=>by
  have he:=h e List.mem_cons_self
  have ih:=fun acc S=>ev_dxIn ht hv es acc S (fun x hx=>h x (List.mem_cons_of_mem _ hx))
  show Ev (fun k=>dxIn k t p ((e:Int) :: ci es) acc S) _
  simp only [dxIn,r1,r2]
  refine Ev.pos (by omega) (Ev.pos (by omega) ?_)
  unfold dvL
  by_cases h8:kd p e=8
  ·rw [if_pos h8]
   obtain ⟨l1,l2⟩:=la_has hv he h8
   obtain ⟨r,e1,e2⟩:=ev_iFC ht hv.1 l2 l1 acc 0
   refine Ev.pos h8 (Ev.bind (show Ev (fun k=>jHb.f k t acc (la p e)) r from e1) ?_)
   rw [e2]
   exact ih _ _
  ·rw [if_neg h8]
   exact Ev.neg h8 (ih acc S)
theorem updV_append (S : Int → Bool) (V W : List (Nat × Bool)) : updV S (V ++ W) = updV (updV S V) W := by unfold updV; rw [List.foldl_append]
theorem ev_dxOut {t : List Cl} {p : List Ln} (ht : t.length ≤ 1048576) (hv : jyb t p) : ∀ (n i : Nat) (S : Int → Bool), n + i = p.length → Ev (fun k => dxOut k t p n i S) (updV S (dvA t p n i))
 | 0,i,S,_=>Ev.now _
 | n+1,i,S,h=>by
  have hp:=hv.2.1
  have hi:i<p.length:=by omega
  have ih:=fun S=>ev_dxOut ht hv n (i+1) S (by omega)
  simp only [dxOut,r1]
  unfold dvA
  by_cases h7:kd p i=7
  ·rw [if_pos h7,updV_append]
   have hl:(jHa p i).length≤p.length:=chain_len p (dp p i) p.length (bEnd p i)
   refine Ev.pos h7 (Ev.bind (ev_tryFrom (by omega) hi) (Ev.pos (by rw [jOb,chain,List.length_cons];unfold M6;omega) ?_))
   exact Ev.bind (ev_dxIn ht hv (chain p i) [] S (chain_lt hi)) (ih _)
  ·rw [if_neg h7,List.nil_append]
   exact Ev.neg h7 (ih S)
theorem ev_sdl2 {p : List Ln} (hp : p.length ≤ 1048576) {D : List Nat} (hD : D.length ≤ 1048576) : ∀ (n i : Nat) (acc : List Ln), p.length ≤ n + i → acc.length ≤ i → i ≤ p.length → Ev (fun k => jwa.l2 k p (ci D) acc i) (acc ++ prN (fun j => hasN (j : Int) D) p n i)
 | 0,i,acc,h,ha,hi=>by
  refine Ev.step (fun k=>by rw [jwa.l2]) ?_
  refine Ev.neg (by omega) ?_
  rw [prN,List.append_nil]
  exact Ev.now _
 | n+1,i,acc,h,ha,hi=>by
  refine Ev.step (fun k=>by rw [jwa.l2]) ?_
  unfold prN
  by_cases h1:i<p.length
  ·rw [if_pos h1]
   refine Ev.pos (by omega) (Ev.bind (ev_hasInt D hD i) ?_)
   by_cases h2:hasN (i:Int) D=true
   ·rw [if_pos h2]
    have g1:=jNa p i
    exact Ev.pos h2 (Ev.bind (ev_blockEnd hp h1) (ev_sdl2 hp hD n (bEnd p i) acc (by omega) (by omega) (jEc h1)))
   ·rw [if_neg h2]
    refine Ev.neg h2 (Ev.pos (by omega) (Ev.pos (by omega) ?_))
    rw [wS (by omega)]
    have e:acc ++ p.getD i z52 :: prN (fun j=>hasN (j:Int) D) p n (i+1)=(acc ++ [jc p (i:Int)]) ++ prN (fun j=>hasN (j:Int) D) p n (i+1):=by
     rw [List.append_assoc];rfl
    rw [e]
    exact ev_sdl2 hp hD n (i+1) _ (by omega) (by rw [List.length_append,List.length_singleton];omega) h1
  ·rw [if_neg h1,List.append_nil]
   exact Ev.neg (by omega) (Ev.now _)
theorem ev_sdl1 {t : List Cl} {p : List Ln} (ht : t.length ≤ 1048576) (hv : jyb t p) {i : Nat} (hi : i < p.length) {C : List Nat} (hC : ∀ c ∈ C, c < p.length) (hC2 : C.length ≤ 1048576) {R : List Ln} :
  ∀ (r:List Nat) (n:Nat) (D:List Nat) (acc:List Int),C.drop n=r→n≤C.length→D.length+r.length≤1048576→acc.length+r.length≤1048576→Ev (fun k=>jwa.l0 k p (ci (D ++ dropped (dvL t p r acc))) ((i+1:Nat):Int) t) R →
  Ev (fun k=>jwa.l1 k p (ci D) i (ci C) acc n t) R
 | [],n,D,acc,h,hn,hb,hb2,hR=>by
  refine Ev.step (fun k=>by rw [jwa.l1]) ?_
  have hc:=ci_end h
  rw [wS (i:=i) (by have:=hv.2.1;omega)]
  refine Ev.neg (by rw [jOb];omega) ?_
  simpa [dvL,dropped] using hR
 | c :: r,n,D,acc,h,hn,hb,hb2,hR=>by
  obtain ⟨h1,h2,h3⟩:=ci_drop h
  have hc:c<p.length:=hC c (List.mem_of_mem_drop (h ▸ List.mem_cons_self))
  refine Ev.step (fun k=>by rw [jwa.l1]) ?_
  rw [h2,wS (i:=n) (by omega)]
  simp only [r1,r2]
  refine Ev.pos (by rw [jOb];omega) (Ev.pos (by omega) (Ev.pos (by omega) (Ev.pos (by omega) ?_)))
  simp only [List.length_cons] at hb hb2
  unfold dvL at hR
  by_cases h8:kd p c=8
  ·rw [if_pos h8] at hR
   obtain ⟨l1,l2⟩:=la_has hv hc h8
   obtain ⟨q,e1,e2⟩:=ev_sFC ht hv.1 l2 l1 (acc:=acc) (by omega) acc 0 rfl (by omega)
   refine Ev.pos h8 (Ev.bind (show Ev (fun k=>jjb.f k t acc (la p c)) q from e1) ?_)
   by_cases hq:q≥0
   ·rw [← e2,decide_eq_true hq] at hR
    refine Ev.pos hq (Ev.pos (by rw [jOb];omega) (Ev.pos (by omega) ?_))
    have e:ci D ++ [(c:Int)]=ci (D ++ [c]):=by simp [ci]
    rw [e]
    refine ev_sdl1 ht hv hi hC hC2 r (n+1) (D ++ [c]) _ h3 (by omega) (by rw [List.length_append,List.length_singleton];omega) (by rw [List.length_append,List.length_singleton];omega) ?_
    simpa [dropped] using hR
   ·rw [← e2,decide_eq_false hq] at hR
    refine Ev.neg hq (Ev.pos (by omega) ?_)
    refine ev_sdl1 ht hv hi hC hC2 r (n+1) D _ h3 (by omega) (by omega) (by rw [List.length_append,List.length_singleton];omega) ?_
    simpa [dropped] using hR
  ·rw [if_neg h8] at hR
   exact Ev.neg h8 (ev_sdl1 ht hv hi hC hC2 r (n+1) D acc h3 (by omega) (by omega) (by omega) hR)
theorem dvL_keys (t : List Cl) (p : List Ln) : ∀ (es : List Nat) (acc : List Int), List.Sublist ((dvL t p es acc).map (·.1)) es
 | [],acc=>by simp [dvL]
 | e :: es,acc=>by
  unfold dvL
  split
  ·exact (dvL_keys t p es _).cons_cons e
  ·exact (dvL_keys t p es _).cons e
theorem dvL_len (t : List Cl) (p : List Ln) (es : List Nat) (acc : List Int) : (dvL t p es acc).length ≤ es.length := by
 have:=(dvL_keys t p es acc).length_le
 simpa using this
theorem dropped_len (V : List (Nat × Bool)) : (dropped V).length ≤ V.length := by
 unfold dropped
 rw [List.length_map]
 exact List.length_filter_le _ _
theorem ev_sdl0 {t : List Cl} {p : List Ln} (ht : t.length ≤ 1048576) (hv : jyb t p) : ∀ (n i : Nat) (D : List Nat), n + i = p.length → D.length ≤ i * 25 → Ev (fun k => jwa.l0 k p (ci D) i t) (prN (fun j => hasN (j : Int) (D ++ dropped (dvA t p n i))) p p.length 0)
 | 0,i,D,h,hD=>by
  have hp:=hv.2.1
  refine Ev.step (fun k=>by rw [jwa.l0]) ?_
  refine Ev.neg (by omega) ?_
  have:=ev_sdl2 (p:=p) (by omega) (D:=D) (by omega) p.length 0 [] (by omega) (by simp) (by omega)
  simpa [dvA,dropped] using this
 | n+1,i,D,h,hD=>by
  have hp:=hv.2.1
  have hi:i<p.length:=by omega
  refine Ev.step (fun k=>by rw [jwa.l0]) ?_
  simp only [r1]
  refine Ev.pos (by omega) (Ev.pos (by omega) ?_)
  unfold dvA
  rw [dropped_append,← List.append_assoc]
  by_cases h7:kd p i=7
  ·have hl:(jHa p i).length≤p.length:=chain_len p (dp p i) p.length (bEnd p i)
   rw [if_pos h7]
   have hdv:dvL t p (chain p i) []=dvL t p (jHa p i) []:=by
    show dvL t p (i :: jHa p i) []=_
    rw [dvL,if_neg (by omega)]
   rw [hdv]
   refine Ev.pos h7 (Ev.bind (ev_chainOf (by omega) hi) ?_)
   have h2:=dropped_len (dvL t p (jHa p i) [])
   have h3:=dvL_len t p (jHa p i) []
   exact ev_sdl1 ht hv hi (chain_lt hi) (by rw [chain,List.length_cons];omega) (jHa p i) 1 D [] rfl (by rw [chain,List.length_cons];omega) (by omega) (by simp;omega) (ev_sdl0 ht hv n (i+1) _ (by omega) (by rw [List.length_append];omega))
  ·rw [if_neg h7]
   have e:D ++ dropped []=D:=by simp [dropped]
   rw [e,wS (by omega)]
   exact Ev.neg h7 (ev_sdl0 ht hv n (i+1) D (by omega) (by omega))
theorem dvA_keys {t : List Cl} {p : List Ln} (hv : jyb t p) : ∀ (n i : Nat), n + i = p.length → (∀ e ∈ (dvA t p n i).map (·.1), i ≤ thd p e) ∧ ((dvA t p n i).map (·.1)).Nodup
 | 0,i,_=>by simp [dvA]
 | n+1,i,h=>by
  obtain ⟨h1,h2⟩:=dvA_keys hv n (i+1) (by omega)
  unfold dvA
  by_cases h7:kd p i=7
  ·rw [if_pos h7,List.map_append]
   have hs:=dvL_keys t p (chain p i) []
   have hT:∀ e ∈ (dvL t p (chain p i) []).map (·.1),thd p e=i:=fun e he=>(thd_chain hv (by omega) h7 (hs.subset he)).1
   have hn:(chain p i).Nodup:=by
    obtain ⟨a,b⟩:=jcc (p:=p) (d:=dp p i) p.length (bEnd p i)
    refine List.nodup_cons.mpr ⟨fun hm=>?_,b.imp (fun {x y} hxy=>Nat.ne_of_lt hxy)⟩
    have:=a i hm
    have:=jNa p i
    omega
   refine ⟨fun e he=>?_,List.nodup_append.mpr ⟨hs.nodup hn,h2,fun a ha b hb e=>?_⟩⟩
   ·rcases List.mem_append.mp he with he | he
    ·rw [hT e he];exact Nat.le_refl _
    ·have:=h1 e he;omega
   ·subst e
    have:=hT a ha
    have:=h1 a hb
    omega
  ·rw [if_neg h7,List.nil_append]
   exact ⟨fun e he=>by have:=h1 e he;omega,h2⟩
theorem updV_not {V : List (Nat × Bool)} : ∀ {S : Int → Bool} {y : Int}, (∀ x ∈ V, y ≠ (x.1 : Int)) → updV S V y = S y := by
 induction V with
 | nil=>intro S y _;rfl
 | cons x V ih =>
  intro S y h
  show updV _ V y=_
  rw [ih (fun z hz=>h z (List.mem_cons_of_mem _ hz))]
  exact if_neg (h x List.mem_cons_self)
theorem updV_in {V : List (Nat × Bool)} : ∀ {S : Int → Bool} {e : Nat} {b : Bool}, (V.map (·.1)).Nodup → (e, b) ∈ V → updV S V (e : Int) = b := by
 induction V with
 | nil=>intro S e b _ h;cases h
 | cons x V ih =>
  intro S e b hn h
  rw [List.map_cons,List.nodup_cons] at hn
  rcases List.mem_cons.mp h with rfl | h
  ·show updV _ V _=_
   have hno:∀ z ∈ V,(e:Int)≠(z.1:Int):=fun z hz he=>hn.1 (List.mem_map.mpr ⟨z,hz,(Int.ofNat.inj he).symm⟩)
   rw [updV_not hno]
   exact if_pos rfl
  ·exact ih hn.2 h
theorem upd_has {V : List (Nat × Bool)} (hn : (V.map (·.1)).Nodup) (y : Nat) : updV (fun _ => false) V (y : Int) = hasN (y : Int) (dropped V) := by
 rw [Bool.eq_iff_iff,hasN_iff]
 constructor
 ·intro h
  by_cases c:∃ x ∈ V,(y:Int)=(x.1:Int)
  ·obtain ⟨⟨e,b⟩,h1,h2⟩:=c
   have h2':y=e:=Int.ofNat.inj h2
   subst h2'
   rw [updV_in hn h1] at h
   subst h
   exact ⟨y,by unfold dropped;exact List.mem_map.mpr ⟨(y,true),List.mem_filter.mpr ⟨h1,rfl⟩,rfl⟩,rfl⟩
  ·rw [updV_not (fun x hx e=>c ⟨x,hx,e⟩)] at h
   cases h
 ·rintro ⟨a,h1,h2⟩
  obtain ⟨⟨e,b⟩,h3,rfl⟩:=List.mem_map.mp h1
  obtain ⟨h4,h5⟩:=List.mem_filter.mp h3
  have h2':e=y:=Int.ofNat.inj h2
  subst h2'
  rw [updV_in hn h4]
  exact h5
noncomputable def drP (t : List Cl) (p : List Ln) : List Ln := if vB t p = true then prN (fun j => hasN (j : Int) (dropped (dvA t p p.length 0))) p p.length 0 else []
theorem drP_len (t : List Cl) (p : List Ln) : (drP t p).length ≤ p.length := by
 unfold drP
 split
 ·have:=prN_len (fun j=>hasN (j:Int) (dropped (dvA t p p.length 0))) p p.length 0 (by omega);omega
 ·simp
theorem ev_DropDead {p : List Ln} {t : List Cl} (hp : p.length ≤ 1048576) (ht : TS t) : Ev (fun k => spec_DropDead.f k t p) (drP t p) ∧ Ev (fun k => jgb.f k t p) (drP t p) := by
 unfold spec_DropDead.f jgb.f drP
 have h1:=sValid hp ht
 have h2:=iValid hp ht
 have ht2:=ht.1
 cases hv:vB t p with
 | false =>
  rw [hv] at h1 h2
  rw [if_neg (by simp)]
  exact ⟨Ev.bind h1 (Ev.neg (by simp) (Ev.now _)),Ev.bind h2 (Ev.neg (by simp) (Ev.now _))⟩
 | true =>
  rw [hv] at h1 h2
  rw [if_pos rfl]
  have hV:=vB_iff.mp hv
  have a:=ev_sdl0 ht2 hV p.length 0 [] rfl (by simp)
  rw [List.nil_append] at a
  have c:=ev_dxOut ht2 hV p.length 0 (fun _=>false) rfl
  have b:=ev_woG hp (updV (fun _=>false) (dvA t p p.length 0)) p.length 0 [] (by omega) (by simp) (by omega)
  rw [List.nil_append,show (fun j:Nat=>updV (fun _=>false) (dvA t p p.length 0) (j:Int))=(fun j:Nat=>hasN (j:Int) (dropped (dvA t p p.length 0))) from funext fun j=>upd_has (dvA_keys hV p.length 0 rfl).2 j] at b
  refine ⟨Ev.bind h1 (Ev.pos rfl (Ev.bind (show Ev (fun k=>jwa.f k t p) _ from a) (Ev.now _))),Ev.bind h2 (Ev.pos rfl (Ev.pos (by have:=hV.2.1;unfold M6;omega) (Ev.bind (show Ev (fun k=>dxF k t p) _ from c) b)))⟩
end Go.Proofs.Ytkhiiiddbmgiaaa.Pure
end
