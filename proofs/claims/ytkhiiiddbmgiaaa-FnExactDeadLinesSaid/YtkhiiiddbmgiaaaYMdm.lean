/- One part of the proofs on this program: functions of the program as plain functions, that the code comes to them, and facts on them. -/
import Derived.Test.YtkhiiiddbmgiaaaYAll3
import Derived.Test.YtkhiiiddbmgiaaaYAll4
import Derived.Test.YtkhiiiddbmgiaaaYAll6
import Derived.Test.YtkhiiiddbmgiaaaYMdl
import Derived.Test.YtkhiiiddbmgiaaaYMi
section
set_option linter.unusedSimpArgs false
set_option linter.unusedVariables false
namespace Go.Proofs.Ytkhiiiddbmgiaaa.Pure
open Go Go.RowKit Go.Proofs.Ytkhiiiddbmgiaaa.P Go.Proofs.YtkhiiiddbmgiaaaW.PrintWords
set_option linter.unusedVariables false
theorem vc_sorted : ∀ (ks : List Int) (ex : Int) (q : Option Int) (r : Int), vcGo ks ex q = some r → ks.Pairwise (· ≤ ·) ∧ ∀ q', q = some q' → ∀ k ∈ ks, q' ≤ k
 | [],_,_,_,_=>⟨List.Pairwise.nil,by simp⟩
 | k :: ks,ex,q,r,h=>by
  rw [vcGo] at h
  by_cases c:badK k (if k=8 then ex+1 else ex) q=true
  ·rw [if_pos c] at h;cases h
  ·rw [if_neg c] at h
   obtain ⟨h1,h2⟩:=vc_sorted ks _ _ r h
   refine ⟨List.pairwise_cons.mpr ⟨h2 k rfl,h1⟩,fun q' e x hx=>?_⟩
   subst e
   have hk:q'≤k:=by
    rcases Int.lt_or_le k q' with g | g
    ·exact absurd (by simp [badK,g]) c
    ·exact g
   rcases List.mem_cons.mp hx with rfl | hx
   ·exact hk
   ·have:=h2 k rfl x hx;omega
theorem chain_eights {t : List Cl} {p : List Ln} (hv : jlb t p) {T i : Nat} (hT : T < p.length) (h7 : kd p T = 7) (hi : i ∈ jZa p T) (h8 : kd p i = 8) : ∀ e ∈ jZa p T, e < i → kd p e = 8 := by
 have h:=(hv.2.2 T hT).2.2.2.1 h7
 unfold vcB finB at h
 cases hg:vcGo ((jZa p T).map (kd p)) 0 none with
 | none=>rw [hg] at h;cases h
 | some r =>
  have hs:=(vc_sorted _ _ _ _ hg).1
  rw [List.pairwise_map] at hs
  have ha:=(chainN_asc (p:=p) (d:=dp p T) p.length (bEnd p T)).2
  intro e he hlt
  have hF:=isF_iff.mp (jRb he).2.2.2
  have hle:kd p e≤kd p i:=by
   have hb:(jZa p T).Pairwise (fun x y=>x<y∧kd p x≤kd p y):=List.Pairwise.and ha hs
   rcases List.pairwise_iff_getElem.mp hb with hp
   obtain ⟨a,ha1,rfl⟩:=List.getElem_of_mem he
   obtain ⟨b,hb1,rfl⟩:=List.getElem_of_mem hi
   rcases Nat.lt_trichotomy a b with g | g | g
   ·exact (hp a b ha1 hb1 g).2
   ·subst g;exact Int.le_refl _
   ·have:=(hp b a hb1 ha1 g).1;omega
  omega
theorem dvL_kd (t : List Cl) (p : List Ln) : ∀ (es : List Nat) (acc : List Int), ∀ x ∈ dvL t p es acc, kd p x.1 = 8
 | [],acc,x,h=>by simp [dvL] at h
 | e :: es,acc,x,h=>by
  unfold dvL at h
  split at h
  ·rename_i h8
   rcases List.mem_cons.mp h with rfl | h
   ·exact h8
   ·exact dvL_kd t p es _ x h
  ·exact dvL_kd t p es _ x h
theorem dvA_kd (t : List Cl) (p : List Ln) : ∀ (n i : Nat), ∀ x ∈ dvA t p n i, kd p x.1 = 8
 | 0,i,x,h=>by simp [dvA] at h
 | n+1,i,x,h=>by
  unfold dvA at h
  rcases List.mem_append.mp h with h | h
  ·split at h
   ·exact dvL_kd t p _ _ x h
   ·cases h
  ·exact dvA_kd t p n _ x h
theorem dvA_mem (t : List Cl) (p : List Ln) {x : Nat × Bool} {T : Nat} (h : x ∈ dvL t p (chain p T) []) (h7 : kd p T = 7) : ∀ (n i : Nat), i ≤ T → T < i + n → x ∈ dvA t p n i
 | 0,i,a,b=>by omega
 | n+1,i,a,b=>by
  unfold dvA
  rcases Nat.lt_or_ge i T with g | g
  ·exact List.mem_append.mpr (.inr (dvA_mem t p h h7 n (i+1) g (by omega)))
  ·obtain rfl:i=T:=by omega
   exact List.mem_append.mpr (.inl (by rw [if_pos h7];exact h))
theorem dvL_mem (t : List Cl) (p : List Ln) {i : Nat} (h8 : kd p i = 8) : ∀ (es : List Nat) (acc : List Int), es.Pairwise (· < ·) → i ∈ es → (∀ e ∈ es, e < i → kd p e = 8) → (i, (acc ++ (es.takeWhile (fun e => decide (e < i))).map (la p)).any (fun b => isAB t (la p i) b)) ∈ dvL t p es acc
 | [],acc,_,h,_=>by cases h
 | e :: es,acc,hp,h,hk=>by
  rw [List.pairwise_cons] at hp
  unfold dvL
  rcases List.mem_cons.mp h with rfl | h
  ·rw [if_pos h8,List.takeWhile_cons,if_neg (by simp)]
   simp
  ·have hlt:=hp.1 i h
   rw [if_pos (hk e List.mem_cons_self hlt),List.takeWhile_cons,if_pos (by simpa using hlt)]
   have ih:=dvL_mem t p h8 es (acc ++ [la p e]) hp.2 h (fun x hx=>hk x (List.mem_cons_of_mem _ hx))
   rw [List.append_assoc] at ih
   exact List.mem_cons_of_mem _ ih
theorem ev_sde {t : List Cl} {p : List Ln} (ht : t.length ≤ 1048576) (hv : jlb t p) {i : Nat} (hi : i < p.length) (h8 : kd p i = 8) {C : List Nat} (hC : ∀ c ∈ C, c < p.length) (hl : C.length ≤ 1048576) : ∀ (r : List Nat) (n : Nat), C.drop n = r → n ≤ C.length →
  Ev (fun k=>jC.l0 k p i (ci C) n t) ((r.takeWhile (fun e=>decide (e<i))).any (fun e=>isAB t (la p i) (la p e)))
 | [],n,h,hn=>by
  have hc:=ci_end h
  refine Ev.step (fun k=>by rw [jC.l0]) (Ev.neg (by rw [jkb];omega) ?_)
  refine Ev.step (fun k=>by rw [jC.j1]) ?_
  exact Ev.neg (by simp) (Ev.now _)
 | c :: r,n,h,hn=>by
  obtain ⟨h1,h2,h3⟩:=ci_drop h
  have hc:c<p.length:=hC c (List.mem_of_mem_drop (h ▸ List.mem_cons_self))
  refine Ev.step (fun k=>by rw [jC.l0]) (Ev.pos (by rw [jkb];omega) (Ev.pos (by omega) ?_))
  rw [h2]
  refine Ev.step (fun k=>by rw [jC.j1]) ?_
  rw [h2,List.takeWhile_cons]
  by_cases hlt:c<i
  ·rw [if_pos (by simpa using hlt),List.any_cons]
   obtain ⟨l1,l2⟩:=la_has hv hi h8
   refine Ev.pos (by simpa using hlt) (Ev.pos (by omega) (Ev.pos (by omega) (Ev.pos (by omega) (Ev.pos (by rw [jkb];omega) (Ev.pos (by omega) (Ev.pos (by omega) ?_))))))
   simp only [r2]
   have hx:=ev_sIsA ht hv.1 l2 l1 (la p c)
   by_cases q:isAB t (la p i) (la p c)=true
   ·rw [q] at hx ⊢
    exact Ev.bind hx (Ev.pos rfl (Ev.now _))
   ·have q':isAB t (la p i) (la p c)=false:=by simpa using q
    rw [q'] at hx ⊢
    rw [wS (by omega),Bool.false_or]
    exact Ev.bind hx (Ev.neg (by simp) (ev_sde ht hv hi h8 hC hl r (n+1) h3 (by omega)))
  ·rw [if_neg (by simpa using hlt)]
   exact Ev.neg (by simpa using hlt) (Ev.now _)
theorem ev_deadExcept {t : List Cl} {p : List Ln} (ht : t.length ≤ 1048576) (hv : jlb t p) {i : Nat} (hi : i < p.length) : Ev (fun k => jC.f k t p i) (dvS t p (i : Int)) := by
 have hp:=hv.2.1
 unfold jC.f
 simp only [r1]
 refine Ev.pos (by omega) (Ev.pos (by omega) ?_)
 by_cases h8:kd p i=8
 ·have hk:inTry p i:=.inr (isF_iff.mpr ⟨by omega,by omega⟩)
  have hT:=thd_is hv hi hk
  have hlt:thd p i<p.length:=by have:=hT.le;omega
  have hm:i ∈ jZa p (thd p i):=by
   rcases List.mem_cons.mp hT.mem with g | g
   ·have:=hT.try_;rw [← g] at this;omega
   ·exact g
  have hl:(jZa p (thd p i)).length≤p.length:=chain_len p _ p.length _
  have he:=chain_eights hv hlt hT.try_ hm h8
  have hd:=dvL_mem t p h8 (jZa p (thd p i)) [] (chainN_asc _ _).2 hm he
  have hdv:dvL t p (chain p (thd p i)) []=dvL t p (jZa p (thd p i)) []:=by
   show dvL t p (thd p i :: jZa p (thd p i)) []=_
   rw [dvL,if_neg (by have:=hT.try_;omega)]
  rw [← hdv] at hd
  have hA:=dvA_mem t p hd hT.try_ p.length 0 (by omega) (by omega)
  have hS:dvS t p (i:Int)=_:=updV_in (dvA_keys hv p.length 0 rfl).2 hA
  rw [hS,List.nil_append,List.any_map]
  refine Ev.pos h8 (Ev.bind (ev_sTryOf (by omega) hv hi hk) (Ev.bind (ev_chainOf (by omega) hlt) ?_))
  exact ev_sde ht hv hi h8 (chain_lt hlt) (by rw [chain,List.length_cons];omega) (jZa p (thd p i)) 1 rfl (by rw [chain,List.length_cons];omega)
 ·have hS:dvS t p (i:Int)=false:=updV_not (fun x hx e=>h8 (by rw [show i=x.1 from Int.ofNat.inj e];exact dvA_kd t p _ _ x hx))
  rw [hS]
  exact Ev.neg h8 (Ev.now _)
theorem ev_sDL {t : List Cl} {p : List Ln} (ht : t.length ≤ 1048576) (hv : jlb t p) : ∀ (n i : Nat), n + i = p.length → Ev (fun k => jl.l0 k p (ci ((List.range' 0 i).filter (fun j => dlG p (dvS t p) j))) i t) (ci ((List.range' 0 p.length).filter (fun j => dlG p (dvS t p) j)))
 | 0,i,h=>by
  obtain rfl:i=p.length:=by omega
  exact Ev.step (fun k=>by rw [jl.l0]) (Ev.neg (by omega) (Ev.now _))
 | n+1,i,h=>by
  have hp:=hv.2.1
  have hi:i<p.length:=by omega
  have ih:=ev_sDL ht hv n (i+1) (by omega)
  have hlen:((List.range' 0 i).filter (fun j=>dlG p (dvS t p) j)).length≤i:=by
   have:=List.length_filter_le (fun j=>dlG p (dvS t p) j) (List.range' 0 i)
   rwa [List.length_range'] at this
  have e:List.range' 0 (i+1)=List.range' 0 i ++ [i]:=by rw [List.range'_concat];simp
  rw [e,List.filter_append] at ih
  have j2:∀ b:Bool,b=dlG p (dvS t p) i→Ev (fun k=>jl.j2 k p (ci ((List.range' 0 i).filter (fun j=>dlG p (dvS t p) j))) i b t) (ci ((List.range' 0 p.length).filter (fun j=>dlG p (dvS t p) j))):=by
   intro b hb
   refine Ev.step (fun k=>by rw [jl.j2]) ?_
   rw [wS (by omega)]
   cases b with
   | true =>
    rw [List.filter_cons_of_pos hb.symm] at ih
    refine Ev.pos rfl (Ev.pos (by rw [jkb];omega) ?_)
    simpa [ci] using ih
   | false =>
    rw [List.filter_cons_of_neg (by simp [← hb])] at ih
    refine Ev.neg (by simp) ?_
    simpa using ih
  have hG:=dlG_iff hv (dvS t p) hi
  have j1:∀ b:Bool,(b=true ↔ bjD p i i=true∨dvS t p (i:Int)=true)→Ev (fun k=>jl.j1 k p (ci ((List.range' 0 i).filter (fun j=>dlG p (dvS t p) j))) i b t) (ci ((List.range' 0 p.length).filter (fun j=>dlG p (dvS t p) j))):=by
   intro b hb
   refine Ev.step (fun k=>by rw [jl.j1]) (Ev.bind (ev_sEnc (by omega) hi) ?_)
   cases hE:enc p i with
   | nil =>
    rw [hE] at hG
    refine Ev.neg (by simp [ci]) (j2 b ?_)
    rw [Bool.eq_iff_iff,hG,hb]
    simp
   | cons up r =>
    rw [hE] at hG
    have hup:up<i:=((mem_enc hv.dr hi (m:=up)).mp (by rw [hE];exact List.mem_cons_self)).1
    have hrd:rd (ci (up :: r)) 0=(up:Int):=rfl
    rw [hrd]
    have hG2:dlG p (dvS t p) i=true ↔ (b=true∨dlG p (dvS t p) up=true∨(kd p up=12∧la p up=0)):=by
     rw [hG,hb]
     constructor
     ·rintro (h | h | ⟨u,r',h1,h2⟩)
      ·exact .inl (.inl h)
      ·exact .inl (.inr h)
      ·injection h1 with h1 _;subst h1;exact .inr h2
     ·rintro ((h | h) | h)
      ·exact .inl h
      ·exact .inr (.inl h)
      ·exact .inr (.inr ⟨up,r,rfl,h⟩)
    refine Ev.pos (by simp [ci]) (Ev.pos (by simp [ci]) ?_)
    cases b with
    | true=>exact Ev.pos rfl (j2 true (hG2.mpr (.inl rfl)).symm)
    | false =>
     refine Ev.neg (by simp) (Ev.bind (ev_hasInt _ (by omega) (up:Int)) ?_)
     have hh:hasN (up:Int) ((List.range' 0 i).filter (fun j=>dlG p (dvS t p) j))=dlG p (dvS t p) up:=by
      rw [Bool.eq_iff_iff,hasN_iff]
      constructor
      ·rintro ⟨a,h1,h2⟩
       obtain rfl:a=up:=Int.ofNat.inj h2
       exact (List.mem_filter.mp h1).2
      ·intro h1
       exact ⟨up,List.mem_filter.mpr ⟨by rw [List.mem_range'_1];omega,h1⟩,rfl⟩
     rw [hh]
     cases hu:dlG p (dvS t p) up with
     | true=>exact Ev.pos rfl (j2 true (hG2.mpr (.inr (.inl hu))).symm)
     | false =>
      refine Ev.neg (by simp) (Ev.pos (by omega) (Ev.pos (by omega) ?_))
      simp only [r1,r2]
      by_cases k12:kd p up=12
      ·refine Ev.pos k12 (j2 _ ?_)
       rw [Bool.eq_iff_iff,hG2]
       simp [hu,k12]
      ·refine Ev.neg k12 (j2 _ ?_)
       rw [Bool.eq_iff_iff,hG2]
       simp [hu,k12]
  refine Ev.step (fun k=>by rw [jl.l0]) (Ev.pos (by omega) (Ev.bind (ev_behindJump (by omega) hi) ?_))
  by_cases d:bjD p i i=true
  ·exact Ev.pos d (j1 true ⟨fun _=>.inl d,fun _=>rfl⟩)
  ·exact Ev.neg d (Ev.bind (ev_deadExcept ht hv hi) (j1 _ ⟨.inr,fun h=>h.resolve_left d⟩))
theorem ev_DeadLines {p : List Ln} {t : List Cl} (hp : p.length ≤ 1048576) (ht : TS t) : Ev (fun k => jl.f k t p) (dlP t p) ∧ Ev (fun k => jka.f k t p) (dlP t p) := by
 refine ⟨?_,ev_iDeadLines hp ht⟩
 unfold jl.f dlP
 have h1:=sValid hp ht
 cases hv:vB t p with
 | false =>
  rw [hv] at h1
  rw [if_neg (by simp)]
  exact Ev.bind h1 (Ev.neg (by simp) (Ev.now _))
 | true =>
  rw [hv] at h1
  rw [if_pos rfl]
  exact Ev.bind h1 (Ev.pos rfl (ev_sDL ht.1 (vB_iff.mp hv) p.length 0 rfl))
end Go.Proofs.Ytkhiiiddbmgiaaa.Pure
end
