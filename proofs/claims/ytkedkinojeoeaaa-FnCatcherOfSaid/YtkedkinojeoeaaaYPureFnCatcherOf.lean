/- One part of the proofs on this program: functions of the program as plain functions, that the code comes to them, and facts on them. -/
import Derived.Test.YtkedkinojeoeaaaYAll10
import Derived.Test.YtkedkinojeoeaaaYAll7
import Derived.Test.YtkedkinojeoeaaaYAll8
import Derived.Test.YtkedkinojeoeaaaYAll9
import Derived.Test.YtkedkinojeoeaaaYDcat
import Derived.Test.YtkedkinojeoeaaaYMib
import Derived.Test.YtkedkinojeoeaaaYMn2
import Derived.Test.YtkedkinojeoeaaaYMs
section
set_option linter.unusedSimpArgs false
set_option linter.unusedVariables false
namespace Go.Proofs.Ytkedkinojeoeaaa.Pure
open Go Go.RowKit Go.Proofs.Ytkedkinojeoeaaa.P Go.Proofs.YtkedkinojeoeaaaW.PrintWords
set_option linter.unusedVariables false
def blN (t : List Cl) (c : Int) : Nat → Nat → List Nat
 | 0,_=>[]
 | n+1,i=>if isAB t (i:Int) c=true then i :: blN t c n (i+1) else blN t c n (i+1)
theorem blN_mem {t : List Cl} {c : Int} : ∀ (n i : Nat), ∀ b ∈ blN t c n i, b < i + n ∧ isAB t (b : Int) c = true
 | 0,i,b,h=>by simp [blN] at h
 | n+1,i,b,h=>by
  rw [blN] at h
  split at h
  ·rename_i hi
   rcases List.mem_cons.mp h with rfl | h
   ·exact ⟨by omega,hi⟩
   ·have:=blN_mem n (i+1) b h;exact ⟨by omega,this.2⟩
  ·have:=blN_mem n (i+1) b h;exact ⟨by omega,this.2⟩
theorem blN_len {t : List Cl} {c : Int} : ∀ (n i : Nat), (blN t c n i).length ≤ n
 | 0,i=>by simp [blN]
 | n+1,i=>by
  have:=blN_len (t:=t) (c:=c) n (i+1)
  rw [blN];split <;> simp <;> omega
theorem ev_filt {t : List Cl} (ht : t.length ≤ 1048576) (hv : jtc t = true) (c : Int) : ∀ (n i : Nat), i + n = t.length → Ev (fun k => jnc (fun x => jUa.f k t x c) n i) (ci (blN t c n i))
 | 0,i,_=>Ev.now _
 | n+1,i,h=>by
  simp only [jnc,blN]
  refine Ev.bind (ev_iIs ht hv (a:=(i:Int)) (by omega) (by omega) c) (Ev.bind (ev_filt ht hv c n (i+1) (by omega)) ?_)
  by_cases e:isAB t (i:Int) c=true
  ·rw [if_pos e,if_pos e];exact Ev.now _
  ·rw [if_neg e,if_neg e];exact Ev.now _
theorem ev_BelowOf {t : List Cl} (ht : TS t) (hv : jtc t = true) {c : Int} (hc : hasB t c = true) : Ev (fun k => jec.f k t c) (ci (blN t c t.length 0)) := by
 unfold jec.f
 refine Ev.bind (ev_classesIn ht c) ?_
 have h1:=ht.1
 exact Ev.pos (by simp [hv,hc]) (Ev.pos (by omega) (ev_filt h1 hv c _ 0 (by omega)))
theorem exF_mono {t : List Cl} {p : List Ln} {a b : Int} (h : ∀ x, isAB t a x = true → isAB t b x = true) : ∀ L : List Nat, (exF t p a L).isSome = true → (exF t p b L).isSome = true
 | [],h=>by simp [exF] at h
 | e :: r,hs=>by
  rw [exF] at hs ⊢
  by_cases c:kd p e=8∧isAB t b (la p e)=true
  ·rw [if_pos c];rfl
  ·rw [if_neg c]
   rw [if_neg (fun h2=>c ⟨h2.1,h _ h2.2⟩)] at hs
   exact exF_mono h r hs
theorem catB_mono {t : List Cl} {p : List Ln} {a b : Int} (h : ∀ x, isAB t a x = true → isAB t b x = true) (m : Nat) (hs : (catB t p a m).isSome = true) : (catB t p b m).isSome = true := by
 unfold catB at hs ⊢
 split
 ·rename_i h1;rw [if_pos h1] at hs;exact hs
 ·rename_i h1;rw [if_neg h1] at hs
  split
  ·rename_i h2;rw [if_pos h2] at hs;exact exF_mono h _ hs
  ·rename_i h2;rw [if_neg h2] at hs;exact hs
theorem catL_mono {t : List Cl} {p : List Ln} {a b : Int} (h : ∀ x, isAB t a x = true → isAB t b x = true) : ∀ L : List Nat, (catL t p a L).isSome = true → (catL t p b L).isSome = true
 | [],hs=>by simp [catL] at hs
 | m :: r,hs=>by
  rw [catL] at hs ⊢
  cases e:catB t p b m with
  | some z=>rfl
  | none =>
   have ea:catB t p a m=none:=by
    cases ea:catB t p a m with
    | none=>rfl
    | some z=>have:=catB_mono h m (by rw [ea];rfl);rw [e] at this;cases this
   rw [ea] at hs
   exact catL_mono h r hs
theorem exF_is {t : List Cl} {p : List Ln} {c : Int} : ∀ (L : List Nat) (e : Nat), exF t p c L = some e → e ∈ L ∧ kd p e = 8 ∧ isAB t c (la p e) = true
 | [],e,h=>by simp [exF] at h
 | a :: r,e,h=>by
  rw [exF] at h
  split at h
  ·rename_i hc
   injection h with h
   subst h
   exact ⟨by simp,hc⟩
  ·have:=exF_is r e h
   exact ⟨by simp [this.1],this.2⟩
theorem catL_is {t : List Cl} {p : List Ln} {c : Int} : ∀ (L : List Nat) (m e : Nat), catL t p c L = some (m, e) → m ∈ L ∧ ((kd p m = 11 ∧ lb p m = 1 ∧ e = m) ∨ (e ∈ jCb p m ∧ kd p e = 8 ∧ isAB t c (la p e) = true))
 | [],m,e,h=>by simp [catL] at h
 | a :: r,m,e,h=>by
  rw [catL] at h
  cases hb:catB t p c a with
  | none=>rw [hb] at h;have:=catL_is r m e h;exact ⟨by simp [this.1],this.2⟩
  | some z =>
   rw [hb] at h
   simp only [Option.some.injEq,Prod.mk.injEq] at h
   obtain ⟨rfl,rfl⟩:=h
   refine ⟨by simp,?_⟩
   unfold catB at hb
   split at hb
   ·split at hb
    ·injection hb with hb;exact .inl ⟨by assumption,by assumption,hb.symm⟩
    ·cases hb
   ·split at hb
    ·exact .inr (exF_is _ _ hb)
    ·cases hb
theorem cp2_neg (o : Option (Nat × Nat)) : (cp2 o).2 < 0 ↔ o = none := by
 cases o with
 | none=>simp [cp2]
 | some z=>simp [cp2] <;> omega
theorem FnCatcherOf : ji.Pure := by
 intro code _ _ hc
 refine Ev.rounds (g:=fun k=>ji.f k code) ?_
 unfold ji.f
 refine Ev.both (fun _=>Ev.now _) (fun _=>?_)
 obtain ⟨t,p,a,c,eD,hT,hp⟩:=ev_DrawCatcherOf (bytes_of hc)
 have hP:p.length≤1048576:=by omega
 have hS:=hT.ts
 obtain ⟨z1,z2⟩:=ev_CatcherOf' hP hS a c
 have stop:Ev (fun k=>ji.j0 k p a c (rCat t p a c) true t) true:=by
  refine Ev.step (fun k=>by rw [ji.j0]) ?_
  exact Ev.pos rfl (Ev.bind z1 (by simpa using Ev.now true))
 refine Ev.bind eD (Ev.bind z2 (Ev.bind z1 (Ev.pos rfl (Ev.bind (iValid hP hS) ?_))))
 cases hv:vB t p with
 | false=>exact Ev.neg (by simp) stop
 | true =>
 refine Ev.pos rfl (Ev.both (fun _=>stop) (fun h0=>Ev.both (fun _=>stop) (fun h1=>?_)))
 replace h0:¬ a<0:=h0
 replace h1:¬ a≥(p.length:Int):=h1
 simp only [laws_has_eq2,Option.bind_some]
 cases hb:hasB t c with
 | false=>exact stop
 | true =>
 have hcb:=hasB_iff.mp hb
 have hV:=vB_iff.mp hv
 obtain ⟨n,rfl⟩:=Int.eq_ofNat_of_zero_le (show 0≤a by omega)
 have hn:n<p.length:=by omega
 have hA:At t p n:=⟨hV,by omega,by omega⟩
 have hof:∀ b:Int,hasB t b=true→Ev (fun k=>jYa.f k t p n b) (cp2 (catL t p b (enc p n))).2:=by
  intro b hb
  have:=(ev_CatcherOf' hP hS n b).2
  rw [rCat,if_pos ⟨hA,hb⟩,Int.toNat_natCast] at this
  exact this
 have er:rCat t p n c=(cp2 (catL t p c (enc p n))).2:=by rw [rCat,if_pos ⟨hA,hb⟩,Int.toNat_natCast]
 rw [er]
 refine Ev.step (fun k=>by rw [ji.j0]) ?_
 refine Ev.neg (by simp) ?_
 cases hcl:catL t p c (enc p n) with
 | none =>
  refine Ev.pos (by simp [cp2]) (Ev.bind (hof 0 (hasB_iff.mpr ⟨by omega,by omega⟩)) ?_)
  have hz:catL t p 0 (enc p n)=none:=by
   cases hz:catL t p 0 (enc p n) with
   | none=>rfl
   | some z =>
    have:=catL_mono (a:=0) (b:=c) (fun x hx=>isA_trans hV.1 hcb.2 (by omega) (isA_root hV.1 hcb.2 hcb.1) hx) (enc p n) (by rw [hz];rfl)
    rw [hcl] at this;cases this
  rw [hz]
  simpa [cp2] using Ev.now true
 | some z =>
  obtain ⟨m,e⟩:=z
  refine Ev.neg (by simp only [cp2];omega) (Ev.bind (ev_BelowOf hS hV.1 hb) ?_)
  simp only [cp2]
  have hbl:=blN_len (t:=t) (c:=c) t.length 0
  have hS1:=hS.1
  obtain ⟨hm,hor⟩:=catL_is _ _ _ hcl
  have hmn:m<n:=by have:=encN_lt p n _ m hm;omega
  have fin:Ev (fun k=>if 0≤(e:Int) then (if (e:Int)<(p.length:Int) then (if ((jc p e).f1)=11 then (if ((jc p e).f3)=1 then (if (e:Int)<(n:Int) then (some true) else (if ((jc p e).f1)=8 then ((jic.f k t c ((jc p e).f2)).bind fun t886=>(some t886)) else (some false))) else (if ((jc p e).f1)=8 then ((jic.f k t c ((jc p e).f2)).bind fun t889=>(some t889)) else (some false))) else (if ((jc p e).f1)=8 then ((jic.f k t c ((jc p e).f2)).bind fun t892=>(some t892)) else (some false))) else (none)) else (none)) true:=by
   simp only [r1,r2,r3]
   rcases hor with ⟨k1,k2,rfl⟩ | ⟨k1,k2,k3⟩
   ·exact Ev.pos (by omega) (Ev.pos (by omega) (Ev.pos k1 (Ev.pos k2 (Ev.pos (by omega) (Ev.now _)))))
   ·have hel:e<p.length:=chain_lt (a:=m) (by omega) e (List.mem_cons_of_mem _ k1)
    have hnum:=(hV.2.2 e hel).1
    have hla:hasB t (la p e)=true:=by
     rw [numB,if_neg (by omega),if_neg (by omega),if_pos k2] at hnum
     simp only [Bool.and_eq_true] at hnum
     exact hnum.1
    have hi:=ev_IsA hS c (la p e)
    rw [hV.1,hb,hla,k3] at hi
    exact Ev.pos (by omega) (Ev.pos (by omega) (Ev.neg (by omega) (Ev.pos k2 (Ev.bind hi (Ev.now _)))))
  have:∀ (r:List Nat) (j:Nat),(blN t c t.length 0).drop j=r→Ev (fun k=>ji.l0 k p n c e (ci (blN t c t.length 0)) j t) true:=by
   intro r
   induction r with
   | nil =>
    intro j h
    have:=ci_end h
    refine Ev.step (fun k=>by rw [ji.l0]) ?_
    refine Ev.neg (by rw [jKb];omega) fin
   | cons b r ih =>
    intro j h
    obtain ⟨x1,x2,x3⟩:=jRc h
    have hbm:=blN_mem t.length 0 b (List.mem_of_mem_drop (by rw [h];simp))
    refine Ev.step (fun k=>by rw [ji.l0]) ?_
    rw [x2,wS (by omega)]
    refine Ev.pos (by rw [jKb];omega) (Ev.pos (by omega) (Ev.bind (hof b (hasB_iff.mpr ⟨by omega,by omega⟩)) ?_))
    have hs:=catL_mono (a:=c) (b:=(b:Int)) (fun x hx=>isA_trans hV.1 (by omega) (by omega) hbm.2 hx) (enc p n) (by rw [hcl];rfl)
    refine Ev.neg (fun hneg=>?_) (ih (j+1) x3)
    rw [(cp2_neg _).mp hneg] at hs;cases hs
  exact this _ 0 rfl
end Go.Proofs.Ytkedkinojeoeaaa.Pure
end
