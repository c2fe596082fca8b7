/- One part of the proofs on this program: functions of the program as plain functions, that the code comes to them, and facts on them. -/
import Derived.Test.YtkedkinojeoeaaaYA1
import Derived.Test.YtkedkinojeoeaaaYDcat
import Derived.Test.YtkedkinojeoeaaaYMn
import Derived.Test.YtkedkinojeoeaaaYMn2
import Derived.Test.YtkedkinojeoeaaaYMo0
import Derived.Test.YtkedkinojeoeaaaYMp0
import Derived.Test.YtkedkinojeoeaaaYMs
import Derived.Test.YtkedkinojeoeaaaYMw2
import Derived.Test.YtkedkinojeoeaaaYMz
section
set_option linter.unusedSimpArgs false
set_option linter.unusedVariables false
namespace Go.Proofs.Ytkedkinojeoeaaa.Pure
open Go Go.RowKit Go.Proofs.Ytkedkinojeoeaaa.P Go.Proofs.YtkedkinojeoeaaaW.PrintWords
set_option linter.unusedVariables false
theorem exF_mem {t : List Cl} {p : List Ln} {c : Int} : ∀ (L : List Nat) (e : Nat), exF t p c L = some e → e ∈ L ∧ kd p e = 8
 | [],e,h=>by simp [exF] at h
 | a :: r,e,h=>by
  rw [exF] at h
  split at h
  ·rename_i hc
   injection h with h
   subst h
   exact ⟨by simp,hc.1⟩
  ·have:=exF_mem r e h
   exact ⟨by simp [this.1],this.2⟩
theorem FnCatcherOfUp : ji.Pure := by
 intro code _ _ hc
 refine Ev.rounds (g:=fun k=>ji.f k code) ?_
 unfold ji.f
 refine Ev.both (fun _=>Ev.now _) (fun _=>?_)
 obtain ⟨t,p,a,c,eD,hT,hp⟩:=ev_DrawCatcherOf (bytes_of hc)
 have hP:p.length≤1048576:=by omega
 have hS:=hT.ts
 obtain ⟨z1,z2⟩:=jsd hP hS a c
 have stop:Ev (fun k=>ji.j0 k p a c (rCat t p a c) true t) true:=by
  refine Ev.step (fun k=>by rw [ji.j0]) ?_
  exact Ev.pos rfl (Ev.bind z1 (by simpa using Ev.now true))
 refine Ev.bind eD (Ev.bind z2 (Ev.bind z1 (Ev.pos rfl (Ev.bind (iValid hP hS) ?_))))
 cases hv:vB t p with
 | false=>exact Ev.neg (by simp) stop
 | true =>
 refine Ev.pos rfl (Ev.both (fun _=>stop) (fun h0=>Ev.both (fun _=>stop) (fun h1=>?_)))
 replace h0:¬ a<0:=h0
 replace h1:¬ a≥(p.length:Int):=h1
 simp only [laws_has_eq2,Option.bind_some]
 cases hb:hasB t c with
 | false=>exact stop
 | true =>
 have hcb:=hasB_iff.mp hb
 have hV:=vB_iff.mp hv
 obtain ⟨n,rfl⟩:=Int.eq_ofNat_of_zero_le (show 0≤a by omega)
 have hn:n<p.length:=by omega
 have hA:At t p n:=⟨hV,by omega,by omega⟩
 have er:rCat t p n c=(cp2 (catL t p c (enc p n))).2:=by rw [rCat,if_pos ⟨hA,hb⟩,Int.toNat_natCast]
 have hEn:=ev_iEnclosingOf hP hS n
 rw [rEnc,if_pos hA,Int.toNat_natCast] at hEn
 rw [er]
 refine Ev.step (fun k=>by rw [ji.j0]) ?_
 refine Ev.neg (by simp) (Ev.bind hEn ?_)
 cases he:enc p n with
 | nil=>exact Ev.pos (by simp [jxb]) (by simpa [catL,cp2] using Ev.now true)
 | cons m r =>
  have hm:m<p.length:=enc_lt hn m (by rw [he];simp)
  have hr:r=enc p m:=encN_next p n (dp p n) m r he
  have hAm:At t p m:=⟨hV,by omega,by omega⟩
  have hw:=(jsd hP hS m c).2
  rw [rCat,if_pos ⟨hAm,hb⟩,Int.toNat_natCast,← hr] at hw
  have hrd:rd (ci (m :: r)) 0=(m:Int):=rfl
  rw [hrd,jxb]
  refine Ev.neg (by simp only [List.length_cons];omega) (Ev.pos (by simp only [List.length_cons];omega) (Ev.bind hw ?_))
  rw [catL]
  cases hcm:catB t p c m with
  | none=>exact Ev.pos rfl (Ev.now _)
  | some e =>
   simp only [cp2]
   by_cases hem:e=m
   ·subst hem
    exact Ev.both (fun _=>Ev.now _) (fun _=>Ev.pos rfl (Ev.now _))
   ·have h7:kd p m=7∧exF t p c (jvb p m)=some e:=by
     rw [catB] at hcm
     split at hcm
     ·split at hcm
      ·injection hcm with hcm;exact absurd hcm.symm hem
      ·cases hcm
     ·split at hcm
      ·exact ⟨by assumption,hcm⟩
      ·cases hcm
    have hmem:e ∈ chain p m:=List.mem_cons_of_mem _ (exF_mem _ _ h7.2).1
    have hin:inTry p m:=.inl h7.1
    have hth:thd p m=m:=(thd_chain hV hm h7.1 List.mem_cons_self).1
    have hT2:=ev_iTryOfW hP hS m
    rw [rTry,Int.toNat_natCast,if_pos ⟨hAm,hin⟩,hth] at hT2
    have hlen:=jNc p (dp p m) p.length (bEnd p m)
    have hin2:=ev_isIn (chain p m) (by simp only [chain,jvb,List.length_cons];omega) (e:Int)
    rw [hasN_mem hmem] at hin2
    exact Ev.both (fun _=>Ev.now _) (fun _=>Ev.neg (by omega) (Ev.bind hT2 (Ev.bind hin2 (Ev.now _))))
end Go.Proofs.Ytkedkinojeoeaaa.Pure
end
