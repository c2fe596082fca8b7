/- One part of the proofs on this program: functions of the program as plain functions, that the code comes to them, and facts on them. -/
import Derived.Test.YtkedkinojeoeaaaYAll8
import Derived.Test.YtkedkinojeoeaaaYAll9
import Derived.Test.YtkedkinojeoeaaaYDcat
import Derived.Test.YtkedkinojeoeaaaYMn2
import Derived.Test.YtkedkinojeoeaaaYMr
import Derived.Test.YtkedkinojeoeaaaYMs
import Derived.Test.YtkedkinojeoeaaaYMs2
import Derived.Test.YtkedkinojeoeaaaYMw2
import Derived.Test.YtkedkinojeoeaaaYMy
section
set_option linter.unusedSimpArgs false
set_option linter.unusedVariables false
namespace Go.Proofs.Ytkedkinojeoeaaa.Pure
open Go Go.RowKit Go.Proofs.Ytkedkinojeoeaaa.P Go.Proofs.YtkedkinojeoeaaaW.PrintWords
set_option linter.unusedVariables false
theorem noCat_pre {t : List Cl} {p : List Ln} {c : Int} : ∀ (L : List Nat), ∃ r, L = noCat t p c L ++ r ∧ (catL t p c L = none → r = [])
 | []=>⟨[],rfl,fun _=>rfl⟩
 | a :: l=>by
  rw [noCat,catL]
  cases h:catB t p c a with
  | some e=>exact ⟨a :: l,rfl,fun h=>by simp at h⟩
  | none =>
   obtain ⟨r,h1,h2⟩:=noCat_pre (t:=t) (p:=p) (c:=c) l
   refine ⟨r,?_,h2⟩
   simp only [List.cons_append]
   rw [← h1]
theorem wayL_app (p : List Ln) : ∀ (a b : List Nat), wayL p (a ++ b) = wayL p a ++ wayL p b
 | [],b=>rfl
 | x :: a,b=>by
  rw [List.cons_append,wayL,wayL,wayL_app p a b]
  cases jfd p x <;> rfl
theorem FnWayOfFault : jr.Pure := by
 intro code _ _ hc
 refine Ev.rounds (g:=fun k=>jr.f k code) ?_
 unfold jr.f
 refine Ev.both (fun _=>Ev.now _) (fun _=>?_)
 obtain ⟨t,p,a,c,eD0,hT,hp⟩:=ev_DrawCatcherOf (bytes_of hc)
 have eD:Ev (fun k=>jAb.f k code) (t,p,a,c):=by
  unfold jAb.f
  exact Ev.bind eD0 (Ev.now _)
 have hP:p.length≤1048576:=by omega
 have hS:=hT.ts
 obtain ⟨z1,z2,z3⟩:=ev_WayOfFault' hP hS a c
 have hE:=ev_equalInts (r:=rWof t p a c) (by omega)
 have stop:Ev (fun k=>jr.j0 k p a c (rWof t p a c) true t) true:=by
  refine Ev.step (fun k=>by rw [jr.j0]) ?_
  exact Ev.pos rfl (Ev.bind z1 (Ev.bind hE (Ev.now _)))
 refine Ev.bind eD (Ev.bind z2 (Ev.bind z1 (Ev.bind hE (Ev.pos rfl (Ev.bind (iValid hP hS) ?_)))))
 cases hv:vB t p with
 | false=>exact Ev.neg (by simp) stop
 | true =>
 refine Ev.pos rfl (Ev.both (fun _=>stop) (fun h0=>Ev.both (fun _=>stop) (fun h1=>?_)))
 replace h0:¬ a<0:=h0
 replace h1:¬ a≥(p.length:Int):=h1
 simp only [laws_has_eq2,Option.bind_some]
 cases hb:hasB t c with
 | false=>exact stop
 | true =>
 have hcb:=hasB_iff.mp hb
 have hV:=vB_iff.mp hv
 obtain ⟨n,rfl⟩:=Int.eq_ofNat_of_zero_le (show 0≤a by omega)
 have hn:n<p.length:=by omega
 have hA:At t p n:=⟨hV,by omega,by omega⟩
 have er:rWof t p n c=ci (wayL p (noCat t p c (enc p n))):=by rw [rWof,if_pos ⟨hA,hb⟩,Int.toNat_natCast]
 have hw:=(ev_WayOut' hP hS n).2.1
 rw [rWay,if_pos hA,Int.toNat_natCast] at hw
 have hct:=(ev_CatcherOf' hP hS n c).2
 rw [rCat,if_pos ⟨hA,hb⟩,Int.toNat_natCast] at hct
 rw [er] at hE ⊢
 have hlen:=jYc p n (dp p n)
 have hwl:=wayL_len p (enc p n)
 obtain ⟨r,hr1,hr2⟩:=noCat_pre (t:=t) (p:=p) (c:=c) (enc p n)
 have hwa:=wayL_app p (noCat t p c (enc p n)) r
 rw [← hr1] at hwa
 have hll:=congrArg List.length hwa
 rw [List.length_append] at hll
 refine Ev.step (fun k=>by rw [jr.j0]) ?_
 refine Ev.neg (by simp) (Ev.bind hw ?_)
 rw [jwb,jwb,Int.toNat_natCast,ci_take2,hwa,List.take_left]
 refine Ev.pos (by simp only [List.length_append];omega) (Ev.pos (by omega) (Ev.bind hE (Ev.pos rfl (Ev.bind hct ?_))))
 refine Ev.both (fun _=>Ev.now _) (fun hneg=>?_)
 have hnone:catL t p c (enc p n)=none:=by
  cases hcc:catL t p c (enc p n) with
  | none=>rfl
  | some be =>
   rw [hcc] at hneg
   exact absurd (by simp only [cp2];omega) hneg
 have:=hr2 hnone
 subst this
 simpa [wayL] using Ev.now true
end Go.Proofs.Ytkedkinojeoeaaa.Pure
end
