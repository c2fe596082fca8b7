/- One part of the proofs on this program: functions of the program as plain functions, that the code comes to them, and facts on them. -/
import Derived.Test.YtlhfcmbkjddgiaaYAll6
import Derived.Test.YtlhfcmbkjddgiaaYMhl
section
set_option linter.unusedSimpArgs false
set_option linter.unusedVariables false
namespace Go.Proofs.Ytlhfcmbkjddgiaa.Pure
open Go Go.RowKit Go.Proofs.Ytlhfcmbkjddgiaa.P Go.Proofs.YtlhfcmbkjddgiaaW.PrintWords
set_option linter.unusedVariables false
theorem shut_sub {h : List Ft} {o o' : List Nat} {a : Nat} (hs : ∀ x ∈ o, x ∈ o') (s : Shut h o a) : Shut h o' a := fun j => ⟨fun e => hs _ ((s j).1 e), fun e => hs _ ((s j).2 e)⟩
theorem ev_sReachD {h : List Ft} (hL : LO h) (hn : h.length ≤ 1048575) {f0 : Nat} (hf0 : f0 < h.length) : ∀ (n : Nat) (f : Int) (out : List Nat), h.length ≤ n + out.length → -1 ≤ f → f < (h.length : Int) → (∀ j : Nat, f = (j : Int) → Rc h f0 j) → out.Nodup → (∀ a ∈ out, Rc h f0 a) →
  ∃ r:List Nat,Ev (fun k=>jeb.f k h f (ci out)) (ci (out ++ r))∧(out ++ r).Nodup∧(∀ a ∈ r,Rc h f0 a∧Shut h (out ++ r) a)∧(∀ j:Nat,f=(j:Int)→j ∈ out ++ r)
 | n,f,out,hni,h0,h1,hrf,hnd,hr=>by
  have hlt:∀ a ∈ out,a<h.length:=fun a ha=>(hr a ha).lt hL hf0
  have hlen:=jmc hnd hlt
  by_cases c0:f<0
  ·refine ⟨[],?_,by simpa using hnd,by simp,fun j e=>by omega⟩
   rw [List.append_nil]
   refine Ev.step (fun k=>by rw [jeb.f]) ?_
   refine Ev.pos c0 ?_
   refine Ev.step (fun k=>by rw [jeb.j0]) ?_
   exact Ev.pos rfl (Ev.now _)
  ·obtain ⟨m,rfl⟩:∃ m:Nat,f=(m:Int):=⟨f.toNat,by omega⟩
   have hm:m<h.length:=by omega
   by_cases hmo:m ∈ out
   ·refine ⟨[],?_,by simpa using hnd,by simp,fun j e=>by rw [← Int.ofNat.inj e];simpa using hmo⟩
    rw [List.append_nil]
    refine Ev.step (fun k=>by rw [jeb.f]) ?_
    refine Ev.neg c0 (Ev.bind (ev_hasInt out (by omega) (m:Int)) ?_)
    rw [(hasN_nat m out).mpr hmo]
    refine Ev.step (fun k=>by rw [jeb.j0]) ?_
    exact Ev.pos rfl (Ev.now _)
   ·have hnd1:(out ++ [m]).Nodup:=by
     rw [List.nodup_append]
     exact ⟨hnd,by simp,fun a ha b hb e=>hmo (by rw [List.mem_singleton] at hb;rw [← hb,← e];exact ha)⟩
    have hr1:∀ a ∈ out ++ [m],Rc h f0 a:=fun a ha=>by
     rcases List.mem_append.mp ha with g | g
     ·exact hr a g
     ·rw [List.mem_singleton] at g;rw [g];exact hrf m rfl
    have hlen1:=jmc hnd1 (fun a ha=>(hr1 a ha).lt hL hf0)
    rw [List.length_append,List.length_singleton] at hlen1
    cases n with
    | zero=>omega
    | succ n =>
    have hlm:=hL m hm
    obtain ⟨r1,a1,a2,a3,a4⟩:=ev_sReachD hL hn hf0 n (fca h m) (out ++ [m]) (by rw [List.length_append,List.length_singleton];omega) hlm.1.1 hlm.1.2 (fun j e=>.ca (hrf m rfl) e) hnd1 hr1
    have hr2:∀ a ∈ out ++ [m] ++ r1,Rc h f0 a:=fun a ha=>by
     rcases List.mem_append.mp ha with g | g
     ·exact hr1 a g
     ·exact (a3 a g).1
    obtain ⟨r2,b1,b2,b3,b4⟩:=ev_sReachD hL hn hf0 n (fcx h m) (out ++ [m] ++ r1) (by rw [List.length_append,List.length_append,List.length_singleton];omega) hlm.2.1 hlm.2.2 (fun j e=>.cx (hrf m rfl) e) a2 hr2
    have e:out ++ [m] ++ r1 ++ r2=out ++ ([m] ++ r1 ++ r2):=by simp
    refine ⟨[m] ++ r1 ++ r2,?_,by rw [← e];exact b2,fun a ha=>?_,fun j ej=>by rw [← Int.ofNat.inj ej];simp⟩
    ·refine Ev.step (fun k=>by rw [jeb.f]) ?_
     refine Ev.neg c0 (Ev.bind (ev_hasInt out (by omega) (m:Int)) ?_)
     have hN:hasN (m:Int) out=false:=by
      cases hh:hasN (m:Int) out with
      | false=>rfl
      | true=>exact absurd ((hasN_nat m out).mp hh) hmo
     rw [hN]
     refine Ev.step (fun k=>by rw [jeb.j0]) ?_
     refine Ev.neg (by simp) (Ev.pos (by rw [jzb];omega) (Ev.pos (by omega) (Ev.pos (by omega) ?_)))
     rw [ci_snoc,← e]
     exact Ev.bind a1 (Ev.bind b1 (Ev.now _))
    ·rw [← e]
     rcases List.mem_append.mp ha with g | g
     ·rcases List.mem_append.mp g with g | g
      ·rw [List.mem_singleton] at g
       subst g
       refine ⟨hrf a rfl,fun j=>⟨fun ej=>List.mem_append.mpr (.inl (a4 j ej)),fun ej=>b4 j ej⟩⟩
      ·exact ⟨(a3 a g).1,shut_sub (fun x hx=>List.mem_append.mpr (.inl hx)) (a3 a g).2⟩
     ·exact b3 a g
theorem ev_sReach {h : List Ft} (hL : LO h) (hn : h.length ≤ 1048575) {f : Nat} (hf : f < h.length) : ∃ L : List Nat, Ev (fun k => jeb.f k h (f : Int) []) (ci L) ∧ L.Nodup ∧ ∀ a, a ∈ L ↔ Rc h f a := by
 obtain ⟨r,a1,a2,a3,a4⟩:=ev_sReachD hL hn hf h.length (f:Int) [] (by simp) (by omega) (by omega) (fun j e=>by rw [← Int.ofNat.inj e];exact .here) (by simp) (by simp)
 rw [List.nil_append] at a1 a2 a3 a4
 exact ⟨r,a1,a2,fun a=>⟨fun ha=>(a3 a ha).1,fun ra=>shut_all (a4 f rfl) (fun b hb=>(a3 b hb).2) ra⟩⟩
theorem soPos_spec (l : List Int) (x : Int) : ∀ (n k : Nat), l.length ≤ n + k → k ≤ l.length → k ≤ soPos l x n k ∧ soPos l x n k ≤ l.length ∧ (∀ j : Nat, k ≤ j → j < soPos l x n k → rd l (j : Int) < x) ∧ (soPos l x n k < l.length → x ≤ rd l ((soPos l x n k : Nat) : Int))
 | 0,k,h,h2=>⟨Nat.le_refl _,h2,fun j a b=>by simp only [soPos] at b;omega,fun a=>by simp only [soPos] at a;omega⟩
 | n+1,k,h,h2=>by
  unfold soPos
  by_cases c:(k:Int)<(l.length:Int)∧rd l (k:Int)<x
  ·rw [if_pos c]
   obtain ⟨a,b,d,e⟩:=soPos_spec l x n (k+1) (by omega) (by omega)
   refine ⟨by omega,b,fun j h3 h4=>?_,e⟩
   by_cases hj:j=k
   ·rw [hj];exact c.2
   ·exact d j (by omega) h4
  ·rw [if_neg c]
   exact ⟨Nat.le_refl _,h2,fun j a b=>by omega,fun hk=>by
    rcases Int.lt_or_le (rd l (k:Int)) x with g | g
    ·exact absurd ⟨by omega,g⟩ c
    ·exact g⟩
theorem rd_get {l : List Int} {j : Nat} (h : j < l.length) : rd l (j : Int) = l[j] := by simp [rd, List.getD_eq_getElem?_getD, h]
theorem soIns_spec {l : List Int} {x : Int} (h : l.Pairwise (· < ·)) : (soIns l x).Pairwise (· < ·) ∧ (∀ y, y ∈ soIns l x ↔ y ∈ l ∨ y = x) ∧ (soIns l x).length ≤ l.length + 1 := by
 obtain ⟨_,a,b,c⟩:=soPos_spec l x l.length 0 (by omega) (Nat.zero_le _)
 have hp:=List.pairwise_iff_getElem.mp h
 unfold soIns
 generalize soPos l x l.length 0=k at *
 by_cases hc:k=l.length∨rd l (k:Int)≠x
 ·rw [if_pos hc]
  have h1:∀ y ∈ l.take k,y<x:=fun y hy=>by
   obtain ⟨j,hj,rfl⟩:=List.getElem_of_mem hy
   rw [List.length_take] at hj
   rw [List.getElem_take,← rd_get (show j<l.length by omega)]
   exact b j (Nat.zero_le _) (by omega)
  have h2:∀ y ∈ l.drop k,x<y:=fun y hy=>by
   obtain ⟨j,hj,rfl⟩:=List.getElem_of_mem hy
   rw [List.length_drop] at hj
   rw [List.getElem_drop]
   have hk:k<l.length:=by omega
   have h3:=c hk
   rw [rd_get hk] at h3
   have h4:x<l[k]:=by
    rcases hc with hc | hc
    ·omega
    ·rw [rd_get hk] at hc;omega
   rcases Nat.eq_zero_or_pos j with g | g
   ·subst g;simpa using h4
   ·have:=hp k (k+j) hk (by omega) (by omega);omega
  refine ⟨?_,fun y=>?_,?_⟩
  ·rw [List.pairwise_append,List.pairwise_append]
   refine ⟨⟨h.sublist (List.take_sublist _ _),by simp,fun a ha b hb=>by rw [List.mem_singleton] at hb;rw [hb];exact h1 a ha⟩,h.sublist (List.drop_sublist _ _),fun p hp q hq=>?_⟩
   have hq2:=h2 q hq
   rcases List.mem_append.mp hp with g | g
   ·have:=h1 p g;omega
   ·rw [List.mem_singleton] at g;rw [g];exact hq2
  ·conv=>rhs;rw [← List.take_append_drop k l]
   simp only [List.mem_append,List.mem_singleton]
   constructor
   ·rintro ((g | g) | g)
    ·exact .inl (.inl g)
    ·exact .inr g
    ·exact .inl (.inr g)
   ·rintro ((g | g) | g)
    ·exact .inl (.inl g)
    ·exact .inr g
    ·exact .inl (.inr g)
  ·simp only [List.length_append,List.length_take,List.length_drop,List.length_singleton];omega
 ·rw [if_neg hc]
  have hk:k<l.length:=by
   rcases Nat.lt_or_ge k l.length with g | g
   ·exact g
   ·exact absurd (.inl (by omega)) hc
  have hx:l[k]=x:=by
   rw [← rd_get hk]
   exact Classical.byContradiction fun g=>hc (.inr g)
  exact ⟨h,fun y=>⟨.inl,fun g=>g.elim id (fun g=>by rw [g,← hx];exact List.getElem_mem _)⟩,by omega⟩
theorem soAll_spec : ∀ (r out : List Int), out.Pairwise (· < ·) → out.length + r.length ≤ 1048576 → ∃ S, soAll r out = some S ∧ S.Pairwise (· < ·) ∧ ∀ y, y ∈ S ↔ y ∈ out ∨ y ∈ r
 | [],out,h,_=>⟨out,rfl,h,by simp⟩
 | x :: r,out,h,hl=>by
  obtain ⟨a,b,c⟩:=soIns_spec (x:=x) h
  simp only [List.length_cons] at hl
  obtain ⟨S,h1,h2,h3⟩:=soAll_spec r (soIns out x) a (by omega)
  refine ⟨S,?_,h2,fun y=>?_⟩
  ·rw [soAll,if_pos (by omega)];exact h1
  ·rw [h3,b,List.mem_cons]
   constructor
   ·rintro ((g | g) | g)
    ·exact .inl g
    ·exact .inr (.inl g)
    ·exact .inr (.inr g)
   ·rintro (g | g | g)
    ·exact .inl (.inl g)
    ·exact .inl (.inr g)
    ·exact .inr g
theorem sorted_ci {L M : List Nat} (hl : L.length ≤ 1048576) (hM : M.Pairwise (· < ·)) (hm : ∀ a, a ∈ L ↔ a ∈ M) : spec_sorted.f (ci L) = some (ci M) := by
 obtain ⟨S,h1,h2,h3⟩:=soAll_spec (ci L) [] (by simp) (by rw [jzb];simpa using hl)
 have:S=ci M:=ascI_eq h2 (ci_asc hM) (fun x=>by
  rw [h3,mem_ci,mem_ci]
  simp only [List.not_mem_nil,false_or]
  exact ⟨fun ⟨a,x,y⟩=>⟨a,(hm a).mp x,y⟩,fun ⟨a,x,y⟩=>⟨a,(hm a).mpr x,y⟩⟩)
 rw [← this];exact h1
theorem ev_sReachS {h : List Ft} (hL : LO h) (hn : h.length ≤ 1048575) {f : Nat} (hf : f < h.length) {β : Type} {g : Nat → List Int → Option β} {b : β} (hg : Ev (fun k => g k (ci (rchL h f))) b) :
  Ev (fun k=>(jeb.f k h (f:Int) []).bind fun t=>(spec_sorted.f t).bind fun s=>g k s) b:=by
 obtain ⟨L,h1,h2,h3⟩:=ev_sReach hL hn hf
 have hl:=jmc h2 (fun a ha=>((h3 a).mp ha).lt hL hf)
 refine Ev.bind h1 ?_
 rw [sorted_ci (by omega) (rchL_asc h f) (fun a=>(h3 a).trans (mem_rchL hL hf).symm)]
 exact Ev.bind (Ev.now _) hg
end Go.Proofs.Ytlhfcmbkjddgiaa.Pure
end
