/- One part of the proofs on this program: functions of the program as plain functions, that the code comes to them, and facts on them. -/
import Derived.Test.YtkokajljeebgdaaYAll6
import Derived.Test.YtkokajljeebgdaaYAll7
import Derived.Test.YtkokajljeebgdaaYAll8
import Derived.Test.YtkokajljeebgdaaYMe
section
set_option linter.unusedSimpArgs false
set_option linter.unusedVariables false
namespace Go.Proofs.Ytkokajljeebgdaa.Pure
open Go Go.RowKit Go.Proofs.Ytkokajljeebgdaa.P Go.Proofs.YtkokajljeebgdaaW.PrintWords
set_option linter.unusedVariables false
def encN (p : List Ln) : Nat → Int → List Nat
 | 0,_=>[]
 | i+1,d=>if dp p i<d then i :: encN p i (dp p i) else encN p i d
def encI (p : List Ln) (a : Nat) : Nat → List Nat
 | 0=>[]
 | i+1=>if isO (kd p i)=true∧a<bEnd p i then i :: encI p a i else encI p a i
def enc (p : List Ln) (a : Nat) : List Nat := encN p a (dp p a)
theorem encN_lt (p : List Ln) : ∀ (i : Nat) (d : Int), ∀ j ∈ encN p i d, j < i
 | 0,d,j,h=>by simp [encN] at h
 | i+1,d,j,h=>by
  simp only [encN] at h
  split at h
  ·rcases List.mem_cons.mp h with rfl | h
   ·omega
   ·have:=encN_lt p i _ j h;omega
  ·have:=encN_lt p i _ j h;omega
theorem encN_len (p : List Ln) : ∀ (i : Nat) (d : Int), (encN p i d).length ≤ i
 | 0,d=>by simp [encN]
 | i+1,d=>by
  simp only [encN]
  split
  ·have:=encN_len p i (dp p i);simp only [List.length_cons];omega
  ·have:=encN_len p i d;omega
theorem encI_eq {p : List Ln} (hr : DR p) {a : Nat} (ha : a < p.length) : ∀ (i : Nat) (d : Int), i ≤ a → (∀ j, i ≤ j → j ≤ a → d ≤ dp p j) → (∃ j, i ≤ j ∧ j ≤ a ∧ dp p j = d) → encI p a i = encN p i d
 | 0,d,_,_,_=>rfl
 | i+1,d,hi,h1,h2=>by
  have key:(isO (kd p i)=true∧a<bEnd p i) ↔ dp p i<d:=by
   constructor
   ·rintro ⟨_,h3⟩
    obtain ⟨j,a1,a2,a3⟩:=h2
    have:=jQb (p:=p) (i:=i) (j:=j) (by omega) (by omega)
    omega
   ·intro h3
    have h4:a<bEnd p i:=(bEnd_lt_iff (by omega) ha).mpr fun j a1 a2=>by have:=h1 j (by omega) a2;omega
    refine ⟨?_,h4⟩
    cases ho:isO (kd p i) with
    | true=>rfl
    | false =>
     have x:=hr.none i (by omega) ho
     have y:=jQb (p:=p) (i:=i) (j:=i+1) (by omega) (by omega)
     omega
  simp only [encI,encN]
  by_cases h3:dp p i<d
  ·rw [if_pos (key.mpr h3),if_pos h3]
   congr 1
   refine encI_eq hr ha i (dp p i) (by omega) (fun j a1 a2=>?_) ⟨i,by omega,by omega,rfl⟩
   by_cases hj:j=i
   ·rw [hj];omega
   ·have:=h1 j (by omega) a2;omega
  ·rw [if_neg (fun h=>h3 (key.mp h)),if_neg h3]
   refine encI_eq hr ha i d (by omega) (fun j a1 a2=>?_) ?_
   ·by_cases hj:j=i
    ·rw [hj];omega
    ·exact h1 j (by omega) a2
   ·obtain ⟨j,a1,a2,a3⟩:=h2
    exact ⟨j,by omega,a2,a3⟩
theorem enc_eq {p : List Ln} (hr : DR p) {a : Nat} (ha : a < p.length) : encI p a a = enc p a :=
 encI_eq hr ha a (dp p a) (by omega) (fun j h1 h2=>by rw [show j=a from by omega];omega) ⟨a,by omega,by omega,rfl⟩
theorem ev_sEnc_l0 {p : List Ln} (hp : p.length ≤ 1048576) : ∀ (i : Nat) (d : Int) (l : List Nat), i ≤ p.length → l.length + i ≤ 1048576 → Ev (fun k => jua.l0 k p (ci l) d ((i : Int) - 1)) (ci (l ++ encN p i d))
 | 0,d,l,h,_=>by
  refine Ev.step (fun k=>by rw [jua.l0]) ?_
  rw [encN,List.append_nil]
  exact Ev.neg (by omega) (Ev.now _)
 | i+1,d,l,h,hl=>by
  refine Ev.step (fun k=>by rw [jua.l0]) ?_
  rw [iP]
  simp only [r0,jKb,ci_snoc]
  rw [iM (by omega),encN]
  refine Ev.pos (by omega) (Ev.pos (by omega) (Ev.pos (by omega) ?_))
  by_cases h1:dp p i<d
  ·refine Ev.pos h1 (Ev.pos (by omega) ?_)
   rw [if_pos h1]
   have:=ev_sEnc_l0 hp i (dp p i) (l ++ [i]) (by omega) (by rw [List.length_append,List.length_singleton];omega)
   rw [List.append_assoc] at this
   exact this
  ·refine Ev.neg h1 ?_
   rw [if_neg h1]
   exact ev_sEnc_l0 hp i d l (by omega) (by omega)
theorem ev_sEnc {p : List Ln} (hp : p.length ≤ 1048576) {a : Nat} (ha : a < p.length) : Ev (fun k => jua.f k p a) (ci (enc p a)) := by
 unfold jua.f
 simp only [r0]
 rw [iM (by omega)]
 exact Ev.pos (by omega) (Ev.pos (by omega) (ev_sEnc_l0 hp a _ [] (by omega) (by simp only [List.length_nil];omega)))
theorem ev_iEnc_l0 {p : List Ln} (hp : p.length ≤ 1048576) {a : Nat} (ha : a < p.length) : ∀ (i : Nat) (l : List Nat), i ≤ p.length → l.length + i ≤ 1048576 → Ev (fun k => jga.l0 k p a (ci l) ((i : Int) - 1)) (ci (l ++ encI p a i))
 | 0,l,h,_=>by
  refine Ev.step (fun k=>by rw [jga.l0]) ?_
  rw [encI,List.append_nil]
  simp only [jma.f,Option.bind_some]
  exact Ev.neg (by omega) (Ev.now _)
 | i+1,l,h,hl=>by
  refine Ev.step (fun k=>by rw [jga.l0]) ?_
  rw [iP]
  simp only [r0,r1,opi,Option.bind_some,jKb,ci_snoc]
  rw [iM (by omega),encI]
  refine Ev.pos (by omega) (Ev.pos (by omega) (Ev.pos (by omega) ?_))
  by_cases h1:isO (kd p i)=true
  ·refine Ev.pos h1 (Ev.bind (ev_endOf hp (by omega)) ?_)
   by_cases h2:a<bEnd p i
   ·refine Ev.pos (by omega) (Ev.pos (by omega) ?_)
    rw [if_pos ⟨h1,h2⟩]
    have:=ev_iEnc_l0 hp ha i (l ++ [i]) (by omega) (by rw [List.length_append,List.length_singleton];omega)
    rw [List.append_assoc] at this
    exact this
   ·refine Ev.neg (by omega) ?_
    rw [if_neg (fun h=>h2 h.2)]
    exact ev_iEnc_l0 hp ha i l (by omega) (by omega)
  ·refine Ev.neg h1 ?_
   rw [if_neg (fun h=>h1 h.1)]
   exact ev_iEnc_l0 hp ha i l (by omega) (by omega)
theorem ev_iEnc {p : List Ln} (hp : p.length ≤ 1048576) (hr : DR p) {a : Nat} (ha : a < p.length) : Ev (fun k => jga.f k p a) (ci (enc p a)) := by
 unfold jga.f
 rw [iM (by omega),← enc_eq hr ha]
 exact ev_iEnc_l0 hp ha a [] (by omega) (by simp only [List.length_nil];omega)
theorem jNb.dr {t : List Cl} {p : List Ln} (h : jNb t p) : DR p := (off_DR p).mp fun i hi => (h.2.2 i hi).2.2.1
def At (t : List Cl) (p : List Ln) (a : Int) : Prop := jNb t p ∧ 0 ≤ a ∧ a < (p.length : Int)
theorem ev_goods {t : List Cl} {p : List Ln} (hp : p.length ≤ 1048576) (ht : TS t) (a : Int) :
  ∃ b,Ev (fun k=>jFb.f k t p a) b∧Ev (fun k=>jUb.f k t p a) b∧(b=true ↔ At t p a):=by
 refine ⟨vB t p && bw a 0 ((p.length:Int) - 1),?_,?_,?_⟩
 ·unfold jFb.f
  refine Ev.bind (sValid hp ht) ?_
  rw [wr (by omega),iR]
  cases vB t p with
  | true=>exact Ev.pos rfl (by simpa using Ev.now _)
  | false=>exact Ev.neg (by simp) (by simpa using Ev.now false)
 ·unfold jUb.f
  refine Ev.bind (iValid hp ht) ?_
  rw [wr (by omega),iW]
  cases vB t p with
  | true=>exact Ev.pos rfl (by simpa using Ev.now _)
  | false=>exact Ev.neg (by simp) (by simpa using Ev.now false)
 ·rw [Bool.and_eq_true,vB_iff,bw_iff]
  unfold At
  constructor
  ·rintro ⟨x,y,z⟩;exact ⟨x,y,by omega⟩
  ·rintro ⟨x,y,z⟩;exact ⟨x,y,by omega⟩
theorem At.nat {t : List Cl} {p : List Ln} {a : Int} (h : At t p a) : ∃ n : Nat, a = (n : Int) ∧ n < p.length := ⟨a.toNat, by have := h.2.1; omega, by have := h.2.1; have := h.2.2; omega⟩
end Go.Proofs.Ytkokajljeebgdaa.Pure
end
