/- One part of the proofs on this program: functions of the program as plain functions, that the code comes to them, and facts on them. -/
import Derived.Test.YtkokajljeebgdaaYMe2
import Derived.Test.YtkokajljeebgdaaYMi
section
set_option linter.unusedSimpArgs false
set_option linter.unusedVariables false
namespace Go.Proofs.Ytkokajljeebgdaa.Pure
open Go Go.RowKit Go.Proofs.Ytkokajljeebgdaa.P Go.Proofs.YtkokajljeebgdaaW.PrintWords
set_option linter.unusedVariables false
theorem endOfB_is {t : List Cl} {p : List Ln} (hv : jNb t p) {m e : Nat} (hm : m < p.length) (ho : isO (kd p m) = true) (h : jsc p m = some e) :
  e<p.length∧dp p e=dp p m∧((kd p e=11∧e=m)∨kd p e=10):=by
 have ho:=isO_iff.mp ho
 unfold jsc at h
 split at h
 ·injection h with h;subst h;exact ⟨hm,rfl, .inl ⟨by assumption,rfl⟩⟩
 ·split at h
  ·cases h
  ·split at h
   ·injection h with h
    rename_i h1 h2 h3
    have hin:inTry p m:=by rw [inTry,isF_iff];omega
    have hT:=thd_is hv hm hin
    have hTl:thd p m<p.length:=by have:=hT.le;omega
    have hl:=lastOf_lt hTl
    subst h
    refine ⟨hl,?_, .inr h3⟩
    rw [← hT.deep]
    have hmem:lastOf (jfb p (thd p m)) (thd p m) ∈ chain p (thd p m):=by
     rw [← chain_last]
     unfold chain
     rw [List.getLastD_cons]
     cases h:jfb p (thd p m) with
     | nil=>simp
     | cons b r=>rw [List.getLastD_cons];exact List.mem_cons_of_mem _ (by rw [List.getLastD_eq_getLast?];cases h2:r.getLast? with | none=>simp | some v=>simp;exact .inr (List.mem_of_getLast? h2))
    rcases List.mem_cons.mp hmem with h | h
    ·rw [h]
    ·exact (jFc h).2.2.1
   ·cases h
theorem wayL_deep {t : List Cl} {p : List Ln} (hv : jNb t p) : ∀ (L : List Nat), (∀ m ∈ L, m < p.length ∧ isO (kd p m) = true) → L.Pairwise (fun a b => dp p b < dp p a) →
  (∀ e ∈ wayL p L,∃ m ∈ L,e<p.length∧dp p e=dp p m∧((kd p e=11∧e=m)∨kd p e=10))∧(wayL p L).Pairwise (fun a b=>dp p b<dp p a)
 | [],_,_=>⟨by simp [wayL],by simp [wayL]⟩
 | m :: r,h,hp=>by
  obtain ⟨hp1,hp2⟩:=List.pairwise_cons.mp hp
  obtain ⟨h1,h2⟩:=wayL_deep hv r (fun x hx=>h x (by simp [hx])) hp2
  have hm:=h m (by simp)
  rw [wayL]
  cases he:jsc p m with
  | none=>exact ⟨fun e hx=>by obtain ⟨x,a,b⟩:=h1 e hx;exact ⟨x,by simp [a],b⟩,h2⟩
  | some e =>
   have hi:=endOfB_is hv hm.1 hm.2 he
   refine ⟨fun x hx=>?_,List.pairwise_cons.mpr ⟨fun x hx=>?_,h2⟩⟩
   ·rcases List.mem_cons.mp hx with rfl | hx
    ·exact ⟨m,by simp,hi⟩
    ·obtain ⟨y,a,b⟩:=h1 x hx;exact ⟨y,by simp [a],b⟩
   ·obtain ⟨y,a,b⟩:=h1 x hx
    have:=hp1 y a
    rw [hi.2.1,b.2.1];exact this
theorem enc_pair {t : List Cl} {p : List Ln} (hv : jNb t p) {a : Nat} (ha : a < p.length) : (enc p a).Pairwise (fun x y => dp p y < dp p x) := by
 rw [List.pairwise_iff_getElem]
 intro i j hi hj hij
 have:=(enc_deep hv ha).2
 rw [this i hi,this j hj]
 omega
theorem enc_shallow {t : List Cl} {p : List Ln} (hv : jNb t p) {a : Nat} (ha : a < p.length) : ∀ m ∈ enc p a, dp p m < dp p a := by
 intro m hm
 obtain ⟨j,hj,rfl⟩:=List.mem_iff_getElem.mp hm
 have:=(enc_deep hv ha).2 j hj
 omega
theorem enc_ok {t : List Cl} {p : List Ln} (hv : jNb t p) {a : Nat} (ha : a < p.length) : ∀ m ∈ enc p a, m < p.length ∧ isO (kd p m) = true := fun m hm => ⟨enc_lt ha m hm, (enc_open hv.dr ha m hm).1⟩
end Go.Proofs.Ytkokajljeebgdaa.Pure
end
