/- One part of the proofs on this program: functions of the program as plain functions, that the code comes to them, and facts on them. -/
import Derived.Test.YtkhiiiddbmgiaaaYD8
import Derived.Test.YtkhiiiddbmgiaaaYMdl
import Derived.Test.YtkhiiiddbmgiaaaYMi
section
set_option linter.unusedSimpArgs false
set_option linter.unusedVariables false
namespace Go.Proofs.Ytkhiiiddbmgiaaa.Pure
open Go Go.RowKit Go.Proofs.Ytkhiiiddbmgiaaa.P Go.Proofs.YtkhiiiddbmgiaaaW.PrintWords
set_option linter.unusedVariables false
theorem vc_sorted : ∀ (ks : List Int) (ex : Int) (q : Option Int) (r : Int), vcGo ks ex q = some r → ks.Pairwise (· ≤ ·) ∧ ∀ q', q = some q' → ∀ k ∈ ks, q' ≤ k
 | [],_,_,_,_=>⟨List.Pairwise.nil,by simp⟩
 | k :: ks,ex,q,r,h=>by
  rw [vcGo] at h
  by_cases c:badK k (if k=8 then ex+1 else ex) q=true
  ·rw [if_pos c] at h;cases h
  ·rw [if_neg c] at h
   obtain ⟨h1,h2⟩:=vc_sorted ks _ _ r h
   refine ⟨List.pairwise_cons.mpr ⟨h2 k rfl,h1⟩,fun q' e x hx=>?_⟩
   subst e
   have hk:q'≤k:=by
    rcases Int.lt_or_le k q' with g | g
    ·exact absurd (by simp [badK,g]) c
    ·exact g
   rcases List.mem_cons.mp hx with rfl | hx
   ·exact hk
   ·have:=h2 k rfl x hx;omega
theorem chain_eights {t : List Cl} {p : List Ln} (hv : jyb t p) {T i : Nat} (hT : T < p.length) (h7 : kd p T = 7) (hi : i ∈ jHa p T) (h8 : kd p i = 8) : ∀ e ∈ jHa p T, e < i → kd p e = 8 := by
 have h:=(hv.2.2 T hT).2.2.2.1 h7
 unfold vcB finB at h
 cases hg:vcGo ((jHa p T).map (kd p)) 0 none with
 | none=>rw [hg] at h;cases h
 | some r =>
  have hs:=(vc_sorted _ _ _ _ hg).1
  rw [List.pairwise_map] at hs
  have ha:=(jcc (p:=p) (d:=dp p T) p.length (bEnd p T)).2
  intro e he hlt
  have hF:=jRb.mp (jbc he).2.2.2
  have hle:kd p e≤kd p i:=by
   have hb:(jHa p T).Pairwise (fun x y=>x<y∧kd p x≤kd p y):=List.Pairwise.and ha hs
   rcases List.pairwise_iff_getElem.mp hb with hp
   obtain ⟨a,ha1,rfl⟩:=List.getElem_of_mem he
   obtain ⟨b,hb1,rfl⟩:=List.getElem_of_mem hi
   rcases Nat.lt_trichotomy a b with g | g | g
   ·exact (hp a b ha1 hb1 g).2
   ·subst g;exact Int.le_refl _
   ·have:=(hp b a hb1 ha1 g).1;omega
  omega
theorem dvL_kd (t : List Cl) (p : List Ln) : ∀ (es : List Nat) (acc : List Int), ∀ x ∈ dvL t p es acc, kd p x.1 = 8
 | [],acc,x,h=>by simp [dvL] at h
 | e :: es,acc,x,h=>by
  unfold dvL at h
  split at h
  ·rename_i h8
   rcases List.mem_cons.mp h with rfl | h
   ·exact h8
   ·exact dvL_kd t p es _ x h
  ·exact dvL_kd t p es _ x h
theorem dvA_kd (t : List Cl) (p : List Ln) : ∀ (n i : Nat), ∀ x ∈ dvA t p n i, kd p x.1 = 8
 | 0,i,x,h=>by simp [dvA] at h
 | n+1,i,x,h=>by
  unfold dvA at h
  rcases List.mem_append.mp h with h | h
  ·split at h
   ·exact dvL_kd t p _ _ x h
   ·cases h
  ·exact dvA_kd t p n _ x h
theorem dvA_mem (t : List Cl) (p : List Ln) {x : Nat × Bool} {T : Nat} (h : x ∈ dvL t p (chain p T) []) (h7 : kd p T = 7) : ∀ (n i : Nat), i ≤ T → T < i + n → x ∈ dvA t p n i
 | 0,i,a,b=>by omega
 | n+1,i,a,b=>by
  unfold dvA
  rcases Nat.lt_or_ge i T with g | g
  ·exact List.mem_append.mpr (.inr (dvA_mem t p h h7 n (i+1) g (by omega)))
  ·obtain rfl:i=T:=by omega
   exact List.mem_append.mpr (.inl (by rw [if_pos h7];exact h))
theorem dvL_mem (t : List Cl) (p : List Ln) {i : Nat} (h8 : kd p i = 8) : ∀ (es : List Nat) (acc : List Int), es.Pairwise (· < ·) → i ∈ es → (∀ e ∈ es, e < i → kd p e = 8) → (i, (acc ++ (es.takeWhile (fun e => decide (e < i))).map (la p)).any (fun b => isAB t (la p i) b)) ∈ dvL t p es acc
 | [],acc,_,h,_=>by cases h
 | e :: es,acc,hp,h,hk=>by
  rw [List.pairwise_cons] at hp
  unfold dvL
  rcases List.mem_cons.mp h with rfl | h
  ·rw [if_pos h8,List.takeWhile_cons,if_neg (by simp)]
   simp
  ·have hlt:=hp.1 i h
   rw [if_pos (hk e List.mem_cons_self hlt),List.takeWhile_cons,if_pos (by simpa using hlt)]
   have ih:=dvL_mem t p h8 es (acc ++ [la p e]) hp.2 h (fun x hx=>hk x (List.mem_cons_of_mem _ hx))
   rw [List.append_assoc] at ih
   exact List.mem_cons_of_mem _ ih
end Go.Proofs.Ytkhiiiddbmgiaaa.Pure
end
