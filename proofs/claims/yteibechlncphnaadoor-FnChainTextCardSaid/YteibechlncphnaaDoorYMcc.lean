/- One part of the proofs on this program: functions of the program as plain functions, that the code comes to them, and facts on them. -/
import Derived.Test.YteibechlncphnaaDoorYMsc
section
set_option linter.unusedSimpArgs false
set_option linter.unusedVariables false
namespace Go.Proofs.YteibechlncphnaaDoor.Pure
open Go Go.RowKit Go.Proofs.YteibechlncphnaaDoor.P Go.Proofs.YteibechlncphnaaDoorW.PrintWords
set_option linter.unusedVariables false
def cc (s : ByteArray) : Nat := s.data.toList.count 58
theorem cc_app (a b : ByteArray) : cc (a ++ b) = cc a + cc b := by
 unfold cc
 rw [show (a ++ b).data.toList=a.data.toList ++ b.data.toList by simp,List.count_append]
theorem len_size (s : ByteArray) : s.data.toList.length = s.size := rfl
theorem bt_get {s : ByteArray} {i : Nat} (h : i < s.data.toList.length) : bt s (i : Int) = ((s.data.toList[i]'h).toNat : Int) := by
 unfold bt
 rw [dif_pos (show ((i:Int)).toNat<s.size from h)]
 rfl
theorem is58 {x : UInt8} : ((x.toNat : Int) = 58) ↔ x = 58 := by
 constructor
 ·intro e
  have e2:x.toNat=58:=by omega
  exact UInt8.toNat_inj.mp (e2.trans rfl)
 ·intro e;rw [e];rfl
theorem nmN_58 {s : ByteArray} : ∀ (n i : Nat), s.size ≤ n + i → nmN s n i = true → ∀ j, i ≤ j → j < s.size → bt s (j : Int) ≠ 58
 | 0,i,h,_,j,h1,h2=>by omega
 | n+1,i,h,ht,j,h1,h2=>by
  rw [nmN,if_pos (by omega)] at ht
  by_cases a:bt s (i:Int)<97
  ·rw [if_pos a] at ht;cases ht
  ·rw [if_neg a] at ht
   by_cases b:bt s (i:Int) > 122
   ·rw [if_pos b] at ht;cases ht
   ·rw [if_neg b] at ht
    by_cases e:j=i
    ·rw [e];omega
    ·exact nmN_58 n (i+1) (by omega) ht j (by omega) h2
theorem cc_name {s : ByteArray} (h : nameB s = true) : cc s = 0 := by
 unfold cc
 rw [List.count_eq_zero]
 intro hm
 obtain ⟨i,hi,e⟩:=List.getElem_of_mem hm
 have h1:=nmN_58 s.size 0 (by omega) h i (by omega) hi
 rw [bt_get hi,e] at h1
 exact h1 rfl
theorem small58 : ∀ n : Fin 10, cc (⟨#[UInt8.ofNat (48 + n.val)]⟩ : ByteArray) = 0 := by decide
theorem cc_dgB (n : Nat) : cc (dgB n) = 0 := by
 induction n using Nat.strongRecOn with
 | _ n ih =>
  by_cases h:n<10
  ·rw [dgB_small h];exact small58 ⟨n,h⟩
  ·rw [dgB_big h,cc_app,ih (n / 10) (by omega),ih (n % 10) (by omega)]
theorem trN_name {t : List Cl} : ∀ (n i : Nat), t.length ≤ n + i → trN t n i = true → ∀ j, i ≤ j → j < t.length → nameB (cn t j) = true
 | 0,i,h,_,j,h1,h2=>by omega
 | n+1,i,h,ht,j,h1,h2=>by
  rw [trN,if_pos (by omega)] at ht
  simp only [Bool.and_eq_true] at ht
  by_cases e:j=i
  ·rw [e];exact ht.1.1.1
  ·exact trN_name n (i+1) (by omega) ht.2 j (by omega) h2
theorem cc_fTx {t : List Cl} (ht : treeB t = true) {c d : Nat} (hc : c < t.length) : cc (fTx t c d) = 1 := by
 unfold fTx
 rw [cc_app,cc_app,cc_name (trN_name t.length 0 (by omega) ht c (by omega) hc),cc_dgB]
 rfl
theorem cc_sgX (h : List Ft) (L : List Nat) (i : Nat) : cc (sgX h L i) = 0 := by unfold sgX; split <;> rfl
theorem CG.cc_tX {t : List Cl} {h : List Ft} {L : List Nat} (g : CG t h L) (ht : treeB t = true) {i : Nat} (hi : i < L.length) : cc (tX t h L i) = 1 := by
 have h1:=g.cl i hi
 exact cc_fTx ht (by omega)
theorem CG.cc_sT {t : List Cl} {h : List Ft} {L : List Nat} (g : CG t h L) (ht : treeB t = true) : ∀ i, i < L.length → cc (sT t h L i) = i + 1
 | 0,hi=>g.cc_tX ht hi
 | i+1,hi=>by
  rw [sT,cc_app,cc_app,g.cc_tX ht hi,cc_sgX,CG.cc_sT g ht i (by omega)]
  omega
theorem cc_cTx {t : List Cl} {h : List Ft} (ht : TS t) (hv : HV t h) {f : Nat} (hf : f < h.length) : cc (cTx t h f) = (shL h (f : Int)).length := by
 have hp:=shL_pos hv.lo hf
 unfold cTx
 rw [(shL_CG ht hv hf).cc_sT hv.2.2.1 _ (by omega)]
 omega
theorem cTx_size {t : List Cl} {h : List Ft} (ht : TS t) (hv : HV t h) {f : Nat} (hf : f < h.length) : (cTx t h f).size ≤ 1099511627776 := by
 have hp:=shL_pos hv.lo hf
 have hl:=shL_len hv.lo hf
 have hn:h.length≤24:=hv.2.2.2
 have:=(shL_CG ht hv hf).sT_size ((shL h (f:Int)).length - 1) (by omega)
 unfold cTx
 have h3:1048703 * ((shL h (f:Int)).length - 1+1)≤1048703 * 24:=Nat.mul_le_mul_left _ (by omega)
 omega
theorem Sm.refl (h : List Ft) : Sm h h := ⟨rfl, fun _ => rfl, fun _ => rfl, fun _ => rfl, fun _ => .inl rfl⟩
theorem cTx_suf {t : List Cl} {h : List Ft} (hL : LO h) {f : Nat} (hf : f < h.length) : ∃ r, cTx t h f = r ++ fTx t (fcl h f).toNat (fcd h f).toNat := by
 obtain ⟨⟨q,e⟩,_⟩:=shL_spec hL hf
 obtain ⟨r,e2⟩:=sT_suf t h (shL h (f:Int)) ((shL h (f:Int)).length - 1)
 refine ⟨r,?_⟩
 unfold cTx
 rw [e2]
 unfold tX
 rw [show (shL h (f:Int)).getD 0 0=f by rw [e];rfl]
theorem loop_ne (s : ByteArray) : ∀ (n i : Nat) (r : List UInt8), s.size ≤ n + i → r ≠ [] → ByteArray.toList.loop s i r ≠ []
 | 0,i,r,h,hr=>by
  rw [ByteArray.toList.loop,if_neg (by omega)]
  simpa using hr
 | n+1,i,r,h,hr=>by
  rw [ByteArray.toList.loop]
  split
  ·exact loop_ne s n (i+1) _ (by omega) (by simp)
  ·simpa using hr
theorem toList_ne {s : ByteArray} (h : 0 < s.size) : s.toList ≠ [] := by
 unfold ByteArray.toList
 rw [ByteArray.toList.loop,if_pos h]
 exact loop_ne s s.size 1 _ (by omega) (by simp)
theorem cTx_nil {t : List Cl} {h : List Ft} (ht : TS t) (hv : HV t h) {f : Nat} (hf : f < h.length) : (cTx t h f).toList ≠ [] := by
 have h1:=cc_cTx ht hv hf
 have hp:=shL_pos hv.lo hf
 have h2:cc (cTx t h f)≤(cTx t h f).size:=List.count_le_length
 exact toList_ne (by omega)
end Go.Proofs.YteibechlncphnaaDoor.Pure
end
