/- One part of the proofs on this program: functions of the program as plain functions, that the code comes to them, and facts on them. -/
import Derived.Lib.ItoaNum
import Derived.Test.YtdmafmebllhlkaaDoorYAll1
import Derived.Test.YtdmafmebllhlkaaDoorYAll2
import Derived.Test.YtdmafmebllhlkaaDoorYMx
section
set_option linter.unusedSimpArgs false
set_option linter.unusedVariables false
namespace Go.Proofs.YtdmafmebllhlkaaDoor.Pure
open Go Go.RowKit Go.Proofs.YtdmafmebllhlkaaDoor.P Go.Proofs.YtdmafmebllhlkaaDoorW.PrintWords
set_option linter.unusedVariables false
def nmN (s : ByteArray) : Nat → Nat → Bool
 | 0,_=>bw s.size 1 6
 | n+1,i=>if i<s.size then (if bt s i<97 then false else if bt s i > 122 then false else nmN s n (i+1)) else bw s.size 1 6
def nameB (s : ByteArray) : Bool := nmN s s.size 0
theorem ev_validName {s : ByteArray} (hs : s.size ≤ 1048576) : Ev (fun k => jE.f k s) (nameB s) := by
 have:∀ (n i:Nat),s.size≤n+i→Ev (fun k=>jE.l0 k s i) (nmN s n i):=by
  intro n
  induction n with
  | zero =>
   intro i h
   refine Ev.step (fun k=>by rw [jE.l0]) ?_
   rw [iR]
   exact Ev.neg (by omega) (Ev.now _)
  | succ n ih =>
   intro i h
   refine Ev.step (fun k=>by rw [jE.l0]) ?_
   rw [iR,nmN]
   by_cases h1:i<s.size
   ·rw [if_pos h1]
    refine Ev.pos (by omega) (Ev.pos (by omega) ?_)
    by_cases h2:bt s i<97
    ·rw [if_pos h2];exact Ev.pos h2 (Ev.now _)
    ·rw [if_neg h2]
     refine Ev.neg h2 ?_
     by_cases h3:bt s i > 122
     ·rw [if_pos h3];exact Ev.pos h3 (Ev.now _)
     ·rw [if_neg h3,wS (by omega)]
      exact Ev.neg h3 (ih (i+1) (by omega))
   ·rw [if_neg h1]
    exact Ev.neg (by omega) (Ev.now _)
 exact this s.size 0 (by omega)
theorem ev_nameOk {s : ByteArray} (hs : s.size ≤ 1048576) : Ev (fun k => jS.f k s) (nameB s) := by
 have:∀ (n i:Nat),s.size≤n+i→Ev (fun k=>jS.l0 k s s.size i) (nmN s n i):=by
  intro n
  induction n with
  | zero =>
   intro i h
   refine Ev.step (fun k=>by rw [jS.l0]) ?_
   rw [iW]
   exact Ev.neg (by omega) (Ev.now _)
  | succ n ih =>
   intro i h
   refine Ev.step (fun k=>by rw [jS.l0]) ?_
   rw [iW,nmN]
   by_cases h1:i<s.size
   ·rw [if_pos h1]
    refine Ev.pos (by omega) (Ev.pos (by omega) (Ev.pos (by omega) ?_))
    by_cases h2:bt s i<97
    ·rw [if_pos h2];exact Ev.pos h2 (Ev.now _)
    ·rw [if_neg h2]
     refine Ev.neg h2 ?_
     by_cases h3:bt s i > 122
     ·rw [if_pos h3];exact Ev.pos h3 (Ev.now _)
     ·rw [if_neg h3,wS (by omega)]
      exact Ev.neg h3 (ih (i+1) (by omega))
   ·rw [if_neg h1]
    exact Ev.neg (by omega) (Ev.now _)
 exact this s.size 0 (by omega)
def dgB (n : Nat) : ByteArray := ⟨(Lib.decDigits n).toArray⟩
theorem dgB_small {n : Nat} (h : n < 10) : dgB n = ⟨#[UInt8.ofNat (48 + n)]⟩ := by unfold dgB; rw [Lib.decDigits, dif_pos h]
theorem dgB_big {n : Nat} (h : ¬ n < 10) : dgB n = dgB (n / 10) ++ dgB (n % 10) := by
 rw [dgB_small (n:=n % 10) (by omega)]
 unfold dgB
 rw [Lib.decDigits,dif_neg h]
 apply ByteArray.ext
 apply Array.toList_inj.mp
 simp
theorem jTa (n : Nat) : (dgB n).size ≤ n + 1 := by
 induction n using Nat.strongRecOn with
 | _ n ih =>
  by_cases h:n<10
  ·rw [dgB_small h];show 1≤n+1;omega
  ·rw [dgB_big h,ByteArray.size_append]
   have h1:=ih (n / 10) (by omega)
   have h2:(dgB (n % 10)).size=1:=by rw [dgB_small (by omega)];rfl
   omega
theorem dig_extract : ∀ n : Fin 10, (⟨#[48, 49, 50, 51, 52, 53, 54, 55, 56, 57]⟩ : ByteArray).extract n.val (n.val + 1) = ⟨#[UInt8.ofNat (48 + n.val)]⟩ := by decide
theorem ev_number (n : Nat) (hn : n ≤ 1048576) : Ev (fun k => jF.f k (n : Int)) (dgB n) := by
 induction n using Nat.strongRecOn with
 | _ n ih =>
  refine Ev.step (fun k=>by rw [jF.f]) ?_
  by_cases h:n<10
  ·refine Ev.pos (by omega) (Ev.pos (by omega) (Ev.pos (by rw [wS (by omega)];omega) (Ev.pos (by rw [wS (by omega)];omega) ?_)))
   rw [wS (by omega),Int.toNat_natCast,Int.toNat_natCast,dgB_small h]
   have e:=dig_extract ⟨n,h⟩
   simp only at e
   rw [e]
   exact Ev.now _
  ·refine Ev.neg (by omega) ?_
   have e1:wrap64 (Int.tdiv (n:Int) 10)=((n / 10:Nat):Int):=by
    rw [Int.tdiv_eq_ediv_of_nonneg (by omega),wr (by omega)];omega
   have e2:Int.tmod (n:Int) 10=((n % 10:Nat):Int):=by
    rw [Int.tmod_eq_emod_of_nonneg (by omega)];omega
   rw [e1,e2,dgB_big h]
   have h1:=jTa (n / 10)
   have h2:=jTa (n % 10)
   exact Ev.bind (ih (n / 10) (by omega) (by omega)) (Ev.bind (ih (n % 10) (by omega) (by omega)) (Ev.pos (by omega) (Ev.now _)))
def cc (s : ByteArray) : Nat := s.data.toList.count 58
theorem cc_app (a b : ByteArray) : cc (a ++ b) = cc a + cc b := by
 unfold cc
 rw [show (a ++ b).data.toList=a.data.toList ++ b.data.toList by simp,List.count_append]
theorem len_size (s : ByteArray) : s.data.toList.length = s.size := rfl
theorem bt_get {s : ByteArray} {i : Nat} (h : i < s.data.toList.length) : bt s (i : Int) = ((s.data.toList[i]'h).toNat : Int) := by
 unfold bt
 rw [dif_pos (show ((i:Int)).toNat<s.size from h)]
 rfl
theorem is58 {x : UInt8} : ((x.toNat : Int) = 58) ↔ x = 58 := by
 constructor
 ·intro e
  have e2:x.toNat=58:=by omega
  exact UInt8.toNat_inj.mp (e2.trans rfl)
 ·intro e;rw [e];rfl
theorem nmN_58 {s : ByteArray} : ∀ (n i : Nat), s.size ≤ n + i → nmN s n i = true → ∀ j, i ≤ j → j < s.size → bt s (j : Int) ≠ 58
 | 0,i,h,_,j,h1,h2=>by omega
 | n+1,i,h,ht,j,h1,h2=>by
  rw [nmN,if_pos (by omega)] at ht
  by_cases a:bt s (i:Int)<97
  ·rw [if_pos a] at ht;cases ht
  ·rw [if_neg a] at ht
   by_cases b:bt s (i:Int) > 122
   ·rw [if_pos b] at ht;cases ht
   ·rw [if_neg b] at ht
    by_cases e:j=i
    ·rw [e];omega
    ·exact nmN_58 n (i+1) (by omega) ht j (by omega) h2
theorem cc_name {s : ByteArray} (h : nameB s = true) : cc s = 0 := by
 unfold cc
 rw [List.count_eq_zero]
 intro hm
 obtain ⟨i,hi,e⟩:=List.getElem_of_mem hm
 have h1:=nmN_58 s.size 0 (by omega) h i (by omega) hi
 rw [bt_get hi,e] at h1
 exact h1 rfl
theorem small58 : ∀ n : Fin 10, cc (⟨#[UInt8.ofNat (48 + n.val)]⟩ : ByteArray) = 0 := by decide
theorem cc_dgB (n : Nat) : cc (dgB n) = 0 := by
 induction n using Nat.strongRecOn with
 | _ n ih =>
  by_cases h:n<10
  ·rw [dgB_small h];exact small58 ⟨n,h⟩
  ·rw [dgB_big h,cc_app,ih (n / 10) (by omega),ih (n % 10) (by omega)]
theorem itoa3_eq {n : Nat} (hn : n < 1000) : strconv_Itoa.f (n : Int) = some (dgB n) := by
 unfold strconv_Itoa.f
 rw [if_pos (by omega),if_pos (by omega),Lib.itoa_nonneg];rfl
theorem nmN_size {s : ByteArray} : ∀ (n i : Nat), nmN s n i = true → s.size ≤ 6
 | 0,i,h=>by rw [nmN] at h;have:=bw_iff.mp h;omega
 | n+1,i,h=>by
  rw [nmN] at h
  split at h
  ·split at h
   ·cases h
   ·split at h
    ·cases h
    ·exact nmN_size n (i+1) h
  ·have:=bw_iff.mp h;omega
theorem name_size {s : ByteArray} (h : nameB s = true) : s.size ≤ 6 := nmN_size _ _ h
end Go.Proofs.YtdmafmebllhlkaaDoor.Pure
end
