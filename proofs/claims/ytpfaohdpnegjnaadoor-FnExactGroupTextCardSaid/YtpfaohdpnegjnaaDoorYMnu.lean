/- One part of the proofs on this program: functions of the program as plain functions, that the code comes to them, and facts on them. -/
import Derived.Lib.ItoaNum
import Derived.Test.YtpfaohdpnegjnaaDoorYAll2
import Derived.Test.YtpfaohdpnegjnaaDoorYAll4
import Derived.Test.YtpfaohdpnegjnaaDoorYMt
section
set_option linter.unusedSimpArgs false
set_option linter.unusedVariables false
namespace Go.Proofs.YtpfaohdpnegjnaaDoor.Pure
open Go Go.RowKit Go.Proofs.YtpfaohdpnegjnaaDoor.P Go.Proofs.YtpfaohdpnegjnaaDoorW.PrintWords
set_option linter.unusedVariables false
def dgB (n : Nat) : ByteArray := ⟨(Lib.decDigits n).toArray⟩
theorem dgB_small {n : Nat} (h : n < 10) : dgB n = ⟨#[UInt8.ofNat (48 + n)]⟩ := by unfold dgB; rw [Lib.decDigits, dif_pos h]
theorem dgB_big {n : Nat} (h : ¬ n < 10) : dgB n = dgB (n / 10) ++ dgB (n % 10) := by
 rw [dgB_small (n:=n % 10) (by omega)]
 unfold dgB
 rw [Lib.decDigits,dif_neg h]
 apply ByteArray.ext
 apply Array.toList_inj.mp
 simp
theorem jnb (n : Nat) : (dgB n).size ≤ n + 1 := by
 induction n using Nat.strongRecOn with
 | _ n ih =>
  by_cases h:n<10
  ·rw [dgB_small h];show 1≤n+1;omega
  ·rw [dgB_big h,ByteArray.size_append]
   have h1:=ih (n / 10) (by omega)
   have h2:(dgB (n % 10)).size=1:=by rw [dgB_small (by omega)];rfl
   omega
theorem dig_extract : ∀ n : Fin 10, (⟨#[48, 49, 50, 51, 52, 53, 54, 55, 56, 57]⟩ : ByteArray).extract n.val (n.val + 1) = ⟨#[UInt8.ofNat (48 + n.val)]⟩ := by decide
theorem ev_number (n : Nat) (hn : n ≤ 1048576) : Ev (fun k => jda.f k (n : Int)) (dgB n) := by
 induction n using Nat.strongRecOn with
 | _ n ih =>
  refine Ev.step (fun k=>by rw [jda.f]) ?_
  by_cases h:n<10
  ·refine Ev.pos (by omega) (Ev.pos (by omega) (Ev.pos (by rw [wS (by omega)];omega) (Ev.pos (by rw [wS (by omega)];omega) ?_)))
   rw [wS (by omega),Int.toNat_natCast,Int.toNat_natCast,dgB_small h]
   have e:=dig_extract ⟨n,h⟩
   simp only at e
   rw [e]
   exact Ev.now _
  ·refine Ev.neg (by omega) ?_
   have e1:wrap64 (Int.tdiv (n:Int) 10)=((n / 10:Nat):Int):=by
    rw [Int.tdiv_eq_ediv_of_nonneg (by omega),wr (by omega)];omega
   have e2:Int.tmod (n:Int) 10=((n % 10:Nat):Int):=by
    rw [Int.tmod_eq_emod_of_nonneg (by omega)];omega
   rw [e1,e2,dgB_big h]
   have h1:=jnb (n / 10)
   have h2:=jnb (n % 10)
   exact Ev.bind (ih (n / 10) (by omega) (by omega)) (Ev.bind (ih (n % 10) (by omega) (by omega)) (Ev.pos (by omega) (Ev.now _)))
theorem itoa_eq {n : Nat} (hn : n < 100) : strconv_Itoa.f (n : Int) = some (dgB n) := by
 unfold strconv_Itoa.f
 rw [if_pos (by omega),if_pos (by omega),Int.toNat_natCast];rfl
end Go.Proofs.YtpfaohdpnegjnaaDoor.Pure
end
