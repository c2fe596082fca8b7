/- One part of the proofs on this program: functions of the program as plain functions, that the code comes to them, and facts on them. -/
import Derived.Test.YtbbmgiloikkpiaaYAll6
import Derived.Test.YtbbmgiloikkpiaaYMft
section
set_option linter.unusedSimpArgs false
set_option linter.unusedVariables false
namespace Go.Proofs.Ytbbmgiloikkpiaa.Pure
open Go Go.RowKit Go.Proofs.Ytbbmgiloikkpiaa.P Go.Proofs.YtbbmgiloikkpiaaW.PrintWords
set_option linter.unusedVariables false
theorem str_one (x : Int) : (strOfNums [x]).size = 1 := by simp [strOfNums, ByteArray.size]
theorem ev_markText_l0 : ∀ (n : Nat) (x : Int) (s : ByteArray), x ≤ n → s.size + n ≤ 4611686018427387904 → ∃ r, Ev (fun k => jMa.l0 k x s) r
 | 0,x,s,h,hs=>by
  refine ⟨(⟨#[109]⟩:ByteArray) ++ s,?_⟩
  refine Ev.step (fun k=>by rw [jMa.l0]) ?_
  exact Ev.neg (by omega) (Ev.pos (by omega) (Ev.now _))
 | n+1,x,s,h,hs=>by
  by_cases hx:x > 0
  ·have hd:Int.tdiv x 10≤n:=by have:=Int.tdiv_eq_ediv_of_nonneg (a:=x) (b:=10) (by omega);omega
   have hd0:0≤Int.tdiv x 10:=by have:=Int.tdiv_eq_ediv_of_nonneg (a:=x) (b:=10) (by omega);omega
   have hsz:(strOfNums [(wrap64 (48+Int.tmod x 10)) % 256] ++ s).size=1+s.size:=by rw [ByteArray.size_append,str_one]
   obtain ⟨r,hr⟩:=ev_markText_l0 n (Int.tdiv x 10) (strOfNums [(wrap64 (48+Int.tmod x 10)) % 256] ++ s) hd (by rw [hsz];omega)
   refine ⟨r,?_⟩
   refine Ev.step (fun k=>by rw [jMa.l0]) ?_
   simp only [Option.bind_some]
   rw [wr (x:=Int.tdiv x 10) (by omega)]
   exact Ev.pos hx (Ev.pos (by rw [str_one];omega) hr)
  ·refine ⟨(⟨#[109]⟩:ByteArray) ++ s,?_⟩
   refine Ev.step (fun k=>by rw [jMa.l0]) ?_
   exact Ev.neg hx (Ev.pos (by omega) (Ev.now _))
theorem ev_markText {x : Int} (h0 : 0 < x) (h : x ≤ 1073741824) : ∃ r, Ev (fun k => jMa.f k x) r := by
 obtain ⟨r,hr⟩:=ev_markText_l0 1073741824 x (⟨#[]⟩:ByteArray) h (by simp [ByteArray.size])
 refine ⟨r,?_⟩
 unfold jMa.f
 exact Ev.neg (by omega) hr
theorem ev_markTree {t : List Cl} (ht : t.length ≤ 1048576) : ∃ l, Ev (fun k => jXa.f k t 1) ((1 + 2 * (t.length : Int)), l) := by
 have go:∀ (n i:Nat) (x:List Cl),x.length=t.length→t.length≤n+i→i≤t.length→∃ l,Ev (fun k=>jpa.l0 k x (1+2 * (i:Int)) i) ((1+2 * (t.length:Int)),l):=by
  intro n
  induction n with
  | zero =>
   intro i x hx h hi
   refine ⟨x,?_⟩
   refine Ev.step (fun k=>by rw [jpa.l0]) ?_
   rw [show i=t.length from by omega]
   exact Ev.neg (by omega) (Ev.now _)
  | succ n ih =>
   intro i x hx h hi
   by_cases hlt:i<t.length
   ·obtain ⟨s,hs⟩:=ev_markText (x:=1+2 * (i:Int)) (by omega) (by omega)
    refine exStep (fun k=>by rw [jpa.l0]) ?_
    refine exPos (by omega) (exBind hs (exPos (by omega) ?_))
    simp only [Option.bind_some]
    rw [wr (x:=1+2 * (i:Int)+1) (by omega),wr (x:=1+2 * (i:Int)+1+1) (by omega),wS (by omega),show 1+2 * (i:Int)+1+1=1+2 * ((i+1:Nat):Int) from by omega]
    exact ih (i+1) _ (by rw [List.length_set,List.length_set];exact hx) (by omega) (by omega)
   ·refine ⟨x,?_⟩
    refine Ev.step (fun k=>by rw [jpa.l0]) ?_
    rw [show i=t.length from by omega]
    exact Ev.neg (by omega) (Ev.now _)
 obtain ⟨l,hl⟩:=go t.length 0 t rfl (by omega) (by omega)
 refine ⟨l,?_⟩
 unfold jXa.f jpa.f
 exact Ev.bind (a:=((1+2 * (t.length:Int)),l)) hl (Ev.now _)
end Go.Proofs.Ytbbmgiloikkpiaa.Pure
end
