/- One part of the proofs on this program: functions of the program as plain functions, that the code comes to them, and facts on them. -/
import Derived.Test.YtbbmgiloikkpiaaYAll1
import Derived.Test.YtbbmgiloikkpiaaYAll4
import Derived.Test.YtbbmgiloikkpiaaYMch
section
set_option linter.unusedSimpArgs false
set_option linter.unusedVariables false
namespace Go.Proofs.Ytbbmgiloikkpiaa.Pure
open Go Go.RowKit Go.Proofs.Ytbbmgiloikkpiaa.P Go.Proofs.YtbbmgiloikkpiaaW.PrintWords
set_option linter.unusedVariables false
def dpn (x : Ln) : Ln := ⟨wrap64 (x.f0 + 1), x.f1, x.f2, x.f3⟩
def inn (p : List Ln) : List Ln := if p = [] then [⟨1, 0, 0, 0⟩] else p.map dpn
theorem inn_len (p : List Ln) : (inn p).length ≤ p.length + 1 := by unfold inn; split <;> simp
theorem rdL {p : List Ln} {i : Nat} (h : i < p.length) : jd p (i : Int) = p[i] := by
 simp [jd,List.getD_eq_getElem?_getD,h]
theorem ev_indent_l0 {p : List Ln} (hp : p.length ≤ 1048576) : ∀ (n i : Nat), p.length ≤ n + i → i ≤ p.length → Ev (fun k => jwa.l0 k ((p.take i).map dpn ++ p.drop i) i) (p.map dpn)
 | 0,i,h,hi=>by
  obtain rfl:i=p.length:=by omega
  refine Ev.step (fun k=>by rw [jwa.l0]) ?_
  rw [List.take_of_length_le (Nat.le_refl _),List.drop_of_length_le (Nat.le_refl _),List.append_nil]
  exact Ev.neg (by rw [List.length_map];omega) (Ev.now _)
 | n+1,i,h,hi=>by
  by_cases hlt:i<p.length
  ·refine Ev.step (fun k=>by rw [jwa.l0]) ?_
   have hl:((p.take i).map dpn ++ p.drop i).length=p.length:=by simp;omega
   have hr:jd ((p.take i).map dpn ++ p.drop i) (i:Int)=p[i]:=by
    rw [rdL (by omega),List.getElem_append_right (by simp;omega)]
    simp [Nat.min_eq_left hi]
   have hs:((p.take i).map dpn ++ p.drop i).set i (dpn p[i])=(p.take (i+1)).map dpn ++ p.drop (i+1):=by
    have hd:p.drop i=p[i] :: p.drop (i+1):=List.drop_eq_getElem_cons hlt
    rw [List.set_append_right _ _ (by simp;omega),show i - ((p.take i).map dpn).length=0 by simp;omega,hd,List.set_cons_zero,List.take_succ_eq_append_getElem hlt,List.map_append,List.append_assoc]
    rfl
   refine Ev.pos (by rw [hl];omega) (Ev.pos (by omega) ?_)
   rw [hr,wS (by omega),Int.toNat_natCast]
   have:=ev_indent_l0 hp n (i+1) (by omega) (by omega)
   rw [← hs] at this
   exact this
  ·obtain rfl:i=p.length:=by omega
   refine Ev.step (fun k=>by rw [jwa.l0]) ?_
   rw [List.take_of_length_le (Nat.le_refl _),List.drop_of_length_le (Nat.le_refl _),List.append_nil]
   exact Ev.neg (by rw [List.length_map];omega) (Ev.now _)
theorem ev_indent {p : List Ln} (hp : p.length ≤ 1048576) : Ev (fun k => jwa.f k p) (p.map dpn) := by
 unfold jwa.f
 simp only [Option.bind_some]
 refine Ev.pos (by simp only [List.length_nil];omega) ?_
 exact ev_indent_l0 hp p.length 0 (by omega) (by omega)
theorem ev_under {p : List Ln} (hp : p.length ≤ 1048576) (a b c d : Int) : Ev (fun k => jCb.f k a b c d p) (⟨a, b, c, d⟩ :: inn p) := by
 unfold jCb.f inn
 simp only [Option.bind_some]
 cases p with
 | nil =>
  have e:=ev_indent (p:=[⟨0,0,0,0⟩]) (by simp)
  rw [show ([⟨0,0,0,0⟩]:List Ln).map dpn=[⟨1,0,0,0⟩] by simp [dpn,wrap64]] at e
  rw [if_pos rfl]
  exact Ev.pos rfl (Ev.bind e (Ev.pos (by simp) (Ev.now _)))
 | cons x l =>
  refine Ev.neg (by simp only [List.length_cons];omega) (Ev.bind (ev_indent hp) (Ev.pos ?_ (Ev.now _)))
  simp only [List.length_cons,List.length_nil,List.length_map] at hp ⊢;omega
end Go.Proofs.Ytbbmgiloikkpiaa.Pure
end
