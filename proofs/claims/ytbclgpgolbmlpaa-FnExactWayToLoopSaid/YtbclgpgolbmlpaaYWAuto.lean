/- One part of the proofs on this program: functions of the program as plain functions, that the code comes to them, and facts on them. -/
import Derived.Below
import Derived.RowKit
section
namespace Go.Proofs.YtbclgpgolbmlpaaW.PrintWords
open Go Go.RowKit
theorem bq {b : Nat} {w W : World} (h : Below b w W := by repeat (first | (with_reducible first | exact HB.out | apply below_alloc | apply pw_below_drewN | apply below_drew1) | exact HB.out)) : Below b w W := h
theorem rq {P Q : Prop} (h : P) (q : P → Q := by intro rqh; (with_reducible repeat (first | apply Kd.R_alloc | apply Kd.R_drewN | apply Kd.R_drew)); exact rqh) : Q := q h
theorem kq {P Q : Prop} (h : P) (q : P → Q := by intro kqh; (with_reducible repeat (first | refine blk_drewN ?_ _ | refine blk_drew ?_ | refine blk_alloc ?_ _)); exact kqh) : Q := q h
theorem cq {P Q : Prop} (h : P) (q : P → Q := by intro cqh; repeat (first | exact cqh | (with_reducible refine Kd.C_alloc ?_ _) | (with_reducible refine Kd.C_drewN ?_ _) | (with_reducible refine Kd.C_drew ?_))) : Q := q h
theorem uq {P : Prop} (h : P := by first | (with_reducible assumption) | assumption) : P := h
theorem aq {P : Prop} (h : P := by (try simp only [List.map_toArray, List.map_cons, List.map_nil]); first | done | rfl | (simp only [List.length_drop, List.length_take]; rfl)) : P := h
theorem sq {P : Prop} (h : P := by first | rfl | (simp; done) | (simp [*]; done)) : P := h
end Go.Proofs.YtbclgpgolbmlpaaW.PrintWords
end
