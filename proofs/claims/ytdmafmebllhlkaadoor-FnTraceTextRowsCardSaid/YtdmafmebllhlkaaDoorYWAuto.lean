/- One part of the proofs on this program: functions of the program as plain functions, that the code comes to them, and facts on them. -/
import Derived.Below
import Derived.RowKit
import Derived.Test.YtdmafmebllhlkaaDoorYWLast
import Derived.Test.YtdmafmebllhlkaaDoorYWMore
import Derived.Test.YtdmafmebllhlkaaDoorYWWords
section
namespace Go.Proofs.YtdmafmebllhlkaaDoorW.PrintWords
open Go Go.RowKit Go.Proofs.YtdmafmebllhlkaaDoorW.PrintLast Go.Proofs.YtdmafmebllhlkaaDoorW.PrintMore
variable {P : Prop}
theorem bq {b : Nat} {w W : World} (h : Below b w W := by repeat (first | (with_reducible first | exact HB.out | apply jJ | apply jB | apply jQ) | exact HB.out)) : Below b w W := h
theorem rq {P Q : Prop} (h : P) (q : P → Q := by intro rqh; (with_reducible repeat (first | apply Kd.jMa | apply Kd.jFa | apply Kd.jOa)); exact rqh) : Q := q h
theorem kq {P Q : Prop} (h : P) (q : P → Q := by intro kqh; (with_reducible repeat (first | refine jaa ?_ _ | refine jea ?_ | refine jba ?_ _)); exact kqh) : Q := q h
theorem cq {P Q : Prop} (h : P) (q : P → Q := by intro cqh; repeat (first | exact cqh | (with_reducible refine Kd.C_alloc ?_ _) | (with_reducible refine Kd.C_drewN ?_ _) | (with_reducible refine Kd.C_drew ?_))) : Q := q h
theorem uq {P : Prop} (h : P := by first | (with_reducible assumption) | assumption) : P := h
theorem aq {P : Prop} (h : P := by (try simp only [List.map_toArray, List.map_cons, List.map_nil]); first | done | rfl | (simp only [List.length_drop, List.length_take]; rfl)) : P := h
theorem sa (h : P := by simp only [Act.put, List.setIfInBounds_toArray, List.set_cons_zero, List.set_cons_succ, i64_w, i32_w]; rfl) : P := h
theorem sb (h : P := by intro w'; go_simp; with_reducible rfl) : P := h
theorem pq {P : Program} {md : Region.Mode} {ops : Array Oper} {Q : Exit → Act → World → Prop} {S : World → Prop} {ds : List Nat} {i : Nat} {N : Option Tmp} {oi : Oper} {v : Value} {fuel : Nat} {l : Array Bool} {a a' : Act} {w : World} (l' : Array Bool) (h : jG P md ops Q S ds fuel l' a' w) (hi : ops[i]? = some oi := by exact rfl) (hN : oi.dst = N := by exact rfl) (hc : anyB md ops l l' i = true := by exact any_of HT_.out (by kernel_rfl)) (hQ : ∀ c a w, Q (.panic c) (a.put oi.dst v) w → Q (.panic c) a w := by exact fun _ _ _ h => h) (hy : Yields P ops oi v a := by refine Or.inl ⟨by rfl, ?_⟩; intro w'; go_simp; with_reducible rfl) (ha : a.put N v = a' := by simp only [Act.put, List.setIfInBounds_toArray, List.set_cons_zero, List.set_cons_succ, i64_w, i32_w]; rfl) : jG P md ops Q S ds (fuel + 1) l a w := pure_ l' hi hN hc hQ hy ha h
theorem gL {P : Program} {ops : Array Oper} {Q : Exit → Act → World → Prop} {a : Act} {rest : List Oper} {oi : Oper} {w : World} (N : Option Tmp) {f : FuncId} {fn : Func} {as : Array Operand} {ts : Array TypeId} (hf : P.funcs[f]? = some fn) (args : Array Value) (h : Calls P f args w fun e w' => ∃ v, e = .returned v ∧ wpList P ops Q rest (a.put N v) w') (hd : oi.dst = N := by exact rfl) (hg : oi.guard = none := by exact rfl) (hname : (fn.name == "runtime.NumGoroutine") = false := by kernel_rfl) (hb : fn.body.isSome = true := by exact rfl) (hop : oi.op = .call { callee := .value (.func f), args := as, argTypes := ts } := by exact rfl) (hargs : as.map a.eval = args := by (try simp only [List.map_toArray, List.map_cons, List.map_nil]); first | done | rfl | (simp only [List.length_drop, List.length_take]; rfl)) : wpList P ops Q (oi :: rest) a w := goesL_ N hd hg hf hname hb args hop hargs h
theorem cb {w W : World} {p : Addr} {v : Value} (h : Below w.heap.size w W) (hx : w.cell? p = some v) : W.cell? p = some v := (h.cell (World.block_lt_of_cell? w _ hx)).trans hx
theorem am {p : Prop} (h : p) : jy p := ⟨h⟩
theorem bE {P : Program} {ops : Array Oper} {rest : List Oper} {o : Oper} {a : Act} {Q : Exit → Act → World → Prop} {W : World} {N : Tmp} {cs : Array Value} {t : TypeId} (h : ∀ g, g = W.heap.size → ∀ w1, w1.heap[g]? = some (.cells cs t (0, 0)) → Below W.heap.size W w1 → wpList P ops Q rest (a.put o.dst (.pointer (some ⟨g, 0, none⟩))) w1) (hg : o.guard = none := by rfl) (hd : o.dst = some N := by rfl) (hr : (execOp a.eval o).run P W = .ok (.value (.pointer (some ⟨W.heap.size, 0, none⟩))) (W.alloc (.cells cs t (0, 0))) := by first | (go_simp; done) | (go_simp; rfl)) : wpList P ops Q (o :: rest) a W := box_event hg hd hr h
theorem bc0 {w : World} {g : Nat} {t : TypeId} {v : Value} {r : List Value} (h : w.heap[g]? = some (.cells (List.toArray (v :: r)) t (0, 0))) : w.cell? ⟨g, 0, none⟩ = some v := by simp [World.cell?, h]
theorem bc1 {w : World} {g : Nat} {t : TypeId} {a v : Value} {r : List Value} (h : w.heap[g]? = some (.cells (List.toArray (a :: v :: r)) t (0, 0))) : w.cell? ⟨g, 1, none⟩ = some v := by simp [World.cell?, h]
theorem bc2 {w : World} {g : Nat} {t : TypeId} {a b v : Value} {r : List Value} (h : w.heap[g]? = some (.cells (List.toArray (a :: b :: v :: r)) t (0, 0))) : w.cell? ⟨g, 2, none⟩ = some v := by simp [World.cell?, h]
theorem bc3 {w : World} {g : Nat} {t : TypeId} {a b c v : Value} {r : List Value} (h : w.heap[g]? = some (.cells (List.toArray (a :: b :: c :: v :: r)) t (0, 0))) : w.cell? ⟨g, 3, none⟩ = some v := by simp [World.cell?, h]
theorem sq {P : Prop} (h : P := by first | rfl | (simp; done) | (simp [*]; done)) : P := h
theorem Y0 (h : P := by repeat (first | (with_reducible first | exact HI0.out | apply jr.alloc | apply jr.drewN | apply jr.drew | apply jr.set_1) | exact HI0.out)) : P := h
theorem Y1 (h : P := by repeat (first | (with_reducible first | exact HK.out | apply ji.set_ | apply keep_drewN | apply keep_drew | apply keep_alloc) | exact HK.out)) : P := h
theorem Y2 (h : P := by repeat (first | (with_reducible first | exact HB.out | apply jJ | apply jB | apply jQ | refine jR ?_ (jr.ge HI0.out)) | exact HB.out)) : P := h
theorem Y3 (h : P := by first | (go_simp; done) | (go_simp; rfl)) : P := h
theorem Y4 (h : P := by first | rfl | (simp [jJa, jIa] <;> rfl) | (simp [*, jJa, jIa] <;> rfl)) : P := h
theorem Y5 (h : P := by rw [hg]; exact (jA (bq))) : P := h
theorem Y6 (h : P := by repeat (first | (with_reducible first | exact HB.out | apply jJ | apply jB | apply jQ | refine jR ?_ GE159.out) | exact HB.out)) : P := h
theorem Y7 (h : P := by repeat (first | exact jDa.refl _ | apply jDa.step)) : P := h
theorem Y8 (h : P := by repeat (first | (with_reducible first | exact HB.out | apply jJ | apply jB | apply jQ | refine jR ?_ GE196.out) | exact HB.out)) : P := h
theorem Y9 (h : P := by repeat (first | exact HR0.out | (with_reducible refine Kd.C_alloc ?_ _) | (with_reducible refine Kd.C_drewN ?_ _) | (with_reducible refine Kd.C_drew ?_))) : P := h
theorem Y10 (h : P := by (with_reducible repeat (first | apply Kd.jMa | apply Kd.jFa | apply Kd.jOa)); exact Kd.jT (Kd.R_far (p := ⟨gb159, 1, none⟩) (Kd.R_far (p := ⟨gb159, 0, none⟩) (Kd.R_types HO_3.out BK159.out (by decide)) (fun _ hk => hk.2) (.string ((jb l0 x9_1).f0))) (fun _ hk => hk.2) (.int .i64 ((jb l0 x9_1).f1))) (fun _ hk => trivial)) : P := h
theorem Y11 (h : P := by (with_reducible repeat (first | refine jaa ?_ _ | refine jea ?_ | refine jba ?_ _)); refine jLa (cs := #[.string ((jb l0 x9_1).f0), .int .i64 0]) ?_ 1 _ rfl; (with_reducible repeat (first | refine jaa ?_ _ | refine jea ?_ | refine jba ?_ _)); refine jLa (cs := #[.string (⟨#[]⟩ : ByteArray), .int .i64 0]) ?_ 0 _ rfl; (with_reducible repeat (first | refine jaa ?_ _ | refine jea ?_ | refine jba ?_ _)); exact BK159.out) : P := h
theorem Y12 (h : P := by repeat (first | (with_reducible first | exact HK.out | apply ji.set_ | apply keep_drewN | apply keep_drew | apply keep_alloc | refine keep_far ?_ GW254.out _) | exact HK.out)) : P := h
theorem Y13 (h : P := by repeat (first | (with_reducible first | exact HI0.out | apply jr.alloc | apply jr.drewN | apply jr.drew | apply jr.set_1 | refine jr.far ?_ NB0_254.out _) | exact HI0.out)) : P := h
theorem Y14 (h : P := by repeat (first | (with_reducible first | exact HI0.out | apply jr.alloc | apply jr.drewN | apply jr.drew | apply jr.set_1 | refine jr.far ?_ NB0_232.out _) | exact HI0.out)) : P := h
theorem Y15 (h : P := by repeat (first | (with_reducible first | exact HK.out | apply ji.set_ | apply keep_drewN | apply keep_drew | apply keep_alloc | refine keep_far ?_ GW232.out _) | exact HK.out)) : P := h
theorem Y16 (h : P := by repeat (first | (with_reducible first | exact HB.out | apply jJ | apply jB | apply jQ | refine jR ?_ (jr.ge HI0.out) | refine jR ?_ GE254.out) | exact HB.out)) : P := h
theorem Y17 (h : P := by first | (rw [add_block]; exact hn160_0) | (show (Addr.add _ _).block ≠ _; rw [add_block]; exact hn160_0) | exact hn160_0) : P := h
theorem Y18 (h : P := by first | (rw [add_block]; exact hn160_1) | (show (Addr.add _ _).block ≠ _; rw [add_block]; exact hn160_1) | exact hn160_1) : P := h
theorem Y19 (h : P := by repeat (first | (with_reducible first | exact HB.out | apply jJ | apply jB | apply jQ | refine jR ?_ (jr.ge HI0.out) | refine jR ?_ GE232.out) | exact HB.out)) : P := h
theorem Y20 (h : P := by repeat (first | (with_reducible first | exact HB.out | apply jJ | apply jB | apply jQ) | exact HB.out)) : P := h
theorem Y21 (h : P := by rw [hg]; exact (jpa (w := w) (g := g) (row := none) (by repeat (first | (with_reducible first | exact HK.out | apply ji.set_ | apply keep_drewN | apply keep_drew | apply keep_alloc) | exact HK.out)))) : P := h
theorem Y22 (h : P := by rw [hg]; exact (jA (by repeat (first | (with_reducible first | exact HBW.out | apply jJ | apply jB | apply jQ) | exact HBW.out)))) : P := h
theorem Y23 (h : P := by repeat (first | (with_reducible first | exact HB.out | apply jJ | apply jB | apply jQ | refine jR ?_ (jr.ge HI288.out)) | exact HB.out)) : P := h
theorem Y24 (h : P := by repeat (first | (with_reducible first | exact HB.out | apply jJ | apply jB | apply jQ | refine jR ?_ GE105.out) | exact HB.out)) : P := h
theorem ozD {p : Prop} [Decidable p] (h : decide p = true) : p := of_decide_eq_true h
theorem dzT {p : Prop} [d : Decidable p] (h : p) : decide p = true := decide_eq_true h
theorem dzF {p : Prop} [d : Decidable p] (h : ¬ p) : decide p = false := decide_eq_false h
theorem ezT {p : Prop} (h : p) : p = True := eq_true h
theorem bzS {α β : Type} {o : Option α} {f : α → Option β} {b : β} (h : o.bind f = some b) : ∃ a, o = some a ∧ f a = some b := Option.bind_eq_some_iff.mp h
end Go.Proofs.YtdmafmebllhlkaaDoorW.PrintWords
end
