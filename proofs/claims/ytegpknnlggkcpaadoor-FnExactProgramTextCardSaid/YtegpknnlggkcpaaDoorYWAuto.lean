/- One part of the proofs on this program: functions of the program as plain functions, that the code comes to them, and facts on them. -/
import Derived.Below
import Derived.RowKit
import Derived.Test.YtegpknnlggkcpaaDoorYWLast
import Derived.Test.YtegpknnlggkcpaaDoorYWMore
import Derived.Test.YtegpknnlggkcpaaDoorYWWords
section
namespace Go.Proofs.YtegpknnlggkcpaaDoorW.PrintWords
open Go Go.RowKit Go.Proofs.YtegpknnlggkcpaaDoorW.PrintLast Go.Proofs.YtegpknnlggkcpaaDoorW.PrintMore
variable {P : Prop}
theorem bq {b : Nat} {w W : World} (h : Below b w W := by repeat (first | (with_reducible first | exact HB.out | apply jA | apply je | apply jy) | exact HB.out)) : Below b w W := h
theorem rq {P Q : Prop} (h : P) (q : P → Q := by intro rqh; (with_reducible repeat (first | apply Kd.jPb | apply Kd.jOb | apply Kd.jLb)); exact rqh) : Q := q h
theorem kq {P Q : Prop} (h : P) (q : P → Q := by intro kqh; (with_reducible repeat (first | refine jO ?_ _ | refine jI ?_ | refine jJ ?_ _)); exact kqh) : Q := q h
theorem cq {P Q : Prop} (h : P) (q : P → Q := by intro cqh; repeat (first | exact cqh | (with_reducible refine Kd.C_alloc ?_ _) | (with_reducible refine Kd.C_drewN ?_ _) | (with_reducible refine Kd.C_drew ?_))) : Q := q h
theorem uq {P : Prop} (h : P := by first | (with_reducible assumption) | assumption) : P := h
theorem aq {P : Prop} (h : P := by (try simp only [List.map_toArray, List.map_cons, List.map_nil]); first | done | rfl | (simp only [List.length_drop, List.length_take]; rfl)) : P := h
theorem sa (h : P := by simp only [Act.put, List.setIfInBounds_toArray, List.set_cons_zero, List.set_cons_succ, jlb, job]; rfl) : P := h
theorem sb (h : P := by intro w'; go_simp; with_reducible rfl) : P := h
theorem pq {P : Program} {md : Region.Mode} {ops : Array Oper} {Q : Exit → Act → World → Prop} {S : World → Prop} {ds : List Nat} {i : Nat} {N : Option Tmp} {oi : Oper} {v : Value} {fuel : Nat} {l : Array Bool} {a a' : Act} {w : World} (l' : Array Bool) (h : jpa P md ops Q S ds fuel l' a' w) (hi : ops[i]? = some oi := by exact rfl) (hN : oi.dst = N := by exact rfl) (hc : anyB md ops l l' i = true := by exact any_of HT_.out (by kernel_rfl)) (hQ : ∀ c a w, Q (.panic c) (a.put oi.dst v) w → Q (.panic c) a w := by exact fun _ _ _ h => h) (hy : Yields P ops oi v a := by refine Or.inl ⟨by rfl, ?_⟩; intro w'; go_simp; with_reducible rfl) (ha : a.put N v = a' := by simp only [Act.put, List.setIfInBounds_toArray, List.set_cons_zero, List.set_cons_succ, jlb, job]; rfl) : jpa P md ops Q S ds (fuel + 1) l a w := pure_ l' hi hN hc hQ hy ha h
theorem gL {P : Program} {ops : Array Oper} {Q : Exit → Act → World → Prop} {a : Act} {rest : List Oper} {oi : Oper} {w : World} (N : Option Tmp) {f : FuncId} {fn : Func} {as : Array Operand} {ts : Array TypeId} (hf : P.funcs[f]? = some fn) (args : Array Value) (h : Calls P f args w fun e w' => ∃ v, e = .returned v ∧ wpList P ops Q rest (a.put N v) w') (hd : oi.dst = N := by exact rfl) (hg : oi.guard = none := by exact rfl) (hname : (fn.name == "runtime.NumGoroutine") = false := by kernel_rfl) (hb : fn.body.isSome = true := by exact rfl) (hop : oi.op = .call { callee := .value (.func f), args := as, argTypes := ts } := by exact rfl) (hargs : as.map a.eval = args := by (try simp only [List.map_toArray, List.map_cons, List.map_nil]); first | done | rfl | (simp only [List.length_drop, List.length_take]; rfl)) : wpList P ops Q (oi :: rest) a w := goesL_ N hd hg hf hname hb args hop hargs h
theorem cb {w W : World} {p : Addr} {v : Value} (h : Below w.heap.size w W) (hx : w.cell? p = some v) : W.cell? p = some v := (h.cell (World.block_lt_of_cell? w _ hx)).trans hx
theorem am {p : Prop} (h : p) : jD p := ⟨h⟩
theorem bE {P : Program} {ops : Array Oper} {rest : List Oper} {o : Oper} {a : Act} {Q : Exit → Act → World → Prop} {W : World} {N : Tmp} {cs : Array Value} {t : TypeId} (h : ∀ g, g = W.heap.size → ∀ w1, w1.heap[g]? = some (.cells cs t (0, 0)) → Below W.heap.size W w1 → wpList P ops Q rest (a.put o.dst (.pointer (some ⟨g, 0, none⟩))) w1) (hg : o.guard = none := by rfl) (hd : o.dst = some N := by rfl) (hr : (execOp a.eval o).run P W = .ok (.value (.pointer (some ⟨W.heap.size, 0, none⟩))) (W.alloc (.cells cs t (0, 0))) := by first | (go_simp; done) | (go_simp; rfl)) : wpList P ops Q (o :: rest) a W := box_event hg hd hr h
theorem bc0 {w : World} {g : Nat} {t : TypeId} {v : Value} {r : List Value} (h : w.heap[g]? = some (.cells (List.toArray (v :: r)) t (0, 0))) : w.cell? ⟨g, 0, none⟩ = some v := by simp [World.cell?, h]
theorem bc1 {w : World} {g : Nat} {t : TypeId} {a v : Value} {r : List Value} (h : w.heap[g]? = some (.cells (List.toArray (a :: v :: r)) t (0, 0))) : w.cell? ⟨g, 1, none⟩ = some v := by simp [World.cell?, h]
theorem bc2 {w : World} {g : Nat} {t : TypeId} {a b v : Value} {r : List Value} (h : w.heap[g]? = some (.cells (List.toArray (a :: b :: v :: r)) t (0, 0))) : w.cell? ⟨g, 2, none⟩ = some v := by simp [World.cell?, h]
theorem bc3 {w : World} {g : Nat} {t : TypeId} {a b c v : Value} {r : List Value} (h : w.heap[g]? = some (.cells (List.toArray (a :: b :: c :: v :: r)) t (0, 0))) : w.cell? ⟨g, 3, none⟩ = some v := by simp [World.cell?, h]
theorem sq {P : Prop} (h : P := by first | rfl | (simp; done) | (simp [*]; done)) : P := h
theorem Y0 (h : P := by first | rfl | (simp [errW_none, errW_some] <;> rfl) | (simp [*, errW_none, errW_some] <;> rfl)) : P := h
theorem Y1 (h : P := by rw [hg]; exact (jP (bq))) : P := h
theorem Y2 (h : P := by repeat (first | exact jAa.refl _ | apply jAa.step)) : P := h
theorem Y3 (h : P := by repeat (first | (with_reducible first | exact HB.out | apply jA | apply je | apply jy | refine jB ?_ GE198.out | refine jB ?_ GE201.out) | exact HB.out)) : P := h
theorem Y4 (h : P := by repeat (first | (with_reducible first | exact HB.out | apply jA | apply je | apply jy | refine jB ?_ GE108.out | refine jB ?_ GE109.out) | exact HB.out)) : P := h
theorem Y5 (h : P := by repeat (first | (with_reducible first | exact HB.out | apply jA | apply je | apply jy | refine jB ?_ GE209.out | refine jB ?_ GE210.out) | exact HB.out)) : P := h
theorem Y6 (h : P := by repeat (first | (with_reducible first | exact HB.out | apply jA | apply je | apply jy | refine jB ?_ GE294.out) | exact HB.out)) : P := h
theorem Y7 (h : P := by repeat (first | (with_reducible first | exact HB.out | apply jA | apply je | apply jy | refine jB ?_ GE154.out) | exact HB.out)) : P := h
theorem Y8 (h : P := by repeat (first | exact HR0.out | (with_reducible refine Kd.C_alloc ?_ _) | (with_reducible refine Kd.C_drewN ?_ _) | (with_reducible refine Kd.C_drew ?_))) : P := h
theorem Y9 (h : P := by repeat (first | (with_reducible first | exact hB4.out | apply jA | apply je | apply jy | apply jJa) | exact hB4.out)) : P := h
theorem Y10 (h : P := by repeat (first | (with_reducible first | exact HB.out | apply jA | apply je | apply jy | refine jB ?_ GE294.out | refine jB ?_ GE307.out) | exact HB.out)) : P := h
theorem Y11 (h : P := by first | (go_simp; done) | (go_simp; rfl)) : P := h
theorem Y12 (h : P := by rw [hg]; exact (jP (by repeat (first | (with_reducible first | exact HB.out | apply jA | apply je | apply jy | refine jB ?_ GE289.out) | exact HB.out)))) : P := h
theorem Y13 (h : P := by repeat (first | (with_reducible first | exact hB4.out | apply jA | apply je | apply jy) | exact hB4.out)) : P := h
theorem Y14 (h : P := by repeat (first | (with_reducible first | exact HB.out | apply jA | apply je | apply jy | refine jB ?_ GE162.out) | exact HB.out)) : P := h
theorem Y15 (h : P := by (with_reducible repeat (first | refine jO ?_ _ | refine jI ?_ | refine jJ ?_ _)); refine jkb ?_ NB198_201.out _; (with_reducible repeat (first | refine jO ?_ _ | refine jI ?_ | refine jJ ?_ _)); refine jkb ?_ NB198_201.out _; (with_reducible repeat (first | refine jO ?_ _ | refine jI ?_ | refine jJ ?_ _)); exact BK198.out) : P := h
theorem Y16 (h : P := by (with_reducible repeat (first | refine jO ?_ _ | refine jI ?_ | refine jJ ?_ _)); refine jjb (cs := #[.string ((jE l0_0 x8_1).f0), .int .i64 0]) ?_ 1 _ rfl; (with_reducible repeat (first | refine jO ?_ _ | refine jI ?_ | refine jJ ?_ _)); refine jjb (cs := #[.string (⟨#[]⟩ : ByteArray), .int .i64 0]) ?_ 0 _ rfl; (with_reducible repeat (first | refine jO ?_ _ | refine jI ?_ | refine jJ ?_ _)); exact BK201.out) : P := h
theorem Y17 (h : P := by rw [hg]; exact (jP (by repeat (first | (with_reducible first | exact HB.out | apply jA | apply je | apply jy | refine jB ?_ GE281.out) | exact HB.out)))) : P := h
theorem Y18 (h : P := by repeat (first | (with_reducible first | exact HB.out | apply jA | apply je | apply jy | refine jB ?_ GE166.out) | exact HB.out)) : P := h
theorem Y19 (h : P := by rw [hg]; exact Nat.ne_of_lt (jEa (g := gb289) (o := .cells #[.int .i64 a0_0, .int .i64 a0_1, .int .i64 a0_2, .int .i64 a0_3] 42 (0, 0)) (kq BK289.out))) : P := h
theorem Y20 (h : P := by rw [hg]; exact Nat.ne_of_gt (jEa (g := gb289) (o := .cells #[.int .i64 a0_0, .int .i64 a0_1, .int .i64 a0_2, .int .i64 a0_3] 42 (0, 0)) (kq BK289.out))) : P := h
theorem Y21 (h : P := by repeat (first | (with_reducible first | exact HB.out | apply jA | apply je | apply jy | refine jB ?_ GE289.out) | exact HB.out)) : P := h
theorem Y22 (h : P := by repeat (first | (with_reducible first | exact HB.out | apply jA | apply je | apply jy | refine jB ?_ GE289.out | refine jB ?_ GE290.out) | exact HB.out)) : P := h
theorem Y23 (h : P := by repeat (first | (with_reducible first | exact HB.out | apply jA | apply je | apply jy | refine jB ?_ GE104.out) | exact HB.out)) : P := h
theorem Y24 (h : P := by rw [hg]; exact (jP (by repeat (first | (with_reducible first | exact HB.out | apply jA | apply je | apply jy | refine jB ?_ GE286.out) | exact HB.out)))) : P := h
theorem Y25 (h : P := by repeat (first | (with_reducible first | exact HB.out | apply jA | apply je | apply jy | refine jB ?_ GE286.out | refine jB ?_ GE287.out) | exact HB.out)) : P := h
theorem Y26 (h : P := by repeat (first | (with_reducible first | exact HB.out | apply jA | apply je | apply jy | refine jB ?_ GE154.out | refine jB ?_ GE157.out) | exact HB.out)) : P := h
theorem Y27 (h : P := by repeat (first | (with_reducible first | exact HB.out | apply jA | apply je | apply jy | refine jB ?_ GE179.out | refine jB ?_ GE180.out | refine jB ?_ GE181.out) | exact HB.out)) : P := h
theorem Y28 (h : P := by repeat (first | (with_reducible first | exact HB.out | apply jA | apply je | apply jy | refine jB ?_ GE198.out) | exact HB.out)) : P := h
theorem Y29 (h : P := by rw [hg]; exact Nat.ne_of_lt (jEa (g := gb281) (o := .cells #[.string a0_0, .int .i64 a0_1] 63 (0, 0)) (kq BK281.out))) : P := h
theorem Y30 (h : P := by rw [hg]; exact Nat.ne_of_gt (jEa (g := gb281) (o := .cells #[.string a0_0, .int .i64 a0_1] 63 (0, 0)) (kq BK281.out))) : P := h
theorem Y31 (h : P := by repeat (first | (with_reducible first | exact HB.out | apply jA | apply je | apply jy | refine jB ?_ GE281.out) | exact HB.out)) : P := h
theorem Y32 (h : P := by repeat (first | (with_reducible first | exact HB.out | apply jA | apply je | apply jy | refine jB ?_ GE281.out | refine jB ?_ GE282.out) | exact HB.out)) : P := h
theorem Y33 (h : P := by repeat (first | (with_reducible first | exact HB.out | apply jA | apply je | apply jy | refine jB ?_ GE101.out) | exact HB.out)) : P := h
theorem Y34 (h : P := by rw [hg]; exact (jP (by repeat (first | (with_reducible first | exact HB.out | apply jA | apply je | apply jy | refine jB ?_ GE108.out) | exact HB.out)))) : P := h
theorem Y35 (h : P := by rw [hg]; exact (jP (by repeat (first | (with_reducible first | exact HB.out | apply jA | apply je | apply jy | refine jB ?_ GE154.out) | exact HB.out)))) : P := h
theorem Y36 (h : P := by rw [hg]; exact (jP (by repeat (first | (with_reducible first | exact HB.out | apply jA | apply je | apply jy | refine jB ?_ GE169.out) | exact HB.out)))) : P := h
theorem Y37 (h : P := by rw [hg]; exact (jP (by repeat (first | (with_reducible first | exact HB.out | apply jA | apply je | apply jy | refine jB ?_ GE169.out | refine jB ?_ GE170.out) | exact HB.out)))) : P := h
theorem Y38 (h : P := by rw [hg]; exact (jP (by repeat (first | (with_reducible first | exact HB.out | apply jA | apply je | apply jy | refine jB ?_ GE179.out) | exact HB.out)))) : P := h
theorem Y39 (h : P := by rw [hg]; exact (jP (by repeat (first | (with_reducible first | exact HB.out | apply jA | apply je | apply jy | refine jB ?_ GE179.out | refine jB ?_ GE180.out) | exact HB.out)))) : P := h
theorem Y40 (h : P := by rw [hg]; exact (jP (by repeat (first | (with_reducible first | exact HB.out | apply jA | apply je | apply jy | refine jB ?_ GE185.out) | exact HB.out)))) : P := h
theorem Y41 (h : P := by rw [hg]; exact Nat.ne_of_lt (jEa (g := gb185) (o := .cells #[.int .i64 a0_0, .int .i64 a0_1, .int .i64 a0_2, .int .i64 a0_3] 44 (0, 0)) (kq BK185.out))) : P := h
theorem Y42 (h : P := by rw [hg]; exact Nat.ne_of_gt (jEa (g := gb185) (o := .cells #[.int .i64 a0_0, .int .i64 a0_1, .int .i64 a0_2, .int .i64 a0_3] 44 (0, 0)) (kq BK185.out))) : P := h
theorem Y43 (h : P := by rw [hg]; exact (jP (by repeat (first | (with_reducible first | exact HB.out | apply jA | apply je | apply jy | refine jB ?_ GE185.out | refine jB ?_ GE186.out) | exact HB.out)))) : P := h
theorem Y44 (h : P := by rw [hg]; exact (jP (by repeat (first | (with_reducible first | exact HB.out | apply jA | apply je | apply jy | refine jB ?_ GE198.out) | exact HB.out)))) : P := h
theorem Y45 (h : P := by rw [hg]; exact (jP (by repeat (first | (with_reducible first | exact HB.out | apply jA | apply je | apply jy | refine jB ?_ GE209.out) | exact HB.out)))) : P := h
theorem Y46 (h : P := by repeat (first | (with_reducible first | exact HB.out | apply jA | apply je | apply jy | refine jB ?_ GE286.out) | exact HB.out)) : P := h
theorem Y47 (h : P := by rw [hg]; exact (jP (by repeat (first | (with_reducible first | exact HB.out | apply jA | apply je | apply jy | refine jB ?_ GE294.out) | exact HB.out)))) : P := h
theorem Y48 (h : P := by (with_reducible repeat (first | apply Kd.jPb | apply Kd.jOb | apply Kd.jLb)); exact (Kd.jKb (Kd.R_far (p := ⟨gb307, 0, none⟩) (Kd.R_types HO302.out BK307.out (by decide)) (fun _ hk => hk.2) (.slice Ao38 t304.length co38)) (fun _ h_ => h_.1))) : P := h
theorem ozD {p : Prop} [Decidable p] (h : decide p = true) : p := of_decide_eq_true h
theorem dzT {p : Prop} [d : Decidable p] (h : p) : decide p = true := decide_eq_true h
theorem dzF {p : Prop} [d : Decidable p] (h : ¬ p) : decide p = false := decide_eq_false h
theorem ezT {p : Prop} (h : p) : p = True := eq_true h
theorem bzS {α β : Type} {o : Option α} {f : α → Option β} {b : β} (h : o.bind f = some b) : ∃ a, o = some a ∧ f a = some b := Option.bind_eq_some_iff.mp h
end Go.Proofs.YtegpknnlggkcpaaDoorW.PrintWords
end
