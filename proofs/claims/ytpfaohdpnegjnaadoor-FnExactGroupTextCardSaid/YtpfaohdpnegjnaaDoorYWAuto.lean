/- One part of the proofs on this program: functions of the program as plain functions, that the code comes to them, and facts on them. -/
import Derived.Below
import Derived.RowKit
import Derived.Test.YtpfaohdpnegjnaaDoorYWLast
import Derived.Test.YtpfaohdpnegjnaaDoorYWMore
import Derived.Test.YtpfaohdpnegjnaaDoorYWWords
section
namespace Go.Proofs.YtpfaohdpnegjnaaDoorW.PrintWords
open Go Go.RowKit Go.Proofs.YtpfaohdpnegjnaaDoorW.PrintLast Go.Proofs.YtpfaohdpnegjnaaDoorW.PrintMore
variable {P : Prop}
theorem bq {b : Nat} {w W : World} (h : Below b w W := by repeat (first | (with_reducible first | exact HB.out | apply jA | apply ji | apply jv) | exact HB.out)) : Below b w W := h
theorem rq {P Q : Prop} (h : P) (q : P → Q := by intro rqh; (with_reducible repeat (first | apply Kd.R_alloc | apply Kd.R_drewN | apply Kd.R_drew)); exact rqh) : Q := q h
theorem kq {P Q : Prop} (h : P) (q : P → Q := by intro kqh; (with_reducible repeat (first | refine jf ?_ _ | refine jk ?_ | refine jg ?_ _)); exact kqh) : Q := q h
theorem cq {P Q : Prop} (h : P) (q : P → Q := by intro cqh; repeat (first | exact cqh | (with_reducible refine Kd.jcb ?_ _) | (with_reducible refine Kd.jWa ?_ _) | (with_reducible refine Kd.C_drew ?_))) : Q := q h
theorem uq {P : Prop} (h : P := by first | (with_reducible assumption) | assumption) : P := h
theorem aq {P : Prop} (h : P := by (try simp only [List.map_toArray, List.map_cons, List.map_nil]); first | done | rfl | (simp only [List.length_drop, List.length_take]; rfl)) : P := h
theorem sa (h : P := by simp only [Act.put, List.setIfInBounds_toArray, List.set_cons_zero, List.set_cons_succ, jRa, jYa]; rfl) : P := h
theorem sb (h : P := by intro w'; go_simp; with_reducible rfl) : P := h
theorem pq {P : Program} {md : Region.Mode} {ops : Array Oper} {Q : Exit → Act → World → Prop} {S : World → Prop} {ds : List Nat} {i : Nat} {N : Option Tmp} {oi : Oper} {v : Value} {fuel : Nat} {l : Array Bool} {a a' : Act} {w : World} (l' : Array Bool) (h : jba P md ops Q S ds fuel l' a' w) (hi : ops[i]? = some oi := by exact rfl) (hN : oi.dst = N := by exact rfl) (hc : anyB md ops l l' i = true := by exact any_of HT_.out (by kernel_rfl)) (hQ : ∀ c a w, Q (.panic c) (a.put oi.dst v) w → Q (.panic c) a w := by exact fun _ _ _ h => h) (hy : Yields P ops oi v a := by refine Or.inl ⟨by rfl, ?_⟩; intro w'; go_simp; with_reducible rfl) (ha : a.put N v = a' := by simp only [Act.put, List.setIfInBounds_toArray, List.set_cons_zero, List.set_cons_succ, jRa, jYa]; rfl) : jba P md ops Q S ds (fuel + 1) l a w := pure_ l' hi hN hc hQ hy ha h
theorem gL {P : Program} {ops : Array Oper} {Q : Exit → Act → World → Prop} {a : Act} {rest : List Oper} {oi : Oper} {w : World} (N : Option Tmp) {f : FuncId} {fn : Func} {as : Array Operand} {ts : Array TypeId} (hf : P.funcs[f]? = some fn) (args : Array Value) (h : Calls P f args w fun e w' => ∃ v, e = .returned v ∧ wpList P ops Q rest (a.put N v) w') (hd : oi.dst = N := by exact rfl) (hg : oi.guard = none := by exact rfl) (hname : (fn.name == "runtime.NumGoroutine") = false := by kernel_rfl) (hb : fn.body.isSome = true := by exact rfl) (hop : oi.op = .call { callee := .value (.func f), args := as, argTypes := ts } := by exact rfl) (hargs : as.map a.eval = args := by (try simp only [List.map_toArray, List.map_cons, List.map_nil]); first | done | rfl | (simp only [List.length_drop, List.length_take]; rfl)) : wpList P ops Q (oi :: rest) a w := goesL_ N hd hg hf hname hb args hop hargs h
theorem cb {w W : World} {p : Addr} {v : Value} (h : Below w.heap.size w W) (hx : w.cell? p = some v) : W.cell? p = some v := (h.cell (World.block_lt_of_cell? w _ hx)).trans hx
theorem am {p : Prop} (h : p) : jH p := ⟨h⟩
theorem bE {P : Program} {ops : Array Oper} {rest : List Oper} {o : Oper} {a : Act} {Q : Exit → Act → World → Prop} {W : World} {N : Tmp} {cs : Array Value} {t : TypeId} (h : ∀ g, g = W.heap.size → ∀ w1, w1.heap[g]? = some (.cells cs t (0, 0)) → Below W.heap.size W w1 → wpList P ops Q rest (a.put o.dst (.pointer (some ⟨g, 0, none⟩))) w1) (hg : o.guard = none := by rfl) (hd : o.dst = some N := by rfl) (hr : (execOp a.eval o).run P W = .ok (.value (.pointer (some ⟨W.heap.size, 0, none⟩))) (W.alloc (.cells cs t (0, 0))) := by first | (go_simp; done) | (go_simp; rfl)) : wpList P ops Q (o :: rest) a W := jib hg hd hr h
theorem bc0 {w : World} {g : Nat} {t : TypeId} {v : Value} {r : List Value} (h : w.heap[g]? = some (.cells (List.toArray (v :: r)) t (0, 0))) : w.cell? ⟨g, 0, none⟩ = some v := by simp [World.cell?, h]
theorem bc1 {w : World} {g : Nat} {t : TypeId} {a v : Value} {r : List Value} (h : w.heap[g]? = some (.cells (List.toArray (a :: v :: r)) t (0, 0))) : w.cell? ⟨g, 1, none⟩ = some v := by simp [World.cell?, h]
theorem bc2 {w : World} {g : Nat} {t : TypeId} {a b v : Value} {r : List Value} (h : w.heap[g]? = some (.cells (List.toArray (a :: b :: v :: r)) t (0, 0))) : w.cell? ⟨g, 2, none⟩ = some v := by simp [World.cell?, h]
theorem bc3 {w : World} {g : Nat} {t : TypeId} {a b c v : Value} {r : List Value} (h : w.heap[g]? = some (.cells (List.toArray (a :: b :: c :: v :: r)) t (0, 0))) : w.cell? ⟨g, 3, none⟩ = some v := by simp [World.cell?, h]
theorem sq {P : Prop} (h : P := by first | rfl | (simp; done) | (simp [*]; done)) : P := h
theorem Y0 (h : P := by rw [hg]; exact (jL (bq))) : P := h
theorem Y1 (h : P := by first | rfl | (simp [errW_none, errW_some] <;> rfl) | (simp [*, errW_none, errW_some] <;> rfl)) : P := h
theorem Y2 (h : P := by repeat (first | exact jCa.refl _ | apply jCa.step)) : P := h
theorem Y3 (h : P := by repeat (first | (with_reducible first | exact HB.out | apply jA | apply ji | apply jv | refine jy ?_ GE112.out | refine jy ?_ GE114.out) | exact HB.out)) : P := h
theorem Y4 (h : P := by repeat (first | (with_reducible first | exact HB.out | apply jA | apply ji | apply jv | refine jy ?_ GE213.out | refine jy ?_ GE216.out) | exact HB.out)) : P := h
theorem Y5 (h : P := by repeat (first | (with_reducible first | exact HB.out | apply jA | apply ji | apply jv | refine jy ?_ GE202.out | refine jy ?_ GE205.out) | exact HB.out)) : P := h
theorem Y6 (h : P := by first | (go_simp; done) | (go_simp; rfl)) : P := h
theorem Y7 (h : P := by repeat (first | (with_reducible first | exact HB.out | apply jA | apply ji | apply jv | refine jy ?_ GE312.out) | exact HB.out)) : P := h
theorem Y8 (h : P := by repeat (first | (with_reducible first | exact HB.out | apply jA | apply ji | apply jv | refine jy ?_ GE277.out) | exact HB.out)) : P := h
theorem Y9 (h : P := by repeat (first | (with_reducible first | exact HB.out | apply jA | apply ji | apply jv | refine jy ?_ GE112.out) | exact HB.out)) : P := h
theorem Y10 (h : P := by repeat (first | (with_reducible first | exact HB.out | apply jA | apply ji | apply jv | refine jy ?_ GE312.out | refine jy ?_ GE325.out) | exact HB.out)) : P := h
theorem Y11 (h : P := by repeat (first | (with_reducible first | exact HB.out | apply jA | apply ji | apply jv | refine jy ?_ GE156.out) | exact HB.out)) : P := h
theorem Y12 (h : P := by rw [hg]; exact (jL (by repeat (first | (with_reducible first | exact HB.out | apply jA | apply ji | apply jv | refine jy ?_ GE307.out) | exact HB.out)))) : P := h
theorem Y13 (h : P := by rw [hg]; exact (jL (by repeat (first | (with_reducible first | exact HB.out | apply jA | apply ji | apply jv | refine jy ?_ GE112.out) | exact HB.out)))) : P := h
theorem Y14 (h : P := by (with_reducible repeat (first | refine jf ?_ _ | refine jk ?_ | refine jg ?_ _)); refine jaa ?_ NB112_114.out _; (with_reducible repeat (first | refine jf ?_ _ | refine jk ?_ | refine jg ?_ _)); refine jaa ?_ NB112_114.out _; (with_reducible repeat (first | refine jf ?_ _ | refine jk ?_ | refine jg ?_ _)); refine jaa ?_ NB112_114.out _; (with_reducible repeat (first | refine jf ?_ _ | refine jk ?_ | refine jg ?_ _)); refine jaa ?_ NB112_114.out _; (with_reducible repeat (first | refine jf ?_ _ | refine jk ?_ | refine jg ?_ _)); exact BK112.out) : P := h
theorem Y15 (h : P := by (with_reducible repeat (first | refine jf ?_ _ | refine jk ?_ | refine jg ?_ _)); refine jT (cs := #[.int .i64 ((ja l1 x5_1).f0), .bool (false), .int .i64 ((ja l1 x5_1).f2), .int .i64 0]) ?_ 3 _ rfl; (with_reducible repeat (first | refine jf ?_ _ | refine jk ?_ | refine jg ?_ _)); refine jT (cs := #[.int .i64 ((ja l1 x5_1).f0), .bool (false), .int .i64 0, .int .i64 0]) ?_ 2 _ rfl; (with_reducible repeat (first | refine jf ?_ _ | refine jk ?_ | refine jg ?_ _)); refine jT (cs := #[.int .i64 ((ja l1 x5_1).f0), .bool false, .int .i64 0, .int .i64 0]) ?_ 1 _ rfl; (with_reducible repeat (first | refine jf ?_ _ | refine jk ?_ | refine jg ?_ _)); refine jT (cs := #[.int .i64 0, .bool false, .int .i64 0, .int .i64 0]) ?_ 0 _ rfl; (with_reducible repeat (first | refine jf ?_ _ | refine jk ?_ | refine jg ?_ _)); exact BK114.out) : P := h
theorem Y16 (h : P := by (with_reducible repeat (first | refine jf ?_ _ | refine jk ?_ | refine jg ?_ _)); refine jaa ?_ NB202_205.out _; (with_reducible repeat (first | refine jf ?_ _ | refine jk ?_ | refine jg ?_ _)); refine jaa ?_ NB202_205.out _; (with_reducible repeat (first | refine jf ?_ _ | refine jk ?_ | refine jg ?_ _)); exact BK202.out) : P := h
theorem Y17 (h : P := by (with_reducible repeat (first | refine jf ?_ _ | refine jk ?_ | refine jg ?_ _)); refine jT (cs := #[.string ((jB l0_0 x8_1).f0), .int .i64 0]) ?_ 1 _ rfl; (with_reducible repeat (first | refine jf ?_ _ | refine jk ?_ | refine jg ?_ _)); refine jT (cs := #[.string (⟨#[]⟩ : ByteArray), .int .i64 0]) ?_ 0 _ rfl; (with_reducible repeat (first | refine jf ?_ _ | refine jk ?_ | refine jg ?_ _)); exact BK205.out) : P := h
theorem Y18 (h : P := by rw [hg]; exact (jL (by repeat (first | (with_reducible first | exact HB.out | apply jA | apply ji | apply jv | refine jy ?_ GE213.out) | exact HB.out)))) : P := h
theorem Y19 (h : P := by rw [hg]; exact (jL (by repeat (first | (with_reducible first | exact HB.out | apply jA | apply ji | apply jv | refine jy ?_ GE299.out) | exact HB.out)))) : P := h
theorem Y20 (h : P := by repeat (first | (with_reducible first | exact HB.out | apply jA | apply ji | apply jv | refine jy ?_ GE170.out) | exact HB.out)) : P := h
theorem Y21 (h : P := by repeat (first | (with_reducible first | exact HB.out | apply jA | apply ji | apply jv | refine jy ?_ GE213.out) | exact HB.out)) : P := h
theorem Y22 (h : P := by repeat (first | (with_reducible first | exact HB.out | apply jA | apply ji | apply jv | refine jy ?_ GE225.out) | exact HB.out)) : P := h
theorem Y23 (h : P := by repeat (first | (with_reducible first | exact HB.out | apply jA | apply ji | apply jv | refine jy ?_ GE296.out) | exact HB.out)) : P := h
theorem Y24 (h : P := by rw [hg]; exact Nat.ne_of_lt (jva (g := gb307) (o := .cells #[.int .i64 a0_0, .bool a0_1, .int .i64 a0_2, .int .i64 a0_3] 42 (0, 0)) (kq BK307.out))) : P := h
theorem Y25 (h : P := by rw [hg]; exact Nat.ne_of_gt (jva (g := gb307) (o := .cells #[.int .i64 a0_0, .bool a0_1, .int .i64 a0_2, .int .i64 a0_3] 42 (0, 0)) (kq BK307.out))) : P := h
theorem Y26 (h : P := by repeat (first | (with_reducible first | exact HB.out | apply jA | apply ji | apply jv | refine jy ?_ GE307.out) | exact HB.out)) : P := h
theorem Y27 (h : P := by repeat (first | (with_reducible first | exact HB.out | apply jA | apply ji | apply jv | refine jy ?_ GE307.out | refine jy ?_ GE308.out) | exact HB.out)) : P := h
theorem Y28 (h : P := by repeat (first | (with_reducible first | exact HB.out | apply jA | apply ji | apply jv | refine jy ?_ GE104.out) | exact HB.out)) : P := h
theorem Y29 (h : P := by rw [hg]; exact (jL (by repeat (first | (with_reducible first | exact HB.out | apply jA | apply ji | apply jv | refine jy ?_ GE304.out) | exact HB.out)))) : P := h
theorem Y30 (h : P := by repeat (first | (with_reducible first | exact HB.out | apply jA | apply ji | apply jv | refine jy ?_ GE304.out | refine jy ?_ GE305.out) | exact HB.out)) : P := h
theorem Y31 (h : P := by repeat (first | (with_reducible first | exact HB.out | apply jA | apply ji | apply jv | refine jy ?_ GE154.out) | exact HB.out)) : P := h
theorem Y32 (h : P := by repeat (first | (with_reducible first | exact HB.out | apply jA | apply ji | apply jv | refine jy ?_ GE154.out | refine jy ?_ GE157.out) | exact HB.out)) : P := h
theorem Y33 (h : P := by rw [hg]; exact Nat.ne_of_lt (jva (g := gb112) (o := .cells #[.slice A0_0 l0_0.length c0_0] 31 (0, 0)) (kq BK112.out))) : P := h
theorem Y34 (h : P := by rw [hg]; exact Nat.ne_of_gt (jva (g := gb112) (o := .cells #[.slice A0_0 l0_0.length c0_0] 31 (0, 0)) (kq BK112.out))) : P := h
theorem Y35 (h : P := by repeat (first | (with_reducible first | exact HB.out | apply jA | apply ji | apply jv | refine jy ?_ GE183.out | refine jy ?_ GE184.out | refine jy ?_ GE185.out) | exact HB.out)) : P := h
theorem Y36 (h : P := by repeat (first | (with_reducible first | exact HB.out | apply jA | apply ji | apply jv | refine jy ?_ GE202.out) | exact HB.out)) : P := h
theorem Y37 (h : P := by rw [hg]; exact Nat.ne_of_lt (jva (g := gb213) (o := .cells #[.slice A0_0 l0_0.length c0_0] 31 (0, 0)) (kq BK213.out))) : P := h
theorem Y38 (h : P := by rw [hg]; exact Nat.ne_of_gt (jva (g := gb213) (o := .cells #[.slice A0_0 l0_0.length c0_0] 31 (0, 0)) (kq BK213.out))) : P := h
theorem Y39 (h : P := by repeat (first | (with_reducible first | exact HB.out | apply jA | apply ji | apply jv | refine jy ?_ GE255.out) | exact HB.out)) : P := h
theorem Y40 (h : P := by (with_reducible repeat (first | apply Kd.jIa | apply Kd.jHa | apply Kd.jOa)); exact HO_25.out) : P := h
theorem Y41 (h : P := by rw [hg]; exact Nat.ne_of_lt (jva (g := gb299) (o := .cells #[.string a0_0, .int .i64 a0_1] 59 (0, 0)) (kq BK299.out))) : P := h
theorem Y42 (h : P := by rw [hg]; exact Nat.ne_of_gt (jva (g := gb299) (o := .cells #[.string a0_0, .int .i64 a0_1] 59 (0, 0)) (kq BK299.out))) : P := h
theorem Y43 (h : P := by repeat (first | (with_reducible first | exact HB.out | apply jA | apply ji | apply jv | refine jy ?_ GE299.out) | exact HB.out)) : P := h
theorem Y44 (h : P := by repeat (first | (with_reducible first | exact HB.out | apply jA | apply ji | apply jv | refine jy ?_ GE299.out | refine jy ?_ GE300.out) | exact HB.out)) : P := h
theorem Y45 (h : P := by repeat (first | (with_reducible first | exact HB.out | apply jA | apply ji | apply jv | refine jy ?_ GE101.out) | exact HB.out)) : P := h
theorem Y46 (h : P := by rw [hg]; exact (jL (by repeat (first | (with_reducible first | exact HB.out | apply jA | apply ji | apply jv | refine jy ?_ GE154.out) | exact HB.out)))) : P := h
theorem Y47 (h : P := by (with_reducible repeat (first | apply Kd.jIa | apply Kd.jHa | apply Kd.jOa)); exact Kd.S_mono HO_3.out (fun k_ hk => ⟨trivial, fun e_ => hk.2 e_⟩)) : P := h
theorem Y48 (h : P := by rw [hg]; exact (jL (by repeat (first | (with_reducible first | exact HB.out | apply jA | apply ji | apply jv | refine jy ?_ GE173.out) | exact HB.out)))) : P := h
theorem Y49 (h : P := by rw [hg]; exact (jL (by repeat (first | (with_reducible first | exact HB.out | apply jA | apply ji | apply jv | refine jy ?_ GE173.out | refine jy ?_ GE174.out) | exact HB.out)))) : P := h
theorem Y50 (h : P := by rw [hg]; exact (jL (by repeat (first | (with_reducible first | exact HB.out | apply jA | apply ji | apply jv | refine jy ?_ GE183.out) | exact HB.out)))) : P := h
theorem Y51 (h : P := by rw [hg]; exact (jL (by repeat (first | (with_reducible first | exact HB.out | apply jA | apply ji | apply jv | refine jy ?_ GE183.out | refine jy ?_ GE184.out) | exact HB.out)))) : P := h
theorem Y52 (h : P := by rw [hg]; exact (jL (by repeat (first | (with_reducible first | exact HB.out | apply jA | apply ji | apply jv | refine jy ?_ GE189.out) | exact HB.out)))) : P := h
theorem Y53 (h : P := by rw [hg]; exact Nat.ne_of_lt (jva (g := gb189) (o := .cells #[.int .i64 a0_0, .bool a0_1, .int .i64 a0_2, .int .i64 a0_3] 44 (0, 0)) (kq BK189.out))) : P := h
theorem Y54 (h : P := by rw [hg]; exact Nat.ne_of_gt (jva (g := gb189) (o := .cells #[.int .i64 a0_0, .bool a0_1, .int .i64 a0_2, .int .i64 a0_3] 44 (0, 0)) (kq BK189.out))) : P := h
theorem Y55 (h : P := by rw [hg]; exact (jL (by repeat (first | (with_reducible first | exact HB.out | apply jA | apply ji | apply jv | refine jy ?_ GE189.out | refine jy ?_ GE190.out) | exact HB.out)))) : P := h
theorem Y56 (h : P := by rw [hg]; exact (jL (by repeat (first | (with_reducible first | exact HB.out | apply jA | apply ji | apply jv | refine jy ?_ GE202.out) | exact HB.out)))) : P := h
theorem Y57 (h : P := by (with_reducible repeat (first | refine jf ?_ _ | refine jk ?_ | refine jg ?_ _)); refine jT (cs := #[.int .i64 ((ja l0 x13_1).f0), .bool ((ja l0 x13_1).f1), .int .i64 ((ja l0 x13_1).f2), .int .i64 ((ja l0 x13_1).f3)]) ?_ 0 _ rfl; (with_reducible repeat (first | refine jf ?_ _ | refine jk ?_ | refine jg ?_ _)); refine jT (cs := #[.int .i64 ((ja l0 x13_1).f0), .bool ((ja l0 x13_1).f1), .int .i64 ((ja l0 x13_1).f2), .int .i64 0]) ?_ 3 _ rfl; (with_reducible repeat (first | refine jf ?_ _ | refine jk ?_ | refine jg ?_ _)); refine jT (cs := #[.int .i64 ((ja l0 x13_1).f0), .bool ((ja l0 x13_1).f1), .int .i64 0, .int .i64 0]) ?_ 2 _ rfl; (with_reducible repeat (first | refine jf ?_ _ | refine jk ?_ | refine jg ?_ _)); refine jT (cs := #[.int .i64 ((ja l0 x13_1).f0), .bool false, .int .i64 0, .int .i64 0]) ?_ 1 _ rfl; (with_reducible repeat (first | refine jf ?_ _ | refine jk ?_ | refine jg ?_ _)); refine jT (cs := #[.int .i64 0, .bool false, .int .i64 0, .int .i64 0]) ?_ 0 _ rfl; (with_reducible repeat (first | refine jf ?_ _ | refine jk ?_ | refine jg ?_ _)); exact BK255.out) : P := h
theorem Y58 (h : P := by repeat (first | (with_reducible first | exact HB.out | apply jA | apply ji | apply jv | refine jy ?_ GE304.out) | exact HB.out)) : P := h
theorem Y59 (h : P := by rw [hg]; exact (jL (by repeat (first | (with_reducible first | exact HB.out | apply jA | apply ji | apply jv | refine jy ?_ GE312.out) | exact HB.out)))) : P := h
theorem Y60 (h : P := by (with_reducible repeat (first | apply Kd.R_alloc | apply Kd.R_drewN | apply Kd.R_drew)); exact (Kd.jFa (Kd.R_far (p := ⟨gb325, 0, none⟩) (Kd.R_types HO320.out BK325.out (by decide)) (fun _ hk => hk.2) (.slice Ao38 t322.length co38)) (fun _ h_ => h_.1))) : P := h
theorem ozD {p : Prop} [Decidable p] (h : decide p = true) : p := of_decide_eq_true h
theorem dzT {p : Prop} [d : Decidable p] (h : p) : decide p = true := decide_eq_true h
theorem dzF {p : Prop} [d : Decidable p] (h : ¬ p) : decide p = false := decide_eq_false h
theorem ezT {p : Prop} (h : p) : p = True := eq_true h
theorem bzS {α β : Type} {o : Option α} {f : α → Option β} {b : β} (h : o.bind f = some b) : ∃ a, o = some a ∧ f a = some b := Option.bind_eq_some_iff.mp h
end Go.Proofs.YtpfaohdpnegjnaaDoorW.PrintWords
end
