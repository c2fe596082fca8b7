/- One part of the proofs on this program: functions of the program as plain functions, that the code comes to them, and facts on them. -/
import Derived.Below
import Derived.RowKit
import Derived.Test.YtecdfgejmbpclaaYWLast
import Derived.Test.YtecdfgejmbpclaaYWMore
import Derived.Test.YtecdfgejmbpclaaYWWords
section
namespace Go.Proofs.YtecdfgejmbpclaaW.PrintWords
open Go Go.RowKit Go.Proofs.YtecdfgejmbpclaaW.PrintLast Go.Proofs.YtecdfgejmbpclaaW.PrintMore
variable {P : Prop}
theorem bq {b : Nat} {w W : World} (h : Below b w W := by repeat (first | (with_reducible first | exact HB.out | apply jk | apply jf | apply jl) | exact HB.out)) : Below b w W := h
theorem rq {P Q : Prop} (h : P) (q : P → Q := by intro rqh; (with_reducible repeat (first | apply Kd.jNa | apply Kd.jYa | apply Kd.jHa)); exact rqh) : Q := q h
theorem kq {P Q : Prop} (h : P) (q : P → Q := by intro kqh; (with_reducible repeat (first | refine jr ?_ _ | refine jC ?_ | refine jB ?_ _)); exact kqh) : Q := q h
theorem cq {P Q : Prop} (h : P) (q : P → Q := by intro cqh; repeat (first | exact cqh | (with_reducible refine Kd.C_alloc ?_ _) | (with_reducible refine Kd.C_drewN ?_ _) | (with_reducible refine Kd.C_drew ?_))) : Q := q h
theorem uq {P : Prop} (h : P := by first | (with_reducible assumption) | assumption) : P := h
theorem aq {P : Prop} (h : P := by (try simp only [List.map_toArray, List.map_cons, List.map_nil]); first | done | rfl | (simp only [List.length_drop, List.length_take]; rfl)) : P := h
theorem sa (h : P := by simp only [Act.put, List.setIfInBounds_toArray, List.set_cons_zero, List.set_cons_succ, jLb, jOb]; rfl) : P := h
theorem sb (h : P := by intro w'; go_simp; with_reducible rfl) : P := h
theorem pq {P : Program} {md : Region.Mode} {ops : Array Oper} {Q : Exit → Act → World → Prop} {S : World → Prop} {ds : List Nat} {i : Nat} {N : Option Tmp} {oi : Oper} {v : Value} {fuel : Nat} {l : Array Bool} {a a' : Act} {w : World} (l' : Array Bool) (h : jpa P md ops Q S ds fuel l' a' w) (hi : ops[i]? = some oi := by exact rfl) (hN : oi.dst = N := by exact rfl) (hc : anyB md ops l l' i = true := by exact any_of HT_.out (by kernel_rfl)) (hQ : ∀ c a w, Q (.panic c) (a.put oi.dst v) w → Q (.panic c) a w := by exact fun _ _ _ h => h) (hy : Yields P ops oi v a := by refine Or.inl ⟨by rfl, ?_⟩; intro w'; go_simp; with_reducible rfl) (ha : a.put N v = a' := by simp only [Act.put, List.setIfInBounds_toArray, List.set_cons_zero, List.set_cons_succ, jLb, jOb]; rfl) : jpa P md ops Q S ds (fuel + 1) l a w := pure_ l' hi hN hc hQ hy ha h
theorem gL {P : Program} {ops : Array Oper} {Q : Exit → Act → World → Prop} {a : Act} {rest : List Oper} {oi : Oper} {w : World} (N : Option Tmp) {f : FuncId} {fn : Func} {as : Array Operand} {ts : Array TypeId} (hf : P.funcs[f]? = some fn) (args : Array Value) (h : Calls P f args w fun e w' => ∃ v, e = .returned v ∧ wpList P ops Q rest (a.put N v) w') (hd : oi.dst = N := by exact rfl) (hg : oi.guard = none := by exact rfl) (hname : (fn.name == "runtime.NumGoroutine") = false := by kernel_rfl) (hb : fn.body.isSome = true := by exact rfl) (hop : oi.op = .call { callee := .value (.func f), args := as, argTypes := ts } := by exact rfl) (hargs : as.map a.eval = args := by (try simp only [List.map_toArray, List.map_cons, List.map_nil]); first | done | rfl | (simp only [List.length_drop, List.length_take]; rfl)) : wpList P ops Q (oi :: rest) a w := goesL_ N hd hg hf hname hb args hop hargs h
theorem cb {w W : World} {p : Addr} {v : Value} (h : Below w.heap.size w W) (hx : w.cell? p = some v) : W.cell? p = some v := (h.cell (World.block_lt_of_cell? w _ hx)).trans hx
theorem am {p : Prop} (h : p) : jy p := ⟨h⟩
theorem bE {P : Program} {ops : Array Oper} {rest : List Oper} {o : Oper} {a : Act} {Q : Exit → Act → World → Prop} {W : World} {N : Tmp} {cs : Array Value} {t : TypeId} (h : ∀ g, g = W.heap.size → ∀ w1, w1.heap[g]? = some (.cells cs t (0, 0)) → Below W.heap.size W w1 → wpList P ops Q rest (a.put o.dst (.pointer (some ⟨g, 0, none⟩))) w1) (hg : o.guard = none := by rfl) (hd : o.dst = some N := by rfl) (hr : (execOp a.eval o).run P W = .ok (.value (.pointer (some ⟨W.heap.size, 0, none⟩))) (W.alloc (.cells cs t (0, 0))) := by first | (go_simp; done) | (go_simp; rfl)) : wpList P ops Q (o :: rest) a W := jsb hg hd hr h
theorem bc0 {w : World} {g : Nat} {t : TypeId} {v : Value} {r : List Value} (h : w.heap[g]? = some (.cells (List.toArray (v :: r)) t (0, 0))) : w.cell? ⟨g, 0, none⟩ = some v := by simp [World.cell?, h]
theorem bc1 {w : World} {g : Nat} {t : TypeId} {a v : Value} {r : List Value} (h : w.heap[g]? = some (.cells (List.toArray (a :: v :: r)) t (0, 0))) : w.cell? ⟨g, 1, none⟩ = some v := by simp [World.cell?, h]
theorem bc2 {w : World} {g : Nat} {t : TypeId} {a b v : Value} {r : List Value} (h : w.heap[g]? = some (.cells (List.toArray (a :: b :: v :: r)) t (0, 0))) : w.cell? ⟨g, 2, none⟩ = some v := by simp [World.cell?, h]
theorem bc3 {w : World} {g : Nat} {t : TypeId} {a b c v : Value} {r : List Value} (h : w.heap[g]? = some (.cells (List.toArray (a :: b :: c :: v :: r)) t (0, 0))) : w.cell? ⟨g, 3, none⟩ = some v := by simp [World.cell?, h]
theorem sq {P : Prop} (h : P := by first | rfl | (simp; done) | (simp [*]; done)) : P := h
theorem Y0 (h : P := by rw [hg]; exact (jE (bq))) : P := h
theorem Y1 (h : P := by first | rfl | (simp [errW_none, errW_some] <;> rfl) | (simp [*, errW_none, errW_some] <;> rfl)) : P := h
theorem Y2 (h : P := by repeat (first | exact jSa.refl _ | apply jSa.step)) : P := h
theorem Y3 (h : P := by first | (go_simp; done) | (go_simp; rfl)) : P := h
theorem Y4 (h : P := by repeat (first | (with_reducible first | exact HB.out | apply jk | apply jf | apply jl | refine jh ?_ GE120.out | refine jh ?_ GE121.out) | exact HB.out)) : P := h
theorem Y5 (h : P := by repeat (first | (with_reducible first | exact HB.out | apply jk | apply jf | apply jl | refine jh ?_ GE120.out | refine jh ?_ GE121.out | refine jh ?_ GE123.out) | exact HB.out)) : P := h
theorem Y6 (h : P := by repeat (first | (with_reducible first | exact HK.out | apply Kept.alloc | apply Kept.drewN | apply Kept.drew) | exact HK.out)) : P := h
theorem Y7 (h : P := by repeat (first | (with_reducible first | exact HB.out | apply jk | apply jf | apply jl | refine jh ?_ GE736.out | refine jh ?_ GE737.out | refine jh ?_ GE752.out | refine jh ?_ GE756.out) | exact HB.out)) : P := h
theorem Y8 (h : P := by repeat (first | (with_reducible first | exact HB.out | apply jk | apply jf | apply jl | refine jh ?_ GE175.out | refine jh ?_ GE178.out) | exact HB.out)) : P := h
theorem Y9 (h : P := by repeat (first | (with_reducible first | exact HB.out | apply jk | apply jf | apply jl | refine jh ?_ GE736.out | refine jh ?_ GE737.out) | exact HB.out)) : P := h
theorem Y10 (h : P := by first | exact BX.out | ((with_reducible repeat (first | refine jr ?_ _ | refine jC ?_ | refine jB ?_ _)); exact BX.out)) : P := h
theorem Y11 (h : P := by rw [hg]; exact (jE (by repeat (first | (with_reducible first | exact HB.out | apply jk | apply jf | apply jl | refine jh ?_ GE699.out) | exact HB.out)))) : P := h
theorem Y12 (h : P := by repeat (first | (with_reducible first | exact HB.out | apply jk | apply jf | apply jl | refine jh ?_ GE152.out | refine jh ?_ GE153.out) | exact HB.out)) : P := h
theorem Y13 (h : P := by repeat (first | (with_reducible first | exact HB.out | apply jk | apply jf | apply jl | refine jh ?_ GE284.out | refine jh ?_ GE285.out) | exact HB.out)) : P := h
theorem Y14 (h : P := by (with_reducible repeat (first | refine jr ?_ _ | refine jC ?_ | refine jB ?_ _)); refine jIa ?_ NB120_123.out _; (with_reducible repeat (first | refine jr ?_ _ | refine jC ?_ | refine jB ?_ _)); refine jIa ?_ NB120_123.out _; (with_reducible repeat (first | refine jr ?_ _ | refine jC ?_ | refine jB ?_ _)); refine jIa ?_ NB120_123.out _; (with_reducible repeat (first | refine jr ?_ _ | refine jC ?_ | refine jB ?_ _)); refine jIa ?_ NB120_123.out _; (with_reducible repeat (first | refine jr ?_ _ | refine jC ?_ | refine jB ?_ _)); refine jIa ?_ NB120_123.out _; (with_reducible repeat (first | refine jr ?_ _ | refine jC ?_ | refine jB ?_ _)); exact BK120.out) : P := h
theorem Y15 (h : P := by (with_reducible repeat (first | refine jr ?_ _ | refine jC ?_ | refine jB ?_ _)); refine jIa ?_ NB121_123.out _; (with_reducible repeat (first | refine jr ?_ _ | refine jC ?_ | refine jB ?_ _)); refine jIa ?_ NB121_123.out _; (with_reducible repeat (first | refine jr ?_ _ | refine jC ?_ | refine jB ?_ _)); refine jIa ?_ NB121_123.out _; (with_reducible repeat (first | refine jr ?_ _ | refine jC ?_ | refine jB ?_ _)); refine jIa ?_ NB121_123.out _; (with_reducible repeat (first | refine jr ?_ _ | refine jC ?_ | refine jB ?_ _)); refine jIa ?_ NB121_123.out _; (with_reducible repeat (first | refine jr ?_ _ | refine jC ?_ | refine jB ?_ _)); exact BK121.out) : P := h
theorem Y16 (h : P := by (with_reducible repeat (first | refine jr ?_ _ | refine jC ?_ | refine jB ?_ _)); refine jTa (cs := #[.int .i64 ((jc l1_0 x5_1).f0), .int .i64 ((jc l1_0 x5_1).f1), .int .i64 ((jc l1_0 x5_1).f2), .int .i64 ((jc l1_0 x5_1).f3), .bool false]) ?_ 4 _ rfl; (with_reducible repeat (first | refine jr ?_ _ | refine jC ?_ | refine jB ?_ _)); refine jTa (cs := #[.int .i64 ((jc l1_0 x5_1).f0), .int .i64 ((jc l1_0 x5_1).f1), .int .i64 ((jc l1_0 x5_1).f2), .int .i64 0, .bool false]) ?_ 3 _ rfl; (with_reducible repeat (first | refine jr ?_ _ | refine jC ?_ | refine jB ?_ _)); refine jTa (cs := #[.int .i64 ((jc l1_0 x5_1).f0), .int .i64 ((jc l1_0 x5_1).f1), .int .i64 0, .int .i64 0, .bool false]) ?_ 2 _ rfl; (with_reducible repeat (first | refine jr ?_ _ | refine jC ?_ | refine jB ?_ _)); refine jTa (cs := #[.int .i64 ((jc l1_0 x5_1).f0), .int .i64 0, .int .i64 0, .int .i64 0, .bool false]) ?_ 1 _ rfl; (with_reducible repeat (first | refine jr ?_ _ | refine jC ?_ | refine jB ?_ _)); refine jTa (cs := #[.int .i64 0, .int .i64 0, .int .i64 0, .int .i64 0, .bool false]) ?_ 0 _ rfl; (with_reducible repeat (first | refine jr ?_ _ | refine jC ?_ | refine jB ?_ _)); exact BK123.out) : P := h
theorem Y17 (h : P := by repeat (first | (with_reducible first | exact HK.out | apply Kept.alloc | apply Kept.drewN | apply Kept.drew | refine Kept.setCell ?_ (.inr GW139.out) _) | exact HK.out)) : P := h
theorem Y18 (h : P := by rw [hg]; exact (jE (by repeat (first | (with_reducible first | exact HB.out | apply jk | apply jf | apply jl | refine jh ?_ GE113.out) | exact HB.out)))) : P := h
theorem Y19 (h : P := by repeat (first | (with_reducible first | exact HB.out | apply jk | apply jf | apply jl | refine jh ?_ GE102.out) | exact HB.out)) : P := h
theorem Y20 (h : P := by repeat (first | (with_reducible first | exact HB.out | apply jk | apply jf | apply jl | refine jh ?_ GE139.out) | exact HB.out)) : P := h
theorem Y21 (h : P := by rw [hg]; exact (jE (by repeat (first | (with_reducible first | exact HB.out | apply jk | apply jf | apply jl | refine jh ?_ GE120.out) | exact HB.out)))) : P := h
theorem Y22 (h : P := by rw [hg]; exact Nat.ne_of_lt (jZ (g := gb120) (o := .cells #[.slice A0_0 l0_0.length c0_0] 37 (0, 0)) (kq BK120.out))) : P := h
theorem Y23 (h : P := by rw [hg]; exact Nat.ne_of_gt (jZ (g := gb120) (o := .cells #[.slice A0_0 l0_0.length c0_0] 37 (0, 0)) (kq BK120.out))) : P := h
theorem Y24 (h : P := by rw [hg]; exact (jE (by repeat (first | (with_reducible first | exact HB.out | apply jk | apply jf | apply jl | refine jh ?_ GE120.out | refine jh ?_ GE121.out) | exact HB.out)))) : P := h
theorem Y25 (h : P := by (with_reducible repeat (first | refine jr ?_ _ | refine jC ?_ | refine jB ?_ _)); refine jIa ?_ NB175_178.out _; (with_reducible repeat (first | refine jr ?_ _ | refine jC ?_ | refine jB ?_ _)); refine jIa ?_ NB175_178.out _; (with_reducible repeat (first | refine jr ?_ _ | refine jC ?_ | refine jB ?_ _)); exact BK175.out) : P := h
theorem Y26 (h : P := by (with_reducible repeat (first | refine jr ?_ _ | refine jC ?_ | refine jB ?_ _)); refine jTa (cs := #[.string ((jF l0_0 x8_1).f0), .int .i64 0]) ?_ 1 _ rfl; (with_reducible repeat (first | refine jr ?_ _ | refine jC ?_ | refine jB ?_ _)); refine jTa (cs := #[.string (⟨#[]⟩ : ByteArray), .int .i64 0]) ?_ 0 _ rfl; (with_reducible repeat (first | refine jr ?_ _ | refine jC ?_ | refine jB ?_ _)); exact BK178.out) : P := h
theorem Y27 (h : P := by rw [hg]; exact Nat.ne_of_lt (jZ (g := gb699) (o := .cells #[.int .i64 a0_0, .int .i64 a0_1, .int .i64 a0_2, .int .i64 a0_3, .bool a0_4] 54 (0, 0)) (kq BK699.out))) : P := h
theorem Y28 (h : P := by rw [hg]; exact Nat.ne_of_gt (jZ (g := gb699) (o := .cells #[.int .i64 a0_0, .int .i64 a0_1, .int .i64 a0_2, .int .i64 a0_3, .bool a0_4] 54 (0, 0)) (kq BK699.out))) : P := h
theorem Y29 (h : P := by repeat (first | (with_reducible first | exact HB.out | apply jk | apply jf | apply jl | refine jh ?_ GE699.out) | exact HB.out)) : P := h
theorem Y30 (h : P := by repeat (first | (with_reducible first | exact HB.out | apply jk | apply jf | apply jl | refine jh ?_ GE699.out | refine jh ?_ GE700.out) | exact HB.out)) : P := h
theorem Y31 (h : P := by rw [hg]; exact (jE (by repeat (first | (with_reducible first | exact HB.out | apply jk | apply jf | apply jl | refine jh ?_ GE707.out) | exact HB.out)))) : P := h
theorem Y32 (h : P := by rw [hg]; exact (jE (by repeat (first | (with_reducible first | exact HB.out | apply jk | apply jf | apply jl | refine jh ?_ GE736.out) | exact HB.out)))) : P := h
theorem Y33 (h : P := by repeat (first | (with_reducible first | exact HB.out | apply jk | apply jf | apply jl | refine jh ?_ GE135.out | refine jh ?_ GE136.out) | exact HB.out)) : P := h
theorem Y34 (h : P := by rw [hg]; exact Nat.ne_of_lt (jZ (g := gb736) (o := .cells #[.slice A0_0 l0_0.length c0_0] 24 (0, 0)) (kq BK736.out))) : P := h
theorem Y35 (h : P := by rw [hg]; exact Nat.ne_of_gt (jZ (g := gb736) (o := .cells #[.slice A0_0 l0_0.length c0_0] 24 (0, 0)) (kq BK736.out))) : P := h
theorem Y36 (h : P := by rw [hg]; exact Nat.ne_of_lt (jZ (g := gb113) (o := .cells #[.slice (some ad114) l0_0.length c0_0] 32 (0, 0)) (kq BK113.out))) : P := h
theorem Y37 (h : P := by rw [hg]; exact Nat.ne_of_gt (jZ (g := gb113) (o := .cells #[.slice (some ad114) l0_0.length c0_0] 32 (0, 0)) (kq BK113.out))) : P := h
theorem Y38 (h : P := by repeat (first | (with_reducible first | exact HB.out | apply jk | apply jf | apply jl | refine jh ?_ GE113.out) | exact HB.out)) : P := h
theorem Y39 (h : P := by repeat (first | (with_reducible first | exact HB.out | apply jk | apply jf | apply jl | refine jh ?_ GE113.out | refine jh ?_ GE115.out) | exact HB.out)) : P := h
theorem Y40 (h : P := by rw [hg]; exact (jE (by repeat (first | (with_reducible first | exact HB.out | apply jk | apply jf | apply jl | refine jh ?_ GE135.out) | exact HB.out)))) : P := h
theorem Y41 (h : P := by rw [hg]; exact (jE (by repeat (first | (with_reducible first | exact HB.out | apply jk | apply jf | apply jl | refine jh ?_ GE152.out) | exact HB.out)))) : P := h
theorem Y42 (h : P := by rw [hg]; exact (jE (by repeat (first | (with_reducible first | exact HB.out | apply jk | apply jf | apply jl | refine jh ?_ GE284.out) | exact HB.out)))) : P := h
theorem Y43 (h : P := by repeat (first | (with_reducible first | exact HB.out | apply jk | apply jf | apply jl | refine jh ?_ GE660.out) | exact HB.out)) : P := h
theorem Y44 (h : P := by rw [hg]; exact (jE (by repeat (first | (with_reducible first | exact HB.out | apply jk | apply jf | apply jl | refine jh ?_ GE704.out) | exact HB.out)))) : P := h
theorem Y45 (h : P := by repeat (first | (with_reducible first | exact HB.out | apply jk | apply jf | apply jl | refine jh ?_ GE704.out | refine jh ?_ GE705.out) | exact HB.out)) : P := h
theorem Y46 (h : P := by rw [hg]; exact (jE (by repeat (first | (with_reducible first | exact HB.out | apply jk | apply jf | apply jl | refine jh ?_ GE712.out) | exact HB.out)))) : P := h
theorem Y47 (h : P := by repeat (first | (with_reducible first | exact HB.out | apply jk | apply jf | apply jl | refine jh ?_ GE712.out | refine jh ?_ GE713.out) | exact HB.out)) : P := h
theorem Y48 (h : P := by repeat (first | (with_reducible first | exact HB.out | apply jk | apply jf | apply jl | refine jh ?_ GE736.out | refine jh ?_ GE737.out | refine jh ?_ GE752.out) | exact HB.out)) : P := h
theorem Y49 (h : P := by repeat (first | (with_reducible first | exact HB.out | apply jk | apply jf | apply jl | refine jh ?_ GE154.out) | exact HB.out)) : P := h
theorem Y50 (h : P := by repeat (first | (with_reducible first | exact HB.out | apply jk | apply jf | apply jl | refine jh ?_ GE154.out | refine jh ?_ GE157.out) | exact HB.out)) : P := h
theorem Y51 (h : P := by repeat (first | (with_reducible first | exact HB.out | apply jk | apply jf | apply jl | refine jh ?_ GE120.out) | exact HB.out)) : P := h
theorem Y52 (h : P := by rw [hg]; exact Nat.ne_of_lt (jZ (g := gb121) (o := .cells #[.slice (some ad122) l1_0.length c1_0] 32 (0, 0)) (kq BK121.out))) : P := h
theorem Y53 (h : P := by rw [hg]; exact Nat.ne_of_gt (jZ (g := gb121) (o := .cells #[.slice (some ad122) l1_0.length c1_0] 32 (0, 0)) (kq BK121.out))) : P := h
theorem Y54 (h : P := by repeat (first | exact (Kd.jI HR1_0.out (by repeat (first | (with_reducible first | exact HB.out | apply jk | apply jf | apply jl | refine jh ?_ GE120.out | refine jh ?_ GE121.out | refine jh ?_ GE123.out) | exact HB.out))) | (with_reducible refine Kd.C_alloc ?_ _) | (with_reducible refine Kd.C_drewN ?_ _) | (with_reducible refine Kd.C_drew ?_))) : P := h
theorem Y55 (h : P := by first | exact HK.out.1 | exact (show Kept w _ (fun k_ => P2_ k_) from by repeat (first | (with_reducible first | exact HK.out | apply Kept.alloc | apply Kept.drewN | apply Kept.drew | refine Kept.setCell ?_ (.inr GW139.out) _) | exact HK.out)).1) : P := h
theorem Y56 (h : P := by repeat (first | (with_reducible first | exact HB.out | apply jk | apply jf | apply jl | refine jh ?_ GE175.out) | exact HB.out)) : P := h
theorem Y57 (h : P := by repeat (first | (with_reducible first | exact HB.out | apply jk | apply jf | apply jl | refine jh ?_ GE674.out | refine jh ?_ GE675.out | refine jh ?_ GE676.out) | exact HB.out)) : P := h
theorem Y58 (h : P := by repeat (first | (with_reducible first | exact HB.out | apply jk | apply jf | apply jl | refine jh ?_ GE693.out | refine jh ?_ GE694.out | refine jh ?_ GE695.out) | exact HB.out)) : P := h
theorem Y59 (h : P := by rw [hg]; exact Nat.ne_of_lt (jZ (g := gb707) (o := .cells #[.string a0_0, .int .i64 a0_1] 94 (0, 0)) (kq BK707.out))) : P := h
theorem Y60 (h : P := by rw [hg]; exact Nat.ne_of_gt (jZ (g := gb707) (o := .cells #[.string a0_0, .int .i64 a0_1] 94 (0, 0)) (kq BK707.out))) : P := h
theorem Y61 (h : P := by repeat (first | (with_reducible first | exact HB.out | apply jk | apply jf | apply jl | refine jh ?_ GE707.out) | exact HB.out)) : P := h
theorem Y62 (h : P := by repeat (first | (with_reducible first | exact HB.out | apply jk | apply jf | apply jl | refine jh ?_ GE707.out | refine jh ?_ GE708.out) | exact HB.out)) : P := h
theorem Y63 (h : P := by repeat (first | (with_reducible first | exact HB.out | apply jk | apply jf | apply jl | refine jh ?_ GE736.out) | exact HB.out)) : P := h
theorem Y64 (h : P := by rw [hg]; exact (jE (by repeat (first | (with_reducible first | exact HB.out | apply jk | apply jf | apply jl | refine jh ?_ GE154.out) | exact HB.out)))) : P := h
theorem Y65 (h : P := by repeat (first | (with_reducible first | exact HB.out | apply jk | apply jf | apply jl | refine jh ?_ GE135.out) | exact HB.out)) : P := h
theorem Y66 (h : P := by repeat (first | (with_reducible first | exact HB.out | apply jk | apply jf | apply jl | refine jh ?_ GE152.out) | exact HB.out)) : P := h
theorem Y67 (h : P := by first | exact Kd.R_nil _ _ _ _ _ | exact Kd.N_nil _ _ _ _ _ | exact Kd.V_nil _ _ _ _ _ | exact Kd.Q_nil _ _ _ _ _ | exact Kd.S_nil _ _ _ _ _) : P := h
theorem Y68 (h : P := by rw [hg]; exact (jE (by repeat (first | (with_reducible first | exact HB.out | apply jk | apply jf | apply jl | refine jh ?_ GE175.out) | exact HB.out)))) : P := h
theorem Y69 (h : P := by repeat (first | (with_reducible first | exact HB.out | apply jk | apply jf | apply jl | refine jh ?_ GE284.out) | exact HB.out)) : P := h
theorem Y70 (h : P := by repeat (first | (with_reducible first | exact HB.out | apply jk | apply jf | apply jl | refine jh ?_ GE657.out) | exact HB.out)) : P := h
theorem Y71 (h : P := by repeat (first | (with_reducible first | exact HB.out | apply jk | apply jf | apply jl | refine jh ?_ GE662.out) | exact HB.out)) : P := h
theorem Y72 (h : P := by rw [hg]; exact (jE (by repeat (first | (with_reducible first | exact HB.out | apply jk | apply jf | apply jl | refine jh ?_ GE664.out) | exact HB.out)))) : P := h
theorem Y73 (h : P := by rw [hg]; exact (jE (by repeat (first | (with_reducible first | exact HB.out | apply jk | apply jf | apply jl | refine jh ?_ GE664.out | refine jh ?_ GE665.out) | exact HB.out)))) : P := h
theorem Y74 (h : P := by rw [hg]; exact (jE (by repeat (first | (with_reducible first | exact HB.out | apply jk | apply jf | apply jl | refine jh ?_ GE674.out) | exact HB.out)))) : P := h
theorem Y75 (h : P := by rw [hg]; exact (jE (by repeat (first | (with_reducible first | exact HB.out | apply jk | apply jf | apply jl | refine jh ?_ GE674.out | refine jh ?_ GE675.out) | exact HB.out)))) : P := h
theorem Y76 (h : P := by rw [hg]; exact (jE (by repeat (first | (with_reducible first | exact HB.out | apply jk | apply jf | apply jl | refine jh ?_ GE680.out) | exact HB.out)))) : P := h
theorem Y77 (h : P := by rw [hg]; exact Nat.ne_of_lt (jZ (g := gb680) (o := .cells #[.int .i64 a0_0, .int .i64 a0_1, .int .i64 a0_2, .int .i64 a0_3, .bool a0_4] 97 (0, 0)) (kq BK680.out))) : P := h
theorem Y78 (h : P := by rw [hg]; exact Nat.ne_of_gt (jZ (g := gb680) (o := .cells #[.int .i64 a0_0, .int .i64 a0_1, .int .i64 a0_2, .int .i64 a0_3, .bool a0_4] 97 (0, 0)) (kq BK680.out))) : P := h
theorem Y79 (h : P := by rw [hg]; exact (jE (by repeat (first | (with_reducible first | exact HB.out | apply jk | apply jf | apply jl | refine jh ?_ GE680.out | refine jh ?_ GE681.out) | exact HB.out)))) : P := h
theorem Y80 (h : P := by rw [hg]; exact (jE (by repeat (first | (with_reducible first | exact HB.out | apply jk | apply jf | apply jl | refine jh ?_ GE693.out) | exact HB.out)))) : P := h
theorem Y81 (h : P := by rw [hg]; exact (jE (by repeat (first | (with_reducible first | exact HB.out | apply jk | apply jf | apply jl | refine jh ?_ GE693.out | refine jh ?_ GE694.out) | exact HB.out)))) : P := h
theorem Y82 (h : P := by repeat (first | (with_reducible first | exact HB.out | apply jk | apply jf | apply jl | refine jh ?_ GE704.out) | exact HB.out)) : P := h
theorem Y83 (h : P := by repeat (first | (with_reducible first | exact HB.out | apply jk | apply jf | apply jl | refine jh ?_ GE712.out) | exact HB.out)) : P := h
theorem Y84 (h : P := by rw [hg]; exact (by first | exact HK.out.1 | exact (show Kept w _ (fun k_ => P0_0_ k_) from by repeat (first | (with_reducible first | exact HK.out | apply Kept.alloc | apply Kept.drewN | apply Kept.drew) | exact HK.out)).1)) : P := h
theorem Y85 (h : P := by repeat (first | (with_reducible first | exact HB.out | apply jk | apply jf | apply jl | refine jh ?_ GE721.out) | exact HB.out)) : P := h
theorem Y86 (h : P := by repeat (first | (with_reducible first | exact HK.out | apply Kept.alloc | apply Kept.drewN | apply Kept.drew | refine Kept.setCell ?_ (.inr GW721.out) _) | exact HK.out)) : P := h
theorem Y87 (h : P := by repeat (first | (with_reducible first | exact HB.out | apply jk | apply jf | apply jl | refine jh ?_ GE729.out) | exact HB.out)) : P := h
theorem Y88 (h : P := by repeat (first | (with_reducible first | exact HK.out | apply Kept.alloc | apply Kept.drewN | apply Kept.drew | refine Kept.setCell ?_ (.inr GW729.out) _) | exact HK.out)) : P := h
theorem Y89 (h : P := by rw [hg]; exact (jE (by repeat (first | (with_reducible first | exact HB.out | apply jk | apply jf | apply jl | refine jh ?_ GE736.out | refine jh ?_ GE737.out) | exact HB.out)))) : P := h
theorem Y90 (h : P := by (with_reducible repeat (first | apply Kd.jNa | apply Kd.jYa | apply Kd.jHa)); exact (Kd.jia (Kd.R_far (p := ⟨gb752, 0, none⟩) (Kd.jBb HO745.out BK752.out (by decide)) (fun _ hk => hk.2) (.slice Ao53 t749.length co53)) (fun _ h_ => h_.1))) : P := h
theorem Y91 (h : P := by rw [hg]; exact (jE (by repeat (first | (with_reducible first | exact HB.out | apply jk | apply jf | apply jl | refine jh ?_ GE736.out | refine jh ?_ GE737.out | refine jh ?_ GE752.out) | exact HB.out)))) : P := h
theorem Y92 (h : P := by (with_reducible repeat (first | apply Kd.jNa | apply Kd.jYa | apply Kd.jHa)); exact (Kd.jia (Kd.R_far (p := ⟨gb756, 0, none⟩) (Kd.jBb HO751.out BK756.out (by decide)) (fun _ hk => hk.2) (.slice Ao60 t753.length co60)) (fun _ h_ => h_.1))) : P := h
theorem Y93 (h : P := by (with_reducible repeat (first | apply Kd.jNa | apply Kd.jYa | apply Kd.jHa)); exact (Kd.jia (Kd.R_far (p := ⟨gb756, 0, none⟩) (Kd.jBb HO755.out BK756.out (by decide)) (fun _ hk => hk.2) (.slice Ao60 t753.length co60)) (fun _ h_ => h_.1))) : P := h
theorem Y94 (h : P := by (with_reducible repeat (first | apply Kd.jNa | apply Kd.jYa | apply Kd.jHa)); exact (Kd.jia (Kd.R_far (p := ⟨gb756, 0, none⟩) (Kd.jBb HO748.out BK756.out (by decide)) (fun _ hk => hk.2) (.slice Ao60 t753.length co60)) (fun _ h_ => h_.1))) : P := h
theorem ozD {p : Prop} [Decidable p] (h : decide p = true) : p := of_decide_eq_true h
theorem dzT {p : Prop} [d : Decidable p] (h : p) : decide p = true := decide_eq_true h
theorem dzF {p : Prop} [d : Decidable p] (h : ¬ p) : decide p = false := decide_eq_false h
theorem ezT {p : Prop} (h : p) : p = True := eq_true h
theorem bzS {α β : Type} {o : Option α} {f : α → Option β} {b : β} (h : o.bind f = some b) : ∃ a, o = some a ∧ f a = some b := Option.bind_eq_some_iff.mp h
end Go.Proofs.YtecdfgejmbpclaaW.PrintWords
end
