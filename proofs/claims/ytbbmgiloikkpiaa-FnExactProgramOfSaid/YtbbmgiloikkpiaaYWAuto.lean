/- One part of the proofs on this program: functions of the program as plain functions, that the code comes to them, and facts on them. -/
import Derived.Below
import Derived.RowKit
import Derived.Test.YtbbmgiloikkpiaaYWLast
import Derived.Test.YtbbmgiloikkpiaaYWMore
import Derived.Test.YtbbmgiloikkpiaaYWWords
section
namespace Go.Proofs.YtbbmgiloikkpiaaW.PrintWords
open Go Go.RowKit Go.Proofs.YtbbmgiloikkpiaaW.PrintLast Go.Proofs.YtbbmgiloikkpiaaW.PrintMore
variable {P : Prop}
theorem bq {b : Nat} {w W : World} (h : Below b w W := by repeat (first | (with_reducible first | exact HB.out | apply jk | apply jf | apply jm) | exact HB.out)) : Below b w W := h
theorem rq {P Q : Prop} (h : P) (q : P → Q := by intro rqh; (with_reducible repeat (first | apply Kd.jGa | apply Kd.jKa | apply Kd.jLa)); exact rqh) : Q := q h
theorem kq {P Q : Prop} (h : P) (q : P → Q := by intro kqh; (with_reducible repeat (first | refine jL ?_ _ | refine jS ?_ | refine jT ?_ _)); exact kqh) : Q := q h
theorem cq {P Q : Prop} (h : P) (q : P → Q := by intro cqh; repeat (first | exact cqh | (with_reducible refine Kd.jMc ?_ _) | (with_reducible refine Kd.jEc ?_ _) | (with_reducible refine Kd.C_drew ?_))) : Q := q h
theorem uq {P : Prop} (h : P := by first | (with_reducible assumption) | assumption) : P := h
theorem aq {P : Prop} (h : P := by (try simp only [List.map_toArray, List.map_cons, List.map_nil]); first | done | rfl | (simp only [List.length_drop, List.length_take]; rfl)) : P := h
theorem sa (h : P := by simp only [Act.put, List.setIfInBounds_toArray, List.set_cons_zero, List.set_cons_succ, jcb, jdb]; rfl) : P := h
theorem sb (h : P := by intro w'; go_simp; with_reducible rfl) : P := h
theorem pq {P : Program} {md : Region.Mode} {ops : Array Oper} {Q : Exit → Act → World → Prop} {S : World → Prop} {ds : List Nat} {i : Nat} {N : Option Tmp} {oi : Oper} {v : Value} {fuel : Nat} {l : Array Bool} {a a' : Act} {w : World} (l' : Array Bool) (h : jBa P md ops Q S ds fuel l' a' w) (hi : ops[i]? = some oi := by exact rfl) (hN : oi.dst = N := by exact rfl) (hc : anyB md ops l l' i = true := by exact any_of HT_.out (by kernel_rfl)) (hQ : ∀ c a w, Q (.panic c) (a.put oi.dst v) w → Q (.panic c) a w := by exact fun _ _ _ h => h) (hy : Yields P ops oi v a := by refine Or.inl ⟨by rfl, ?_⟩; intro w'; go_simp; with_reducible rfl) (ha : a.put N v = a' := by simp only [Act.put, List.setIfInBounds_toArray, List.set_cons_zero, List.set_cons_succ, jcb, jdb]; rfl) : jBa P md ops Q S ds (fuel + 1) l a w := pure_ l' hi hN hc hQ hy ha h
theorem gL {P : Program} {ops : Array Oper} {Q : Exit → Act → World → Prop} {a : Act} {rest : List Oper} {oi : Oper} {w : World} (N : Option Tmp) {f : FuncId} {fn : Func} {as : Array Operand} {ts : Array TypeId} (hf : P.funcs[f]? = some fn) (args : Array Value) (h : Calls P f args w fun e w' => ∃ v, e = .returned v ∧ wpList P ops Q rest (a.put N v) w') (hd : oi.dst = N := by exact rfl) (hg : oi.guard = none := by exact rfl) (hname : (fn.name == "runtime.NumGoroutine") = false := by kernel_rfl) (hb : fn.body.isSome = true := by exact rfl) (hop : oi.op = .call { callee := .value (.func f), args := as, argTypes := ts } := by exact rfl) (hargs : as.map a.eval = args := by (try simp only [List.map_toArray, List.map_cons, List.map_nil]); first | done | rfl | (simp only [List.length_drop, List.length_take]; rfl)) : wpList P ops Q (oi :: rest) a w := goesL_ N hd hg hf hname hb args hop hargs h
theorem cb {w W : World} {p : Addr} {v : Value} (h : Below w.heap.size w W) (hx : w.cell? p = some v) : W.cell? p = some v := (h.cell (World.block_lt_of_cell? w _ hx)).trans hx
theorem am {p : Prop} (h : p) : jq p := ⟨h⟩
theorem bE {P : Program} {ops : Array Oper} {rest : List Oper} {o : Oper} {a : Act} {Q : Exit → Act → World → Prop} {W : World} {N : Tmp} {cs : Array Value} {t : TypeId} (h : ∀ g, g = W.heap.size → ∀ w1, w1.heap[g]? = some (.cells cs t (0, 0)) → Below W.heap.size W w1 → wpList P ops Q rest (a.put o.dst (.pointer (some ⟨g, 0, none⟩))) w1) (hg : o.guard = none := by rfl) (hd : o.dst = some N := by rfl) (hr : (execOp a.eval o).run P W = .ok (.value (.pointer (some ⟨W.heap.size, 0, none⟩))) (W.alloc (.cells cs t (0, 0))) := by first | (go_simp; done) | (go_simp; rfl)) : wpList P ops Q (o :: rest) a W := box_event hg hd hr h
theorem bc0 {w : World} {g : Nat} {t : TypeId} {v : Value} {r : List Value} (h : w.heap[g]? = some (.cells (List.toArray (v :: r)) t (0, 0))) : w.cell? ⟨g, 0, none⟩ = some v := by simp [World.cell?, h]
theorem bc1 {w : World} {g : Nat} {t : TypeId} {a v : Value} {r : List Value} (h : w.heap[g]? = some (.cells (List.toArray (a :: v :: r)) t (0, 0))) : w.cell? ⟨g, 1, none⟩ = some v := by simp [World.cell?, h]
theorem bc2 {w : World} {g : Nat} {t : TypeId} {a b v : Value} {r : List Value} (h : w.heap[g]? = some (.cells (List.toArray (a :: b :: v :: r)) t (0, 0))) : w.cell? ⟨g, 2, none⟩ = some v := by simp [World.cell?, h]
theorem bc3 {w : World} {g : Nat} {t : TypeId} {a b c v : Value} {r : List Value} (h : w.heap[g]? = some (.cells (List.toArray (a :: b :: c :: v :: r)) t (0, 0))) : w.cell? ⟨g, 3, none⟩ = some v := by simp [World.cell?, h]
theorem sq {P : Prop} (h : P := by first | rfl | (simp; done) | (simp [*]; done)) : P := h
theorem Y0 (h : P := by first | rfl | (simp [errW_none, errW_some] <;> rfl) | (simp [*, errW_none, errW_some] <;> rfl)) : P := h
theorem Y1 (h : P := by rw [hg]; exact (jv (bq))) : P := h
theorem Y2 (h : P := by repeat (first | exact jZa.refl _ | apply jZa.step)) : P := h
theorem Y3 (h : P := by repeat (first | (with_reducible first | exact HB.out | apply jk | apply jf | apply jm | refine jl ?_ GE421.out | refine jl ?_ GE422.out | refine jl ?_ GE441.out) | exact HB.out)) : P := h
theorem Y4 (h : P := by first | (go_simp; done) | (go_simp; rfl)) : P := h
theorem Y5 (h : P := by repeat (first | (with_reducible first | exact HB.out | apply jk | apply jf | apply jm | refine jl ?_ GE136.out) | exact HB.out)) : P := h
theorem Y6 (h : P := by repeat (first | (with_reducible first | exact HB.out | apply jk | apply jf | apply jm | refine jl ?_ GE158.out) | exact HB.out)) : P := h
theorem Y7 (h : P := by repeat (first | (with_reducible first | exact HK.out | apply Kept.alloc | apply Kept.drewN | apply Kept.drew) | exact HK.out)) : P := h
theorem Y8 (h : P := by repeat (first | (with_reducible first | exact HB.out | apply jk | apply jf | apply jm | refine jl ?_ GE283.out | refine jl ?_ GE286.out) | exact HB.out)) : P := h
theorem Y9 (h : P := by repeat (first | (with_reducible first | exact HB.out | apply jk | apply jf | apply jm | refine jl ?_ GE186.out | refine jl ?_ GE187.out) | exact HB.out)) : P := h
theorem Y10 (h : P := by repeat (first | (with_reducible first | exact HB.out | apply jk | apply jf | apply jm | refine jl ?_ GE327.out | refine jl ?_ GE328.out) | exact HB.out)) : P := h
theorem Y11 (h : P := by repeat (first | (with_reducible first | exact HB.out | apply jk | apply jf | apply jm | refine jl ?_ GE235.out | refine jl ?_ GE236.out) | exact HB.out)) : P := h
theorem Y12 (h : P := by repeat (first | (with_reducible first | exact HB.out | apply jk | apply jf | apply jm | refine jl ?_ GE421.out | refine jl ?_ GE422.out) | exact HB.out)) : P := h
theorem Y13 (h : P := by repeat (first | (with_reducible first | exact HB.out | apply jk | apply jf | apply jm | refine jl ?_ GE108.out | refine jl ?_ GE109.out) | exact HB.out)) : P := h
theorem Y14 (h : P := by repeat (first | (with_reducible first | exact HB.out | apply jk | apply jf | apply jm | refine jl ?_ GE294.out | refine jl ?_ GE295.out) | exact HB.out)) : P := h
theorem Y15 (h : P := by first | omega | exact Nat.le_refl _) : P := h
theorem Y16 (h : P := by repeat (first | exact HR0.out | (with_reducible refine Kd.jMc ?_ _) | (with_reducible refine Kd.jEc ?_ _) | (with_reducible refine Kd.C_drew ?_))) : P := h
theorem Y17 (h : P := by rw [hg]; exact (jv (by repeat (first | (with_reducible first | exact HB.out | apply jk | apply jf | apply jm | refine jl ?_ GE383.out) | exact HB.out)))) : P := h
theorem Y18 (h : P := by repeat (first | (with_reducible first | exact HB.out | apply jk | apply jf | apply jm | refine jl ?_ GE116.out) | exact HB.out)) : P := h
theorem Y19 (h : P := by repeat (first | (with_reducible first | exact HB.out | apply jk | apply jf | apply jm | refine jl ?_ GE230.out) | exact HB.out)) : P := h
theorem Y20 (h : P := by rw [hg]; exact (jv (by repeat (first | (with_reducible first | exact HB.out | apply jk | apply jf | apply jm | refine jl ?_ GE120.out) | exact HB.out)))) : P := h
theorem Y21 (h : P := by rw [hg]; exact (jv (by repeat (first | (with_reducible first | exact HB.out | apply jk | apply jf | apply jm | refine jl ?_ GE396.out) | exact HB.out)))) : P := h
theorem Y22 (h : P := by repeat (first | (with_reducible first | exact HK.out | apply Kept.alloc | apply Kept.drewN | apply Kept.drew | refine Kept.setCell ?_ (.inr GW378.out) _) | exact HK.out)) : P := h
theorem Y23 (h : P := by repeat (first | (with_reducible first | exact HB.out | apply jk | apply jf | apply jm | refine jl ?_ GE120.out | refine jl ?_ GE121.out) | exact HB.out)) : P := h
theorem Y24 (h : P := by repeat (first | (with_reducible first | exact HK.out | apply Kept.alloc | apply Kept.drewN | apply Kept.drew | refine Kept.setCell ?_ (.inr GW233.out) _) | exact HK.out)) : P := h
theorem Y25 (h : P := by (with_reducible repeat (first | refine jL ?_ _ | refine jS ?_ | refine jT ?_ _)); refine jKb ?_ NB283_286.out _; (with_reducible repeat (first | refine jL ?_ _ | refine jS ?_ | refine jT ?_ _)); refine jKb ?_ NB283_286.out _; (with_reducible repeat (first | refine jL ?_ _ | refine jS ?_ | refine jT ?_ _)); exact BK283.out) : P := h
theorem Y26 (h : P := by (with_reducible repeat (first | refine jL ?_ _ | refine jS ?_ | refine jT ?_ _)); refine jub (cs := #[.string ((jM l0_0 x8_1).f0), .int .i64 0]) ?_ 1 _ rfl; (with_reducible repeat (first | refine jL ?_ _ | refine jS ?_ | refine jT ?_ _)); refine jub (cs := #[.string (⟨#[]⟩ : ByteArray), .int .i64 0]) ?_ 0 _ rfl; (with_reducible repeat (first | refine jL ?_ _ | refine jS ?_ | refine jT ?_ _)); exact BK286.out) : P := h
theorem Y27 (h : P := by rw [hg]; exact (jv (by repeat (first | (with_reducible first | exact HB.out | apply jk | apply jf | apply jm | refine jl ?_ GE300.out) | exact HB.out)))) : P := h
theorem Y28 (h : P := by rw [hg]; exact (jv (by repeat (first | (with_reducible first | exact HB.out | apply jk | apply jf | apply jm | refine jl ?_ GE388.out) | exact HB.out)))) : P := h
theorem Y29 (h : P := by rw [hg]; exact (jv (by repeat (first | (with_reducible first | exact HB.out | apply jk | apply jf | apply jm | refine jl ?_ GE421.out) | exact HB.out)))) : P := h
theorem Y30 (h : P := by repeat (first | (with_reducible first | exact HB.out | apply jk | apply jf | apply jm | refine jl ?_ GE124.out | refine jl ?_ GE125.out) | exact HB.out)) : P := h
theorem Y31 (h : P := by repeat (first | (with_reducible first | exact HB.out | apply jk | apply jf | apply jm | refine jl ?_ GE300.out | refine jl ?_ GE301.out) | exact HB.out)) : P := h
theorem Y32 (h : P := by repeat (first | (with_reducible first | exact HB.out | apply jk | apply jf | apply jm | refine jl ?_ GE378.out) | exact HB.out)) : P := h
theorem Y33 (h : P := by rw [hg]; exact Nat.ne_of_lt (jza (g := gb383) (o := .cells #[.int .i64 a0_0, .int .i64 a0_1, .int .i64 a0_2, .int .i64 a0_3] 51 (0, 0)) (kq BK383.out))) : P := h
theorem Y34 (h : P := by rw [hg]; exact Nat.ne_of_gt (jza (g := gb383) (o := .cells #[.int .i64 a0_0, .int .i64 a0_1, .int .i64 a0_2, .int .i64 a0_3] 51 (0, 0)) (kq BK383.out))) : P := h
theorem Y35 (h : P := by repeat (first | (with_reducible first | exact HB.out | apply jk | apply jf | apply jm | refine jl ?_ GE383.out) | exact HB.out)) : P := h
theorem Y36 (h : P := by repeat (first | (with_reducible first | exact HB.out | apply jk | apply jf | apply jm | refine jl ?_ GE383.out | refine jl ?_ GE384.out) | exact HB.out)) : P := h
theorem Y37 (h : P := by repeat (first | (with_reducible first | exact HB.out | apply jk | apply jf | apply jm | refine jl ?_ GE104.out) | exact HB.out)) : P := h
theorem Y38 (h : P := by rw [hg]; exact Nat.ne_of_lt (jza (g := gb120) (o := .cells #[.slice A0_0 l0_0.length c0_0] 35 (0, 0)) (kq BK120.out))) : P := h
theorem Y39 (h : P := by rw [hg]; exact Nat.ne_of_gt (jza (g := gb120) (o := .cells #[.slice A0_0 l0_0.length c0_0] 35 (0, 0)) (kq BK120.out))) : P := h
theorem Y40 (h : P := by repeat (first | (with_reducible first | exact HB.out | apply jk | apply jf | apply jm | refine jl ?_ GE120.out) | exact HB.out)) : P := h
theorem Y41 (h : P := by rw [hg]; exact (jv (by repeat (first | (with_reducible first | exact HB.out | apply jk | apply jf | apply jm | refine jl ?_ GE124.out) | exact HB.out)))) : P := h
theorem Y42 (h : P := by (with_reducible repeat (first | apply Kd.jGa | apply Kd.jKa | apply Kd.jLa)); exact Kd.jca HO161.out (fun _ hk => hk.2)) : P := h
theorem Y43 (h : P := by rw [hg]; exact (by first | exact HK.out.1 | exact (show Kept w _ (fun k_ => P1_ k_) from by repeat (first | (with_reducible first | exact HK.out | apply Kept.alloc | apply Kept.drewN | apply Kept.drew) | exact HK.out)).1)) : P := h
theorem Y44 (h : P := by repeat (first | (with_reducible first | exact HB.out | apply jk | apply jf | apply jm | refine jl ?_ GE233.out) | exact HB.out)) : P := h
theorem Y45 (h : P := by rw [hg]; exact (jv (by repeat (first | (with_reducible first | exact HB.out | apply jk | apply jf | apply jm | refine jl ?_ GE235.out) | exact HB.out)))) : P := h
theorem Y46 (h : P := by (with_reducible repeat (first | apply Kd.V_alloc | apply Kd.V_drewN | apply Kd.V_drew)); exact HO1.out) : P := h
theorem Y47 (h : P := by rw [hg]; exact (jv (by repeat (first | (with_reducible first | exact HB.out | apply jk | apply jf | apply jm | refine jl ?_ GE393.out) | exact HB.out)))) : P := h
theorem Y48 (h : P := by repeat (first | (with_reducible first | exact HB.out | apply jk | apply jf | apply jm | refine jl ?_ GE393.out | refine jl ?_ GE394.out) | exact HB.out)) : P := h
theorem Y49 (h : P := by rw [hg]; exact Nat.ne_of_lt (jza (g := gb396) (o := .cells #[.int .i64 a0_0, .int .i64 a0_1, .int .i64 a0_2] 54 (0, 0)) (kq BK396.out))) : P := h
theorem Y50 (h : P := by rw [hg]; exact Nat.ne_of_gt (jza (g := gb396) (o := .cells #[.int .i64 a0_0, .int .i64 a0_1, .int .i64 a0_2] 54 (0, 0)) (kq BK396.out))) : P := h
theorem Y51 (h : P := by repeat (first | (with_reducible first | exact HB.out | apply jk | apply jf | apply jm | refine jl ?_ GE396.out) | exact HB.out)) : P := h
theorem Y52 (h : P := by repeat (first | (with_reducible first | exact HB.out | apply jk | apply jf | apply jm | refine jl ?_ GE396.out | refine jl ?_ GE397.out) | exact HB.out)) : P := h
theorem Y53 (h : P := by rw [hg]; exact Nat.ne_of_lt (jza (g := gb421) (o := .cells #[.slice A0_0 l0_0.length c0_0] 24 (0, 0)) (kq BK421.out))) : P := h
theorem Y54 (h : P := by rw [hg]; exact Nat.ne_of_gt (jza (g := gb421) (o := .cells #[.slice A0_0 l0_0.length c0_0] 24 (0, 0)) (kq BK421.out))) : P := h
theorem Y55 (h : P := by repeat (first | (with_reducible first | exact HB.out | apply jk | apply jf | apply jm | refine jl ?_ GE154.out) | exact HB.out)) : P := h
theorem Y56 (h : P := by repeat (first | (with_reducible first | exact HB.out | apply jk | apply jf | apply jm | refine jl ?_ GE154.out | refine jl ?_ GE157.out) | exact HB.out)) : P := h
theorem Y57 (h : P := by first | exact Kd.R_nil _ _ _ _ _ | exact Kd.N_nil _ _ _ _ _ | exact Kd.V_nil _ _ _ _ _ | exact Kd.Q_nil _ _ _ _ _ | exact Kd.S_nil _ _ _ _ _) : P := h
theorem Y58 (h : P := by repeat (first | (with_reducible first | exact HB.out | apply jk | apply jf | apply jm | refine jl ?_ GE262.out | refine jl ?_ GE263.out | refine jl ?_ GE264.out) | exact HB.out)) : P := h
theorem Y59 (h : P := by repeat (first | (with_reducible first | exact HB.out | apply jk | apply jf | apply jm | refine jl ?_ GE283.out) | exact HB.out)) : P := h
theorem Y60 (h : P := by repeat (first | (with_reducible first | exact HB.out | apply jk | apply jf | apply jm | refine jl ?_ GE300.out) | exact HB.out)) : P := h
theorem Y61 (h : P := by repeat (first | (with_reducible first | exact HB.out | apply jk | apply jf | apply jm | refine jl ?_ GE311.out) | exact HB.out)) : P := h
theorem Y62 (h : P := by rw [hg]; exact Nat.ne_of_lt (jza (g := gb388) (o := .cells #[.string a0_0, .int .i64 a0_1] 75 (0, 0)) (kq BK388.out))) : P := h
theorem Y63 (h : P := by rw [hg]; exact Nat.ne_of_gt (jza (g := gb388) (o := .cells #[.string a0_0, .int .i64 a0_1] 75 (0, 0)) (kq BK388.out))) : P := h
theorem Y64 (h : P := by repeat (first | (with_reducible first | exact HB.out | apply jk | apply jf | apply jm | refine jl ?_ GE388.out) | exact HB.out)) : P := h
theorem Y65 (h : P := by repeat (first | (with_reducible first | exact HB.out | apply jk | apply jf | apply jm | refine jl ?_ GE388.out | refine jl ?_ GE389.out) | exact HB.out)) : P := h
theorem Y66 (h : P := by repeat (first | (with_reducible first | exact HB.out | apply jk | apply jf | apply jm | refine jl ?_ GE421.out) | exact HB.out)) : P := h
theorem Y67 (h : P := by repeat (first | (with_reducible first | exact HB.out | apply jk | apply jf | apply jm | refine jl ?_ GE101.out) | exact HB.out)) : P := h
theorem Y68 (h : P := by rw [hg]; exact (jv (by repeat (first | (with_reducible first | exact HB.out | apply jk | apply jf | apply jm | refine jl ?_ GE108.out) | exact HB.out)))) : P := h
theorem Y69 (h : P := by rw [hg]; exact (jv (by repeat (first | (with_reducible first | exact HB.out | apply jk | apply jf | apply jm | refine jl ?_ GE154.out) | exact HB.out)))) : P := h
theorem Y70 (h : P := by repeat (first | (with_reducible first | exact HB.out | apply jk | apply jf | apply jm | refine jl ?_ GE124.out) | exact HB.out)) : P := h
theorem Y71 (h : P := by rw [hg]; exact (jv (by repeat (first | (with_reducible first | exact HB.out | apply jk | apply jf | apply jm | refine jl ?_ GE186.out) | exact HB.out)))) : P := h
theorem Y72 (h : P := by repeat (first | (with_reducible first | exact HB.out | apply jk | apply jf | apply jm | refine jl ?_ GE235.out) | exact HB.out)) : P := h
theorem Y73 (h : P := by rw [hg]; exact (jv (by repeat (first | (with_reducible first | exact HB.out | apply jk | apply jf | apply jm | refine jl ?_ GE252.out) | exact HB.out)))) : P := h
theorem Y74 (h : P := by rw [hg]; exact (jv (by repeat (first | (with_reducible first | exact HB.out | apply jk | apply jf | apply jm | refine jl ?_ GE252.out | refine jl ?_ GE253.out) | exact HB.out)))) : P := h
theorem Y75 (h : P := by rw [hg]; exact (jv (by repeat (first | (with_reducible first | exact HB.out | apply jk | apply jf | apply jm | refine jl ?_ GE262.out) | exact HB.out)))) : P := h
theorem Y76 (h : P := by rw [hg]; exact (jv (by repeat (first | (with_reducible first | exact HB.out | apply jk | apply jf | apply jm | refine jl ?_ GE262.out | refine jl ?_ GE263.out) | exact HB.out)))) : P := h
theorem Y77 (h : P := by rw [hg]; exact (jv (by repeat (first | (with_reducible first | exact HB.out | apply jk | apply jf | apply jm | refine jl ?_ GE268.out) | exact HB.out)))) : P := h
theorem Y78 (h : P := by rw [hg]; exact Nat.ne_of_lt (jza (g := gb268) (o := .cells #[.int .i64 a0_0, .int .i64 a0_1, .int .i64 a0_2] 58 (0, 0)) (kq BK268.out))) : P := h
theorem Y79 (h : P := by rw [hg]; exact Nat.ne_of_gt (jza (g := gb268) (o := .cells #[.int .i64 a0_0, .int .i64 a0_1, .int .i64 a0_2] 58 (0, 0)) (kq BK268.out))) : P := h
theorem Y80 (h : P := by rw [hg]; exact (jv (by repeat (first | (with_reducible first | exact HB.out | apply jk | apply jf | apply jm | refine jl ?_ GE268.out | refine jl ?_ GE269.out) | exact HB.out)))) : P := h
theorem Y81 (h : P := by rw [hg]; exact (jv (by repeat (first | (with_reducible first | exact HB.out | apply jk | apply jf | apply jm | refine jl ?_ GE279.out) | exact HB.out)))) : P := h
theorem Y82 (h : P := by rw [hg]; exact Nat.ne_of_lt (jza (g := gb279) (o := .cells #[.bool a0_0, .int .i64 a0_1, .int .i64 a0_2] 27 (0, 0)) (kq BK279.out))) : P := h
theorem Y83 (h : P := by rw [hg]; exact Nat.ne_of_gt (jza (g := gb279) (o := .cells #[.bool a0_0, .int .i64 a0_1, .int .i64 a0_2] 27 (0, 0)) (kq BK279.out))) : P := h
theorem Y84 (h : P := by rw [hg]; exact (jv (by repeat (first | (with_reducible first | exact HB.out | apply jk | apply jf | apply jm | refine jl ?_ GE279.out | refine jl ?_ GE280.out) | exact HB.out)))) : P := h
theorem Y85 (h : P := by rw [hg]; exact (jv (by repeat (first | (with_reducible first | exact HB.out | apply jk | apply jf | apply jm | refine jl ?_ GE283.out) | exact HB.out)))) : P := h
theorem Y86 (h : P := by rw [hg]; exact (jv (by repeat (first | (with_reducible first | exact HB.out | apply jk | apply jf | apply jm | refine jl ?_ GE294.out) | exact HB.out)))) : P := h
theorem Y87 (h : P := by rw [hg]; exact Nat.ne_of_lt (jza (g := gb300) (o := .cells #[.bool true, .int .i64 a0_1, .int .i64 a0_2] 39 (0, 0)) (kq BK300.out))) : P := h
theorem Y88 (h : P := by rw [hg]; exact Nat.ne_of_gt (jza (g := gb300) (o := .cells #[.bool true, .int .i64 a0_1, .int .i64 a0_2] 39 (0, 0)) (kq BK300.out))) : P := h
theorem Y89 (h : P := by (with_reducible repeat (first | refine jL ?_ _ | refine jS ?_ | refine jT ?_ _)); refine jub (cs := #[.int .i64 ((jd l0 x16_1).f0), .int .i64 ((jd l0 x16_1).f1), .int .i64 ((jd l0 x16_1).f2), .int .i64 ((jd l0 x16_1).f3)]) ?_ 0 _ rfl; (with_reducible repeat (first | refine jL ?_ _ | refine jS ?_ | refine jT ?_ _)); refine jub (cs := #[.int .i64 ((jd l0 x16_1).f0), .int .i64 ((jd l0 x16_1).f1), .int .i64 ((jd l0 x16_1).f2), .int .i64 0]) ?_ 3 _ rfl; (with_reducible repeat (first | refine jL ?_ _ | refine jS ?_ | refine jT ?_ _)); refine jub (cs := #[.int .i64 ((jd l0 x16_1).f0), .int .i64 ((jd l0 x16_1).f1), .int .i64 0, .int .i64 0]) ?_ 2 _ rfl; (with_reducible repeat (first | refine jL ?_ _ | refine jS ?_ | refine jT ?_ _)); refine jub (cs := #[.int .i64 ((jd l0 x16_1).f0), .int .i64 0, .int .i64 0, .int .i64 0]) ?_ 1 _ rfl; (with_reducible repeat (first | refine jL ?_ _ | refine jS ?_ | refine jT ?_ _)); refine jub (cs := #[.int .i64 0, .int .i64 0, .int .i64 0, .int .i64 0]) ?_ 0 _ rfl; (with_reducible repeat (first | refine jL ?_ _ | refine jS ?_ | refine jT ?_ _)); exact BK311.out) : P := h
theorem Y90 (h : P := by rw [hg]; exact (jv (by repeat (first | (with_reducible first | exact HB.out | apply jk | apply jf | apply jm | refine jl ?_ GE327.out) | exact HB.out)))) : P := h
theorem Y91 (h : P := by repeat (first | (with_reducible first | exact HB.out | apply jk | apply jf | apply jm | refine jl ?_ GE393.out) | exact HB.out)) : P := h
theorem Y92 (h : P := by repeat (first | (with_reducible first | exact HB.out | apply jk | apply jf | apply jm | refine jl ?_ GE407.out) | exact HB.out)) : P := h
theorem Y93 (h : P := by repeat (first | (with_reducible first | exact HK.out | apply Kept.alloc | apply Kept.drewN | apply Kept.drew | refine Kept.setCell ?_ (.inr GW407.out) _) | exact HK.out)) : P := h
theorem Y94 (h : P := by rw [hg]; exact (jv (by repeat (first | (with_reducible first | exact HB.out | apply jk | apply jf | apply jm | refine jl ?_ GE421.out | refine jl ?_ GE422.out) | exact HB.out)))) : P := h
theorem Y95 (h : P := by (with_reducible repeat (first | apply Kd.jGa | apply Kd.jKa | apply Kd.jLa)); exact (Kd.jca (Kd.R_far (p := ⟨gb441, 0, none⟩) (Kd.R_types HO430.out BK441.out (by decide)) (fun _ hk => hk.2) (.slice Ao42 t438.length co42)) (fun _ h_ => h_.1))) : P := h
theorem ozD {p : Prop} [Decidable p] (h : decide p = true) : p := of_decide_eq_true h
theorem dzT {p : Prop} [d : Decidable p] (h : p) : decide p = true := decide_eq_true h
theorem dzF {p : Prop} [d : Decidable p] (h : ¬ p) : decide p = false := decide_eq_false h
theorem ezT {p : Prop} (h : p) : p = True := eq_true h
theorem bzS {α β : Type} {o : Option α} {f : α → Option β} {b : β} (h : o.bind f = some b) : ∃ a, o = some a ∧ f a = some b := Option.bind_eq_some_iff.mp h
end Go.Proofs.YtbbmgiloikkpiaaW.PrintWords
end
