/- One part of the proofs on this program: functions of the program as plain functions, that the code comes to them, and facts on them. -/
import Derived.Test.YtbclgpgolbmlpaaYAll1
import Derived.Test.YtbclgpgolbmlpaaYAll3
import Derived.Test.YtbclgpgolbmlpaaYWAuto
section
namespace Go.Proofs.Ytbclgpgolbmlpaa.P
open Go.RowKit Go.Proofs.YtbclgpgolbmlpaaW.PrintWords Go.Proofs.YtbclgpgolbmlpaaW.PrintLast Go.Proofs.YtbclgpgolbmlpaaW.PrintMore
attribute [local go_sem] max2_int min2_int max_two min_two max_three min_three max_four min_four isSome_cell_setCell   -- for this text's walks alone
set_option linter.unusedVariables false
set_option linter.unusedSimpArgs false
mutual
def impl_ValidTree.l0 : Nat → List (S68) → Int → Int → List (S68) → Option (Bool)
  | 0, _, _, _, _ => none
  | k + 1, x6, x7, x8, x209000 => if x8 < x7 then (if 0 ≤ x8 then (if x8 < (x6.length : Int) then ((impl_nameOk.f k ((rd_T68 x6 x8).f0)).bind fun t212 => (if t212 = true then ((impl_Tree_named.f x209000 ((rd_T68 x6 x8).f0)).bind fun t213 => (if t213 = x8 then (if x8 = 0 then (if ((rd_T68 x6 x8).f1) = (-1) then (if x8 > 0 then ((impl_within.f ((rd_T68 x6 x8).f1) 0 (wrap64 (x8 - 1))).bind fun t214 => (impl_ValidTree.j1 k x6 x7 x8 (!t214) x209000)) else (impl_ValidTree.j1 k x6 x7 x8 false x209000)) else (impl_ValidTree.j1 k x6 x7 x8 true x209000)) else (if x8 > 0 then ((impl_within.f ((rd_T68 x6 x8).f1) 0 (wrap64 (x8 - 1))).bind fun t215 => (impl_ValidTree.j1 k x6 x7 x8 (!t215) x209000)) else (impl_ValidTree.j1 k x6 x7 x8 false x209000))) else (impl_ValidTree.j1 k x6 x7 x8 true x209000))) else (impl_ValidTree.j1 k x6 x7 x8 true x209000))) else (none)) else (none)) else ((impl_within.f (x209000.length : Int) 1 8).bind fun t209 => (some t209))
def impl_ValidTree.j1 : Nat → List (S68) → Int → Int → Bool → List (S68) → Option (Bool)
  | 0, _, _, _, _, _ => none
  | k + 1, x6, x7, x8, x45, x209000 => if x45 = true then (some false) else (impl_ValidTree.l0 k x6 x7 (wrap64 (x8 + 1)) x209000)
end
def impl_ValidTree.f (k : Nat) (l0_0 : List (S68)) : Option (Bool) := impl_ValidTree.l0 k l0_0 (l0_0.length : Int) 0 l0_0
theorem impl_ValidTree.mono_l : ∀ k, (∀ y0 y1 y2 y3, LeO (impl_ValidTree.l0 k y0 y1 y2 y3) (impl_ValidTree.l0 (k + 1) y0 y1 y2 y3)) ∧ (∀ y0 y1 y2 y3 y4, LeO (impl_ValidTree.j1 k y0 y1 y2 y3 y4) (impl_ValidTree.j1 (k + 1) y0 y1 y2 y3 y4))
  | 0 => ⟨fun _ _ _ _ r h => by simp [impl_ValidTree.l0] at h, fun _ _ _ _ _ r h => by simp [impl_ValidTree.j1] at h⟩
  | k + 1 => by
    obtain ⟨ih0, ih1⟩ := impl_ValidTree.mono_l k
    refine ⟨?_, ?_⟩
    · intro y0 y1 y2 y3
      unfold impl_ValidTree.l0
      repeat' first
      | (with_reducible exact ih0 _ _ _ _)
      | (with_reducible exact ih1 _ _ _ _ _)
      | (with_reducible exact impl_nameOk.mono _ _)
      | (with_reducible exact LeO.refl _)
      | (with_reducible exact LeO.none _)
      | (with_reducible refine LeO.ite ?_ ?_)
      | (with_reducible refine LeO.bind ?_ (fun _ => ?_))
      | exact ih0 _ _ _ _
      | exact ih1 _ _ _ _ _
      | exact impl_nameOk.mono _ _
      | exact LeO.none _
      | refine LeO.ite ?_ ?_
      | refine LeO.bind ?_ (fun _ => ?_)
    · intro y0 y1 y2 y3 y4
      unfold impl_ValidTree.j1
      repeat' first
      | (with_reducible exact ih0 _ _ _ _)
      | (with_reducible exact ih1 _ _ _ _ _)
      | (with_reducible exact impl_nameOk.mono _ _)
      | (with_reducible exact LeO.refl _)
      | (with_reducible exact LeO.none _)
      | (with_reducible refine LeO.ite ?_ ?_)
      | (with_reducible refine LeO.bind ?_ (fun _ => ?_))
      | exact ih0 _ _ _ _
      | exact ih1 _ _ _ _ _
      | exact impl_nameOk.mono _ _
      | exact LeO.none _
      | refine LeO.ite ?_ ?_
      | refine LeO.bind ?_ (fun _ => ?_)
theorem impl_ValidTree.mono : ∀ a0 k, LeO (impl_ValidTree.f k a0) (impl_ValidTree.f (k + 1) a0) := by
  intro a0 k
  obtain ⟨ih0, ih1⟩ := impl_ValidTree.mono_l k
  unfold impl_ValidTree.f
  repeat' first
      | (with_reducible exact ih0 _ _ _ _)
      | (with_reducible exact ih1 _ _ _ _ _)
      | (with_reducible exact impl_nameOk.mono _ _)
      | (with_reducible exact LeO.refl _)
      | (with_reducible exact LeO.none _)
      | (with_reducible refine LeO.ite ?_ ?_)
      | (with_reducible refine LeO.bind ?_ (fun _ => ?_))
      | exact ih0 _ _ _ _
      | exact ih1 _ _ _ _ _
      | exact impl_nameOk.mono _ _
      | exact LeO.none _
      | refine LeO.ite ?_ ?_
      | refine LeO.bind ?_ (fun _ => ?_)
set_option maxHeartbeats 8000000 in
set_option maxRecDepth 100000 in
theorem impl_ValidTree.calls (k : Nat) (A0_0 : Option Addr) (c0_0 : Nat) (l0_0 : List (S68)) (r : Bool) (w : World) (hr0_0 : Kd.C k68 w A0_0 l0_0.length l0_0) (hc0_0 : l0_0.length ≤ c0_0) (h : impl_ValidTree.f k l0_0 = some r) :
    Calls Try.prog 74 #[.agg #[.slice A0_0 l0_0.length c0_0]] w fun e w' => e = .returned (.bool r) ∧ Below w.heap.size w w' := by
  have hu31 := Try.underlying31
  have hu68 := Try.underlying68
  have HR0_0 := Aside0.mk hr0_0
  have HC0_0 := Aside0.mk hc0_0
  clear hr0_0 hc0_0
  have HB := Aside0.mk (Below.refl w.heap.size w)
  have H : (impl_ValidTree.l0 k l0_0 (l0_0.length : Int) 0 l0_0) = some r := h
  clear h
  have H' := Aside0.mk H
  clear H
  go_enter Try.func74, Try.ntmps74
  go_wp2_with (first | ((with_reducible refine gate_dst (N := 1) rfl ?_); refine box_event ?hg (N := 1) ?hd (cs := #[.slice A0_0 l0_0.length c0_0]) (t := 31) ?hr ?_; (case hd => rfl); (case hg => rfl); (case hr => first | (go_simp; done) | (go_simp; rfl)); intro gb208 hg w2 hbox hb; have n0_ := Aside0.mk (below_step (bq) hb); have n1_ := Aside0.mk (hbox); have n2_ := Aside0.mk ((by rw [hg]; exact (below_size (bq)) : w.heap.size ≤ gb208)); have n3_ := Aside0.mk ((by rw [hg]; exact (below_size (bq)) : w.heap.size ≤ gb208)); clear HB; have HB := n0_; have BK208 := n1_; have GW208 := n2_; have GE208 := n3_; clear n0_ n1_ n2_ n3_; clear hb hbox hg; have hcz3_0 : w2.cell? ⟨gb208, 0, none⟩ = some (.slice A0_0 l0_0.length c0_0) := (blk_cell BK208.out 0).trans rfl; have hfz3_0 := blk_frozen BK208.out 0))
  go_loopg [8] k (fun kq v8 w' => ∃ (x8_1 : Int), v8 = .int .i64 x8_1 ∧ Aside0 (impl_ValidTree.l0 kq l0_0 (l0_0.length : Int) x8_1 l0_0 = some r) ∧ Aside0 (kq ≤ k) ∧ Aside0 (w'.heap[gb208]? = some (.cells #[(.slice A0_0 l0_0.length c0_0)] 31 (0, 0))) ∧ Aside0 (Below w.heap.size w w'))
  case atStart => exact ⟨(0), (sq), H', ⟨Nat.le_refl _⟩, ⟨kq BK208.out⟩, ⟨by repeat (first | (with_reducible first | exact HB.out | apply below_alloc | apply pw_below_drewN | apply below_drew1 | refine below_set ?_ GE208.out) | exact HB.out)⟩⟩
  case round =>
    clear H'
    try clear p2
    try clear hcz3_0
    try clear hfz3_0
    obtain ⟨x8_1, rfl, HA, HK1, BK208, HB⟩ := hrel
    cases gk with
    | zero => exact absurd HA.out (by simp [impl_ValidTree.l0])
    | succ k1 =>
      have H := HA.out
      clear HA
      simp only [impl_ValidTree.l0] at H
      by_cases c4 : x8_1 < (l0_0.length : Int)
      · rw [if_pos c4] at H
        have c4b0 : decide (x8_1 < (l0_0.length : Int)) = true := decide_eq_true c4
        clear c4
        by_cases c5 : 0 ≤ x8_1
        · rw [if_pos c5] at H
          have c5b0 : decide (0 ≤ x8_1) = true := decide_eq_true c5
          clear c5
          by_cases c6 : x8_1 < (l0_0.length : Int)
          · rw [if_pos c6] at H
            have c6b0 : decide (x8_1 < (l0_0.length : Int)) = true := decide_eq_true c6
            clear c6
            have HC7 := Aside0.mk H
            clear H
            have p210 : 0 ≤ (x8_1 : Int) := of_decide_eq_true (uq)
            have q210 : x8_1 < (l0_0.length : Int) := of_decide_eq_true (uq)
            obtain ⟨ad210, e210, hx210_0, hx210_1⟩ := at_T68 HR0_0.out x8_1 p210 q210
            cases e210
            replace hx210_0 := (HB.out.cell (World.block_lt_of_cell? w _ hx210_0)).trans hx210_0
            replace hx210_1 := (HB.out.cell (World.block_lt_of_cell? w _ hx210_1)).trans hx210_1
            replace p210 := eq_true p210
            replace q210 := eq_true q210
            go_upto_region 4 with (first | ((with_reducible refine gate_dst (N := 4) rfl ?_); refine box_event ?hg (N := 4) ?hd (cs := #[.string (⟨#[]⟩ : ByteArray), .int .i64 0]) (t := 68) ?hr ?_; (case hd => rfl); (case hg => rfl); (case hr => first | (go_simp; done) | (go_simp; rfl)); intro gb211 hg w8 hbox hb; have n0_ := Aside0.mk (blk_below (g := gb208) (o := .cells #[.slice (some ad210) l0_0.length c0_0] 31 (0, 0)) (kq BK208.out) hb); have n1_ := Aside0.mk (below_step (by repeat (first | (with_reducible first | exact HB.out | apply below_alloc | apply pw_below_drewN | apply below_drew1 | refine below_set ?_ GE208.out) | exact HB.out)) hb); have n2_ := Aside0.mk (hbox); have n3_ := Aside0.mk ((by rw [hg]; exact (below_size (by repeat (first | (with_reducible first | exact HB.out | apply below_alloc | apply pw_below_drewN | apply below_drew1 | refine below_set ?_ GE208.out) | exact HB.out))) : w.heap.size ≤ gb211)); have n4_ := Aside0.mk ((by rw [hg]; exact (below_size (by repeat (first | (with_reducible first | exact HB.out | apply below_alloc | apply pw_below_drewN | apply below_drew1 | refine below_set ?_ GE208.out) | exact HB.out))) : w.heap.size ≤ gb211)); have n5_ := Aside0.mk ((by rw [hg]; exact Nat.ne_of_lt (blk_lt (g := gb208) (o := .cells #[.slice (some ad210) l0_0.length c0_0] 31 (0, 0)) (kq BK208.out)) : gb208 ≠ gb211)); have n6_ := Aside0.mk ((by rw [hg]; exact Nat.ne_of_gt (blk_lt (g := gb208) (o := .cells #[.slice (some ad210) l0_0.length c0_0] 31 (0, 0)) (kq BK208.out)) : gb211 ≠ gb208)); clear BK208; clear HB; have BK208 := n0_; have HB := n1_; have BK211 := n2_; have GW211 := n3_; have GE211 := n4_; have NB208_211 := n5_; have NB211_208 := n6_; clear n0_ n1_ n2_ n3_ n4_ n5_ n6_; clear hb hbox hg; have hnb9 := NB211_208.out; have hnc9 := NB208_211.out; have hcz10_0 : w8.cell? ⟨gb211, 0, none⟩ = some (.string (⟨#[]⟩ : ByteArray)) := (blk_cell BK211.out 0).trans rfl; have hcz10_1 : w8.cell? ⟨gb211, 1, none⟩ = some (.int .i64 0) := (blk_cell BK211.out 1).trans rfl; have hfz10_0 := blk_frozen BK211.out 0; have hfz10_1 := blk_frozen BK211.out 1))
            (try simp only [Act.put, List.setIfInBounds_toArray, List.set_cons_zero, List.set_cons_succ])
            go_cut [45] (fun v45 wc => ∃ (kq : Nat) (x45_6 : Bool), v45 = .bool x45_6 ∧ Aside0 (impl_ValidTree.j1 kq l0_0 (l0_0.length : Int) x8_1 x45_6 l0_0 = some r) ∧ Aside0 (kq ≤ k1) ∧ Aside0 (wc.heap[gb208]? = some (.cells #[(.slice (some ad210) l0_0.length c0_0)] 31 (0, 0))) ∧ Aside0 (wc.heap[gb211]? = some (.cells #[.string ((rd_T68 l0_0 x8_1).f0), .int .i64 ((rd_T68 l0_0 x8_1).f1)] 68 (0, 0))) ∧ Aside0 (Below w.heap.size w wc))
            case first =>
              have H := HC7.out
              clear HC7
              replace H := Option.bind_eq_some_iff.mp H
              obtain ⟨t212, A110, H⟩ := H
              replace H : (if t212 = true then ((impl_Tree_named.f l0_0 ((rd_T68 l0_0 x8_1).f0)).bind fun t213 => (if t213 = x8_1 then (if x8_1 = 0 then (if ((rd_T68 l0_0 x8_1).f1) = (-1) then (if x8_1 > 0 then ((impl_within.f ((rd_T68 l0_0 x8_1).f1) 0 (wrap64 (x8_1 - 1))).bind fun t214 => (impl_ValidTree.j1 k1 l0_0 (l0_0.length : Int) x8_1 (!t214) l0_0)) else (impl_ValidTree.j1 k1 l0_0 (l0_0.length : Int) x8_1 false l0_0)) else (impl_ValidTree.j1 k1 l0_0 (l0_0.length : Int) x8_1 true l0_0)) else (if x8_1 > 0 then ((impl_within.f ((rd_T68 l0_0 x8_1).f1) 0 (wrap64 (x8_1 - 1))).bind fun t215 => (impl_ValidTree.j1 k1 l0_0 (l0_0.length : Int) x8_1 (!t215) l0_0)) else (impl_ValidTree.j1 k1 l0_0 (l0_0.length : Int) x8_1 false l0_0))) else (impl_ValidTree.j1 k1 l0_0 (l0_0.length : Int) x8_1 true l0_0))) else (impl_ValidTree.j1 k1 l0_0 (l0_0.length : Int) x8_1 true l0_0)) = some r := H
              have A11 := Aside0.mk A110
              clear A110
              by_cases c12 : t212 = true
              · subst c12
                have H1 : ((impl_Tree_named.f l0_0 ((rd_T68 l0_0 x8_1).f0)).bind fun t213 => (if t213 = x8_1 then (if x8_1 = 0 then (if ((rd_T68 l0_0 x8_1).f1) = (-1) then (if x8_1 > 0 then ((impl_within.f ((rd_T68 l0_0 x8_1).f1) 0 (wrap64 (x8_1 - 1))).bind fun t214 => (impl_ValidTree.j1 k1 l0_0 (l0_0.length : Int) x8_1 (!t214) l0_0)) else (impl_ValidTree.j1 k1 l0_0 (l0_0.length : Int) x8_1 false l0_0)) else (impl_ValidTree.j1 k1 l0_0 (l0_0.length : Int) x8_1 true l0_0)) else (if x8_1 > 0 then ((impl_within.f ((rd_T68 l0_0 x8_1).f1) 0 (wrap64 (x8_1 - 1))).bind fun t215 => (impl_ValidTree.j1 k1 l0_0 (l0_0.length : Int) x8_1 (!t215) l0_0)) else (impl_ValidTree.j1 k1 l0_0 (l0_0.length : Int) x8_1 false l0_0))) else (impl_ValidTree.j1 k1 l0_0 (l0_0.length : Int) x8_1 true l0_0))) = some r := by rw [if_pos rfl] at H; exact H
                clear H
                have H := H1
                clear H1
                replace H := Option.bind_eq_some_iff.mp H
                obtain ⟨t213, A130, H⟩ := H
                replace H : (if t213 = x8_1 then (if x8_1 = 0 then (if ((rd_T68 l0_0 x8_1).f1) = (-1) then (if x8_1 > 0 then ((impl_within.f ((rd_T68 l0_0 x8_1).f1) 0 (wrap64 (x8_1 - 1))).bind fun t214 => (impl_ValidTree.j1 k1 l0_0 (l0_0.length : Int) x8_1 (!t214) l0_0)) else (impl_ValidTree.j1 k1 l0_0 (l0_0.length : Int) x8_1 false l0_0)) else (impl_ValidTree.j1 k1 l0_0 (l0_0.length : Int) x8_1 true l0_0)) else (if x8_1 > 0 then ((impl_within.f ((rd_T68 l0_0 x8_1).f1) 0 (wrap64 (x8_1 - 1))).bind fun t215 => (impl_ValidTree.j1 k1 l0_0 (l0_0.length : Int) x8_1 (!t215) l0_0)) else (impl_ValidTree.j1 k1 l0_0 (l0_0.length : Int) x8_1 false l0_0))) else (impl_ValidTree.j1 k1 l0_0 (l0_0.length : Int) x8_1 true l0_0)) = some r := H
                have A13 := Aside0.mk A130
                clear A130
                by_cases c14 : t213 = x8_1
                · rw [if_pos c14] at H
                  have c14b0 : (t213 == x8_1) = true := beq_iff_eq.mpr c14
                  have c14b1 : (t213 != x8_1) = false := bne_eq_false_iff_eq.mpr c14
                  clear c14
                  (first | rw [c14b0] | (simp only [i64_w, i32_w]; rw [c14b0]) | skip)
                  by_cases c15 : x8_1 = 0
                  · rw [if_pos c15] at H
                    have c15b0 : (x8_1 == 0) = true := beq_iff_eq.mpr c15
                    have c15b1 : (x8_1 != 0) = false := bne_eq_false_iff_eq.mpr c15
                    clear c15
                    by_cases c16 : ((rd_T68 l0_0 x8_1).f1) = (-1)
                    · rw [if_pos c16] at H
                      have c16b0 : (((rd_T68 l0_0 x8_1).f1) == (-1)) = true := beq_iff_eq.mpr c16
                      have c16b1 : (((rd_T68 l0_0 x8_1).f1) != (-1)) = false := bne_eq_false_iff_eq.mpr c16
                      clear c16
                      by_cases c17 : x8_1 > 0
                      · rw [if_pos c17] at H
                        have c17b0 : decide (0 < x8_1) = true := decide_eq_true c17
                        clear c17
                        replace H := Option.bind_eq_some_iff.mp H
                        obtain ⟨t214, A180, H⟩ := H
                        replace H : (impl_ValidTree.j1 k1 l0_0 (l0_0.length : Int) x8_1 (!t214) l0_0) = some r := H
                        have A18 := Aside0.mk A180
                        clear A180
                        have H' := Aside0.mk H
                        clear H
                        have hnb19 := NB211_208.out
                        have hnc19 := NB208_211.out
                        have hcz20_0 : w8.cell? ⟨gb211, 0, none⟩ = some (.string (⟨#[]⟩ : ByteArray)) := (blk_cell BK211.out 0).trans rfl
                        have hcz20_1 : w8.cell? ⟨gb211, 1, none⟩ = some (.int .i64 0) := (blk_cell BK211.out 1).trans rfl
                        have hfz20_0 := blk_frozen BK211.out 0
                        have hfz20_1 := blk_frozen BK211.out 1
                        go_wp2_with (first | ((with_reducible refine gate_callee (f := 88) rfl ?_); refine goesL_ (some 15) rfl rfl Try.func88 (by kernel_rfl) rfl #[.string ((rd_T68 l0_0 x8_1).f0)] rfl (aq) ?_; (with_reducible refine (impl_nameOk.calls k1 ((rd_T68 l0_0 x8_1).f0) true _ A11.out).mono ?_); rintro e w' ⟨rfl, ⟨nd, rfl⟩⟩; refine ⟨_, rfl, ?_⟩; have hcz21_0 : w8.cell? ⟨gb208, 0, none⟩ = some (.slice (some ad210) l0_0.length c0_0) := (blk_cell BK208.out 0).trans rfl; have hfz21_0 := blk_frozen BK208.out 0) | (go_at_call 89; (with_reducible refine (impl_Tree_named.calls _ _ l0_0 ((rd_T68 l0_0 x8_1).f0) t213 _ ?side1 ?side2 A13.out).mono ?_); (case side1 => exact Kd.C_below HR0_0.out (by repeat (first | (with_reducible first | exact HB.out | apply below_alloc | apply pw_below_drewN | apply below_drew1 | refine below_set ?_ GE208.out | refine below_set ?_ GE211.out) | exact HB.out))); (case side2 => exact HC0_0.out); rintro e w22 ⟨rfl, hb⟩; have n0_ := Aside0.mk (blk_below (g := gb208) (o := .cells #[.slice (some ad210) l0_0.length c0_0] 31 (0, 0)) (by (with_reducible repeat (first | refine blk_drewN ?_ _ | refine blk_drew ?_ | refine blk_alloc ?_ _)); refine blk_far ?_ NB208_211.out _; (with_reducible repeat (first | refine blk_drewN ?_ _ | refine blk_drew ?_ | refine blk_alloc ?_ _)); refine blk_far ?_ NB208_211.out _; (with_reducible repeat (first | refine blk_drewN ?_ _ | refine blk_drew ?_ | refine blk_alloc ?_ _)); exact BK208.out) hb); have n1_ := Aside0.mk (blk_below (g := gb211) (o := .cells #[.string ((rd_T68 l0_0 x8_1).f0), .int .i64 ((rd_T68 l0_0 x8_1).f1)] 68 (0, 0)) (by (with_reducible repeat (first | refine blk_drewN ?_ _ | refine blk_drew ?_ | refine blk_alloc ?_ _)); refine blk_put (cs := #[.string ((rd_T68 l0_0 x8_1).f0), .int .i64 0]) ?_ 1 _ rfl; (with_reducible repeat (first | refine blk_drewN ?_ _ | refine blk_drew ?_ | refine blk_alloc ?_ _)); refine blk_put (cs := #[.string (⟨#[]⟩ : ByteArray), .int .i64 0]) ?_ 0 _ rfl; (with_reducible repeat (first | refine blk_drewN ?_ _ | refine blk_drew ?_ | refine blk_alloc ?_ _)); exact BK211.out) hb); have n2_ := Aside0.mk (below_step (by repeat (first | (with_reducible first | exact HB.out | apply below_alloc | apply pw_below_drewN | apply below_drew1 | refine below_set ?_ GE208.out | refine below_set ?_ GE211.out) | exact HB.out)) hb); clear BK208; clear BK211; clear HB; have BK208 := n0_; have BK211 := n1_; have HB := n2_; clear n0_ n1_ n2_; (try clear hb); (try clear hb2); (try clear hk); (try clear hi); have hcz23_0 : w22.cell? ⟨gb211, 0, none⟩ = some (.string ((rd_T68 l0_0 x8_1).f0)) := (blk_cell BK211.out 0).trans rfl; have hcz23_1 : w22.cell? ⟨gb211, 1, none⟩ = some (.int .i64 ((rd_T68 l0_0 x8_1).f1)) := (blk_cell BK211.out 1).trans rfl; have hfz23_0 := blk_frozen BK211.out 0; have hfz23_1 := blk_frozen BK211.out 1) | (go_at_call 44; (with_reducible refine (impl_within.calls ((rd_T68 l0_0 x8_1).f1) 0 (wrap64 (x8_1 - 1)) t214 _ A18.out).mono ?_); rintro e w' ⟨rfl, ⟨nd, rfl⟩⟩))
                        go_meet
                        case rel => exact ⟨_, (!t214), (sq), H', ⟨by have := HK1.out; first | omega | exact Nat.le_refl _⟩, ⟨kq BK208.out⟩, ⟨kq BK211.out⟩, ⟨by repeat (first | (with_reducible first | exact HB.out | apply below_alloc | apply pw_below_drewN | apply below_drew1 | refine below_set ?_ GE208.out | refine below_set ?_ GE211.out) | exact HB.out)⟩⟩
                      · rw [if_neg c17] at H
                        have c17b0 : decide (0 < x8_1) = false := decide_eq_false c17
                        clear c17
                        have H' := Aside0.mk H
                        clear H
                        have hnb24 := NB211_208.out
                        have hnc24 := NB208_211.out
                        have hcz25_0 : w8.cell? ⟨gb211, 0, none⟩ = some (.string (⟨#[]⟩ : ByteArray)) := (blk_cell BK211.out 0).trans rfl
                        have hcz25_1 : w8.cell? ⟨gb211, 1, none⟩ = some (.int .i64 0) := (blk_cell BK211.out 1).trans rfl
                        have hfz25_0 := blk_frozen BK211.out 0
                        have hfz25_1 := blk_frozen BK211.out 1
                        go_wp2_with (first | ((with_reducible refine gate_callee (f := 88) rfl ?_); refine goesL_ (some 15) rfl rfl Try.func88 (by kernel_rfl) rfl #[.string ((rd_T68 l0_0 x8_1).f0)] rfl (aq) ?_; (with_reducible refine (impl_nameOk.calls k1 ((rd_T68 l0_0 x8_1).f0) true _ A11.out).mono ?_); rintro e w' ⟨rfl, ⟨nd, rfl⟩⟩; refine ⟨_, rfl, ?_⟩; have hcz26_0 : w8.cell? ⟨gb208, 0, none⟩ = some (.slice (some ad210) l0_0.length c0_0) := (blk_cell BK208.out 0).trans rfl; have hfz26_0 := blk_frozen BK208.out 0) | (go_at_call 89; (with_reducible refine (impl_Tree_named.calls _ _ l0_0 ((rd_T68 l0_0 x8_1).f0) t213 _ ?side1 ?side2 A13.out).mono ?_); (case side1 => exact Kd.C_below HR0_0.out (by repeat (first | (with_reducible first | exact HB.out | apply below_alloc | apply pw_below_drewN | apply below_drew1 | refine below_set ?_ GE208.out | refine below_set ?_ GE211.out) | exact HB.out))); (case side2 => exact HC0_0.out); rintro e w27 ⟨rfl, hb⟩; have n0_ := Aside0.mk (blk_below (g := gb208) (o := .cells #[.slice (some ad210) l0_0.length c0_0] 31 (0, 0)) (by (with_reducible repeat (first | refine blk_drewN ?_ _ | refine blk_drew ?_ | refine blk_alloc ?_ _)); refine blk_far ?_ NB208_211.out _; (with_reducible repeat (first | refine blk_drewN ?_ _ | refine blk_drew ?_ | refine blk_alloc ?_ _)); refine blk_far ?_ NB208_211.out _; (with_reducible repeat (first | refine blk_drewN ?_ _ | refine blk_drew ?_ | refine blk_alloc ?_ _)); exact BK208.out) hb); have n1_ := Aside0.mk (blk_below (g := gb211) (o := .cells #[.string ((rd_T68 l0_0 x8_1).f0), .int .i64 ((rd_T68 l0_0 x8_1).f1)] 68 (0, 0)) (by (with_reducible repeat (first | refine blk_drewN ?_ _ | refine blk_drew ?_ | refine blk_alloc ?_ _)); refine blk_put (cs := #[.string ((rd_T68 l0_0 x8_1).f0), .int .i64 0]) ?_ 1 _ rfl; (with_reducible repeat (first | refine blk_drewN ?_ _ | refine blk_drew ?_ | refine blk_alloc ?_ _)); refine blk_put (cs := #[.string (⟨#[]⟩ : ByteArray), .int .i64 0]) ?_ 0 _ rfl; (with_reducible repeat (first | refine blk_drewN ?_ _ | refine blk_drew ?_ | refine blk_alloc ?_ _)); exact BK211.out) hb); have n2_ := Aside0.mk (below_step (by repeat (first | (with_reducible first | exact HB.out | apply below_alloc | apply pw_below_drewN | apply below_drew1 | refine below_set ?_ GE208.out | refine below_set ?_ GE211.out) | exact HB.out)) hb); clear BK208; clear BK211; clear HB; have BK208 := n0_; have BK211 := n1_; have HB := n2_; clear n0_ n1_ n2_; (try clear hb); (try clear hb2); (try clear hk); (try clear hi); have hcz28_0 : w27.cell? ⟨gb211, 0, none⟩ = some (.string ((rd_T68 l0_0 x8_1).f0)) := (blk_cell BK211.out 0).trans rfl; have hcz28_1 : w27.cell? ⟨gb211, 1, none⟩ = some (.int .i64 ((rd_T68 l0_0 x8_1).f1)) := (blk_cell BK211.out 1).trans rfl; have hfz28_0 := blk_frozen BK211.out 0; have hfz28_1 := blk_frozen BK211.out 1))
                        go_meet
                        case rel => exact ⟨_, (false), (sq), H', ⟨by have := HK1.out; first | omega | exact Nat.le_refl _⟩, ⟨kq BK208.out⟩, ⟨kq BK211.out⟩, ⟨by repeat (first | (with_reducible first | exact HB.out | apply below_alloc | apply pw_below_drewN | apply below_drew1 | refine below_set ?_ GE208.out | refine below_set ?_ GE211.out) | exact HB.out)⟩⟩
                    · rw [if_neg c16] at H
                      have c16b0 : (((rd_T68 l0_0 x8_1).f1) == (-1)) = false := beq_eq_false_iff_ne.mpr c16
                      have c16b1 : (((rd_T68 l0_0 x8_1).f1) != (-1)) = true := bne_iff_ne.mpr c16
                      have H' := Aside0.mk H
                      clear H
                      have hnb29 := NB211_208.out
                      have hnc29 := NB208_211.out
                      have hcz30_0 : w8.cell? ⟨gb211, 0, none⟩ = some (.string (⟨#[]⟩ : ByteArray)) := (blk_cell BK211.out 0).trans rfl
                      have hcz30_1 : w8.cell? ⟨gb211, 1, none⟩ = some (.int .i64 0) := (blk_cell BK211.out 1).trans rfl
                      have hfz30_0 := blk_frozen BK211.out 0
                      have hfz30_1 := blk_frozen BK211.out 1
                      go_wp2_with (first | ((with_reducible refine gate_callee (f := 88) rfl ?_); refine goesL_ (some 15) rfl rfl Try.func88 (by kernel_rfl) rfl #[.string ((rd_T68 l0_0 x8_1).f0)] rfl (aq) ?_; (with_reducible refine (impl_nameOk.calls k1 ((rd_T68 l0_0 x8_1).f0) true _ A11.out).mono ?_); rintro e w' ⟨rfl, ⟨nd, rfl⟩⟩; refine ⟨_, rfl, ?_⟩; have hcz31_0 : w8.cell? ⟨gb208, 0, none⟩ = some (.slice (some ad210) l0_0.length c0_0) := (blk_cell BK208.out 0).trans rfl; have hfz31_0 := blk_frozen BK208.out 0) | (go_at_call 89; (with_reducible refine (impl_Tree_named.calls _ _ l0_0 ((rd_T68 l0_0 x8_1).f0) t213 _ ?side1 ?side2 A13.out).mono ?_); (case side1 => exact Kd.C_below HR0_0.out (by repeat (first | (with_reducible first | exact HB.out | apply below_alloc | apply pw_below_drewN | apply below_drew1 | refine below_set ?_ GE208.out | refine below_set ?_ GE211.out) | exact HB.out))); (case side2 => exact HC0_0.out); rintro e w32 ⟨rfl, hb⟩; have n0_ := Aside0.mk (blk_below (g := gb208) (o := .cells #[.slice (some ad210) l0_0.length c0_0] 31 (0, 0)) (by (with_reducible repeat (first | refine blk_drewN ?_ _ | refine blk_drew ?_ | refine blk_alloc ?_ _)); refine blk_far ?_ NB208_211.out _; (with_reducible repeat (first | refine blk_drewN ?_ _ | refine blk_drew ?_ | refine blk_alloc ?_ _)); refine blk_far ?_ NB208_211.out _; (with_reducible repeat (first | refine blk_drewN ?_ _ | refine blk_drew ?_ | refine blk_alloc ?_ _)); exact BK208.out) hb); have n1_ := Aside0.mk (blk_below (g := gb211) (o := .cells #[.string ((rd_T68 l0_0 x8_1).f0), .int .i64 ((rd_T68 l0_0 x8_1).f1)] 68 (0, 0)) (by (with_reducible repeat (first | refine blk_drewN ?_ _ | refine blk_drew ?_ | refine blk_alloc ?_ _)); refine blk_put (cs := #[.string ((rd_T68 l0_0 x8_1).f0), .int .i64 0]) ?_ 1 _ rfl; (with_reducible repeat (first | refine blk_drewN ?_ _ | refine blk_drew ?_ | refine blk_alloc ?_ _)); refine blk_put (cs := #[.string (⟨#[]⟩ : ByteArray), .int .i64 0]) ?_ 0 _ rfl; (with_reducible repeat (first | refine blk_drewN ?_ _ | refine blk_drew ?_ | refine blk_alloc ?_ _)); exact BK211.out) hb); have n2_ := Aside0.mk (below_step (by repeat (first | (with_reducible first | exact HB.out | apply below_alloc | apply pw_below_drewN | apply below_drew1 | refine below_set ?_ GE208.out | refine below_set ?_ GE211.out) | exact HB.out)) hb); clear BK208; clear BK211; clear HB; have BK208 := n0_; have BK211 := n1_; have HB := n2_; clear n0_ n1_ n2_; (try clear hb); (try clear hb2); (try clear hk); (try clear hi); have hcz33_0 : w32.cell? ⟨gb211, 0, none⟩ = some (.string ((rd_T68 l0_0 x8_1).f0)) := (blk_cell BK211.out 0).trans rfl; have hcz33_1 : w32.cell? ⟨gb211, 1, none⟩ = some (.int .i64 ((rd_T68 l0_0 x8_1).f1)) := (blk_cell BK211.out 1).trans rfl; have hfz33_0 := blk_frozen BK211.out 0; have hfz33_1 := blk_frozen BK211.out 1))
                      go_meet
                      case rel => exact ⟨_, (true), (sq), H', ⟨by have := HK1.out; first | omega | exact Nat.le_refl _⟩, ⟨kq BK208.out⟩, ⟨kq BK211.out⟩, ⟨by repeat (first | (with_reducible first | exact HB.out | apply below_alloc | apply pw_below_drewN | apply below_drew1 | refine below_set ?_ GE208.out | refine below_set ?_ GE211.out) | exact HB.out)⟩⟩
                  · rw [if_neg c15] at H
                    have c15b0 : (x8_1 == 0) = false := beq_eq_false_iff_ne.mpr c15
                    have c15b1 : (x8_1 != 0) = true := bne_iff_ne.mpr c15
                    by_cases c34 : x8_1 > 0
                    · rw [if_pos c34] at H
                      have c34b0 : decide (0 < x8_1) = true := decide_eq_true c34
                      clear c34
                      replace H := Option.bind_eq_some_iff.mp H
                      obtain ⟨t215, A350, H⟩ := H
                      replace H : (impl_ValidTree.j1 k1 l0_0 (l0_0.length : Int) x8_1 (!t215) l0_0) = some r := H
                      have A35 := Aside0.mk A350
                      clear A350
                      have H' := Aside0.mk H
                      clear H
                      have hnb36 := NB211_208.out
                      have hnc36 := NB208_211.out
                      have hcz37_0 : w8.cell? ⟨gb211, 0, none⟩ = some (.string (⟨#[]⟩ : ByteArray)) := (blk_cell BK211.out 0).trans rfl
                      have hcz37_1 : w8.cell? ⟨gb211, 1, none⟩ = some (.int .i64 0) := (blk_cell BK211.out 1).trans rfl
                      have hfz37_0 := blk_frozen BK211.out 0
                      have hfz37_1 := blk_frozen BK211.out 1
                      go_wp2_with (first | ((with_reducible refine gate_callee (f := 88) rfl ?_); refine goesL_ (some 15) rfl rfl Try.func88 (by kernel_rfl) rfl #[.string ((rd_T68 l0_0 x8_1).f0)] rfl (aq) ?_; (with_reducible refine (impl_nameOk.calls k1 ((rd_T68 l0_0 x8_1).f0) true _ A11.out).mono ?_); rintro e w' ⟨rfl, ⟨nd, rfl⟩⟩; refine ⟨_, rfl, ?_⟩; have hcz38_0 : w8.cell? ⟨gb208, 0, none⟩ = some (.slice (some ad210) l0_0.length c0_0) := (blk_cell BK208.out 0).trans rfl; have hfz38_0 := blk_frozen BK208.out 0) | (go_at_call 89; (with_reducible refine (impl_Tree_named.calls _ _ l0_0 ((rd_T68 l0_0 x8_1).f0) t213 _ ?side1 ?side2 A13.out).mono ?_); (case side1 => exact Kd.C_below HR0_0.out (by repeat (first | (with_reducible first | exact HB.out | apply below_alloc | apply pw_below_drewN | apply below_drew1 | refine below_set ?_ GE208.out | refine below_set ?_ GE211.out) | exact HB.out))); (case side2 => exact HC0_0.out); rintro e w39 ⟨rfl, hb⟩; have n0_ := Aside0.mk (blk_below (g := gb208) (o := .cells #[.slice (some ad210) l0_0.length c0_0] 31 (0, 0)) (by (with_reducible repeat (first | refine blk_drewN ?_ _ | refine blk_drew ?_ | refine blk_alloc ?_ _)); refine blk_far ?_ NB208_211.out _; (with_reducible repeat (first | refine blk_drewN ?_ _ | refine blk_drew ?_ | refine blk_alloc ?_ _)); refine blk_far ?_ NB208_211.out _; (with_reducible repeat (first | refine blk_drewN ?_ _ | refine blk_drew ?_ | refine blk_alloc ?_ _)); exact BK208.out) hb); have n1_ := Aside0.mk (blk_below (g := gb211) (o := .cells #[.string ((rd_T68 l0_0 x8_1).f0), .int .i64 ((rd_T68 l0_0 x8_1).f1)] 68 (0, 0)) (by (with_reducible repeat (first | refine blk_drewN ?_ _ | refine blk_drew ?_ | refine blk_alloc ?_ _)); refine blk_put (cs := #[.string ((rd_T68 l0_0 x8_1).f0), .int .i64 0]) ?_ 1 _ rfl; (with_reducible repeat (first | refine blk_drewN ?_ _ | refine blk_drew ?_ | refine blk_alloc ?_ _)); refine blk_put (cs := #[.string (⟨#[]⟩ : ByteArray), .int .i64 0]) ?_ 0 _ rfl; (with_reducible repeat (first | refine blk_drewN ?_ _ | refine blk_drew ?_ | refine blk_alloc ?_ _)); exact BK211.out) hb); have n2_ := Aside0.mk (below_step (by repeat (first | (with_reducible first | exact HB.out | apply below_alloc | apply pw_below_drewN | apply below_drew1 | refine below_set ?_ GE208.out | refine below_set ?_ GE211.out) | exact HB.out)) hb); clear BK208; clear BK211; clear HB; have BK208 := n0_; have BK211 := n1_; have HB := n2_; clear n0_ n1_ n2_; (try clear hb); (try clear hb2); (try clear hk); (try clear hi); have hcz40_0 : w39.cell? ⟨gb211, 0, none⟩ = some (.string ((rd_T68 l0_0 x8_1).f0)) := (blk_cell BK211.out 0).trans rfl; have hcz40_1 : w39.cell? ⟨gb211, 1, none⟩ = some (.int .i64 ((rd_T68 l0_0 x8_1).f1)) := (blk_cell BK211.out 1).trans rfl; have hfz40_0 := blk_frozen BK211.out 0; have hfz40_1 := blk_frozen BK211.out 1) | (go_at_call 44; (with_reducible refine (impl_within.calls ((rd_T68 l0_0 x8_1).f1) 0 (wrap64 (x8_1 - 1)) t215 _ A35.out).mono ?_); rintro e w' ⟨rfl, ⟨nd, rfl⟩⟩))
                      go_meet
                      case rel => exact ⟨_, (!t215), (sq), H', ⟨by have := HK1.out; first | omega | exact Nat.le_refl _⟩, ⟨kq BK208.out⟩, ⟨kq BK211.out⟩, ⟨by repeat (first | (with_reducible first | exact HB.out | apply below_alloc | apply pw_below_drewN | apply below_drew1 | refine below_set ?_ GE208.out | refine below_set ?_ GE211.out) | exact HB.out)⟩⟩
                    · rw [if_neg c34] at H
                      have c34b0 : decide (0 < x8_1) = false := decide_eq_false c34
                      clear c34
                      have H' := Aside0.mk H
                      clear H
                      have hnb41 := NB211_208.out
                      have hnc41 := NB208_211.out
                      have hcz42_0 : w8.cell? ⟨gb211, 0, none⟩ = some (.string (⟨#[]⟩ : ByteArray)) := (blk_cell BK211.out 0).trans rfl
                      have hcz42_1 : w8.cell? ⟨gb211, 1, none⟩ = some (.int .i64 0) := (blk_cell BK211.out 1).trans rfl
                      have hfz42_0 := blk_frozen BK211.out 0
                      have hfz42_1 := blk_frozen BK211.out 1
                      go_wp2_with (first | ((with_reducible refine gate_callee (f := 88) rfl ?_); refine goesL_ (some 15) rfl rfl Try.func88 (by kernel_rfl) rfl #[.string ((rd_T68 l0_0 x8_1).f0)] rfl (aq) ?_; (with_reducible refine (impl_nameOk.calls k1 ((rd_T68 l0_0 x8_1).f0) true _ A11.out).mono ?_); rintro e w' ⟨rfl, ⟨nd, rfl⟩⟩; refine ⟨_, rfl, ?_⟩; have hcz43_0 : w8.cell? ⟨gb208, 0, none⟩ = some (.slice (some ad210) l0_0.length c0_0) := (blk_cell BK208.out 0).trans rfl; have hfz43_0 := blk_frozen BK208.out 0) | (go_at_call 89; (with_reducible refine (impl_Tree_named.calls _ _ l0_0 ((rd_T68 l0_0 x8_1).f0) t213 _ ?side1 ?side2 A13.out).mono ?_); (case side1 => exact Kd.C_below HR0_0.out (by repeat (first | (with_reducible first | exact HB.out | apply below_alloc | apply pw_below_drewN | apply below_drew1 | refine below_set ?_ GE208.out | refine below_set ?_ GE211.out) | exact HB.out))); (case side2 => exact HC0_0.out); rintro e w44 ⟨rfl, hb⟩; have n0_ := Aside0.mk (blk_below (g := gb208) (o := .cells #[.slice (some ad210) l0_0.length c0_0] 31 (0, 0)) (by (with_reducible repeat (first | refine blk_drewN ?_ _ | refine blk_drew ?_ | refine blk_alloc ?_ _)); refine blk_far ?_ NB208_211.out _; (with_reducible repeat (first | refine blk_drewN ?_ _ | refine blk_drew ?_ | refine blk_alloc ?_ _)); refine blk_far ?_ NB208_211.out _; (with_reducible repeat (first | refine blk_drewN ?_ _ | refine blk_drew ?_ | refine blk_alloc ?_ _)); exact BK208.out) hb); have n1_ := Aside0.mk (blk_below (g := gb211) (o := .cells #[.string ((rd_T68 l0_0 x8_1).f0), .int .i64 ((rd_T68 l0_0 x8_1).f1)] 68 (0, 0)) (by (with_reducible repeat (first | refine blk_drewN ?_ _ | refine blk_drew ?_ | refine blk_alloc ?_ _)); refine blk_put (cs := #[.string ((rd_T68 l0_0 x8_1).f0), .int .i64 0]) ?_ 1 _ rfl; (with_reducible repeat (first | refine blk_drewN ?_ _ | refine blk_drew ?_ | refine blk_alloc ?_ _)); refine blk_put (cs := #[.string (⟨#[]⟩ : ByteArray), .int .i64 0]) ?_ 0 _ rfl; (with_reducible repeat (first | refine blk_drewN ?_ _ | refine blk_drew ?_ | refine blk_alloc ?_ _)); exact BK211.out) hb); have n2_ := Aside0.mk (below_step (by repeat (first | (with_reducible first | exact HB.out | apply below_alloc | apply pw_below_drewN | apply below_drew1 | refine below_set ?_ GE208.out | refine below_set ?_ GE211.out) | exact HB.out)) hb); clear BK208; clear BK211; clear HB; have BK208 := n0_; have BK211 := n1_; have HB := n2_; clear n0_ n1_ n2_; (try clear hb); (try clear hb2); (try clear hk); (try clear hi)))
                      go_meet
                      case rel => exact ⟨_, (false), (sq), H', ⟨by have := HK1.out; first | omega | exact Nat.le_refl _⟩, ⟨kq BK208.out⟩, ⟨kq BK211.out⟩, ⟨by repeat (first | (with_reducible first | exact HB.out | apply below_alloc | apply pw_below_drewN | apply below_drew1 | refine below_set ?_ GE208.out | refine below_set ?_ GE211.out) | exact HB.out)⟩⟩
                · rw [if_neg c14] at H
                  have c14b0 : (t213 == x8_1) = false := beq_eq_false_iff_ne.mpr c14
                  have c14b1 : (t213 != x8_1) = true := bne_iff_ne.mpr c14
                  (first | rw [c14b0] | (simp only [i64_w, i32_w]; rw [c14b0]) | skip)
                  have H' := Aside0.mk H
                  clear H
                  have hnb45 := NB211_208.out
                  have hnc45 := NB208_211.out
                  have hcz46_0 : w8.cell? ⟨gb211, 0, none⟩ = some (.string (⟨#[]⟩ : ByteArray)) := (blk_cell BK211.out 0).trans rfl
                  have hcz46_1 : w8.cell? ⟨gb211, 1, none⟩ = some (.int .i64 0) := (blk_cell BK211.out 1).trans rfl
                  have hfz46_0 := blk_frozen BK211.out 0
                  have hfz46_1 := blk_frozen BK211.out 1
                  go_wp2_with (first | ((with_reducible refine gate_callee (f := 88) rfl ?_); refine goesL_ (some 15) rfl rfl Try.func88 (by kernel_rfl) rfl #[.string ((rd_T68 l0_0 x8_1).f0)] rfl (aq) ?_; (with_reducible refine (impl_nameOk.calls k1 ((rd_T68 l0_0 x8_1).f0) true _ A11.out).mono ?_); rintro e w' ⟨rfl, ⟨nd, rfl⟩⟩; refine ⟨_, rfl, ?_⟩; have hcz47_0 : w8.cell? ⟨gb208, 0, none⟩ = some (.slice (some ad210) l0_0.length c0_0) := (blk_cell BK208.out 0).trans rfl; have hfz47_0 := blk_frozen BK208.out 0) | (go_at_call 89; (with_reducible refine (impl_Tree_named.calls _ _ l0_0 ((rd_T68 l0_0 x8_1).f0) t213 _ ?side1 ?side2 A13.out).mono ?_); (case side1 => exact Kd.C_below HR0_0.out (by repeat (first | (with_reducible first | exact HB.out | apply below_alloc | apply pw_below_drewN | apply below_drew1 | refine below_set ?_ GE208.out | refine below_set ?_ GE211.out) | exact HB.out))); (case side2 => exact HC0_0.out); rintro e w48 ⟨rfl, hb⟩; have n0_ := Aside0.mk (blk_below (g := gb208) (o := .cells #[.slice (some ad210) l0_0.length c0_0] 31 (0, 0)) (by (with_reducible repeat (first | refine blk_drewN ?_ _ | refine blk_drew ?_ | refine blk_alloc ?_ _)); refine blk_far ?_ NB208_211.out _; (with_reducible repeat (first | refine blk_drewN ?_ _ | refine blk_drew ?_ | refine blk_alloc ?_ _)); refine blk_far ?_ NB208_211.out _; (with_reducible repeat (first | refine blk_drewN ?_ _ | refine blk_drew ?_ | refine blk_alloc ?_ _)); exact BK208.out) hb); have n1_ := Aside0.mk (blk_below (g := gb211) (o := .cells #[.string ((rd_T68 l0_0 x8_1).f0), .int .i64 ((rd_T68 l0_0 x8_1).f1)] 68 (0, 0)) (by (with_reducible repeat (first | refine blk_drewN ?_ _ | refine blk_drew ?_ | refine blk_alloc ?_ _)); refine blk_put (cs := #[.string ((rd_T68 l0_0 x8_1).f0), .int .i64 0]) ?_ 1 _ rfl; (with_reducible repeat (first | refine blk_drewN ?_ _ | refine blk_drew ?_ | refine blk_alloc ?_ _)); refine blk_put (cs := #[.string (⟨#[]⟩ : ByteArray), .int .i64 0]) ?_ 0 _ rfl; (with_reducible repeat (first | refine blk_drewN ?_ _ | refine blk_drew ?_ | refine blk_alloc ?_ _)); exact BK211.out) hb); have n2_ := Aside0.mk (below_step (by repeat (first | (with_reducible first | exact HB.out | apply below_alloc | apply pw_below_drewN | apply below_drew1 | refine below_set ?_ GE208.out | refine below_set ?_ GE211.out) | exact HB.out)) hb); clear BK208; clear BK211; clear HB; have BK208 := n0_; have BK211 := n1_; have HB := n2_; clear n0_ n1_ n2_; (try clear hb); (try clear hb2); (try clear hk); (try clear hi)))
                  go_meet
                  case rel => exact ⟨_, (true), (sq), H', ⟨by have := HK1.out; first | omega | exact Nat.le_refl _⟩, ⟨kq BK208.out⟩, ⟨kq BK211.out⟩, ⟨by repeat (first | (with_reducible first | exact HB.out | apply below_alloc | apply pw_below_drewN | apply below_drew1 | refine below_set ?_ GE208.out | refine below_set ?_ GE211.out) | exact HB.out)⟩⟩
              · replace c12 := Bool.eq_false_iff.mpr c12
                subst c12
                have H1 : (impl_ValidTree.j1 k1 l0_0 (l0_0.length : Int) x8_1 true l0_0) = some r := by rw [if_neg (show ¬ (false = true) by decide)] at H; exact H
                clear H
                have H := H1
                clear H1
                have H' := Aside0.mk H
                clear H
                have hnb49 := NB211_208.out
                have hnc49 := NB208_211.out
                have hcz50_0 : w8.cell? ⟨gb211, 0, none⟩ = some (.string (⟨#[]⟩ : ByteArray)) := (blk_cell BK211.out 0).trans rfl
                have hcz50_1 : w8.cell? ⟨gb211, 1, none⟩ = some (.int .i64 0) := (blk_cell BK211.out 1).trans rfl
                have hfz50_0 := blk_frozen BK211.out 0
                have hfz50_1 := blk_frozen BK211.out 1
                go_wp2_with (first | ((with_reducible refine gate_callee (f := 88) rfl ?_); refine goesL_ (some 15) rfl rfl Try.func88 (by kernel_rfl) rfl #[.string ((rd_T68 l0_0 x8_1).f0)] rfl (aq) ?_; (with_reducible refine (impl_nameOk.calls k1 ((rd_T68 l0_0 x8_1).f0) false _ A11.out).mono ?_); rintro e w' ⟨rfl, ⟨nd, rfl⟩⟩; refine ⟨_, rfl, ?_⟩))
                go_meet
                case rel => exact ⟨_, (true), (sq), H', ⟨by have := HK1.out; first | omega | exact Nat.le_refl _⟩, ⟨by (with_reducible repeat (first | refine blk_drewN ?_ _ | refine blk_drew ?_ | refine blk_alloc ?_ _)); refine blk_far ?_ NB208_211.out _; (with_reducible repeat (first | refine blk_drewN ?_ _ | refine blk_drew ?_ | refine blk_alloc ?_ _)); refine blk_far ?_ NB208_211.out _; (with_reducible repeat (first | refine blk_drewN ?_ _ | refine blk_drew ?_ | refine blk_alloc ?_ _)); exact BK208.out⟩, ⟨by (with_reducible repeat (first | refine blk_drewN ?_ _ | refine blk_drew ?_ | refine blk_alloc ?_ _)); refine blk_put (cs := #[.string ((rd_T68 l0_0 x8_1).f0), .int .i64 0]) ?_ 1 _ rfl; (with_reducible repeat (first | refine blk_drewN ?_ _ | refine blk_drew ?_ | refine blk_alloc ?_ _)); refine blk_put (cs := #[.string (⟨#[]⟩ : ByteArray), .int .i64 0]) ?_ 0 _ rfl; (with_reducible repeat (first | refine blk_drewN ?_ _ | refine blk_drew ?_ | refine blk_alloc ?_ _)); exact BK211.out⟩, ⟨by repeat (first | (with_reducible first | exact HB.out | apply below_alloc | apply pw_below_drewN | apply below_drew1 | refine below_set ?_ GE208.out | refine below_set ?_ GE211.out) | exact HB.out)⟩⟩
            case rest =>
              clear HC7
              try clear c1
              try clear c2
              try clear p2
              try clear q2
              try clear hx2
              try clear c3
              try clear c4
              try clear c4b0
              try clear c5
              try clear c5b0
              try clear c6
              try clear c6b0
              try clear p6
              try clear c7
              try clear c8
              try clear c9
              try clear c12
              try clear c14
              try clear c14b0
              try clear c14b1
              try clear c15
              try clear c15b0
              try clear c15b1
              try clear c16
              try clear c16b0
              try clear c16b1
              try clear c17
              try clear c17b0
              try clear c19
              try clear p21
              try clear q21
              try clear hx21
              try clear c24
              try clear c29
              try clear c34
              try clear c34b0
              try clear c36
              try clear c41
              try clear c45
              try clear c49
              try clear hcz10_0
              try clear hcz10_1
              try clear hcz20_0
              try clear hcz20_1
              try clear hcz21_0
              try clear hcz23_0
              try clear hcz23_1
              try clear hcz25_0
              try clear hcz25_1
              try clear hcz26_0
              try clear hcz28_0
              try clear hcz28_1
              try clear hcz30_0
              try clear hcz30_1
              try clear hcz31_0
              try clear hcz33_0
              try clear hcz33_1
              try clear hcz37_0
              try clear hcz37_1
              try clear hcz38_0
              try clear hcz3_0
              try clear hcz40_0
              try clear hcz40_1
              try clear hcz42_0
              try clear hcz42_1
              try clear hcz43_0
              try clear hcz46_0
              try clear hcz46_1
              try clear hcz47_0
              try clear hcz50_0
              try clear hcz50_1
              try clear hfz10_0
              try clear hfz10_1
              try clear hfz20_0
              try clear hfz20_1
              try clear hfz21_0
              try clear hfz23_0
              try clear hfz23_1
              try clear hfz25_0
              try clear hfz25_1
              try clear hfz26_0
              try clear hfz28_0
              try clear hfz28_1
              try clear hfz30_0
              try clear hfz30_1
              try clear hfz31_0
              try clear hfz33_0
              try clear hfz33_1
              try clear hfz37_0
              try clear hfz37_1
              try clear hfz38_0
              try clear hfz3_0
              try clear hfz40_0
              try clear hfz40_1
              try clear hfz42_0
              try clear hfz42_1
              try clear hfz43_0
              try clear hfz46_0
              try clear hfz46_1
              try clear hfz47_0
              try clear hfz50_0
              try clear hfz50_1
              try clear hx210_0
              try clear hx210_1
              try clear p2
              try clear p210
              try clear q210
              obtain ⟨kq, x45_6, rfl, HA, HJ6, BK208, BK211, HB⟩ := hcut
              cases kq with
              | zero => exact absurd HA.out (by simp [impl_ValidTree.j1])
              | succ kj6 =>
                have H := HA.out
                clear HA
                simp only [impl_ValidTree.j1] at H
                by_cases c51 : x45_6 = true
                · subst c51
                  have H1 : (some false) = some r := by rw [if_pos rfl] at H; exact H
                  clear H
                  have H := H1
                  clear H1
                  obtain rfl := Option.some.inj H
                  go_wp2
                  go_ret
                  exact ⟨by first | rfl | (simp [errW_none, errW_some] <;> rfl) | (simp [*, errW_none, errW_some] <;> rfl), by repeat (first | (with_reducible first | exact HB.out | apply below_alloc | apply pw_below_drewN | apply below_drew1 | refine below_set ?_ GE208.out | refine below_set ?_ GE211.out) | exact HB.out)⟩
                · replace c51 := Bool.eq_false_iff.mpr c51
                  subst c51
                  have H1 : (impl_ValidTree.l0 kj6 l0_0 (l0_0.length : Int) (wrap64 (x8_1 + 1)) l0_0) = some r := by rw [if_neg (show ¬ (false = true) by decide)] at H; exact H
                  clear H
                  have H := H1
                  clear H1
                  have H' := Aside0.mk H
                  clear H
                  go_wp2
                  go_roundg kj6
                  case measure => have := HK1.out; have := HJ6.out; omega
                  case rel => exact ⟨(wrap64 (x8_1 + 1)), (sq), H', ⟨by have := HK1.out; have := HJ6.out; omega⟩, ⟨kq BK208.out⟩, ⟨by repeat (first | (with_reducible first | exact HB.out | apply below_alloc | apply pw_below_drewN | apply below_drew1 | refine below_set ?_ GE208.out | refine below_set ?_ GE211.out) | exact HB.out)⟩⟩
          · rw [if_neg c6] at H
            exact absurd H (by simp)
        · rw [if_neg c5] at H
          exact absurd H (by simp)
      · rw [if_neg c4] at H
        have c4b0 : decide (x8_1 < (l0_0.length : Int)) = false := decide_eq_false c4
        clear c4
        replace H := Option.bind_eq_some_iff.mp H
        obtain ⟨t209, A520, H⟩ := H
        replace H : (some t209) = some r := H
        have A52 := Aside0.mk A520
        clear A520
        obtain rfl := Option.some.inj H
        have hcz53_0 : wr.cell? ⟨gb208, 0, none⟩ = some (.slice A0_0 l0_0.length c0_0) := (blk_cell BK208.out 0).trans rfl
        have hfz53_0 := blk_frozen BK208.out 0
        go_wp2_with (first | ((with_reducible refine gate_callee (f := 44) rfl ?_); refine goesL_ (some 50) rfl rfl Try.func44 (by kernel_rfl) rfl #[.int .i64 (l0_0.length : Int), .int .i64 1, .int .i64 8] rfl (aq) ?_; (with_reducible refine (impl_within.calls (l0_0.length : Int) 1 8 t209 _ A52.out).mono ?_); rintro e w' ⟨rfl, ⟨nd, rfl⟩⟩; refine ⟨_, rfl, ?_⟩))
        go_ret
        exact ⟨by first | rfl | (simp [errW_none, errW_some] <;> rfl) | (simp [*, errW_none, errW_some] <;> rfl), by repeat (first | (with_reducible first | exact HB.out | apply below_alloc | apply pw_below_drewN | apply below_drew1 | refine below_set ?_ GE208.out) | exact HB.out)⟩
end Go.Proofs.Ytbclgpgolbmlpaa.P
end

section
namespace Go.Proofs.Ytbclgpgolbmlpaa.P
open Go.RowKit Go.Proofs.YtbclgpgolbmlpaaW.PrintWords Go.Proofs.YtbclgpgolbmlpaaW.PrintLast Go.Proofs.YtbclgpgolbmlpaaW.PrintMore
attribute [local go_sem] max2_int min2_int max_two min_two max_three min_three max_four min_four isSome_cell_setCell   -- for this text's walks alone
set_option linter.unusedVariables false
set_option linter.unusedSimpArgs false
def impl_Tree_has.f (l0_0 : List (S68)) (a1 : Int) : Option (Bool) := (impl_within.f a1 0 (wrap64 ((l0_0.length : Int) - 1))).bind fun t217 => (some t217)
set_option maxHeartbeats 8000000 in
set_option maxRecDepth 100000 in
theorem impl_Tree_has.calls (A0_0 : Option Addr) (c0_0 : Nat) (l0_0 : List (S68)) (a1 : Int) (r : Bool) (w : World) (hr0_0 : Kd.C k68 w A0_0 l0_0.length l0_0) (hc0_0 : l0_0.length ≤ c0_0) (h : impl_Tree_has.f l0_0 a1 = some r) :
    Calls Try.prog 50 #[.agg #[.slice A0_0 l0_0.length c0_0], .int .i64 a1] w fun e w' => e = .returned (.bool r) ∧ Below w.heap.size w w' := by
  have hu31 := Try.underlying31
  have HR0_0 := Aside0.mk hr0_0
  have HC0_0 := Aside0.mk hc0_0
  clear hr0_0 hc0_0
  have HB := Aside0.mk (Below.refl w.heap.size w)
  have H : ((impl_within.f a1 0 (wrap64 ((l0_0.length : Int) - 1))).bind fun t217 => (some t217)) = some r := h
  clear h
  replace H := Option.bind_eq_some_iff.mp H
  obtain ⟨t217, A30, H⟩ := H
  replace H : (some t217) = some r := H
  have A3 := Aside0.mk A30
  clear A30
  obtain rfl := Option.some.inj H
  go_enter Try.func50, Try.ntmps50
  go_wp2_with (first | ((with_reducible refine gate_dst (N := 2) rfl ?_); refine box_event ?hg (N := 2) ?hd (cs := #[.slice A0_0 l0_0.length c0_0]) (t := 31) ?hr ?_; (case hd => rfl); (case hg => rfl); (case hr => first | (go_simp; done) | (go_simp; rfl)); intro gb216 hg w4 hbox hb; have n0_ := Aside0.mk (below_step (bq) hb); have n1_ := Aside0.mk (hbox); have n2_ := Aside0.mk ((by rw [hg]; exact (below_size (bq)) : w.heap.size ≤ gb216)); have n3_ := Aside0.mk ((by rw [hg]; exact (below_size (bq)) : w.heap.size ≤ gb216)); clear HB; have HB := n0_; have BK216 := n1_; have GW216 := n2_; have GE216 := n3_; clear n0_ n1_ n2_ n3_; clear hb hbox hg; have hcz5_0 : w4.cell? ⟨gb216, 0, none⟩ = some (.slice A0_0 l0_0.length c0_0) := (blk_cell BK216.out 0).trans rfl; have hfz5_0 := blk_frozen BK216.out 0) | ((with_reducible refine gate_callee (f := 44) rfl ?_); refine goesL_ (some 10) rfl rfl Try.func44 (by kernel_rfl) rfl #[.int .i64 a1, .int .i64 0, .int .i64 (wrap64 ((l0_0.length : Int) - 1))] rfl (aq) ?_; (with_reducible refine (impl_within.calls a1 0 (wrap64 ((l0_0.length : Int) - 1)) t217 _ A3.out).mono ?_); rintro e w' ⟨rfl, ⟨nd, rfl⟩⟩; refine ⟨_, rfl, ?_⟩))
  go_ret
  exact ⟨by first | rfl | (simp [errW_none, errW_some] <;> rfl) | (simp [*, errW_none, errW_some] <;> rfl), by repeat (first | (with_reducible first | exact HB.out | apply below_alloc | apply pw_below_drewN | apply below_drew1 | refine below_set ?_ GE216.out) | exact HB.out)⟩
def impl_codeOk.f (a0 : Int) : Option (Bool) := (impl_within.f a0 0 99).bind fun t218 => (some t218)
set_option maxHeartbeats 8000000 in
set_option maxRecDepth 100000 in
theorem impl_codeOk.calls (a0 : Int) (r : Bool) (w : World) (h : impl_codeOk.f a0 = some r) :
    Calls Try.prog 90 #[.int .i64 a0] w fun e w' => e = .returned (.bool r) ∧ Drawn0 w w' := by
  have H : ((impl_within.f a0 0 99).bind fun t218 => (some t218)) = some r := h
  clear h
  replace H := Option.bind_eq_some_iff.mp H
  obtain ⟨t218, A20, H⟩ := H
  replace H : (some t218) = some r := H
  have A2 := Aside0.mk A20
  clear A20
  obtain rfl := Option.some.inj H
  go_enter Try.func90, Try.ntmps90
  go_wp2_with (first | ((with_reducible refine gate_callee (f := 44) rfl ?_); refine goesL_ (some 4) rfl rfl Try.func44 (by kernel_rfl) rfl #[.int .i64 a0, .int .i64 0, .int .i64 99] rfl (aq) ?_; (with_reducible refine (impl_within.calls a0 0 99 t218 _ A2.out).mono ?_); rintro e w' ⟨rfl, ⟨nd, rfl⟩⟩; refine ⟨_, rfl, ?_⟩))
  go_ret
  exact ⟨sq, by repeat (first | exact Drawn0.refl _ | apply Drawn0.step)⟩
end Go.Proofs.Ytbclgpgolbmlpaa.P
end

section
namespace Go.Proofs.Ytbclgpgolbmlpaa.P
open Go.RowKit Go.Proofs.YtbclgpgolbmlpaaW.PrintWords Go.Proofs.YtbclgpgolbmlpaaW.PrintLast Go.Proofs.YtbclgpgolbmlpaaW.PrintMore
attribute [local go_sem] max2_int min2_int max_two min_two max_three min_three max_four min_four isSome_cell_setCell   -- for this text's walks alone
set_option linter.unusedVariables false
set_option linter.unusedSimpArgs false
def impl_Line_argued.j0 : Nat → Int → Bool → Int → Int → Int → Int → List (S68) → Option (Bool)
  | 0, _, _, _, _, _, _, _ => none
  | k + 1, x6, x7, x220000, x220001, x220002, x220003, x221000 => if x7 = true then ((impl_codeOk.f x220002).bind fun t221 => (if t221 = true then (some (x220003 == 0)) else (some false))) else (if x6 = 2 then ((impl_Tree_has.f x221000 x220002).bind fun t222 => (if t222 = true then ((impl_codeOk.f x220003).bind fun t223 => (some t223)) else (some false))) else (if x6 = 8 then ((impl_Tree_has.f x221000 x220002).bind fun t224 => (if t224 = true then (some (x220003 == 0)) else (some false))) else (if x6 = 11 then ((impl_within.f x220002 0 9).bind fun t225 => (if t225 = true then ((impl_within.f x220003 0 1).bind fun t226 => (some t226)) else (some false))) else (if x6 = 12 then ((impl_within.f x220002 0 3).bind fun t227 => (if t227 = true then (some (x220003 == 0)) else (some false))) else ((impl_within.f x220001 0 12).bind fun t228 => (if t228 = true then (if x220002 = 0 then (some (x220003 == 0)) else (some false)) else (some false)))))))
def impl_Line_argued.f (k : Nat) (a0_0 : Int) (a0_1 : Int) (a0_2 : Int) (a0_3 : Int) (l1_0 : List (S68)) : Option (Bool) := if a0_1 = 1 then (impl_Line_argued.j0 k a0_1 (a0_1 == 1) a0_0 a0_1 a0_2 a0_3 l1_0) else (impl_Line_argued.j0 k a0_1 (a0_1 == 4) a0_0 a0_1 a0_2 a0_3 l1_0)
theorem impl_Line_argued.mono_l : ∀ k, (∀ y0 y1 y2 y3 y4 y5 y6, LeO (impl_Line_argued.j0 k y0 y1 y2 y3 y4 y5 y6) (impl_Line_argued.j0 (k + 1) y0 y1 y2 y3 y4 y5 y6))
  | 0 => fun _ _ _ _ _ _ _ r h => by simp [impl_Line_argued.j0] at h
  | k + 1 => by
    have ih0 := impl_Line_argued.mono_l k
    · intro y0 y1 y2 y3 y4 y5 y6
      unfold impl_Line_argued.j0
      repeat' first
      | (with_reducible exact ih0 _ _ _ _ _ _ _)
      | (with_reducible exact LeO.refl _)
      | (with_reducible exact LeO.none _)
      | (with_reducible refine LeO.ite ?_ ?_)
      | (with_reducible refine LeO.bind ?_ (fun _ => ?_))
      | exact ih0 _ _ _ _ _ _ _
      | exact LeO.none _
      | refine LeO.ite ?_ ?_
      | refine LeO.bind ?_ (fun _ => ?_)
theorem impl_Line_argued.mono : ∀ a0 a1 a2 a3 a4 k, LeO (impl_Line_argued.f k a0 a1 a2 a3 a4) (impl_Line_argued.f (k + 1) a0 a1 a2 a3 a4) := by
  intro a0 a1 a2 a3 a4 k
  have ih0 := impl_Line_argued.mono_l k
  unfold impl_Line_argued.f
  repeat' first
      | (with_reducible exact ih0 _ _ _ _ _ _ _)
      | (with_reducible exact LeO.refl _)
      | (with_reducible exact LeO.none _)
      | (with_reducible refine LeO.ite ?_ ?_)
      | (with_reducible refine LeO.bind ?_ (fun _ => ?_))
      | exact ih0 _ _ _ _ _ _ _
      | exact LeO.none _
      | refine LeO.ite ?_ ?_
      | refine LeO.bind ?_ (fun _ => ?_)
set_option maxHeartbeats 8000000 in
set_option maxRecDepth 100000 in
theorem impl_Line_argued.calls (k : Nat) (a0_0 : Int) (a0_1 : Int) (a0_2 : Int) (a0_3 : Int) (A1_0 : Option Addr) (c1_0 : Nat) (l1_0 : List (S68)) (r : Bool) (w : World) (hr1_0 : Kd.C k68 w A1_0 l1_0.length l1_0) (hc1_0 : l1_0.length ≤ c1_0) (h : impl_Line_argued.f k a0_0 a0_1 a0_2 a0_3 l1_0 = some r) :
    Calls Try.prog 75 #[.agg #[.int .i64 a0_0, .int .i64 a0_1, .int .i64 a0_2, .int .i64 a0_3], .agg #[.slice A1_0 l1_0.length c1_0]] w fun e w' => e = .returned (.bool r) ∧ Below w.heap.size w w' := by
  have hu50 := Try.underlying50
  have hu31 := Try.underlying31
  have HR1_0 := Aside0.mk hr1_0
  have HC1_0 := Aside0.mk hc1_0
  clear hr1_0 hc1_0
  have HB := Aside0.mk (Below.refl w.heap.size w)
  have H : (if a0_1 = 1 then (impl_Line_argued.j0 k a0_1 (a0_1 == 1) a0_0 a0_1 a0_2 a0_3 l1_0) else (impl_Line_argued.j0 k a0_1 (a0_1 == 4) a0_0 a0_1 a0_2 a0_3 l1_0)) = some r := h
  clear h
  have HC3 := Aside0.mk H
  clear H
  go_enter Try.func75, Try.ntmps75
  go_upto_if 7 with (first | ((with_reducible refine gate_dst (N := 2) rfl ?_); refine box_event ?hg (N := 2) ?hd (cs := #[.int .i64 a0_0, .int .i64 a0_1, .int .i64 a0_2, .int .i64 a0_3]) (t := 50) ?hr ?_; (case hd => rfl); (case hg => rfl); (case hr => first | (go_simp; done) | (go_simp; rfl)); intro gb219 hg w4 hbox hb; have n0_ := Aside0.mk (below_step (bq) hb); have n1_ := Aside0.mk (hbox); have n2_ := Aside0.mk ((by rw [hg]; exact (below_size (bq)) : w.heap.size ≤ gb219)); have n3_ := Aside0.mk ((by rw [hg]; exact (below_size (bq)) : w.heap.size ≤ gb219)); clear HB; have HB := n0_; have BK219 := n1_; have GW219 := n2_; have GE219 := n3_; clear n0_ n1_ n2_ n3_; clear hb hbox hg) | ((with_reducible refine gate_dst (N := 3) rfl ?_); refine box_event ?hg (N := 3) ?hd (cs := #[.slice A1_0 l1_0.length c1_0]) (t := 31) ?hr ?_; (case hd => rfl); (case hg => rfl); (case hr => first | (go_simp; done) | (go_simp; rfl)); intro gb220 hg w5 hbox hb; have n0_ := Aside0.mk (blk_below (g := gb219) (o := .cells #[.int .i64 a0_0, .int .i64 a0_1, .int .i64 a0_2, .int .i64 a0_3] 50 (0, 0)) (kq BK219.out) hb); have n1_ := Aside0.mk (below_step (by repeat (first | (with_reducible first | exact HB.out | apply below_alloc | apply pw_below_drewN | apply below_drew1 | refine below_set ?_ GE219.out) | exact HB.out)) hb); have n2_ := Aside0.mk (hbox); have n3_ := Aside0.mk ((by rw [hg]; exact (below_size (by repeat (first | (with_reducible first | exact HB.out | apply below_alloc | apply pw_below_drewN | apply below_drew1 | refine below_set ?_ GE219.out) | exact HB.out))) : w.heap.size ≤ gb220)); have n4_ := Aside0.mk ((by rw [hg]; exact (below_size (by repeat (first | (with_reducible first | exact HB.out | apply below_alloc | apply pw_below_drewN | apply below_drew1 | refine below_set ?_ GE219.out) | exact HB.out))) : w.heap.size ≤ gb220)); have n5_ := Aside0.mk ((by rw [hg]; exact Nat.ne_of_lt (blk_lt (g := gb219) (o := .cells #[.int .i64 a0_0, .int .i64 a0_1, .int .i64 a0_2, .int .i64 a0_3] 50 (0, 0)) (kq BK219.out)) : gb219 ≠ gb220)); have n6_ := Aside0.mk ((by rw [hg]; exact Nat.ne_of_gt (blk_lt (g := gb219) (o := .cells #[.int .i64 a0_0, .int .i64 a0_1, .int .i64 a0_2, .int .i64 a0_3] 50 (0, 0)) (kq BK219.out)) : gb220 ≠ gb219)); clear BK219; clear HB; have BK219 := n0_; have HB := n1_; have BK220 := n2_; have GW220 := n3_; have GE220 := n4_; have NB219_220 := n5_; have NB220_219 := n6_; clear n0_ n1_ n2_ n3_ n4_ n5_ n6_; clear hb hbox hg; have hnb6 := NB219_220.out; have hnc6 := NB220_219.out; have hcz7_0 : w5.cell? ⟨gb219, 0, none⟩ = some (.int .i64 a0_0) := (blk_cell BK219.out 0).trans rfl; have hcz7_1 : w5.cell? ⟨gb219, 1, none⟩ = some (.int .i64 a0_1) := (blk_cell BK219.out 1).trans rfl; have hcz7_2 : w5.cell? ⟨gb219, 2, none⟩ = some (.int .i64 a0_2) := (blk_cell BK219.out 2).trans rfl; have hcz7_3 : w5.cell? ⟨gb219, 3, none⟩ = some (.int .i64 a0_3) := (blk_cell BK219.out 3).trans rfl; have hfz7_0 := blk_frozen BK219.out 0; have hfz7_1 := blk_frozen BK219.out 1; have hfz7_2 := blk_frozen BK219.out 2; have hfz7_3 := blk_frozen BK219.out 3))
  (try simp only [Act.put, List.setIfInBounds_toArray, List.set_cons_zero, List.set_cons_succ])
  go_cut [7] (fun v7 wc => ∃ (kq : Nat) (x7_2 : Bool), v7 = .bool x7_2 ∧ Aside0 (impl_Line_argued.j0 kq a0_1 x7_2 a0_0 a0_1 a0_2 a0_3 l1_0 = some r) ∧ Aside0 (kq ≤ k) ∧ Aside0 (wc.heap[gb219]? = some (.cells #[.int .i64 a0_0, .int .i64 a0_1, .int .i64 a0_2, .int .i64 a0_3] 50 (0, 0))) ∧ Aside0 (wc.heap[gb220]? = some (.cells #[(.slice A1_0 l1_0.length c1_0)] 31 (0, 0))) ∧ Aside0 (Below w.heap.size w wc))
  case first =>
    have H := HC3.out
    clear HC3
    by_cases c8 : a0_1 = 1
    · rw [if_pos c8] at H
      have c8b0 : (a0_1 == 1) = true := beq_iff_eq.mpr c8
      have c8b1 : (a0_1 != 1) = false := bne_eq_false_iff_eq.mpr c8
      clear c8
      (first | rw [c8b0] | (simp only [i64_w, i32_w]; rw [c8b0]) | skip)
      have H' := Aside0.mk H
      clear H
      go_wp2
      go_meet
      case rel => exact ⟨_, ((a0_1 == 1)), (sq), H', ⟨by first | omega | exact Nat.le_refl _⟩, ⟨kq BK219.out⟩, ⟨kq BK220.out⟩, ⟨by repeat (first | (with_reducible first | exact HB.out | apply below_alloc | apply pw_below_drewN | apply below_drew1 | refine below_set ?_ GE219.out | refine below_set ?_ GE220.out) | exact HB.out)⟩⟩
    · rw [if_neg c8] at H
      have c8b0 : (a0_1 == 1) = false := beq_eq_false_iff_ne.mpr c8
      have c8b1 : (a0_1 != 1) = true := bne_iff_ne.mpr c8
      (first | rw [c8b0] | (simp only [i64_w, i32_w]; rw [c8b0]) | skip)
      have H' := Aside0.mk H
      clear H
      go_wp2
      go_meet
      case rel => exact ⟨_, ((a0_1 == 4)), (sq), H', ⟨by first | omega | exact Nat.le_refl _⟩, ⟨kq BK219.out⟩, ⟨kq BK220.out⟩, ⟨by repeat (first | (with_reducible first | exact HB.out | apply below_alloc | apply pw_below_drewN | apply below_drew1 | refine below_set ?_ GE219.out | refine below_set ?_ GE220.out) | exact HB.out)⟩⟩
  case rest =>
    clear HC3
    try clear c1
    try clear p2
    try clear c6
    try clear c7
    try clear c8
    try clear c8b0
    try clear c8b1
    try clear hcz7_0
    try clear hcz7_1
    try clear hcz7_2
    try clear hcz7_3
    try clear hfz7_0
    try clear hfz7_1
    try clear hfz7_2
    try clear hfz7_3
    obtain ⟨kq, x7_2, rfl, HA, HJ2, BK219, BK220, HB⟩ := hcut
    cases kq with
    | zero => exact absurd HA.out (by simp [impl_Line_argued.j0])
    | succ kj2 =>
      have H := HA.out
      clear HA
      simp only [impl_Line_argued.j0] at H
      by_cases c9 : x7_2 = true
      · subst c9
        have H1 : ((impl_codeOk.f a0_2).bind fun t221 => (if t221 = true then (some (a0_3 == 0)) else (some false))) = some r := by rw [if_pos rfl] at H; exact H
        clear H
        have H := H1
        clear H1
        replace H := Option.bind_eq_some_iff.mp H
        obtain ⟨t221, A100, H⟩ := H
        replace H : (if t221 = true then (some (a0_3 == 0)) else (some false)) = some r := H
        have A10 := Aside0.mk A100
        clear A100
        by_cases c11 : t221 = true
        · subst c11
          have H1 : (some (a0_3 == 0)) = some r := by rw [if_pos rfl] at H; exact H
          clear H
          have H := H1
          clear H1
          obtain rfl := Option.some.inj H
          have hnb12 := NB219_220.out
          have hnc12 := NB220_219.out
          have hcz13_0 : wc.cell? ⟨gb219, 0, none⟩ = some (.int .i64 a0_0) := (blk_cell BK219.out 0).trans rfl
          have hcz13_1 : wc.cell? ⟨gb219, 1, none⟩ = some (.int .i64 a0_1) := (blk_cell BK219.out 1).trans rfl
          have hcz13_2 : wc.cell? ⟨gb219, 2, none⟩ = some (.int .i64 a0_2) := (blk_cell BK219.out 2).trans rfl
          have hcz13_3 : wc.cell? ⟨gb219, 3, none⟩ = some (.int .i64 a0_3) := (blk_cell BK219.out 3).trans rfl
          have hfz13_0 := blk_frozen BK219.out 0
          have hfz13_1 := blk_frozen BK219.out 1
          have hfz13_2 := blk_frozen BK219.out 2
          have hfz13_3 := blk_frozen BK219.out 3
          go_wp2_with (first | ((with_reducible refine gate_callee (f := 90) rfl ?_); refine goesL_ (some 12) rfl rfl Try.func90 (by kernel_rfl) rfl #[.int .i64 a0_2] rfl (aq) ?_; (with_reducible refine (impl_codeOk.calls a0_2 true _ A10.out).mono ?_); rintro e w' ⟨rfl, ⟨nd, rfl⟩⟩; refine ⟨_, rfl, ?_⟩))
          go_ret
          exact ⟨by first | rfl | (simp [errW_none, errW_some] <;> rfl) | (simp [*, errW_none, errW_some] <;> rfl), by repeat (first | (with_reducible first | exact HB.out | apply below_alloc | apply pw_below_drewN | apply below_drew1 | refine below_set ?_ GE219.out | refine below_set ?_ GE220.out) | exact HB.out)⟩
        · replace c11 := Bool.eq_false_iff.mpr c11
          subst c11
          have H1 : (some false) = some r := by rw [if_neg (show ¬ (false = true) by decide)] at H; exact H
          clear H
          have H := H1
          clear H1
          obtain rfl := Option.some.inj H
          have hnb14 := NB219_220.out
          have hnc14 := NB220_219.out
          have hcz15_0 : wc.cell? ⟨gb219, 0, none⟩ = some (.int .i64 a0_0) := (blk_cell BK219.out 0).trans rfl
          have hcz15_1 : wc.cell? ⟨gb219, 1, none⟩ = some (.int .i64 a0_1) := (blk_cell BK219.out 1).trans rfl
          have hcz15_2 : wc.cell? ⟨gb219, 2, none⟩ = some (.int .i64 a0_2) := (blk_cell BK219.out 2).trans rfl
          have hcz15_3 : wc.cell? ⟨gb219, 3, none⟩ = some (.int .i64 a0_3) := (blk_cell BK219.out 3).trans rfl
          have hfz15_0 := blk_frozen BK219.out 0
          have hfz15_1 := blk_frozen BK219.out 1
          have hfz15_2 := blk_frozen BK219.out 2
          have hfz15_3 := blk_frozen BK219.out 3
          go_wp2_with (first | ((with_reducible refine gate_callee (f := 90) rfl ?_); refine goesL_ (some 12) rfl rfl Try.func90 (by kernel_rfl) rfl #[.int .i64 a0_2] rfl (aq) ?_; (with_reducible refine (impl_codeOk.calls a0_2 false _ A10.out).mono ?_); rintro e w' ⟨rfl, ⟨nd, rfl⟩⟩; refine ⟨_, rfl, ?_⟩))
          go_ret
          exact ⟨by first | rfl | (simp [errW_none, errW_some] <;> rfl) | (simp [*, errW_none, errW_some] <;> rfl), by repeat (first | (with_reducible first | exact HB.out | apply below_alloc | apply pw_below_drewN | apply below_drew1 | refine below_set ?_ GE219.out | refine below_set ?_ GE220.out) | exact HB.out)⟩
      · replace c9 := Bool.eq_false_iff.mpr c9
        subst c9
        have H1 : (if a0_1 = 2 then ((impl_Tree_has.f l1_0 a0_2).bind fun t222 => (if t222 = true then ((impl_codeOk.f a0_3).bind fun t223 => (some t223)) else (some false))) else (if a0_1 = 8 then ((impl_Tree_has.f l1_0 a0_2).bind fun t224 => (if t224 = true then (some (a0_3 == 0)) else (some false))) else (if a0_1 = 11 then ((impl_within.f a0_2 0 9).bind fun t225 => (if t225 = true then ((impl_within.f a0_3 0 1).bind fun t226 => (some t226)) else (some false))) else (if a0_1 = 12 then ((impl_within.f a0_2 0 3).bind fun t227 => (if t227 = true then (some (a0_3 == 0)) else (some false))) else ((impl_within.f a0_1 0 12).bind fun t228 => (if t228 = true then (if a0_2 = 0 then (some (a0_3 == 0)) else (some false)) else (some false))))))) = some r := by rw [if_neg (show ¬ (false = true) by decide)] at H; exact H
        clear H
        have H := H1
        clear H1
        by_cases c16 : a0_1 = 2
        · rw [if_pos c16] at H
          have c16b0 : (a0_1 == 2) = true := beq_iff_eq.mpr c16
          have c16b1 : (a0_1 != 2) = false := bne_eq_false_iff_eq.mpr c16
          clear c16
          replace H := Option.bind_eq_some_iff.mp H
          obtain ⟨t222, A170, H⟩ := H
          replace H : (if t222 = true then ((impl_codeOk.f a0_3).bind fun t223 => (some t223)) else (some false)) = some r := H
          have A17 := Aside0.mk A170
          clear A170
          by_cases c18 : t222 = true
          · subst c18
            have H1 : ((impl_codeOk.f a0_3).bind fun t223 => (some t223)) = some r := by rw [if_pos rfl] at H; exact H
            clear H
            have H := H1
            clear H1
            replace H := Option.bind_eq_some_iff.mp H
            obtain ⟨t223, A190, H⟩ := H
            replace H : (some t223) = some r := H
            have A19 := Aside0.mk A190
            clear A190
            obtain rfl := Option.some.inj H
            have hnb20 := NB220_219.out
            have hnc20 := NB219_220.out
            have hcz21_0 : wc.cell? ⟨gb220, 0, none⟩ = some (.slice A1_0 l1_0.length c1_0) := (blk_cell BK220.out 0).trans rfl
            have hfz21_0 := blk_frozen BK220.out 0
            have hcz22_0 : wc.cell? ⟨gb219, 0, none⟩ = some (.int .i64 a0_0) := (blk_cell BK219.out 0).trans rfl
            have hcz22_1 : wc.cell? ⟨gb219, 1, none⟩ = some (.int .i64 a0_1) := (blk_cell BK219.out 1).trans rfl
            have hcz22_2 : wc.cell? ⟨gb219, 2, none⟩ = some (.int .i64 a0_2) := (blk_cell BK219.out 2).trans rfl
            have hcz22_3 : wc.cell? ⟨gb219, 3, none⟩ = some (.int .i64 a0_3) := (blk_cell BK219.out 3).trans rfl
            have hfz22_0 := blk_frozen BK219.out 0
            have hfz22_1 := blk_frozen BK219.out 1
            have hfz22_2 := blk_frozen BK219.out 2
            have hfz22_3 := blk_frozen BK219.out 3
            go_wp2_with (first | ((with_reducible refine gate_callee (f := 50) rfl ?_); refine goesL_ (some 23) rfl rfl Try.func50 (by kernel_rfl) rfl #[.agg #[.slice A1_0 l1_0.length c1_0], .int .i64 a0_2] rfl (aq) ?_; (with_reducible refine (impl_Tree_has.calls _ _ l1_0 a0_2 true _ ?side1 ?side2 A17.out).mono ?_); (case side1 => exact cq (Kd.C_below HR1_0.out HB.out)); (case side2 => exact HC1_0.out); rintro e w23 ⟨rfl, hb⟩; refine ⟨_, rfl, ?_⟩; have n0_ := Aside0.mk (blk_below (g := gb219) (o := .cells #[.int .i64 a0_0, .int .i64 a0_1, .int .i64 a0_2, .int .i64 a0_3] 50 (0, 0)) (kq BK219.out) hb); have n1_ := Aside0.mk (blk_below (g := gb220) (o := .cells #[.slice A1_0 l1_0.length c1_0] 31 (0, 0)) (kq BK220.out) hb); have n2_ := Aside0.mk (below_step (by repeat (first | (with_reducible first | exact HB.out | apply below_alloc | apply pw_below_drewN | apply below_drew1 | refine below_set ?_ GE219.out | refine below_set ?_ GE220.out) | exact HB.out)) hb); clear BK219; clear BK220; clear HB; have BK219 := n0_; have BK220 := n1_; have HB := n2_; clear n0_ n1_ n2_; (try clear hb); (try clear hb2); (try clear hk); (try clear hi); have hcz24_0 : w23.cell? ⟨gb219, 0, none⟩ = some (.int .i64 a0_0) := (blk_cell BK219.out 0).trans rfl; have hcz24_1 : w23.cell? ⟨gb219, 1, none⟩ = some (.int .i64 a0_1) := (blk_cell BK219.out 1).trans rfl; have hcz24_2 : w23.cell? ⟨gb219, 2, none⟩ = some (.int .i64 a0_2) := (blk_cell BK219.out 2).trans rfl; have hcz24_3 : w23.cell? ⟨gb219, 3, none⟩ = some (.int .i64 a0_3) := (blk_cell BK219.out 3).trans rfl; have hfz24_0 := blk_frozen BK219.out 0; have hfz24_1 := blk_frozen BK219.out 1; have hfz24_2 := blk_frozen BK219.out 2; have hfz24_3 := blk_frozen BK219.out 3) | (go_at_call 90; (with_reducible refine (impl_codeOk.calls a0_3 t223 _ A19.out).mono ?_); rintro e w' ⟨rfl, ⟨nd, rfl⟩⟩))
            go_ret
            exact ⟨by first | rfl | (simp [errW_none, errW_some] <;> rfl) | (simp [*, errW_none, errW_some] <;> rfl), by repeat (first | (with_reducible first | exact HB.out | apply below_alloc | apply pw_below_drewN | apply below_drew1 | refine below_set ?_ GE219.out | refine below_set ?_ GE220.out) | exact HB.out)⟩
          · replace c18 := Bool.eq_false_iff.mpr c18
            subst c18
            have H1 : (some false) = some r := by rw [if_neg (show ¬ (false = true) by decide)] at H; exact H
            clear H
            have H := H1
            clear H1
            obtain rfl := Option.some.inj H
            have hnb25 := NB220_219.out
            have hnc25 := NB219_220.out
            have hcz26_0 : wc.cell? ⟨gb220, 0, none⟩ = some (.slice A1_0 l1_0.length c1_0) := (blk_cell BK220.out 0).trans rfl
            have hfz26_0 := blk_frozen BK220.out 0
            have hcz27_0 : wc.cell? ⟨gb219, 0, none⟩ = some (.int .i64 a0_0) := (blk_cell BK219.out 0).trans rfl
            have hcz27_1 : wc.cell? ⟨gb219, 1, none⟩ = some (.int .i64 a0_1) := (blk_cell BK219.out 1).trans rfl
            have hcz27_2 : wc.cell? ⟨gb219, 2, none⟩ = some (.int .i64 a0_2) := (blk_cell BK219.out 2).trans rfl
            have hcz27_3 : wc.cell? ⟨gb219, 3, none⟩ = some (.int .i64 a0_3) := (blk_cell BK219.out 3).trans rfl
            have hfz27_0 := blk_frozen BK219.out 0
            have hfz27_1 := blk_frozen BK219.out 1
            have hfz27_2 := blk_frozen BK219.out 2
            have hfz27_3 := blk_frozen BK219.out 3
            go_wp2_with (first | ((with_reducible refine gate_callee (f := 50) rfl ?_); refine goesL_ (some 23) rfl rfl Try.func50 (by kernel_rfl) rfl #[.agg #[.slice A1_0 l1_0.length c1_0], .int .i64 a0_2] rfl (aq) ?_; (with_reducible refine (impl_Tree_has.calls _ _ l1_0 a0_2 false _ ?side1 ?side2 A17.out).mono ?_); (case side1 => exact cq (Kd.C_below HR1_0.out HB.out)); (case side2 => exact HC1_0.out); rintro e w28 ⟨rfl, hb⟩; refine ⟨_, rfl, ?_⟩; have n0_ := Aside0.mk (blk_below (g := gb219) (o := .cells #[.int .i64 a0_0, .int .i64 a0_1, .int .i64 a0_2, .int .i64 a0_3] 50 (0, 0)) (kq BK219.out) hb); have n1_ := Aside0.mk (blk_below (g := gb220) (o := .cells #[.slice A1_0 l1_0.length c1_0] 31 (0, 0)) (kq BK220.out) hb); have n2_ := Aside0.mk (below_step (by repeat (first | (with_reducible first | exact HB.out | apply below_alloc | apply pw_below_drewN | apply below_drew1 | refine below_set ?_ GE219.out | refine below_set ?_ GE220.out) | exact HB.out)) hb); clear BK219; clear BK220; clear HB; have BK219 := n0_; have BK220 := n1_; have HB := n2_; clear n0_ n1_ n2_; (try clear hb); (try clear hb2); (try clear hk); (try clear hi)))
            go_ret
            exact ⟨by first | rfl | (simp [errW_none, errW_some] <;> rfl) | (simp [*, errW_none, errW_some] <;> rfl), by repeat (first | (with_reducible first | exact HB.out | apply below_alloc | apply pw_below_drewN | apply below_drew1 | refine below_set ?_ GE219.out | refine below_set ?_ GE220.out) | exact HB.out)⟩
        · rw [if_neg c16] at H
          have c16b0 : (a0_1 == 2) = false := beq_eq_false_iff_ne.mpr c16
          have c16b1 : (a0_1 != 2) = true := bne_iff_ne.mpr c16
          by_cases c29 : a0_1 = 8
          · rw [if_pos c29] at H
            have c29b0 : (a0_1 == 8) = true := beq_iff_eq.mpr c29
            have c29b1 : (a0_1 != 8) = false := bne_eq_false_iff_eq.mpr c29
            clear c29
            replace H := Option.bind_eq_some_iff.mp H
            obtain ⟨t224, A300, H⟩ := H
            replace H : (if t224 = true then (some (a0_3 == 0)) else (some false)) = some r := H
            have A30 := Aside0.mk A300
            clear A300
            by_cases c31 : t224 = true
            · subst c31
              have H1 : (some (a0_3 == 0)) = some r := by rw [if_pos rfl] at H; exact H
              clear H
              have H := H1
              clear H1
              obtain rfl := Option.some.inj H
              have hnb32 := NB220_219.out
              have hnc32 := NB219_220.out
              have hcz33_0 : wc.cell? ⟨gb220, 0, none⟩ = some (.slice A1_0 l1_0.length c1_0) := (blk_cell BK220.out 0).trans rfl
              have hfz33_0 := blk_frozen BK220.out 0
              have hcz34_0 : wc.cell? ⟨gb219, 0, none⟩ = some (.int .i64 a0_0) := (blk_cell BK219.out 0).trans rfl
              have hcz34_1 : wc.cell? ⟨gb219, 1, none⟩ = some (.int .i64 a0_1) := (blk_cell BK219.out 1).trans rfl
              have hcz34_2 : wc.cell? ⟨gb219, 2, none⟩ = some (.int .i64 a0_2) := (blk_cell BK219.out 2).trans rfl
              have hcz34_3 : wc.cell? ⟨gb219, 3, none⟩ = some (.int .i64 a0_3) := (blk_cell BK219.out 3).trans rfl
              have hfz34_0 := blk_frozen BK219.out 0
              have hfz34_1 := blk_frozen BK219.out 1
              have hfz34_2 := blk_frozen BK219.out 2
              have hfz34_3 := blk_frozen BK219.out 3
              go_wp2_with (first | ((with_reducible refine gate_callee (f := 50) rfl ?_); refine goesL_ (some 34) rfl rfl Try.func50 (by kernel_rfl) rfl #[.agg #[.slice A1_0 l1_0.length c1_0], .int .i64 a0_2] rfl (aq) ?_; (with_reducible refine (impl_Tree_has.calls _ _ l1_0 a0_2 true _ ?side1 ?side2 A30.out).mono ?_); (case side1 => exact cq (Kd.C_below HR1_0.out HB.out)); (case side2 => exact HC1_0.out); rintro e w35 ⟨rfl, hb⟩; refine ⟨_, rfl, ?_⟩; have n0_ := Aside0.mk (blk_below (g := gb219) (o := .cells #[.int .i64 a0_0, .int .i64 a0_1, .int .i64 a0_2, .int .i64 a0_3] 50 (0, 0)) (kq BK219.out) hb); have n1_ := Aside0.mk (blk_below (g := gb220) (o := .cells #[.slice A1_0 l1_0.length c1_0] 31 (0, 0)) (kq BK220.out) hb); have n2_ := Aside0.mk (below_step (by repeat (first | (with_reducible first | exact HB.out | apply below_alloc | apply pw_below_drewN | apply below_drew1 | refine below_set ?_ GE219.out | refine below_set ?_ GE220.out) | exact HB.out)) hb); clear BK219; clear BK220; clear HB; have BK219 := n0_; have BK220 := n1_; have HB := n2_; clear n0_ n1_ n2_; (try clear hb); (try clear hb2); (try clear hk); (try clear hi); have hcz36_0 : w35.cell? ⟨gb219, 0, none⟩ = some (.int .i64 a0_0) := (blk_cell BK219.out 0).trans rfl; have hcz36_1 : w35.cell? ⟨gb219, 1, none⟩ = some (.int .i64 a0_1) := (blk_cell BK219.out 1).trans rfl; have hcz36_2 : w35.cell? ⟨gb219, 2, none⟩ = some (.int .i64 a0_2) := (blk_cell BK219.out 2).trans rfl; have hcz36_3 : w35.cell? ⟨gb219, 3, none⟩ = some (.int .i64 a0_3) := (blk_cell BK219.out 3).trans rfl; have hfz36_0 := blk_frozen BK219.out 0; have hfz36_1 := blk_frozen BK219.out 1; have hfz36_2 := blk_frozen BK219.out 2; have hfz36_3 := blk_frozen BK219.out 3))
              go_ret
              exact ⟨by first | rfl | (simp [errW_none, errW_some] <;> rfl) | (simp [*, errW_none, errW_some] <;> rfl), by repeat (first | (with_reducible first | exact HB.out | apply below_alloc | apply pw_below_drewN | apply below_drew1 | refine below_set ?_ GE219.out | refine below_set ?_ GE220.out) | exact HB.out)⟩
            · replace c31 := Bool.eq_false_iff.mpr c31
              subst c31
              have H1 : (some false) = some r := by rw [if_neg (show ¬ (false = true) by decide)] at H; exact H
              clear H
              have H := H1
              clear H1
              obtain rfl := Option.some.inj H
              have hnb37 := NB220_219.out
              have hnc37 := NB219_220.out
              have hcz38_0 : wc.cell? ⟨gb220, 0, none⟩ = some (.slice A1_0 l1_0.length c1_0) := (blk_cell BK220.out 0).trans rfl
              have hfz38_0 := blk_frozen BK220.out 0
              have hcz39_0 : wc.cell? ⟨gb219, 0, none⟩ = some (.int .i64 a0_0) := (blk_cell BK219.out 0).trans rfl
              have hcz39_1 : wc.cell? ⟨gb219, 1, none⟩ = some (.int .i64 a0_1) := (blk_cell BK219.out 1).trans rfl
              have hcz39_2 : wc.cell? ⟨gb219, 2, none⟩ = some (.int .i64 a0_2) := (blk_cell BK219.out 2).trans rfl
              have hcz39_3 : wc.cell? ⟨gb219, 3, none⟩ = some (.int .i64 a0_3) := (blk_cell BK219.out 3).trans rfl
              have hfz39_0 := blk_frozen BK219.out 0
              have hfz39_1 := blk_frozen BK219.out 1
              have hfz39_2 := blk_frozen BK219.out 2
              have hfz39_3 := blk_frozen BK219.out 3
              go_wp2_with (first | ((with_reducible refine gate_callee (f := 50) rfl ?_); refine goesL_ (some 34) rfl rfl Try.func50 (by kernel_rfl) rfl #[.agg #[.slice A1_0 l1_0.length c1_0], .int .i64 a0_2] rfl (aq) ?_; (with_reducible refine (impl_Tree_has.calls _ _ l1_0 a0_2 false _ ?side1 ?side2 A30.out).mono ?_); (case side1 => exact cq (Kd.C_below HR1_0.out HB.out)); (case side2 => exact HC1_0.out); rintro e w40 ⟨rfl, hb⟩; refine ⟨_, rfl, ?_⟩; have n0_ := Aside0.mk (blk_below (g := gb219) (o := .cells #[.int .i64 a0_0, .int .i64 a0_1, .int .i64 a0_2, .int .i64 a0_3] 50 (0, 0)) (kq BK219.out) hb); have n1_ := Aside0.mk (blk_below (g := gb220) (o := .cells #[.slice A1_0 l1_0.length c1_0] 31 (0, 0)) (kq BK220.out) hb); have n2_ := Aside0.mk (below_step (by repeat (first | (with_reducible first | exact HB.out | apply below_alloc | apply pw_below_drewN | apply below_drew1 | refine below_set ?_ GE219.out | refine below_set ?_ GE220.out) | exact HB.out)) hb); clear BK219; clear BK220; clear HB; have BK219 := n0_; have BK220 := n1_; have HB := n2_; clear n0_ n1_ n2_; (try clear hb); (try clear hb2); (try clear hk); (try clear hi)))
              go_ret
              exact ⟨by first | rfl | (simp [errW_none, errW_some] <;> rfl) | (simp [*, errW_none, errW_some] <;> rfl), by repeat (first | (with_reducible first | exact HB.out | apply below_alloc | apply pw_below_drewN | apply below_drew1 | refine below_set ?_ GE219.out | refine below_set ?_ GE220.out) | exact HB.out)⟩
          · rw [if_neg c29] at H
            have c29b0 : (a0_1 == 8) = false := beq_eq_false_iff_ne.mpr c29
            have c29b1 : (a0_1 != 8) = true := bne_iff_ne.mpr c29
            by_cases c41 : a0_1 = 11
            · rw [if_pos c41] at H
              have c41b0 : (a0_1 == 11) = true := beq_iff_eq.mpr c41
              have c41b1 : (a0_1 != 11) = false := bne_eq_false_iff_eq.mpr c41
              clear c41
              replace H := Option.bind_eq_some_iff.mp H
              obtain ⟨t225, A420, H⟩ := H
              replace H : (if t225 = true then ((impl_within.f a0_3 0 1).bind fun t226 => (some t226)) else (some false)) = some r := H
              have A42 := Aside0.mk A420
              clear A420
              by_cases c43 : t225 = true
              · subst c43
                have H1 : ((impl_within.f a0_3 0 1).bind fun t226 => (some t226)) = some r := by rw [if_pos rfl] at H; exact H
                clear H
                have H := H1
                clear H1
                replace H := Option.bind_eq_some_iff.mp H
                obtain ⟨t226, A440, H⟩ := H
                replace H : (some t226) = some r := H
                have A44 := Aside0.mk A440
                clear A440
                obtain rfl := Option.some.inj H
                have hnb45 := NB219_220.out
                have hnc45 := NB220_219.out
                have hcz46_0 : wc.cell? ⟨gb219, 0, none⟩ = some (.int .i64 a0_0) := (blk_cell BK219.out 0).trans rfl
                have hcz46_1 : wc.cell? ⟨gb219, 1, none⟩ = some (.int .i64 a0_1) := (blk_cell BK219.out 1).trans rfl
                have hcz46_2 : wc.cell? ⟨gb219, 2, none⟩ = some (.int .i64 a0_2) := (blk_cell BK219.out 2).trans rfl
                have hcz46_3 : wc.cell? ⟨gb219, 3, none⟩ = some (.int .i64 a0_3) := (blk_cell BK219.out 3).trans rfl
                have hfz46_0 := blk_frozen BK219.out 0
                have hfz46_1 := blk_frozen BK219.out 1
                have hfz46_2 := blk_frozen BK219.out 2
                have hfz46_3 := blk_frozen BK219.out 3
                go_wp2_with (first | ((with_reducible refine gate_callee (f := 44) rfl ?_); refine goesL_ (some 44) rfl rfl Try.func44 (by kernel_rfl) rfl #[.int .i64 a0_2, .int .i64 0, .int .i64 9] rfl (aq) ?_; (with_reducible refine (impl_within.calls a0_2 0 9 true _ A42.out).mono ?_); rintro e w' ⟨rfl, ⟨nd, rfl⟩⟩; refine ⟨_, rfl, ?_⟩) | (go_at_call 44; (with_reducible refine (impl_within.calls a0_3 0 1 t226 _ A44.out).mono ?_); rintro e w' ⟨rfl, ⟨nd, rfl⟩⟩))
                go_ret
                exact ⟨by first | rfl | (simp [errW_none, errW_some] <;> rfl) | (simp [*, errW_none, errW_some] <;> rfl), by repeat (first | (with_reducible first | exact HB.out | apply below_alloc | apply pw_below_drewN | apply below_drew1 | refine below_set ?_ GE219.out | refine below_set ?_ GE220.out) | exact HB.out)⟩
              · replace c43 := Bool.eq_false_iff.mpr c43
                subst c43
                have H1 : (some false) = some r := by rw [if_neg (show ¬ (false = true) by decide)] at H; exact H
                clear H
                have H := H1
                clear H1
                obtain rfl := Option.some.inj H
                have hnb47 := NB219_220.out
                have hnc47 := NB220_219.out
                have hcz48_0 : wc.cell? ⟨gb219, 0, none⟩ = some (.int .i64 a0_0) := (blk_cell BK219.out 0).trans rfl
                have hcz48_1 : wc.cell? ⟨gb219, 1, none⟩ = some (.int .i64 a0_1) := (blk_cell BK219.out 1).trans rfl
                have hcz48_2 : wc.cell? ⟨gb219, 2, none⟩ = some (.int .i64 a0_2) := (blk_cell BK219.out 2).trans rfl
                have hcz48_3 : wc.cell? ⟨gb219, 3, none⟩ = some (.int .i64 a0_3) := (blk_cell BK219.out 3).trans rfl
                have hfz48_0 := blk_frozen BK219.out 0
                have hfz48_1 := blk_frozen BK219.out 1
                have hfz48_2 := blk_frozen BK219.out 2
                have hfz48_3 := blk_frozen BK219.out 3
                go_wp2_with (first | ((with_reducible refine gate_callee (f := 44) rfl ?_); refine goesL_ (some 44) rfl rfl Try.func44 (by kernel_rfl) rfl #[.int .i64 a0_2, .int .i64 0, .int .i64 9] rfl (aq) ?_; (with_reducible refine (impl_within.calls a0_2 0 9 false _ A42.out).mono ?_); rintro e w' ⟨rfl, ⟨nd, rfl⟩⟩; refine ⟨_, rfl, ?_⟩))
                go_ret
                exact ⟨by first | rfl | (simp [errW_none, errW_some] <;> rfl) | (simp [*, errW_none, errW_some] <;> rfl), by repeat (first | (with_reducible first | exact HB.out | apply below_alloc | apply pw_below_drewN | apply below_drew1 | refine below_set ?_ GE219.out | refine below_set ?_ GE220.out) | exact HB.out)⟩
            · rw [if_neg c41] at H
              have c41b0 : (a0_1 == 11) = false := beq_eq_false_iff_ne.mpr c41
              have c41b1 : (a0_1 != 11) = true := bne_iff_ne.mpr c41
              by_cases c49 : a0_1 = 12
              · rw [if_pos c49] at H
                have c49b0 : (a0_1 == 12) = true := beq_iff_eq.mpr c49
                have c49b1 : (a0_1 != 12) = false := bne_eq_false_iff_eq.mpr c49
                clear c49
                replace H := Option.bind_eq_some_iff.mp H
                obtain ⟨t227, A500, H⟩ := H
                replace H : (if t227 = true then (some (a0_3 == 0)) else (some false)) = some r := H
                have A50 := Aside0.mk A500
                clear A500
                by_cases c51 : t227 = true
                · subst c51
                  have H1 : (some (a0_3 == 0)) = some r := by rw [if_pos rfl] at H; exact H
                  clear H
                  have H := H1
                  clear H1
                  obtain rfl := Option.some.inj H
                  have hnb52 := NB219_220.out
                  have hnc52 := NB220_219.out
                  have hcz53_0 : wc.cell? ⟨gb219, 0, none⟩ = some (.int .i64 a0_0) := (blk_cell BK219.out 0).trans rfl
                  have hcz53_1 : wc.cell? ⟨gb219, 1, none⟩ = some (.int .i64 a0_1) := (blk_cell BK219.out 1).trans rfl
                  have hcz53_2 : wc.cell? ⟨gb219, 2, none⟩ = some (.int .i64 a0_2) := (blk_cell BK219.out 2).trans rfl
                  have hcz53_3 : wc.cell? ⟨gb219, 3, none⟩ = some (.int .i64 a0_3) := (blk_cell BK219.out 3).trans rfl
                  have hfz53_0 := blk_frozen BK219.out 0
                  have hfz53_1 := blk_frozen BK219.out 1
                  have hfz53_2 := blk_frozen BK219.out 2
                  have hfz53_3 := blk_frozen BK219.out 3
                  go_wp2_with (first | ((with_reducible refine gate_callee (f := 44) rfl ?_); refine goesL_ (some 54) rfl rfl Try.func44 (by kernel_rfl) rfl #[.int .i64 a0_2, .int .i64 0, .int .i64 3] rfl (aq) ?_; (with_reducible refine (impl_within.calls a0_2 0 3 true _ A50.out).mono ?_); rintro e w' ⟨rfl, ⟨nd, rfl⟩⟩; refine ⟨_, rfl, ?_⟩))
                  go_ret
                  exact ⟨by first | rfl | (simp [errW_none, errW_some] <;> rfl) | (simp [*, errW_none, errW_some] <;> rfl), by repeat (first | (with_reducible first | exact HB.out | apply below_alloc | apply pw_below_drewN | apply below_drew1 | refine below_set ?_ GE219.out | refine below_set ?_ GE220.out) | exact HB.out)⟩
                · replace c51 := Bool.eq_false_iff.mpr c51
                  subst c51
                  have H1 : (some false) = some r := by rw [if_neg (show ¬ (false = true) by decide)] at H; exact H
                  clear H
                  have H := H1
                  clear H1
                  obtain rfl := Option.some.inj H
                  have hnb54 := NB219_220.out
                  have hnc54 := NB220_219.out
                  have hcz55_0 : wc.cell? ⟨gb219, 0, none⟩ = some (.int .i64 a0_0) := (blk_cell BK219.out 0).trans rfl
                  have hcz55_1 : wc.cell? ⟨gb219, 1, none⟩ = some (.int .i64 a0_1) := (blk_cell BK219.out 1).trans rfl
                  have hcz55_2 : wc.cell? ⟨gb219, 2, none⟩ = some (.int .i64 a0_2) := (blk_cell BK219.out 2).trans rfl
                  have hcz55_3 : wc.cell? ⟨gb219, 3, none⟩ = some (.int .i64 a0_3) := (blk_cell BK219.out 3).trans rfl
                  have hfz55_0 := blk_frozen BK219.out 0
                  have hfz55_1 := blk_frozen BK219.out 1
                  have hfz55_2 := blk_frozen BK219.out 2
                  have hfz55_3 := blk_frozen BK219.out 3
                  go_wp2_with (first | ((with_reducible refine gate_callee (f := 44) rfl ?_); refine goesL_ (some 54) rfl rfl Try.func44 (by kernel_rfl) rfl #[.int .i64 a0_2, .int .i64 0, .int .i64 3] rfl (aq) ?_; (with_reducible refine (impl_within.calls a0_2 0 3 false _ A50.out).mono ?_); rintro e w' ⟨rfl, ⟨nd, rfl⟩⟩; refine ⟨_, rfl, ?_⟩))
                  go_ret
                  exact ⟨by first | rfl | (simp [errW_none, errW_some] <;> rfl) | (simp [*, errW_none, errW_some] <;> rfl), by repeat (first | (with_reducible first | exact HB.out | apply below_alloc | apply pw_below_drewN | apply below_drew1 | refine below_set ?_ GE219.out | refine below_set ?_ GE220.out) | exact HB.out)⟩
              · rw [if_neg c49] at H
                have c49b0 : (a0_1 == 12) = false := beq_eq_false_iff_ne.mpr c49
                have c49b1 : (a0_1 != 12) = true := bne_iff_ne.mpr c49
                replace H := Option.bind_eq_some_iff.mp H
                obtain ⟨t228, A560, H⟩ := H
                replace H : (if t228 = true then (if a0_2 = 0 then (some (a0_3 == 0)) else (some false)) else (some false)) = some r := H
                have A56 := Aside0.mk A560
                clear A560
                by_cases c57 : t228 = true
                · subst c57
                  have H1 : (if a0_2 = 0 then (some (a0_3 == 0)) else (some false)) = some r := by rw [if_pos rfl] at H; exact H
                  clear H
                  have H := H1
                  clear H1
                  by_cases c58 : a0_2 = 0
                  · rw [if_pos c58] at H
                    have c58b0 : (a0_2 == 0) = true := beq_iff_eq.mpr c58
                    have c58b1 : (a0_2 != 0) = false := bne_eq_false_iff_eq.mpr c58
                    clear c58
                    obtain rfl := Option.some.inj H
                    have hnb59 := NB219_220.out
                    have hnc59 := NB220_219.out
                    have hcz60_0 : wc.cell? ⟨gb219, 0, none⟩ = some (.int .i64 a0_0) := (blk_cell BK219.out 0).trans rfl
                    have hcz60_1 : wc.cell? ⟨gb219, 1, none⟩ = some (.int .i64 a0_1) := (blk_cell BK219.out 1).trans rfl
                    have hcz60_2 : wc.cell? ⟨gb219, 2, none⟩ = some (.int .i64 a0_2) := (blk_cell BK219.out 2).trans rfl
                    have hcz60_3 : wc.cell? ⟨gb219, 3, none⟩ = some (.int .i64 a0_3) := (blk_cell BK219.out 3).trans rfl
                    have hfz60_0 := blk_frozen BK219.out 0
                    have hfz60_1 := blk_frozen BK219.out 1
                    have hfz60_2 := blk_frozen BK219.out 2
                    have hfz60_3 := blk_frozen BK219.out 3
                    go_wp2_with (first | ((with_reducible refine gate_callee (f := 44) rfl ?_); refine goesL_ (some 62) rfl rfl Try.func44 (by kernel_rfl) rfl #[.int .i64 a0_1, .int .i64 0, .int .i64 12] rfl (aq) ?_; (with_reducible refine (impl_within.calls a0_1 0 12 true _ A56.out).mono ?_); rintro e w' ⟨rfl, ⟨nd, rfl⟩⟩; refine ⟨_, rfl, ?_⟩))
                    go_ret
                    exact ⟨by first | rfl | (simp [errW_none, errW_some] <;> rfl) | (simp [*, errW_none, errW_some] <;> rfl), by repeat (first | (with_reducible first | exact HB.out | apply below_alloc | apply pw_below_drewN | apply below_drew1 | refine below_set ?_ GE219.out | refine below_set ?_ GE220.out) | exact HB.out)⟩
                  · rw [if_neg c58] at H
                    have c58b0 : (a0_2 == 0) = false := beq_eq_false_iff_ne.mpr c58
                    have c58b1 : (a0_2 != 0) = true := bne_iff_ne.mpr c58
                    obtain rfl := Option.some.inj H
                    have hnb61 := NB219_220.out
                    have hnc61 := NB220_219.out
                    have hcz62_0 : wc.cell? ⟨gb219, 0, none⟩ = some (.int .i64 a0_0) := (blk_cell BK219.out 0).trans rfl
                    have hcz62_1 : wc.cell? ⟨gb219, 1, none⟩ = some (.int .i64 a0_1) := (blk_cell BK219.out 1).trans rfl
                    have hcz62_2 : wc.cell? ⟨gb219, 2, none⟩ = some (.int .i64 a0_2) := (blk_cell BK219.out 2).trans rfl
                    have hcz62_3 : wc.cell? ⟨gb219, 3, none⟩ = some (.int .i64 a0_3) := (blk_cell BK219.out 3).trans rfl
                    have hfz62_0 := blk_frozen BK219.out 0
                    have hfz62_1 := blk_frozen BK219.out 1
                    have hfz62_2 := blk_frozen BK219.out 2
                    have hfz62_3 := blk_frozen BK219.out 3
                    go_wp2_with (first | ((with_reducible refine gate_callee (f := 44) rfl ?_); refine goesL_ (some 62) rfl rfl Try.func44 (by kernel_rfl) rfl #[.int .i64 a0_1, .int .i64 0, .int .i64 12] rfl (aq) ?_; (with_reducible refine (impl_within.calls a0_1 0 12 true _ A56.out).mono ?_); rintro e w' ⟨rfl, ⟨nd, rfl⟩⟩; refine ⟨_, rfl, ?_⟩))
                    go_ret
                    exact ⟨by first | rfl | (simp [errW_none, errW_some] <;> rfl) | (simp [*, errW_none, errW_some] <;> rfl), by repeat (first | (with_reducible first | exact HB.out | apply below_alloc | apply pw_below_drewN | apply below_drew1 | refine below_set ?_ GE219.out | refine below_set ?_ GE220.out) | exact HB.out)⟩
                · replace c57 := Bool.eq_false_iff.mpr c57
                  subst c57
                  have H1 : (some false) = some r := by rw [if_neg (show ¬ (false = true) by decide)] at H; exact H
                  clear H
                  have H := H1
                  clear H1
                  obtain rfl := Option.some.inj H
                  have hnb63 := NB219_220.out
                  have hnc63 := NB220_219.out
                  have hcz64_0 : wc.cell? ⟨gb219, 0, none⟩ = some (.int .i64 a0_0) := (blk_cell BK219.out 0).trans rfl
                  have hcz64_1 : wc.cell? ⟨gb219, 1, none⟩ = some (.int .i64 a0_1) := (blk_cell BK219.out 1).trans rfl
                  have hcz64_2 : wc.cell? ⟨gb219, 2, none⟩ = some (.int .i64 a0_2) := (blk_cell BK219.out 2).trans rfl
                  have hcz64_3 : wc.cell? ⟨gb219, 3, none⟩ = some (.int .i64 a0_3) := (blk_cell BK219.out 3).trans rfl
                  have hfz64_0 := blk_frozen BK219.out 0
                  have hfz64_1 := blk_frozen BK219.out 1
                  have hfz64_2 := blk_frozen BK219.out 2
                  have hfz64_3 := blk_frozen BK219.out 3
                  go_wp2_with (first | ((with_reducible refine gate_callee (f := 44) rfl ?_); refine goesL_ (some 62) rfl rfl Try.func44 (by kernel_rfl) rfl #[.int .i64 a0_1, .int .i64 0, .int .i64 12] rfl (aq) ?_; (with_reducible refine (impl_within.calls a0_1 0 12 false _ A56.out).mono ?_); rintro e w' ⟨rfl, ⟨nd, rfl⟩⟩; refine ⟨_, rfl, ?_⟩))
                  go_ret
                  exact ⟨by first | rfl | (simp [errW_none, errW_some] <;> rfl) | (simp [*, errW_none, errW_some] <;> rfl), by repeat (first | (with_reducible first | exact HB.out | apply below_alloc | apply pw_below_drewN | apply below_drew1 | refine below_set ?_ GE219.out | refine below_set ?_ GE220.out) | exact HB.out)⟩
end Go.Proofs.Ytbclgpgolbmlpaa.P
end

section
namespace Go.Proofs.Ytbclgpgolbmlpaa.P
open Go.RowKit Go.Proofs.YtbclgpgolbmlpaaW.PrintWords Go.Proofs.YtbclgpgolbmlpaaW.PrintLast Go.Proofs.YtbclgpgolbmlpaaW.PrintMore
attribute [local go_sem] max2_int min2_int max_two min_two max_three min_three max_four min_four isSome_cell_setCell   -- for this text's walks alone
set_option linter.unusedVariables false
set_option linter.unusedSimpArgs false
def impl_endOf.l0 : Nat → List (S50) → Int → Int → Option (Int)
  | 0, _, _, _ => none
  | k + 1, x0, x1, x5 => if x5 < (x0.length : Int) then (if 0 ≤ x5 then (if 0 ≤ x1 then (if x1 < (x0.length : Int) then (if ((rd_T50 x0 x5).f0) > ((rd_T50 x0 x1).f0) then (impl_endOf.l0 k x0 x1 (wrap64 (x5 + 1))) else (some x5)) else (none)) else (none)) else (none)) else (some x5)
def impl_endOf.f (k : Nat) (l0 : List (S50)) (a1 : Int) : Option (Int) := impl_endOf.l0 k l0 a1 (wrap64 (a1 + 1))
theorem impl_endOf.mono_l : ∀ k, (∀ y0 y1 y2, LeO (impl_endOf.l0 k y0 y1 y2) (impl_endOf.l0 (k + 1) y0 y1 y2))
  | 0 => fun _ _ _ r h => by simp [impl_endOf.l0] at h
  | k + 1 => by
    have ih0 := impl_endOf.mono_l k
    · intro y0 y1 y2
      unfold impl_endOf.l0
      repeat' first
      | (with_reducible exact ih0 _ _ _)
      | (with_reducible exact LeO.refl _)
      | (with_reducible exact LeO.none _)
      | (with_reducible refine LeO.ite ?_ ?_)
      | (with_reducible refine LeO.bind ?_ (fun _ => ?_))
      | exact ih0 _ _ _
      | exact LeO.none _
      | refine LeO.ite ?_ ?_
      | refine LeO.bind ?_ (fun _ => ?_)
theorem impl_endOf.mono : ∀ a0 a1 k, LeO (impl_endOf.f k a0 a1) (impl_endOf.f (k + 1) a0 a1) := by
  intro a0 a1 k
  have ih0 := impl_endOf.mono_l k
  unfold impl_endOf.f
  repeat' first
      | (with_reducible exact ih0 _ _ _)
      | (with_reducible exact LeO.refl _)
      | (with_reducible exact LeO.none _)
      | (with_reducible refine LeO.ite ?_ ?_)
      | (with_reducible refine LeO.bind ?_ (fun _ => ?_))
      | exact ih0 _ _ _
      | exact LeO.none _
      | refine LeO.ite ?_ ?_
      | refine LeO.bind ?_ (fun _ => ?_)
set_option maxHeartbeats 8000000 in
set_option maxRecDepth 100000 in
theorem impl_endOf.calls (k : Nat) (A0 : Option Addr) (c0 : Nat) (l0 : List (S50)) (a1 : Int) (r : Int) (w : World) (hr0 : Kd.C k50 w A0 l0.length l0) (hc0 : l0.length ≤ c0) (h : impl_endOf.f k l0 a1 = some r) :
    Calls Try.prog 67 #[.slice A0 l0.length c0, .int .i64 a1] w fun e w' => e = .returned (.int .i64 r) ∧ Drawn0 w w' := by
  have HR0 := Aside0.mk hr0
  have HC0 := Aside0.mk hc0
  clear hr0 hc0
  have H : (impl_endOf.l0 k l0 a1 (wrap64 (a1 + 1))) = some r := h
  clear h
  have H' := Aside0.mk H
  clear H
  go_enter Try.func67, Try.ntmps67
  go_wp2
  repeat (go_quiet (fail); try go_wp2)
  go_loopg [5] k (fun kq v5 w' => ∃ (x5_1 : Int), v5 = .int .i64 x5_1 ∧ Aside0 (impl_endOf.l0 kq l0 a1 x5_1 = some r) ∧ Aside0 (kq ≤ k) ∧ Drawn0 w w')
  case atStart => exact ⟨(wrap64 (a1 + 1)), (sq), H', ⟨Nat.le_refl _⟩, by repeat (first | exact Drawn0.refl _ | apply Drawn0.step)⟩
  case round =>
    clear H'
    try clear p2
    obtain ⟨x5_1, rfl, HA, HK1, ⟨m1, rfl⟩⟩ := hrel
    cases gk with
    | zero => exact absurd HA.out (by simp [impl_endOf.l0])
    | succ k1 =>
      have H := HA.out
      clear HA
      simp only [impl_endOf.l0] at H
      by_cases c3 : x5_1 < (l0.length : Int)
      · rw [if_pos c3] at H
        have c3b0 : decide (x5_1 < (l0.length : Int)) = true := decide_eq_true c3
        clear c3
        by_cases c4 : 0 ≤ x5_1
        · rw [if_pos c4] at H
          have c4b0 : decide (0 ≤ x5_1) = true := decide_eq_true c4
          clear c4
          by_cases c5 : 0 ≤ a1
          · rw [if_pos c5] at H
            have c5b0 : decide (0 ≤ a1) = true := decide_eq_true c5
            clear c5
            by_cases c6 : a1 < (l0.length : Int)
            · rw [if_pos c6] at H
              have c6b0 : decide (a1 < (l0.length : Int)) = true := decide_eq_true c6
              clear c6
              by_cases c7 : ((rd_T50 l0 x5_1).f0) > ((rd_T50 l0 a1).f0)
              · rw [if_pos c7] at H
                have c7b0 : decide (((rd_T50 l0 a1).f0) < ((rd_T50 l0 x5_1).f0)) = true := decide_eq_true c7
                clear c7
                have H' := Aside0.mk H
                clear H
                have p229 : 0 ≤ (x5_1 : Int) := of_decide_eq_true (uq)
                have q229 : x5_1 < (l0.length : Int) := of_decide_eq_true (uq)
                obtain ⟨ad229, e229, hx229_0, hx229_1, hx229_2, hx229_3⟩ := at_T50 HR0.out x5_1 p229 q229
                cases e229
                replace p229 := eq_true p229
                replace q229 := eq_true q229
                have p230 : 0 ≤ (a1 : Int) := of_decide_eq_true (uq)
                have q230 : a1 < (l0.length : Int) := of_decide_eq_true (uq)
                obtain ⟨ad230, e230, hx230_0, hx230_1, hx230_2, hx230_3⟩ := at_T50 HR0.out a1 p230 q230
                obtain rfl : ad229 = ad230 := (by injection e230)
                replace p230 := eq_true p230
                replace q230 := eq_true q230
                go_wp2
                repeat (go_quiet (fail); try go_wp2)
                go_roundg k1
                case measure => have := HK1.out; omega
                case rel => exact ⟨(wrap64 (x5_1 + 1)), (sq), H', ⟨by have := HK1.out; omega⟩, by repeat (first | exact Drawn0.refl _ | apply Drawn0.step)⟩
              · rw [if_neg c7] at H
                have c7b0 : decide (((rd_T50 l0 a1).f0) < ((rd_T50 l0 x5_1).f0)) = false := decide_eq_false c7
                clear c7
                obtain rfl := Option.some.inj H
                have p229 : 0 ≤ (x5_1 : Int) := of_decide_eq_true (uq)
                have q229 : x5_1 < (l0.length : Int) := of_decide_eq_true (uq)
                obtain ⟨ad229, e229, hx229_0, hx229_1, hx229_2, hx229_3⟩ := at_T50 HR0.out x5_1 p229 q229
                cases e229
                replace p229 := eq_true p229
                replace q229 := eq_true q229
                have p230 : 0 ≤ (a1 : Int) := of_decide_eq_true (uq)
                have q230 : a1 < (l0.length : Int) := of_decide_eq_true (uq)
                obtain ⟨ad230, e230, hx230_0, hx230_1, hx230_2, hx230_3⟩ := at_T50 HR0.out a1 p230 q230
                obtain rfl : ad229 = ad230 := (by injection e230)
                replace p230 := eq_true p230
                replace q230 := eq_true q230
                go_wp2
                repeat (go_quiet (fail); try go_wp2)
                go_ret
                exact ⟨sq, by repeat (first | exact Drawn0.refl _ | apply Drawn0.step)⟩
            · rw [if_neg c6] at H
              exact absurd H (by simp)
          · rw [if_neg c5] at H
            exact absurd H (by simp)
        · rw [if_neg c4] at H
          exact absurd H (by simp)
      · rw [if_neg c3] at H
        have c3b0 : decide (x5_1 < (l0.length : Int)) = false := decide_eq_false c3
        clear c3
        obtain rfl := Option.some.inj H
        go_wp2
        repeat (go_quiet (fail); try go_wp2)
        go_ret
        exact ⟨sq, by repeat (first | exact Drawn0.refl _ | apply Drawn0.step)⟩
end Go.Proofs.Ytbclgpgolbmlpaa.P
end

section
namespace Go.Proofs.Ytbclgpgolbmlpaa.P
open Go.RowKit Go.Proofs.YtbclgpgolbmlpaaW.PrintWords Go.Proofs.YtbclgpgolbmlpaaW.PrintLast Go.Proofs.YtbclgpgolbmlpaaW.PrintMore
attribute [local go_sem] max2_int min2_int max_two min_two max_three min_three max_four min_four isSome_cell_setCell   -- for this text's walks alone
set_option linter.unusedVariables false
set_option linter.unusedSimpArgs false
mutual
def impl_tryFrom.l0 : Nat → List (S50) → Int → List Int → Int → Option (List Int)
  | 0, _, _, _, _ => none
  | k + 1, x0, x1, x5, x6 => if x6 < (x0.length : Int) then (if 0 ≤ x6 then (if 0 ≤ x1 then (if x1 < (x0.length : Int) then (if ((rd_T50 x0 x6).f0) = ((rd_T50 x0 x1).f0) then ((impl_within.f ((rd_T50 x0 x6).f1) 8 10).bind fun t238 => (impl_tryFrom.j1 k x0 x1 x5 x6 t238)) else (impl_tryFrom.j1 k x0 x1 x5 x6 false)) else (none)) else (none)) else (none)) else (impl_tryFrom.j1 k x0 x1 x5 x6 false)
def impl_tryFrom.j1 : Nat → List (S50) → Int → List Int → Int → Bool → Option (List Int)
  | 0, _, _, _, _, _ => none
  | k + 1, x0, x1, x5, x6, x36 => if x36 = true then (if x5.length < 17592186044416 then ((impl_endOf.f k x0 x6).bind fun t242 => (impl_tryFrom.l0 k x0 x1 (x5 ++ [x6]) t242)) else (none)) else (some x5)
end
def impl_tryFrom.f (k : Nat) (l0 : List (S50)) (a1 : Int) : Option (List Int) := (impl_endOf.f k l0 a1).bind fun t234 => (impl_tryFrom.l0 k l0 a1 (([a1] : List Int)) t234)
theorem impl_tryFrom.mono_l : ∀ k, (∀ y0 y1 y2 y3, LeO (impl_tryFrom.l0 k y0 y1 y2 y3) (impl_tryFrom.l0 (k + 1) y0 y1 y2 y3)) ∧ (∀ y0 y1 y2 y3 y4, LeO (impl_tryFrom.j1 k y0 y1 y2 y3 y4) (impl_tryFrom.j1 (k + 1) y0 y1 y2 y3 y4))
  | 0 => ⟨fun _ _ _ _ r h => by simp [impl_tryFrom.l0] at h, fun _ _ _ _ _ r h => by simp [impl_tryFrom.j1] at h⟩
  | k + 1 => by
    obtain ⟨ih0, ih1⟩ := impl_tryFrom.mono_l k
    refine ⟨?_, ?_⟩
    · intro y0 y1 y2 y3
      unfold impl_tryFrom.l0
      repeat' first
      | (with_reducible exact ih0 _ _ _ _)
      | (with_reducible exact ih1 _ _ _ _ _)
      | (with_reducible exact impl_endOf.mono _ _ _)
      | (with_reducible exact LeO.refl _)
      | (with_reducible exact LeO.none _)
      | (with_reducible refine LeO.ite ?_ ?_)
      | (with_reducible refine LeO.bind ?_ (fun _ => ?_))
      | exact ih0 _ _ _ _
      | exact ih1 _ _ _ _ _
      | exact impl_endOf.mono _ _ _
      | exact LeO.none _
      | refine LeO.ite ?_ ?_
      | refine LeO.bind ?_ (fun _ => ?_)
    · intro y0 y1 y2 y3 y4
      unfold impl_tryFrom.j1
      repeat' first
      | (with_reducible exact ih0 _ _ _ _)
      | (with_reducible exact ih1 _ _ _ _ _)
      | (with_reducible exact impl_endOf.mono _ _ _)
      | (with_reducible exact LeO.refl _)
      | (with_reducible exact LeO.none _)
      | (with_reducible refine LeO.ite ?_ ?_)
      | (with_reducible refine LeO.bind ?_ (fun _ => ?_))
      | exact ih0 _ _ _ _
      | exact ih1 _ _ _ _ _
      | exact impl_endOf.mono _ _ _
      | exact LeO.none _
      | refine LeO.ite ?_ ?_
      | refine LeO.bind ?_ (fun _ => ?_)
theorem impl_tryFrom.mono : ∀ a0 a1 k, LeO (impl_tryFrom.f k a0 a1) (impl_tryFrom.f (k + 1) a0 a1) := by
  intro a0 a1 k
  obtain ⟨ih0, ih1⟩ := impl_tryFrom.mono_l k
  unfold impl_tryFrom.f
  repeat' first
      | (with_reducible exact ih0 _ _ _ _)
      | (with_reducible exact ih1 _ _ _ _ _)
      | (with_reducible exact impl_endOf.mono _ _ _)
      | (with_reducible exact LeO.refl _)
      | (with_reducible exact LeO.none _)
      | (with_reducible refine LeO.ite ?_ ?_)
      | (with_reducible refine LeO.bind ?_ (fun _ => ?_))
      | exact ih0 _ _ _ _
      | exact ih1 _ _ _ _ _
      | exact impl_endOf.mono _ _ _
      | exact LeO.none _
      | refine LeO.ite ?_ ?_
      | refine LeO.bind ?_ (fun _ => ?_)
set_option maxHeartbeats 8000000 in
set_option maxRecDepth 100000 in
theorem impl_tryFrom.calls (k : Nat) (A0 : Option Addr) (c0 : Nat) (l0 : List (S50)) (a1 : Int) (r : List Int) (w : World) (hr0 : Kd.C k50 w A0 l0.length l0) (hc0 : l0.length ≤ c0) (h : impl_tryFrom.f k l0 a1 = some r) :
    Calls Try.prog 64 #[.slice A0 l0.length c0, .int .i64 a1] w fun e w' => ∃ v0_ : Value, e = .returned (v0_) ∧ Kd.R (Kd.int .i64) 3 w' w.heap.size (fun _ => True) v0_ r ∧ Below w.heap.size w w' := by
  have HR0 := Aside0.mk hr0
  have HC0 := Aside0.mk hc0
  clear hr0 hc0
  have HB := Aside0.mk (Below.refl w.heap.size w)
  have H : ((impl_endOf.f k l0 a1).bind fun t234 => (impl_tryFrom.l0 k l0 a1 (([a1] : List Int)) t234)) = some r := h
  clear h
  obtain ⟨y231, hy231⟩ : ∃ y_ : List Int, y_ = (([a1] : List Int)) := ⟨_, rfl⟩
  replace H : ((impl_endOf.f k l0 a1).bind fun t234 => (impl_tryFrom.l0 k l0 a1 y231 t234)) = some r := by first | (rw [hy231]; with_reducible exact H) | (have H2_ := (Option.bind_some _ _).symm.trans H; rw [hy231]; with_reducible exact H2_) | (have H2_ := (Option.bind_some _ _).symm.trans H; with_reducible exact H2_) | with_reducible exact H | (rw [hy231]; exact H) | exact H
  have Ny231 := Aside0.mk hy231
  clear hy231
  replace H := Option.bind_eq_some_iff.mp H
  obtain ⟨t234, A30, H⟩ := H
  replace H : (impl_tryFrom.l0 k l0 a1 y231 t234) = some r := H
  have A3 := Aside0.mk A30
  clear A30
  have H' := Aside0.mk H
  clear H
  go_enter Try.func64, Try.ntmps64
  go_wp2_with (first | ((with_reducible refine gate_dst (N := 8) rfl ?_); refine Kd.R_lit (Kd.int .i64) _ 3 ?hg (N := 8) ?hd (xs := ([a1] : List Int)) (inner := [.int .i64 a1]) (ok := fun _ => True) (okp := fun _ => True) ?hr ?hp (fun _ hk => hk) trivial (Below.refl _ _) (Nat.le_refl _) (by simp) ?_; (case hd => rfl); (case hg => rfl); (case hr => first | (go_simp; done) | (go_simp; rfl)); (case hp => exact (Reps.one (show Kd.M (Kd.int .i64) _ _ _ a1 [.int .i64 a1] from rfl) (Reps.none _ _))); intro v232 w4 ho5 hb hg_ hnew_; clear hg_ hnew_; (first | rw [← Ny231.out] at ho5 | (simp only [Int.reduceToNat] at ho5; rw [← Ny231.out] at ho5)); have n0_ := Aside0.mk (Kd.R_lower ho5 (below_size (bq))); have n1_ := Aside0.mk (below_step (bq) hb); clear HB; have HO233 := n0_; have HB := n1_; clear n0_ n1_; clear hb ho5) | (go_at_call 67; (with_reducible refine (impl_endOf.calls k _ _ l0 a1 t234 _ ?side1 ?side2 A3.out).mono ?_); (case side1 => exact cq (Kd.C_below HR0.out HB.out)); (case side2 => exact HC0.out); rintro e w' ⟨rfl, ⟨nd, rfl⟩⟩; (try first | exact ⟨rfl, _, World.drewN_drewN _ _ _⟩ | exact ⟨rfl, _, Eq.trans (World.drewN_drewN _ _ _) (congrArg (World.drewN _) (Nat.add_assoc _ _ _))⟩)))
  repeat (go_quiet (first | ((with_reducible refine gate_dst (N := 8) rfl ?_); refine Kd.R_lit (Kd.int .i64) _ 3 ?hg (N := 8) ?hd (xs := ([a1] : List Int)) (inner := [.int .i64 a1]) (ok := fun _ => True) (okp := fun _ => True) ?hr ?hp (fun _ hk => hk) trivial (Below.refl _ _) (Nat.le_refl _) (by simp) ?_; (case hd => rfl); (case hg => rfl); (case hr => first | (go_simp; done) | (go_simp; rfl)); (case hp => exact (Reps.one (show Kd.M (Kd.int .i64) _ _ _ a1 [.int .i64 a1] from rfl) (Reps.none _ _))); intro v232 w4 ho5 hb hg_ hnew_; clear hg_ hnew_; (first | rw [← Ny231.out] at ho5 | (simp only [Int.reduceToNat] at ho5; rw [← Ny231.out] at ho5)); have n0_ := Aside0.mk (Kd.R_lower ho5 (below_size (bq))); have n1_ := Aside0.mk (below_step (bq) hb); clear HB; have HO233 := n0_; have HB := n1_; clear n0_ n1_; clear hb ho5) | (go_at_call 67; (with_reducible refine (impl_endOf.calls k _ _ l0 a1 t234 _ ?side1 ?side2 A3.out).mono ?_); (case side1 => exact cq (Kd.C_below HR0.out HB.out)); (case side2 => exact HC0.out); rintro e w' ⟨rfl, ⟨nd, rfl⟩⟩; (try first | exact ⟨rfl, _, World.drewN_drewN _ _ _⟩ | exact ⟨rfl, _, Eq.trans (World.drewN_drewN _ _ _) (congrArg (World.drewN _) (Nat.add_assoc _ _ _))⟩))); try go_wp2_with (first | ((with_reducible refine gate_dst (N := 8) rfl ?_); refine Kd.R_lit (Kd.int .i64) _ 3 ?hg (N := 8) ?hd (xs := ([a1] : List Int)) (inner := [.int .i64 a1]) (ok := fun _ => True) (okp := fun _ => True) ?hr ?hp (fun _ hk => hk) trivial (Below.refl _ _) (Nat.le_refl _) (by simp) ?_; (case hd => rfl); (case hg => rfl); (case hr => first | (go_simp; done) | (go_simp; rfl)); (case hp => exact (Reps.one (show Kd.M (Kd.int .i64) _ _ _ a1 [.int .i64 a1] from rfl) (Reps.none _ _))); intro v232 w4 ho5 hb hg_ hnew_; clear hg_ hnew_; (first | rw [← Ny231.out] at ho5 | (simp only [Int.reduceToNat] at ho5; rw [← Ny231.out] at ho5)); have n0_ := Aside0.mk (Kd.R_lower ho5 (below_size (bq))); have n1_ := Aside0.mk (below_step (bq) hb); clear HB; have HO233 := n0_; have HB := n1_; clear n0_ n1_; clear hb ho5) | (go_at_call 67; (with_reducible refine (impl_endOf.calls k _ _ l0 a1 t234 _ ?side1 ?side2 A3.out).mono ?_); (case side1 => exact cq (Kd.C_below HR0.out HB.out)); (case side2 => exact HC0.out); rintro e w' ⟨rfl, ⟨nd, rfl⟩⟩; (try first | exact ⟨rfl, _, World.drewN_drewN _ _ _⟩ | exact ⟨rfl, _, Eq.trans (World.drewN_drewN _ _ _) (congrArg (World.drewN _) (Nat.add_assoc _ _ _))⟩))))
  go_loopg [5, 6] k (fun kq v5 v6 w' => ∃ (x5_1 : List Int) (x6_1 : Int), v6 = .int .i64 x6_1 ∧ Aside0 (impl_tryFrom.l0 kq l0 a1 x5_1 x6_1 = some r) ∧ Aside0 (kq ≤ k) ∧ Aside0 (Kd.R (Kd.int .i64) 3 w' w.heap.size (fun _ => True) v5 x5_1) ∧ Aside0 (Below w.heap.size w w'))
  case atStart => exact ⟨(y231), (t234), (sq), H', ⟨Nat.le_refl _⟩, ⟨rq HO233.out⟩, ⟨bq⟩⟩
  case round =>
    clear H'
    try clear p2
    obtain ⟨x5_1, x6_1, rfl, HA, HK1, HO_5, HB⟩ := hrel
    cases gk with
    | zero => exact absurd HA.out (by simp [impl_tryFrom.l0])
    | succ k1 =>
      have H := HA.out
      clear HA
      simp only [impl_tryFrom.l0] at H
      have HC6 := Aside0.mk H
      clear H
      go_upto_region 3 with (fail)
      repeat (go_quiet (fail); go_upto_region 3 with (fail))
      go_cut [36] (fun v36 wc => ∃ (kq : Nat) (x36_5 : Bool), v36 = .bool x36_5 ∧ Aside0 (impl_tryFrom.j1 kq l0 a1 x5_1 x6_1 x36_5 = some r) ∧ Aside0 (kq ≤ k1) ∧ Aside0 (Kd.R (Kd.int .i64) 3 wc w.heap.size (fun _ => True) u5 x5_1) ∧ Aside0 (Below w.heap.size w wc))
      case first =>
        have H := HC6.out
        clear HC6
        by_cases c7 : x6_1 < (l0.length : Int)
        · rw [if_pos c7] at H
          have c7b0 : decide (x6_1 < (l0.length : Int)) = true := decide_eq_true c7
          clear c7
          (first | rw [c7b0] | (simp only [i64_w, i32_w]; rw [c7b0]) | skip)
          by_cases c8 : 0 ≤ x6_1
          · rw [if_pos c8] at H
            have c8b0 : decide (0 ≤ x6_1) = true := decide_eq_true c8
            clear c8
            by_cases c9 : 0 ≤ a1
            · rw [if_pos c9] at H
              have c9b0 : decide (0 ≤ a1) = true := decide_eq_true c9
              clear c9
              by_cases c10 : a1 < (l0.length : Int)
              · rw [if_pos c10] at H
                have c10b0 : decide (a1 < (l0.length : Int)) = true := decide_eq_true c10
                clear c10
                by_cases c11 : ((rd_T50 l0 x6_1).f0) = ((rd_T50 l0 a1).f0)
                · rw [if_pos c11] at H
                  have c11b0 : (((rd_T50 l0 x6_1).f0) == ((rd_T50 l0 a1).f0)) = true := beq_iff_eq.mpr c11
                  have c11b1 : (((rd_T50 l0 x6_1).f0) != ((rd_T50 l0 a1).f0)) = false := bne_eq_false_iff_eq.mpr c11
                  clear c11
                  replace H := Option.bind_eq_some_iff.mp H
                  obtain ⟨t238, A120, H⟩ := H
                  replace H : (impl_tryFrom.j1 k1 l0 a1 x5_1 x6_1 t238) = some r := H
                  have A12 := Aside0.mk A120
                  clear A120
                  have H' := Aside0.mk H
                  clear H
                  have p235 : 0 ≤ (x6_1 : Int) := of_decide_eq_true (uq)
                  have q235 : x6_1 < (l0.length : Int) := of_decide_eq_true (uq)
                  obtain ⟨ad235, e235, hx235_0, hx235_1, hx235_2, hx235_3⟩ := at_T50 HR0.out x6_1 p235 q235
                  cases e235
                  replace hx235_0 := (HB.out.cell (World.block_lt_of_cell? w _ hx235_0)).trans hx235_0
                  replace hx235_1 := (HB.out.cell (World.block_lt_of_cell? w _ hx235_1)).trans hx235_1
                  replace hx235_2 := (HB.out.cell (World.block_lt_of_cell? w _ hx235_2)).trans hx235_2
                  replace hx235_3 := (HB.out.cell (World.block_lt_of_cell? w _ hx235_3)).trans hx235_3
                  replace p235 := eq_true p235
                  replace q235 := eq_true q235
                  have p236 : 0 ≤ (a1 : Int) := of_decide_eq_true (uq)
                  have q236 : a1 < (l0.length : Int) := of_decide_eq_true (uq)
                  obtain ⟨ad236, e236, hx236_0, hx236_1, hx236_2, hx236_3⟩ := at_T50 HR0.out a1 p236 q236
                  obtain rfl : ad235 = ad236 := (by injection e236)
                  replace hx236_0 := (HB.out.cell (World.block_lt_of_cell? w _ hx236_0)).trans hx236_0
                  replace hx236_1 := (HB.out.cell (World.block_lt_of_cell? w _ hx236_1)).trans hx236_1
                  replace hx236_2 := (HB.out.cell (World.block_lt_of_cell? w _ hx236_2)).trans hx236_2
                  replace hx236_3 := (HB.out.cell (World.block_lt_of_cell? w _ hx236_3)).trans hx236_3
                  replace p236 := eq_true p236
                  replace q236 := eq_true q236
                  have p237 : 0 ≤ (x6_1 : Int) := of_decide_eq_true (uq)
                  have q237 : x6_1 < (l0.length : Int) := of_decide_eq_true (uq)
                  obtain ⟨ad237, e237, hx237_0, hx237_1, hx237_2, hx237_3⟩ := at_T50 HR0.out x6_1 p237 q237
                  obtain rfl : ad235 = ad237 := (by injection e237)
                  replace hx237_0 := (HB.out.cell (World.block_lt_of_cell? w _ hx237_0)).trans hx237_0
                  replace hx237_1 := (HB.out.cell (World.block_lt_of_cell? w _ hx237_1)).trans hx237_1
                  replace hx237_2 := (HB.out.cell (World.block_lt_of_cell? w _ hx237_2)).trans hx237_2
                  replace hx237_3 := (HB.out.cell (World.block_lt_of_cell? w _ hx237_3)).trans hx237_3
                  replace p237 := eq_true p237
                  replace q237 := eq_true q237
                  go_wp2_with (first | (go_at_call 44; (with_reducible refine (impl_within.calls ((rd_T50 l0 x6_1).f1) 8 10 t238 _ A12.out).mono ?_); rintro e w' ⟨rfl, ⟨nd, rfl⟩⟩; (try first | exact ⟨rfl, _, World.drewN_drewN _ _ _⟩ | exact ⟨rfl, _, Eq.trans (World.drewN_drewN _ _ _) (congrArg (World.drewN _) (Nat.add_assoc _ _ _))⟩)))
                  repeat (go_quiet (first | (go_at_call 44; (with_reducible refine (impl_within.calls ((rd_T50 l0 x6_1).f1) 8 10 t238 _ A12.out).mono ?_); rintro e w' ⟨rfl, ⟨nd, rfl⟩⟩; (try first | exact ⟨rfl, _, World.drewN_drewN _ _ _⟩ | exact ⟨rfl, _, Eq.trans (World.drewN_drewN _ _ _) (congrArg (World.drewN _) (Nat.add_assoc _ _ _))⟩))); try go_wp2_with (first | (go_at_call 44; (with_reducible refine (impl_within.calls ((rd_T50 l0 x6_1).f1) 8 10 t238 _ A12.out).mono ?_); rintro e w' ⟨rfl, ⟨nd, rfl⟩⟩; (try first | exact ⟨rfl, _, World.drewN_drewN _ _ _⟩ | exact ⟨rfl, _, Eq.trans (World.drewN_drewN _ _ _) (congrArg (World.drewN _) (Nat.add_assoc _ _ _))⟩))))
                  go_meet
                  case rel => exact ⟨_, (t238), (sq), H', ⟨by have := HK1.out; first | omega | exact Nat.le_refl _⟩, ⟨rq HO_5.out⟩, ⟨bq⟩⟩
                · rw [if_neg c11] at H
                  have c11b0 : (((rd_T50 l0 x6_1).f0) == ((rd_T50 l0 a1).f0)) = false := beq_eq_false_iff_ne.mpr c11
                  have c11b1 : (((rd_T50 l0 x6_1).f0) != ((rd_T50 l0 a1).f0)) = true := bne_iff_ne.mpr c11
                  have H' := Aside0.mk H
                  clear H
                  have p235 : 0 ≤ (x6_1 : Int) := of_decide_eq_true (uq)
                  have q235 : x6_1 < (l0.length : Int) := of_decide_eq_true (uq)
                  obtain ⟨ad235, e235, hx235_0, hx235_1, hx235_2, hx235_3⟩ := at_T50 HR0.out x6_1 p235 q235
                  cases e235
                  replace hx235_0 := (HB.out.cell (World.block_lt_of_cell? w _ hx235_0)).trans hx235_0
                  replace hx235_1 := (HB.out.cell (World.block_lt_of_cell? w _ hx235_1)).trans hx235_1
                  replace hx235_2 := (HB.out.cell (World.block_lt_of_cell? w _ hx235_2)).trans hx235_2
                  replace hx235_3 := (HB.out.cell (World.block_lt_of_cell? w _ hx235_3)).trans hx235_3
                  replace p235 := eq_true p235
                  replace q235 := eq_true q235
                  have p236 : 0 ≤ (a1 : Int) := of_decide_eq_true (uq)
                  have q236 : a1 < (l0.length : Int) := of_decide_eq_true (uq)
                  obtain ⟨ad236, e236, hx236_0, hx236_1, hx236_2, hx236_3⟩ := at_T50 HR0.out a1 p236 q236
                  obtain rfl : ad235 = ad236 := (by injection e236)
                  replace hx236_0 := (HB.out.cell (World.block_lt_of_cell? w _ hx236_0)).trans hx236_0
                  replace hx236_1 := (HB.out.cell (World.block_lt_of_cell? w _ hx236_1)).trans hx236_1
                  replace hx236_2 := (HB.out.cell (World.block_lt_of_cell? w _ hx236_2)).trans hx236_2
                  replace hx236_3 := (HB.out.cell (World.block_lt_of_cell? w _ hx236_3)).trans hx236_3
                  replace p236 := eq_true p236
                  replace q236 := eq_true q236
                  go_wp2
                  repeat (go_quiet (fail); try go_wp2)
                  go_meet
                  case rel => exact ⟨_, (false), (sq), H', ⟨by have := HK1.out; first | omega | exact Nat.le_refl _⟩, ⟨rq HO_5.out⟩, ⟨bq⟩⟩
              · rw [if_neg c10] at H
                exact absurd H (by simp)
            · rw [if_neg c9] at H
              exact absurd H (by simp)
          · rw [if_neg c8] at H
            exact absurd H (by simp)
        · rw [if_neg c7] at H
          have c7b0 : decide (x6_1 < (l0.length : Int)) = false := decide_eq_false c7
          clear c7
          (first | rw [c7b0] | (simp only [i64_w, i32_w]; rw [c7b0]) | skip)
          have H' := Aside0.mk H
          clear H
          go_wp2
          repeat (go_quiet (fail); try go_wp2)
          go_meet
          case rel => exact ⟨_, (false), (sq), H', ⟨by have := HK1.out; first | omega | exact Nat.le_refl _⟩, ⟨rq HO_5.out⟩, ⟨bq⟩⟩
      case rest =>
        clear HC6
        try clear c1
        try clear p2
        try clear q2
        try clear hx2
        try clear c6
        try clear c7
        try clear c7b0
        try clear c8
        try clear c8b0
        try clear c9
        try clear c9b0
        try clear c10
        try clear c10b0
        try clear c11
        try clear c11b0
        try clear c11b1
        try clear hx235_0
        try clear hx235_1
        try clear hx235_2
        try clear hx235_3
        try clear hx236_0
        try clear hx236_1
        try clear hx236_2
        try clear hx236_3
        try clear hx237_0
        try clear hx237_1
        try clear hx237_2
        try clear hx237_3
        try clear p2
        try clear p235
        try clear p236
        try clear p237
        try clear q235
        try clear q236
        try clear q237
        obtain ⟨kq, x36_5, rfl, HA, HJ5, HO_5, HB⟩ := hcut
        cases kq with
        | zero => exact absurd HA.out (by simp [impl_tryFrom.j1])
        | succ kj5 =>
          have H := HA.out
          clear HA
          simp only [impl_tryFrom.j1] at H
          by_cases c13 : x36_5 = true
          · subst c13
            have H1 : (if x5_1.length < 17592186044416 then ((impl_endOf.f kj5 l0 x6_1).bind fun t242 => (impl_tryFrom.l0 kj5 l0 a1 (x5_1 ++ [x6_1]) t242)) else (none)) = some r := by rw [if_pos rfl] at H; exact H
            clear H
            have H := H1
            clear H1
            by_cases c14 : x5_1.length < 17592186044416
            · rw [if_pos c14] at H
              have LMc14 := Aside0.mk c14
              clear c14
              obtain ⟨y239, hy239⟩ : ∃ y_ : List Int, y_ = (x5_1 ++ [x6_1]) := ⟨_, rfl⟩
              replace H : ((impl_endOf.f kj5 l0 x6_1).bind fun t242 => (impl_tryFrom.l0 kj5 l0 a1 y239 t242)) = some r := by first | (rw [hy239]; with_reducible exact H) | (have H2_ := (Option.bind_some _ _).symm.trans H; rw [hy239]; with_reducible exact H2_) | (have H2_ := (Option.bind_some _ _).symm.trans H; with_reducible exact H2_) | with_reducible exact H | (rw [hy239]; exact H) | exact H
              have Ny239 := Aside0.mk hy239
              clear hy239
              replace H := Option.bind_eq_some_iff.mp H
              obtain ⟨t242, A150, H⟩ := H
              replace H : (impl_tryFrom.l0 kj5 l0 a1 y239 t242) = some r := H
              have A15 := Aside0.mk A150
              clear A150
              have H' := Aside0.mk H
              clear H
              go_wp2_with (first | ((with_reducible refine gate_builtin (b := .append) (xs := #[.tmp 40, .tmp 42]) rfl ?_); at_builtin; refine Kd.R_append (Kd.int .i64) (w0 := w) w.heap.size rfl (.tmp 40) (.tmp 42) 38 3 (.int .i64 0) 8 rfl Try.underlying38 info3 rfl (by decide) (by omega) u5 x5_1 x6_1 [.int .i64 x6_1] (fun _ => True) (fun _ => False) rfl rfl ?aP (fun _ hk => hk.elim) ?aF ?aO ?aB ?aS ?aL ?_; (case aP => exact rfl); (case aB => exact (bq)); (case aF => exact (fun _ _ => trivial)); (case aO => exact (rq HO_5.out)); (case aS => exact (below_size (bq))); (case aL => have := LMc14.out; omega); intro v240 w16 ho hb hg hat; rw [← Ny239.out] at ho; have n0_ := Aside0.mk (hb); have n1_ := Aside0.mk (ho); clear HB; clear HO_5; have HB := n0_; have HO241 := n1_; clear n0_ n1_; clear ho hb hg hat) | (go_at_call 67; (with_reducible refine (impl_endOf.calls kj5 _ _ l0 x6_1 t242 _ ?side1 ?side2 A15.out).mono ?_); (case side1 => exact cq (Kd.C_below HR0.out HB.out)); (case side2 => exact HC0.out); rintro e w' ⟨rfl, ⟨nd, rfl⟩⟩; (try first | exact ⟨rfl, _, World.drewN_drewN _ _ _⟩ | exact ⟨rfl, _, Eq.trans (World.drewN_drewN _ _ _) (congrArg (World.drewN _) (Nat.add_assoc _ _ _))⟩)))
              repeat (go_quiet (first | ((with_reducible refine gate_builtin (b := .append) (xs := #[.tmp 40, .tmp 42]) rfl ?_); at_builtin; refine Kd.R_append (Kd.int .i64) (w0 := w) w.heap.size rfl (.tmp 40) (.tmp 42) 38 3 (.int .i64 0) 8 rfl Try.underlying38 info3 rfl (by decide) (by omega) u5 x5_1 x6_1 [.int .i64 x6_1] (fun _ => True) (fun _ => False) rfl rfl ?aP (fun _ hk => hk.elim) ?aF ?aO ?aB ?aS ?aL ?_; (case aP => exact rfl); (case aB => exact (bq)); (case aF => exact (fun _ _ => trivial)); (case aO => exact (rq HO_5.out)); (case aS => exact (below_size (bq))); (case aL => have := LMc14.out; omega); intro v240 w16 ho hb hg hat; rw [← Ny239.out] at ho; have n0_ := Aside0.mk (hb); have n1_ := Aside0.mk (ho); clear HB; clear HO_5; have HB := n0_; have HO241 := n1_; clear n0_ n1_; clear ho hb hg hat) | (go_at_call 67; (with_reducible refine (impl_endOf.calls kj5 _ _ l0 x6_1 t242 _ ?side1 ?side2 A15.out).mono ?_); (case side1 => exact cq (Kd.C_below HR0.out HB.out)); (case side2 => exact HC0.out); rintro e w' ⟨rfl, ⟨nd, rfl⟩⟩; (try first | exact ⟨rfl, _, World.drewN_drewN _ _ _⟩ | exact ⟨rfl, _, Eq.trans (World.drewN_drewN _ _ _) (congrArg (World.drewN _) (Nat.add_assoc _ _ _))⟩))); try go_wp2_with (first | ((with_reducible refine gate_builtin (b := .append) (xs := #[.tmp 40, .tmp 42]) rfl ?_); at_builtin; refine Kd.R_append (Kd.int .i64) (w0 := w) w.heap.size rfl (.tmp 40) (.tmp 42) 38 3 (.int .i64 0) 8 rfl Try.underlying38 info3 rfl (by decide) (by omega) u5 x5_1 x6_1 [.int .i64 x6_1] (fun _ => True) (fun _ => False) rfl rfl ?aP (fun _ hk => hk.elim) ?aF ?aO ?aB ?aS ?aL ?_; (case aP => exact rfl); (case aB => exact (bq)); (case aF => exact (fun _ _ => trivial)); (case aO => exact (rq HO_5.out)); (case aS => exact (below_size (bq))); (case aL => have := LMc14.out; omega); intro v240 w16 ho hb hg hat; rw [← Ny239.out] at ho; have n0_ := Aside0.mk (hb); have n1_ := Aside0.mk (ho); clear HB; clear HO_5; have HB := n0_; have HO241 := n1_; clear n0_ n1_; clear ho hb hg hat) | (go_at_call 67; (with_reducible refine (impl_endOf.calls kj5 _ _ l0 x6_1 t242 _ ?side1 ?side2 A15.out).mono ?_); (case side1 => exact cq (Kd.C_below HR0.out HB.out)); (case side2 => exact HC0.out); rintro e w' ⟨rfl, ⟨nd, rfl⟩⟩; (try first | exact ⟨rfl, _, World.drewN_drewN _ _ _⟩ | exact ⟨rfl, _, Eq.trans (World.drewN_drewN _ _ _) (congrArg (World.drewN _) (Nat.add_assoc _ _ _))⟩))))
              go_roundg kj5
              case measure => have := HK1.out; have := HJ5.out; omega
              case rel => exact ⟨(y239), (t242), (sq), H', ⟨by have := HK1.out; have := HJ5.out; omega⟩, ⟨rq HO241.out⟩, ⟨bq⟩⟩
            · rw [if_neg c14] at H
              exact absurd H (by simp)
          · replace c13 := Bool.eq_false_iff.mpr c13
            subst c13
            have H1 : (some x5_1) = some r := by rw [if_neg (show ¬ (false = true) by decide)] at H; exact H
            clear H
            have H := H1
            clear H1
            obtain rfl := Option.some.inj H
            go_wp2
            repeat (go_quiet (fail); try go_wp2)
            go_ret
            exact ⟨_, by first | rfl | (simp [errW_none, errW_some] <;> rfl) | (simp [*, errW_none, errW_some] <;> rfl), rq HO_5.out, bq⟩
end Go.Proofs.Ytbclgpgolbmlpaa.P
end

section
namespace Go.Proofs.Ytbclgpgolbmlpaa.P
open Go.RowKit Go.Proofs.YtbclgpgolbmlpaaW.PrintWords Go.Proofs.YtbclgpgolbmlpaaW.PrintLast Go.Proofs.YtbclgpgolbmlpaaW.PrintMore
attribute [local go_sem] max2_int min2_int max_two min_two max_three min_three max_four min_four isSome_cell_setCell   -- for this text's walks alone
set_option linter.unusedVariables false
set_option linter.unusedSimpArgs false
def impl_siblings.l0 : Nat → List (S50) → Int → List Int → Int → Option (List Int)
  | 0, _, _, _, _ => none
  | k + 1, x0, x2, x7, x8 => if x8 < x2 then (if x7.length < 17592186044416 then ((impl_endOf.f k x0 x8).bind fun t249 => (impl_siblings.l0 k x0 x2 (x7 ++ [x8]) t249)) else (none)) else (some x7)
def impl_siblings.f (k : Nat) (l0 : List (S50)) (a1 : Int) (a2 : Int) : Option (List Int) := impl_siblings.l0 k l0 a2 (([] : List Int)) a1
theorem impl_siblings.mono_l : ∀ k, (∀ y0 y1 y2 y3, LeO (impl_siblings.l0 k y0 y1 y2 y3) (impl_siblings.l0 (k + 1) y0 y1 y2 y3))
  | 0 => fun _ _ _ _ r h => by simp [impl_siblings.l0] at h
  | k + 1 => by
    have ih0 := impl_siblings.mono_l k
    · intro y0 y1 y2 y3
      unfold impl_siblings.l0
      repeat' first
      | (with_reducible exact ih0 _ _ _ _)
      | (with_reducible exact impl_endOf.mono _ _ _)
      | (with_reducible exact LeO.refl _)
      | (with_reducible exact LeO.none _)
      | (with_reducible refine LeO.ite ?_ ?_)
      | (with_reducible refine LeO.bind ?_ (fun _ => ?_))
      | exact ih0 _ _ _ _
      | exact impl_endOf.mono _ _ _
      | exact LeO.none _
      | refine LeO.ite ?_ ?_
      | refine LeO.bind ?_ (fun _ => ?_)
theorem impl_siblings.mono : ∀ a0 a1 a2 k, LeO (impl_siblings.f k a0 a1 a2) (impl_siblings.f (k + 1) a0 a1 a2) := by
  intro a0 a1 a2 k
  have ih0 := impl_siblings.mono_l k
  unfold impl_siblings.f
  repeat' first
      | (with_reducible exact ih0 _ _ _ _)
      | (with_reducible exact impl_endOf.mono _ _ _)
      | (with_reducible exact LeO.refl _)
      | (with_reducible exact LeO.none _)
      | (with_reducible refine LeO.ite ?_ ?_)
      | (with_reducible refine LeO.bind ?_ (fun _ => ?_))
      | exact ih0 _ _ _ _
      | exact impl_endOf.mono _ _ _
      | exact LeO.none _
      | refine LeO.ite ?_ ?_
      | refine LeO.bind ?_ (fun _ => ?_)
set_option maxHeartbeats 8000000 in
set_option maxRecDepth 100000 in
theorem impl_siblings.calls (k : Nat) (A0 : Option Addr) (c0 : Nat) (l0 : List (S50)) (a1 : Int) (a2 : Int) (r : List Int) (w : World) (hr0 : Kd.C k50 w A0 l0.length l0) (hc0 : l0.length ≤ c0) (h : impl_siblings.f k l0 a1 a2 = some r) :
    Calls Try.prog 91 #[.slice A0 l0.length c0, .int .i64 a1, .int .i64 a2] w fun e w' => ∃ v0_ : Value, e = .returned (v0_) ∧ Kd.R (Kd.int .i64) 3 w' w.heap.size (fun _ => True) v0_ r ∧ Below w.heap.size w w' := by
  have HR0 := Aside0.mk hr0
  have HC0 := Aside0.mk hc0
  clear hr0 hc0
  have HB := Aside0.mk (Below.refl w.heap.size w)
  have H : (impl_siblings.l0 k l0 a2 (([] : List Int)) a1) = some r := h
  clear h
  obtain ⟨y243, hy243⟩ : ∃ y_ : List Int, y_ = (([] : List Int)) := ⟨_, rfl⟩
  replace H : (impl_siblings.l0 k l0 a2 y243 a1) = some r := by first | (rw [hy243]; with_reducible exact H) | (have H2_ := (Option.bind_some _ _).symm.trans H; rw [hy243]; with_reducible exact H2_) | (have H2_ := (Option.bind_some _ _).symm.trans H; with_reducible exact H2_) | with_reducible exact H | (rw [hy243]; exact H) | exact H
  have Ny243 := Aside0.mk hy243
  clear hy243
  have H' := Aside0.mk H
  clear H
  go_enter Try.func91, Try.ntmps91
  go_wp2_with (first | ((with_reducible refine gate_dst (N := 9) rfl ?_); refine Kd.R_lit (Kd.int .i64) _ 3 ?hg (N := 9) ?hd (xs := ([] : List Int)) (inner := []) (ok := fun _ => True) (okp := fun _ => True) ?hr ?hp (fun _ hk => hk) trivial (Below.refl _ _) (Nat.le_refl _) (by simp) ?_; (case hd => rfl); (case hg => rfl); (case hr => first | (go_simp; done) | (go_simp; rfl)); (case hp => exact (Reps.none _ _)); intro v244 w4 ho5 hb hg_ hnew_; clear hg_ hnew_; (first | rw [← Ny243.out] at ho5 | (simp only [Int.reduceToNat] at ho5; rw [← Ny243.out] at ho5)); have n0_ := Aside0.mk (Kd.R_lower ho5 (below_size (bq))); have n1_ := Aside0.mk (below_step (bq) hb); clear HB; have HO245 := n0_; have HB := n1_; clear n0_ n1_; clear hb ho5))
  go_loopg [7, 8] k (fun kq v7 v8 w' => ∃ (x7_1 : List Int) (x8_1 : Int), v8 = .int .i64 x8_1 ∧ Aside0 (impl_siblings.l0 kq l0 a2 x7_1 x8_1 = some r) ∧ Aside0 (kq ≤ k) ∧ Aside0 (Kd.R (Kd.int .i64) 3 w' w.heap.size (fun _ => True) v7 x7_1) ∧ Aside0 (Below w.heap.size w w'))
  case atStart => exact ⟨(y243), (a1), (sq), H', ⟨Nat.le_refl _⟩, ⟨rq HO245.out⟩, ⟨bq⟩⟩
  case round =>
    clear H'
    try clear p2
    obtain ⟨x7_1, x8_1, rfl, HA, HK1, HO_7, HB⟩ := hrel
    cases gk with
    | zero => exact absurd HA.out (by simp [impl_siblings.l0])
    | succ k1 =>
      have H := HA.out
      clear HA
      simp only [impl_siblings.l0] at H
      by_cases c6 : x8_1 < a2
      · rw [if_pos c6] at H
        have c6b0 : decide (x8_1 < a2) = true := decide_eq_true c6
        clear c6
        by_cases c7 : x7_1.length < 17592186044416
        · rw [if_pos c7] at H
          have LMc7 := Aside0.mk c7
          clear c7
          obtain ⟨y246, hy246⟩ : ∃ y_ : List Int, y_ = (x7_1 ++ [x8_1]) := ⟨_, rfl⟩
          replace H : ((impl_endOf.f k1 l0 x8_1).bind fun t249 => (impl_siblings.l0 k1 l0 a2 y246 t249)) = some r := by first | (rw [hy246]; with_reducible exact H) | (have H2_ := (Option.bind_some _ _).symm.trans H; rw [hy246]; with_reducible exact H2_) | (have H2_ := (Option.bind_some _ _).symm.trans H; with_reducible exact H2_) | with_reducible exact H | (rw [hy246]; exact H) | exact H
          have Ny246 := Aside0.mk hy246
          clear hy246
          replace H := Option.bind_eq_some_iff.mp H
          obtain ⟨t249, A80, H⟩ := H
          replace H : (impl_siblings.l0 k1 l0 a2 y246 t249) = some r := H
          have A8 := Aside0.mk A80
          clear A80
          have H' := Aside0.mk H
          clear H
          go_wp2_with (first | ((with_reducible refine gate_builtin (b := .append) (xs := #[.tmp 17, .tmp 19]) rfl ?_); at_builtin; refine Kd.R_append (Kd.int .i64) (w0 := w) w.heap.size rfl (.tmp 17) (.tmp 19) 38 3 (.int .i64 0) 8 rfl Try.underlying38 info3 rfl (by decide) (by omega) u7 x7_1 x8_1 [.int .i64 x8_1] (fun _ => True) (fun _ => False) rfl rfl ?aP (fun _ hk => hk.elim) ?aF ?aO ?aB ?aS ?aL ?_; (case aP => exact rfl); (case aB => exact (bq)); (case aF => exact (fun _ _ => trivial)); (case aO => exact (rq HO_7.out)); (case aS => exact (below_size (bq))); (case aL => have := LMc7.out; omega); intro v247 w9 ho hb hg hat; rw [← Ny246.out] at ho; have n0_ := Aside0.mk (hb); have n1_ := Aside0.mk (ho); clear HB; clear HO_7; have HB := n0_; have HO248 := n1_; clear n0_ n1_; clear ho hb hg hat) | ((with_reducible refine gate_callee (f := 67) rfl ?_); refine goesL_ (some 16) rfl rfl Try.func67 (by kernel_rfl) rfl #[.slice A0 l0.length c0, .int .i64 x8_1] rfl (aq) ?_; (with_reducible refine (impl_endOf.calls k1 _ _ l0 x8_1 t249 _ ?side1 ?side2 A8.out).mono ?_); (case side1 => exact cq (Kd.C_below HR0.out HB.out)); (case side2 => exact HC0.out); rintro e w' ⟨rfl, ⟨nd, rfl⟩⟩; refine ⟨_, rfl, ?_⟩))
          go_roundg k1
          case measure => have := HK1.out; omega
          case rel => exact ⟨(y246), (t249), (sq), H', ⟨by have := HK1.out; omega⟩, ⟨rq HO248.out⟩, ⟨bq⟩⟩
        · rw [if_neg c7] at H
          exact absurd H (by simp)
      · rw [if_neg c6] at H
        have c6b0 : decide (x8_1 < a2) = false := decide_eq_false c6
        clear c6
        obtain rfl := Option.some.inj H
        go_wp2
        go_ret
        exact ⟨_, by first | rfl | (simp [errW_none, errW_some] <;> rfl) | (simp [*, errW_none, errW_some] <;> rfl), rq HO_7.out, bq⟩
end Go.Proofs.Ytbclgpgolbmlpaa.P
end

section
namespace Go.Proofs.Ytbclgpgolbmlpaa.P
open Go.RowKit Go.Proofs.YtbclgpgolbmlpaaW.PrintWords Go.Proofs.YtbclgpgolbmlpaaW.PrintLast Go.Proofs.YtbclgpgolbmlpaaW.PrintMore
attribute [local go_sem] max2_int min2_int max_two min_two max_three min_three max_four min_four isSome_cell_setCell   -- for this text's walks alone
set_option linter.unusedVariables false
set_option linter.unusedSimpArgs false
def impl_tryOk.go (p : List S50) : List Int → Int → Int → Option (Option Int)
  | [], ex, _ => some (some ex)
  | k :: ks, ex, last => if 0 ≤ k then if k < (p.length : Int) then
      if (rd_T50 p k).f1 = 8 then if last ≤ 8 then impl_tryOk.go p ks (ex + 1) (rd_T50 p k).f1 else some none
      else if (rd_T50 p k).f1 = 9 then if last = 8 then impl_tryOk.go p ks ex (rd_T50 p k).f1 else some none
      else if (rd_T50 p k).f1 = 10 then if last < 10 then impl_tryOk.go p ks ex (rd_T50 p k).f1 else some none
      else some none
    else none else none
def impl_tryOk.f (l0 : List S50) (l1 : List Int) : Option Bool := if 1 ≤ l1.length then (impl_tryOk.go l0 (l1.drop 1) 0 7).bind fun r => match r with | none => some false | some ex => some (decide (1 < l1.length) && decide (ex ≤ 6)) else none
theorem impl_tryOk.step {p : List S50} {l : List Int} {k : Nat} {ex last : Int} {r : Option Int} (hk : k < l.length) (h : impl_tryOk.go p (l.drop k) ex last = some r) : impl_tryOk.go p (l[k] :: l.drop (k + 1)) ex last = some r := by
  rw [← List.drop_eq_getElem_cons hk]; exact h
set_option maxHeartbeats 8000000 in
set_option maxRecDepth 100000 in
theorem impl_tryOk.calls (A0 : Option Addr) (c0 : Nat) (l0 : List S50) (A1 : Option Addr) (c1 : Nat) (l1 : List Int) (r : Bool) (w : World) (hr0 : Kd.C k50 w A0 l0.length l0) (hc0 : l0.length ≤ c0) (hr1 : Kd.C (Kd.int .i64) w A1 l1.length l1) (hc1 : l1.length ≤ c1) (h : impl_tryOk.f l0 l1 = some r) :
    Calls Try.prog 92 #[.slice A0 l0.length c0, .slice A1 l1.length c1] w fun e w' => e = .returned (.bool r) ∧ Drawn0 w w' := by
  have hu50 := Try.underlying50
  have hm : l1.length ≤ 9223372036854775807 := Kd.C_max hr1
  simp only [impl_tryOk.f] at h
  by_cases h1 : 1 ≤ l1.length
  · rw [if_pos h1] at h
    obtain ⟨q, hq, h⟩ := Option.bind_eq_some_iff.mp h
    have HR0 := Aside0.mk hr0
    have HR1 := Aside0.mk hr1
    have H0 := Aside0.mk hq
    have HZ := Aside0.mk h
    have h1b : (1 : Int) ≤ (l1.length : Int) := by omega
    obtain ⟨i03, hi03, _, hsz3, _⟩ := info_parts info3
    obtain ⟨A', hcut, hA', hC'⟩ := print_drop_of (P := Try.prog) (Value.int .i64) (0 : Int) 38 3 .i64 Try.underlying38 hi03 hsz3 A1 c1 l1 1 (by omega) h1b hc1
    replace hA' := hA' _ (Kd.reads_of_C hr1)
    rw [show ((1 : Int)).toNat = 1 from rfl] at hcut hA' hC'
    generalize hl2 : l1.drop 1 = l2 at hcut hA' hC' H0
    have hdl : l2.length < l1.length := by rw [← hl2, List.length_drop]; omega
    clear hl2
    have HS := Aside0.mk hA'
    clear hr0 hr1 hq h hA' hi03 hsz3
    go_enter Try.func92, Try.ntmps92
    go_wp2
    go_loop [5, 6, 13] (fun i5 i6 i13 => ∃ (k : Nat) (ex last : Int), i13 = .int .i64 k ∧ i5 = .int .i64 ex ∧ i6 = .int .i64 last ∧ k ≤ l2.length ∧ 0 ≤ ex ∧ ex ≤ (k : Int) ∧ Aside0 (impl_tryOk.go l0 (l2.drop k) ex last = some q)) (fun _ _ i13 => l2.length - (intOf i13).toNat)
    case atStart => exact ⟨0, 0, 7, rfl, rfl, rfl, Nat.zero_le _, by omega, by omega, H0⟩
    case round =>
      clear H0
      obtain ⟨k, ex, last, rfl, rfl, rfl, hk, hx0, hx1, HA⟩ := hrel
      by_cases hlt : k < l2.length
      · have HB := Aside0.mk (impl_tryOk.step hlt HA.out)
        clear HA
        have HC := HS.out
        obtain ⟨ad, rfl, hx⟩ := Kd.at_int (Kd.C_of_reads (h1 := fun _ => rfl) HC) (k : Int) (by omega) (by omega)
        have hrd : rd l2 (k : Int) = l2[k] := by simp only [rd, Int.toNat_natCast, List.getD_eq_getElem?_getD, List.getElem?_eq_getElem hlt, Option.getD_some]
        rw [hrd, Int.toNat_natCast] at hx
        clear hrd HC
        have hgo := HB.out
        generalize l2[k] = x at hgo hx
        simp only [impl_tryOk.go] at hgo
        clear HB
        by_cases h0 : 0 ≤ x
        · rw [if_pos h0] at hgo
          by_cases h2 : x < (l0.length : Int)
          · rw [if_pos h2] at hgo
            obtain ⟨ad0, rfl, hy0, hy1, hy2, hy3⟩ := at_T50 HR0.out x h0 h2
            generalize hkd : (rd_T50 l0 x).f1 = kd at hgo hy1
            clear hkd
            have q2 := eq_true h2
            have q0 := eq_true h0
            clear h0 h2
            by_cases e8 : kd = 8
            · subst e8
              rw [if_pos rfl] at hgo
              by_cases hl : last ≤ 8
              · rw [if_pos hl] at hgo
                have hlb := decide_eq_true hl
                clear hl
                have HG := Aside0.mk hgo
                clear hgo HZ
                go_wp2
                go_round
                case rel => exact ⟨k + 1, ex + 1, _, by go_num, rfl, rfl, hlt, by omega, by omega, HG⟩
                case measure => simp [intOf]; omega
              · rw [if_neg hl] at hgo
                have hlb := decide_eq_false hl
                clear hl
                obtain rfl : none = q := by simpa using hgo
                have HR := Aside0.mk (by simpa using HZ.out : r = false)
                clear hgo HZ
                go_wp2
                go_ret
                exact ⟨by rw [HR.out]; rfl, Drawn0.refl _⟩
            · rw [if_neg e8] at hgo
              have e8b : (kd == 8) = false := beq_eq_false_iff_ne.2 e8
              clear e8
              by_cases e9 : kd = 9
              · subst e9
                rw [if_pos rfl] at hgo
                by_cases hl : last = 8
                · rw [if_pos hl] at hgo
                  have hlb : (last == 8) = true := beq_iff_eq.2 hl
                  clear hl
                  have HG := Aside0.mk hgo
                  clear hgo HZ
                  go_wp2
                  go_round
                  case rel => exact ⟨k + 1, ex, _, by go_num, rfl, rfl, hlt, by omega, by omega, HG⟩
                  case measure => simp [intOf]; omega
                · rw [if_neg hl] at hgo
                  have hlb : (last == 8) = false := beq_eq_false_iff_ne.2 hl
                  clear hl
                  obtain rfl : none = q := by simpa using hgo
                  have HR := Aside0.mk (by simpa using HZ.out : r = false)
                  clear hgo HZ
                  go_wp2
                  go_ret
                  exact ⟨by rw [HR.out]; rfl, Drawn0.refl _⟩
              · rw [if_neg e9] at hgo
                have e9b : (kd == 9) = false := beq_eq_false_iff_ne.2 e9
                clear e9
                by_cases e10 : kd = 10
                · subst e10
                  rw [if_pos rfl] at hgo
                  by_cases hl : last < 10
                  · rw [if_pos hl] at hgo
                    have hlb := decide_eq_true hl
                    clear hl
                    have HG := Aside0.mk hgo
                    clear hgo HZ
                    go_wp2
                    go_round
                    case rel => exact ⟨k + 1, ex, _, by go_num, rfl, rfl, hlt, by omega, by omega, HG⟩
                    case measure => simp [intOf]; omega
                  · rw [if_neg hl] at hgo
                    have hlb := decide_eq_false hl
                    clear hl
                    obtain rfl : none = q := by simpa using hgo
                    have HR := Aside0.mk (by simpa using HZ.out : r = false)
                    clear hgo HZ
                    go_wp2
                    go_ret
                    exact ⟨by rw [HR.out]; rfl, Drawn0.refl _⟩
                · rw [if_neg e10] at hgo
                  have e10b : (kd == 10) = false := beq_eq_false_iff_ne.2 e10
                  clear e10
                  obtain rfl : none = q := by simpa using hgo
                  have HR := Aside0.mk (by simpa using HZ.out : r = false)
                  clear hgo HZ
                  go_wp2
                  go_ret
                  exact ⟨by rw [HR.out]; rfl, Drawn0.refl _⟩
          · rw [if_neg h2] at hgo
            cases hgo
        · rw [if_neg h0] at hgo
          cases hgo
      · have hgo := HA.out
        rw [List.drop_eq_nil_of_le (by omega)] at hgo
        obtain rfl : some ex = q := by simpa [impl_tryOk.go] using hgo
        clear hgo HA
        have HY := Aside0.mk (Option.some.inj HZ.out)
        clear HZ
        by_cases h1c : 1 < l1.length
        · have hb1 := decide_eq_true h1c
          go_wp2
          go_ret
          exact ⟨by rw [← HY.out, hb1]; rfl, Drawn0.refl _⟩
        · have hb1 := decide_eq_false h1c
          go_wp2
          go_ret
          exact ⟨by rw [← HY.out, hb1]; rfl, Drawn0.refl _⟩
  · rw [if_neg h1] at h
    cases h
end Go.Proofs.Ytbclgpgolbmlpaa.P
end
