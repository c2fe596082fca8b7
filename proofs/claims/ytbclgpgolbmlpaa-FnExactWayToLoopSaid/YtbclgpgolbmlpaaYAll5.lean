/- One part of the proofs on this program: functions of the program as plain functions, that the code comes to them, and facts on them. -/
import Derived.Test.YtbclgpgolbmlpaaYAll1
import Derived.Test.YtbclgpgolbmlpaaYAll3
import Derived.Test.YtbclgpgolbmlpaaYAll4
import Derived.Test.YtbclgpgolbmlpaaYWAuto
section
namespace Go.Proofs.Ytbclgpgolbmlpaa.P
open Go.RowKit Go.Proofs.YtbclgpgolbmlpaaW.PrintWords Go.Proofs.YtbclgpgolbmlpaaW.PrintLast Go.Proofs.YtbclgpgolbmlpaaW.PrintMore
attribute [local go_sem] max2_int min2_int max_two min_two max_three min_three max_four min_four isSome_cell_setCell   -- for this text's walks alone
set_option linter.unusedVariables false
set_option linter.unusedSimpArgs false
mutual
def impl_blockOk.l0 : Nat → List (S50) → Bool → List Int → Int → Option (Bool)
  | 0, _, _, _, _ => none
  | k + 1, x0, x3, x9, x10 => if x10 < (x9.length : Int) then (if 0 ≤ x10 then (if 0 ≤ (rd x9 x10) then (if (rd x9 x10) < (x0.length : Int) then (if ((rd_T50 x0 (rd x9 x10)).f1) = 5 then (impl_blockOk.j1 k x0 x3 x9 x10 (rd x9 x10) ((rd_T50 x0 (rd x9 x10)).f1) ((rd_T50 x0 (rd x9 x10)).f1) (((rd_T50 x0 (rd x9 x10)).f1) == 5)) else (impl_blockOk.j1 k x0 x3 x9 x10 (rd x9 x10) ((rd_T50 x0 (rd x9 x10)).f1) ((rd_T50 x0 (rd x9 x10)).f1) (((rd_T50 x0 (rd x9 x10)).f1) == 6))) else (none)) else (none)) else (none)) else (some true)
def impl_blockOk.j1 : Nat → List (S50) → Bool → List Int → Int → Int → Int → Int → Bool → Option (Bool)
  | 0, _, _, _, _, _, _, _, _ => none
  | k + 1, x0, x3, x9, x10, x11, x12, x35, x36 => if x36 = true then (if x3 = true then (impl_blockOk.l0 k x0 x3 x9 (wrap64 (x10 + 1))) else (some false)) else (if x35 = 8 then (impl_blockOk.j2 k x0 x3 x9 x10 x11 x12 x35 (x35 == 8)) else (if x35 = 9 then (impl_blockOk.j2 k x0 x3 x9 x10 x11 x12 x35 (x35 == 9)) else (impl_blockOk.j2 k x0 x3 x9 x10 x11 x12 x35 (x35 == 10))))
def impl_blockOk.j2 : Nat → List (S50) → Bool → List Int → Int → Int → Int → Int → Bool → Option (Bool)
  | 0, _, _, _, _, _, _, _, _ => none
  | k + 1, x0, x3, x9, x10, x11, x12, x35, x41 => if x41 = true then (some false) else (if x35 = 7 then ((impl_tryFrom.f k x0 x11).bind fun t255 => ((impl_tryOk.f x0 t255).bind fun t258 => (if t258 = true then (impl_blockOk.l1 k x0 x3 x9 x10 t255 t255 (t255.length : Int) 0) else (some false)))) else (if x35 = 11 then (impl_blockOk.j4 k x0 x3 x9 x10 x11 x12 (x35 == 11)) else (impl_blockOk.j4 k x0 x3 x9 x10 x11 x12 (x35 == 12))))
def impl_blockOk.l1 : Nat → List (S50) → Bool → List Int → Int → List Int → List Int → Int → Int → Option (Bool)
  | 0, _, _, _, _, _, _, _, _ => none
  | k + 1, x0, x3, x9, x10, x13, x54, x55, x56 => if x56 < x55 then (if 0 ≤ x56 then (if x56 < (x54.length : Int) then ((impl_endOf.f k x0 (rd x54 x56)).bind fun t260 => ((impl_blockOk.f k x0 (wrap64 ((rd x54 x56) + 1)) t260 x3).bind fun t261 => (if t261 = true then (impl_blockOk.l1 k x0 x3 x9 x10 x13 x54 x55 (wrap64 (x56 + 1))) else (some false)))) else (none)) else (none)) else (impl_blockOk.l0 k x0 x3 x9 (wrap64 ((wrap64 (x10 + (wrap64 ((x13.length : Int) - 1)))) + 1)))
def impl_blockOk.j4 : Nat → List (S50) → Bool → List Int → Int → Int → Int → Bool → Option (Bool)
  | 0, _, _, _, _, _, _, _ => none
  | k + 1, x0, x3, x9, x10, x11, x12, x75 => if x75 = true then ((impl_endOf.f k x0 x11).bind fun t262 => (if x3 = true then ((impl_blockOk.f k x0 (wrap64 (x11 + 1)) t262 true).bind fun t263 => (if t263 = true then (impl_blockOk.l0 k x0 x3 x9 (wrap64 (x10 + 1))) else (some false))) else ((impl_blockOk.f k x0 (wrap64 (x11 + 1)) t262 (x12 == 12)).bind fun t264 => (if t264 = true then (impl_blockOk.l0 k x0 x3 x9 (wrap64 (x10 + 1))) else (some false))))) else (impl_blockOk.l0 k x0 x3 x9 (wrap64 (x10 + 1)))
def impl_blockOk.f : Nat → List (S50) → Int → Int → Bool → Option (Bool)
  | 0, _, _, _, _ => none
  | k + 1, l0, a1, a2, a3 => (impl_siblings.f k l0 a1 a2).bind fun t250 => (impl_blockOk.l0 k l0 a3 t250 0)
end
theorem impl_blockOk.mono_l : ∀ k, (∀ y0 y1 y2 y3, LeO (impl_blockOk.f k y0 y1 y2 y3) (impl_blockOk.f (k + 1) y0 y1 y2 y3)) ∧ (∀ y0 y1 y2 y3, LeO (impl_blockOk.l0 k y0 y1 y2 y3) (impl_blockOk.l0 (k + 1) y0 y1 y2 y3)) ∧ (∀ y0 y1 y2 y3 y4 y5 y6 y7, LeO (impl_blockOk.j1 k y0 y1 y2 y3 y4 y5 y6 y7) (impl_blockOk.j1 (k + 1) y0 y1 y2 y3 y4 y5 y6 y7)) ∧ (∀ y0 y1 y2 y3 y4 y5 y6 y7, LeO (impl_blockOk.j2 k y0 y1 y2 y3 y4 y5 y6 y7) (impl_blockOk.j2 (k + 1) y0 y1 y2 y3 y4 y5 y6 y7)) ∧ (∀ y0 y1 y2 y3 y4 y5 y6 y7, LeO (impl_blockOk.l1 k y0 y1 y2 y3 y4 y5 y6 y7) (impl_blockOk.l1 (k + 1) y0 y1 y2 y3 y4 y5 y6 y7)) ∧ (∀ y0 y1 y2 y3 y4 y5 y6, LeO (impl_blockOk.j4 k y0 y1 y2 y3 y4 y5 y6) (impl_blockOk.j4 (k + 1) y0 y1 y2 y3 y4 y5 y6))
  | 0 => ⟨fun _ _ _ _ r h => by simp [impl_blockOk.f] at h, fun _ _ _ _ r h => by simp [impl_blockOk.l0] at h, fun _ _ _ _ _ _ _ _ r h => by simp [impl_blockOk.j1] at h, fun _ _ _ _ _ _ _ _ r h => by simp [impl_blockOk.j2] at h, fun _ _ _ _ _ _ _ _ r h => by simp [impl_blockOk.l1] at h, fun _ _ _ _ _ _ _ r h => by simp [impl_blockOk.j4] at h⟩
  | k + 1 => by
    obtain ⟨ih0, ih1, ih2, ih3, ih4, ih5⟩ := impl_blockOk.mono_l k
    refine ⟨?_, ?_, ?_, ?_, ?_, ?_⟩
    · intro y0 y1 y2 y3
      unfold impl_blockOk.f
      repeat' first
      | (with_reducible exact ih0 _ _ _ _)
      | (with_reducible exact ih1 _ _ _ _)
      | (with_reducible exact ih2 _ _ _ _ _ _ _ _)
      | (with_reducible exact ih3 _ _ _ _ _ _ _ _)
      | (with_reducible exact ih4 _ _ _ _ _ _ _ _)
      | (with_reducible exact ih5 _ _ _ _ _ _ _)
      | (with_reducible exact impl_endOf.mono _ _ _)
      | (with_reducible exact impl_siblings.mono _ _ _ _)
      | (with_reducible exact impl_tryFrom.mono _ _ _)
      | (with_reducible exact LeO.refl _)
      | (with_reducible exact LeO.none _)
      | (with_reducible refine LeO.ite ?_ ?_)
      | (with_reducible refine LeO.bind ?_ (fun _ => ?_))
      | exact ih0 _ _ _ _
      | exact ih1 _ _ _ _
      | exact ih2 _ _ _ _ _ _ _ _
      | exact ih3 _ _ _ _ _ _ _ _
      | exact ih4 _ _ _ _ _ _ _ _
      | exact ih5 _ _ _ _ _ _ _
      | exact impl_endOf.mono _ _ _
      | exact impl_siblings.mono _ _ _ _
      | exact impl_tryFrom.mono _ _ _
      | exact LeO.none _
      | refine LeO.ite ?_ ?_
      | refine LeO.bind ?_ (fun _ => ?_)
    · intro y0 y1 y2 y3
      unfold impl_blockOk.l0
      repeat' first
      | (with_reducible exact ih0 _ _ _ _)
      | (with_reducible exact ih1 _ _ _ _)
      | (with_reducible exact ih2 _ _ _ _ _ _ _ _)
      | (with_reducible exact ih3 _ _ _ _ _ _ _ _)
      | (with_reducible exact ih4 _ _ _ _ _ _ _ _)
      | (with_reducible exact ih5 _ _ _ _ _ _ _)
      | (with_reducible exact impl_endOf.mono _ _ _)
      | (with_reducible exact impl_siblings.mono _ _ _ _)
      | (with_reducible exact impl_tryFrom.mono _ _ _)
      | (with_reducible exact LeO.refl _)
      | (with_reducible exact LeO.none _)
      | (with_reducible refine LeO.ite ?_ ?_)
      | (with_reducible refine LeO.bind ?_ (fun _ => ?_))
      | exact ih0 _ _ _ _
      | exact ih1 _ _ _ _
      | exact ih2 _ _ _ _ _ _ _ _
      | exact ih3 _ _ _ _ _ _ _ _
      | exact ih4 _ _ _ _ _ _ _ _
      | exact ih5 _ _ _ _ _ _ _
      | exact impl_endOf.mono _ _ _
      | exact impl_siblings.mono _ _ _ _
      | exact impl_tryFrom.mono _ _ _
      | exact LeO.none _
      | refine LeO.ite ?_ ?_
      | refine LeO.bind ?_ (fun _ => ?_)
    · intro y0 y1 y2 y3 y4 y5 y6 y7
      unfold impl_blockOk.j1
      repeat' first
      | (with_reducible exact ih0 _ _ _ _)
      | (with_reducible exact ih1 _ _ _ _)
      | (with_reducible exact ih2 _ _ _ _ _ _ _ _)
      | (with_reducible exact ih3 _ _ _ _ _ _ _ _)
      | (with_reducible exact ih4 _ _ _ _ _ _ _ _)
      | (with_reducible exact ih5 _ _ _ _ _ _ _)
      | (with_reducible exact impl_endOf.mono _ _ _)
      | (with_reducible exact impl_siblings.mono _ _ _ _)
      | (with_reducible exact impl_tryFrom.mono _ _ _)
      | (with_reducible exact LeO.refl _)
      | (with_reducible exact LeO.none _)
      | (with_reducible refine LeO.ite ?_ ?_)
      | (with_reducible refine LeO.bind ?_ (fun _ => ?_))
      | exact ih0 _ _ _ _
      | exact ih1 _ _ _ _
      | exact ih2 _ _ _ _ _ _ _ _
      | exact ih3 _ _ _ _ _ _ _ _
      | exact ih4 _ _ _ _ _ _ _ _
      | exact ih5 _ _ _ _ _ _ _
      | exact impl_endOf.mono _ _ _
      | exact impl_siblings.mono _ _ _ _
      | exact impl_tryFrom.mono _ _ _
      | exact LeO.none _
      | refine LeO.ite ?_ ?_
      | refine LeO.bind ?_ (fun _ => ?_)
    · intro y0 y1 y2 y3 y4 y5 y6 y7
      unfold impl_blockOk.j2
      repeat' first
      | (with_reducible exact ih0 _ _ _ _)
      | (with_reducible exact ih1 _ _ _ _)
      | (with_reducible exact ih2 _ _ _ _ _ _ _ _)
      | (with_reducible exact ih3 _ _ _ _ _ _ _ _)
      | (with_reducible exact ih4 _ _ _ _ _ _ _ _)
      | (with_reducible exact ih5 _ _ _ _ _ _ _)
      | (with_reducible exact impl_endOf.mono _ _ _)
      | (with_reducible exact impl_siblings.mono _ _ _ _)
      | (with_reducible exact impl_tryFrom.mono _ _ _)
      | (with_reducible exact LeO.refl _)
      | (with_reducible exact LeO.none _)
      | (with_reducible refine LeO.ite ?_ ?_)
      | (with_reducible refine LeO.bind ?_ (fun _ => ?_))
      | exact ih0 _ _ _ _
      | exact ih1 _ _ _ _
      | exact ih2 _ _ _ _ _ _ _ _
      | exact ih3 _ _ _ _ _ _ _ _
      | exact ih4 _ _ _ _ _ _ _ _
      | exact ih5 _ _ _ _ _ _ _
      | exact impl_endOf.mono _ _ _
      | exact impl_siblings.mono _ _ _ _
      | exact impl_tryFrom.mono _ _ _
      | exact LeO.none _
      | refine LeO.ite ?_ ?_
      | refine LeO.bind ?_ (fun _ => ?_)
    · intro y0 y1 y2 y3 y4 y5 y6 y7
      unfold impl_blockOk.l1
      repeat' first
      | (with_reducible exact ih0 _ _ _ _)
      | (with_reducible exact ih1 _ _ _ _)
      | (with_reducible exact ih2 _ _ _ _ _ _ _ _)
      | (with_reducible exact ih3 _ _ _ _ _ _ _ _)
      | (with_reducible exact ih4 _ _ _ _ _ _ _ _)
      | (with_reducible exact ih5 _ _ _ _ _ _ _)
      | (with_reducible exact impl_endOf.mono _ _ _)
      | (with_reducible exact impl_siblings.mono _ _ _ _)
      | (with_reducible exact impl_tryFrom.mono _ _ _)
      | (with_reducible exact LeO.refl _)
      | (with_reducible exact LeO.none _)
      | (with_reducible refine LeO.ite ?_ ?_)
      | (with_reducible refine LeO.bind ?_ (fun _ => ?_))
      | exact ih0 _ _ _ _
      | exact ih1 _ _ _ _
      | exact ih2 _ _ _ _ _ _ _ _
      | exact ih3 _ _ _ _ _ _ _ _
      | exact ih4 _ _ _ _ _ _ _ _
      | exact ih5 _ _ _ _ _ _ _
      | exact impl_endOf.mono _ _ _
      | exact impl_siblings.mono _ _ _ _
      | exact impl_tryFrom.mono _ _ _
      | exact LeO.none _
      | refine LeO.ite ?_ ?_
      | refine LeO.bind ?_ (fun _ => ?_)
    · intro y0 y1 y2 y3 y4 y5 y6
      unfold impl_blockOk.j4
      repeat' first
      | (with_reducible exact ih0 _ _ _ _)
      | (with_reducible exact ih1 _ _ _ _)
      | (with_reducible exact ih2 _ _ _ _ _ _ _ _)
      | (with_reducible exact ih3 _ _ _ _ _ _ _ _)
      | (with_reducible exact ih4 _ _ _ _ _ _ _ _)
      | (with_reducible exact ih5 _ _ _ _ _ _ _)
      | (with_reducible exact impl_endOf.mono _ _ _)
      | (with_reducible exact impl_siblings.mono _ _ _ _)
      | (with_reducible exact impl_tryFrom.mono _ _ _)
      | (with_reducible exact LeO.refl _)
      | (with_reducible exact LeO.none _)
      | (with_reducible refine LeO.ite ?_ ?_)
      | (with_reducible refine LeO.bind ?_ (fun _ => ?_))
      | exact ih0 _ _ _ _
      | exact ih1 _ _ _ _
      | exact ih2 _ _ _ _ _ _ _ _
      | exact ih3 _ _ _ _ _ _ _ _
      | exact ih4 _ _ _ _ _ _ _ _
      | exact ih5 _ _ _ _ _ _ _
      | exact impl_endOf.mono _ _ _
      | exact impl_siblings.mono _ _ _ _
      | exact impl_tryFrom.mono _ _ _
      | exact LeO.none _
      | refine LeO.ite ?_ ?_
      | refine LeO.bind ?_ (fun _ => ?_)
theorem impl_blockOk.mono : ∀ a0 a1 a2 a3 k, LeO (impl_blockOk.f k a0 a1 a2 a3) (impl_blockOk.f (k + 1) a0 a1 a2 a3) := by
  intro a0 a1 a2 a3 k
  obtain ⟨ih0, ih1, ih2, ih3, ih4, ih5⟩ := impl_blockOk.mono_l k
  exact ih0 a0 a1 a2 a3
set_option maxHeartbeats 8000000 in
set_option maxRecDepth 100000 in
theorem impl_blockOk.calls (k : Nat) : ∀ (A0 : Option Addr) (c0 : Nat) (l0 : List (S50)) (a1 : Int) (a2 : Int) (a3 : Bool) (r : Bool) (w : World) (hr0 : Kd.C k50 w A0 l0.length l0) (hc0 : l0.length ≤ c0) (h : impl_blockOk.f k l0 a1 a2 a3 = some r),
    Calls Try.prog 76 #[.slice A0 l0.length c0, .int .i64 a1, .int .i64 a2, .bool a3] w fun e w' => e = .returned (.bool r) ∧ Below w.heap.size w w' := by
  induction k using Nat.strongRecOn with
  | _ k ih =>
  intro A0 c0 l0 a1 a2 a3 r w hr0 hc0 h
  cases k with
  | zero => exact absurd h (by simp [impl_blockOk.f])
  | succ k =>
  simp only [impl_blockOk.f] at h
  have HR0 := Aside0.mk hr0
  have HC0 := Aside0.mk hc0
  clear hr0 hc0
  have HB := Aside0.mk (Below.refl w.heap.size w)
  have H : ((impl_siblings.f k l0 a1 a2).bind fun t250 => (impl_blockOk.l0 k l0 a3 t250 0)) = some r := h
  clear h
  replace H := Option.bind_eq_some_iff.mp H
  obtain ⟨t250, A50, H⟩ := H
  replace H : (impl_blockOk.l0 k l0 a3 t250 0) = some r := H
  have A5 := Aside0.mk A50
  clear A50
  have H' := Aside0.mk H
  clear H
  go_enter Try.func76, Try.ntmps76
  go_wp2_with (first | ((with_reducible refine gate_callee (f := 91) rfl ?_); refine goesL_ (some 19) rfl rfl Try.func91 (by kernel_rfl) rfl #[.slice A0 l0.length c0, .int .i64 a1, .int .i64 a2] rfl (aq) ?_; (with_reducible refine (impl_siblings.calls k _ _ l0 a1 a2 t250 _ ?side1 ?side2 A5.out).mono ?_); (case side1 => repeat (first | exact HR0.out | (with_reducible refine Kd.C_alloc ?_ _) | (with_reducible refine Kd.C_drewN ?_ _) | (with_reducible refine Kd.C_drew ?_))); (case side2 => exact HC0.out); rintro e w6 ⟨v251, rfl, ho0, hb⟩; refine ⟨_, rfl, ?_⟩; have n0_ := Aside0.mk (Kd.R_lower ho0 (below_size (bq))); have n1_ := Aside0.mk (below_step (bq) hb); clear HB; have HO252 := n0_; have HB := n1_; clear n0_ n1_; (try clear hb); (try clear hb2); (try clear hk); (try clear hi); (try clear ho0)))
  go_loopg [10] k (fun kq v10 w' => ∃ (x10_1 : Int), v10 = .int .i64 x10_1 ∧ Aside0 (impl_blockOk.l0 kq l0 a3 t250 x10_1 = some r) ∧ Aside0 (kq ≤ k) ∧ Aside0 (Kd.R (Kd.int .i64) 3 w' w.heap.size (fun _ => True) v251 t250) ∧ Aside0 (Below w.heap.size w w'))
  case atStart => exact ⟨(0), (sq), H', ⟨Nat.le_refl _⟩, ⟨rq HO252.out⟩, ⟨bq⟩⟩
  case round =>
    clear H'
    try clear p2
    obtain ⟨x10_1, rfl, HA, HK1, HO_9, HB⟩ := hrel
    cases gk with
    | zero => exact absurd HA.out (by simp [impl_blockOk.l0])
    | succ k1 =>
      have H := HA.out
      clear HA
      simp only [impl_blockOk.l0] at H
      by_cases c7 : x10_1 < (t250.length : Int)
      · rw [if_pos c7] at H
        have c7b0 : decide (x10_1 < (t250.length : Int)) = true := decide_eq_true c7
        clear c7
        by_cases c8 : 0 ≤ x10_1
        · rw [if_pos c8] at H
          have c8b0 : decide (0 ≤ x10_1) = true := decide_eq_true c8
          clear c8
          by_cases c9 : 0 ≤ (rd t250 x10_1)
          · rw [if_pos c9] at H
            have c9b0 : decide (0 ≤ (rd t250 x10_1)) = true := decide_eq_true c9
            clear c9
            by_cases c10 : (rd t250 x10_1) < (l0.length : Int)
            · rw [if_pos c10] at H
              have c10b0 : decide ((rd t250 x10_1) < (l0.length : Int)) = true := decide_eq_true c10
              clear c10
              have HC11 := Aside0.mk H
              clear H
              obtain ⟨Ao12, co12, eo12⟩ := Kd.R_slice HO_9.out
              subst eo12
              have p253 : 0 ≤ (x10_1 : Int) := of_decide_eq_true (uq)
              have q253 : x10_1 < (t250.length : Int) := of_decide_eq_true (uq)
              obtain ⟨ad253, e253, hx253_0⟩ := Kd.at_int (Kd.R_reads' HO_9.out).2.2 x10_1 p253 q253
              cases e253
              replace p253 := eq_true p253
              replace q253 := eq_true q253
              have p254 : 0 ≤ ((rd t250 x10_1) : Int) := of_decide_eq_true (uq)
              have q254 : (rd t250 x10_1) < (l0.length : Int) := of_decide_eq_true (uq)
              obtain ⟨ad254, e254, hx254_0, hx254_1, hx254_2, hx254_3⟩ := at_T50 HR0.out (rd t250 x10_1) p254 q254
              cases e254
              replace hx254_0 := (HB.out.cell (World.block_lt_of_cell? w _ hx254_0)).trans hx254_0
              replace hx254_1 := (HB.out.cell (World.block_lt_of_cell? w _ hx254_1)).trans hx254_1
              replace hx254_2 := (HB.out.cell (World.block_lt_of_cell? w _ hx254_2)).trans hx254_2
              replace hx254_3 := (HB.out.cell (World.block_lt_of_cell? w _ hx254_3)).trans hx254_3
              replace p254 := eq_true p254
              replace q254 := eq_true q254
              go_upto_if 36 with (fail)
              go_cut [36] (fun v36 wc => ∃ (kq : Nat) (x36_10 : Bool), v36 = .bool x36_10 ∧ Aside0 (impl_blockOk.j1 kq l0 a3 t250 x10_1 (rd t250 x10_1) ((rd_T50 l0 (rd t250 x10_1)).f1) ((rd_T50 l0 (rd t250 x10_1)).f1) x36_10 = some r) ∧ Aside0 (kq ≤ k1) ∧ Aside0 (Kd.R (Kd.int .i64) 3 wc w.heap.size (fun _ => True) (.slice (some ad253) t250.length co12) t250) ∧ Aside0 (Below w.heap.size w wc))
              case first =>
                have H := HC11.out
                clear HC11
                by_cases c13 : ((rd_T50 l0 (rd t250 x10_1)).f1) = 5
                · rw [if_pos c13] at H
                  have c13b0 : (((rd_T50 l0 (rd t250 x10_1)).f1) == 5) = true := beq_iff_eq.mpr c13
                  have c13b1 : (((rd_T50 l0 (rd t250 x10_1)).f1) != 5) = false := bne_eq_false_iff_eq.mpr c13
                  clear c13
                  (first | rw [c13b0] | (simp only [i64_w, i32_w]; rw [c13b0]) | skip)
                  have H' := Aside0.mk H
                  clear H
                  go_wp2
                  go_meet
                  case rel => exact ⟨_, ((((rd_T50 l0 (rd t250 x10_1)).f1) == 5)), (sq), H', ⟨by have := HK1.out; first | omega | exact Nat.le_refl _⟩, ⟨rq HO_9.out⟩, ⟨bq⟩⟩
                · rw [if_neg c13] at H
                  have c13b0 : (((rd_T50 l0 (rd t250 x10_1)).f1) == 5) = false := beq_eq_false_iff_ne.mpr c13
                  have c13b1 : (((rd_T50 l0 (rd t250 x10_1)).f1) != 5) = true := bne_iff_ne.mpr c13
                  (first | rw [c13b0] | (simp only [i64_w, i32_w]; rw [c13b0]) | skip)
                  have H' := Aside0.mk H
                  clear H
                  go_wp2
                  go_meet
                  case rel => exact ⟨_, ((((rd_T50 l0 (rd t250 x10_1)).f1) == 6)), (sq), H', ⟨by have := HK1.out; first | omega | exact Nat.le_refl _⟩, ⟨rq HO_9.out⟩, ⟨bq⟩⟩
              case rest =>
                clear HC11
                try clear c1
                try clear p2
                try clear q2
                try clear hx2
                try clear c7
                try clear c7b0
                try clear c8
                try clear c8b0
                try clear c9
                try clear c9b0
                try clear c10
                try clear c10b0
                try clear c13
                try clear c13b0
                try clear c13b1
                try clear hx253_0
                try clear hx254_0
                try clear hx254_1
                try clear hx254_2
                try clear hx254_3
                try clear p2
                try clear p253
                try clear p254
                try clear q253
                try clear q254
                obtain ⟨kq, x36_10, rfl, HA, HJ10, HO_9, HB⟩ := hcut
                cases kq with
                | zero => exact absurd HA.out (by simp [impl_blockOk.j1])
                | succ kj10 =>
                  have H := HA.out
                  clear HA
                  simp only [impl_blockOk.j1] at H
                  by_cases c14 : x36_10 = true
                  · subst c14
                    have H1 : (if a3 = true then (impl_blockOk.l0 kj10 l0 a3 t250 (wrap64 (x10_1 + 1))) else (some false)) = some r := by rw [if_pos rfl] at H; exact H
                    clear H
                    have H := H1
                    clear H1
                    by_cases c15 : a3 = true
                    · subst c15
                      have H1 : (impl_blockOk.l0 kj10 l0 true t250 (wrap64 (x10_1 + 1))) = some r := by rw [if_pos rfl] at H; exact H
                      clear H
                      have H := H1
                      clear H1
                      have H' := Aside0.mk H
                      clear H
                      go_wp2
                      go_roundg kj10
                      case measure => have := HK1.out; have := HJ10.out; omega
                      case rel => exact ⟨(wrap64 (x10_1 + 1)), (sq), H', ⟨by have := HK1.out; have := HJ10.out; omega⟩, ⟨rq HO_9.out⟩, ⟨bq⟩⟩
                    · replace c15 := Bool.eq_false_iff.mpr c15
                      subst c15
                      have H1 : (some false) = some r := by rw [if_neg (show ¬ (false = true) by decide)] at H; exact H
                      clear H
                      have H := H1
                      clear H1
                      obtain rfl := Option.some.inj H
                      go_wp2
                      go_ret
                      exact ⟨by first | rfl | (simp [errW_none, errW_some] <;> rfl) | (simp [*, errW_none, errW_some] <;> rfl), bq⟩
                  · replace c14 := Bool.eq_false_iff.mpr c14
                    subst c14
                    have H1 : (if ((rd_T50 l0 (rd t250 x10_1)).f1) = 8 then (impl_blockOk.j2 kj10 l0 a3 t250 x10_1 (rd t250 x10_1) ((rd_T50 l0 (rd t250 x10_1)).f1) ((rd_T50 l0 (rd t250 x10_1)).f1) (((rd_T50 l0 (rd t250 x10_1)).f1) == 8)) else (if ((rd_T50 l0 (rd t250 x10_1)).f1) = 9 then (impl_blockOk.j2 kj10 l0 a3 t250 x10_1 (rd t250 x10_1) ((rd_T50 l0 (rd t250 x10_1)).f1) ((rd_T50 l0 (rd t250 x10_1)).f1) (((rd_T50 l0 (rd t250 x10_1)).f1) == 9)) else (impl_blockOk.j2 kj10 l0 a3 t250 x10_1 (rd t250 x10_1) ((rd_T50 l0 (rd t250 x10_1)).f1) ((rd_T50 l0 (rd t250 x10_1)).f1) (((rd_T50 l0 (rd t250 x10_1)).f1) == 10)))) = some r := by rw [if_neg (show ¬ (false = true) by decide)] at H; exact H
                    clear H
                    have H := H1
                    clear H1
                    have HC16 := Aside0.mk H
                    clear H
                    go_upto_if 41 with (fail)
                    go_cut [41] (fun v41 wc => ∃ (kq : Nat) (x41_15 : Bool), v41 = .bool x41_15 ∧ Aside0 (impl_blockOk.j2 kq l0 a3 t250 x10_1 (rd t250 x10_1) ((rd_T50 l0 (rd t250 x10_1)).f1) ((rd_T50 l0 (rd t250 x10_1)).f1) x41_15 = some r) ∧ Aside0 (kq ≤ kj10) ∧ Aside0 (Kd.R (Kd.int .i64) 3 wc w.heap.size (fun _ => True) (.slice (some ad253) t250.length co12) t250) ∧ Aside0 (Below w.heap.size w wc))
                    case first =>
                      have H := HC16.out
                      clear HC16
                      by_cases c17 : ((rd_T50 l0 (rd t250 x10_1)).f1) = 8
                      · rw [if_pos c17] at H
                        have c17b0 : (((rd_T50 l0 (rd t250 x10_1)).f1) == 8) = true := beq_iff_eq.mpr c17
                        have c17b1 : (((rd_T50 l0 (rd t250 x10_1)).f1) != 8) = false := bne_eq_false_iff_eq.mpr c17
                        clear c17
                        (first | rw [c17b0] | (simp only [i64_w, i32_w]; rw [c17b0]) | skip)
                        have H' := Aside0.mk H
                        clear H
                        go_wp2
                        go_meet
                        case rel => exact ⟨_, ((((rd_T50 l0 (rd t250 x10_1)).f1) == 8)), (sq), H', ⟨by have := HK1.out; have := HJ10.out; first | omega | exact Nat.le_refl _⟩, ⟨rq HO_9.out⟩, ⟨bq⟩⟩
                      · rw [if_neg c17] at H
                        have c17b0 : (((rd_T50 l0 (rd t250 x10_1)).f1) == 8) = false := beq_eq_false_iff_ne.mpr c17
                        have c17b1 : (((rd_T50 l0 (rd t250 x10_1)).f1) != 8) = true := bne_iff_ne.mpr c17
                        (first | rw [c17b0] | (simp only [i64_w, i32_w]; rw [c17b0]) | skip)
                        by_cases c18 : ((rd_T50 l0 (rd t250 x10_1)).f1) = 9
                        · rw [if_pos c18] at H
                          have c18b0 : (((rd_T50 l0 (rd t250 x10_1)).f1) == 9) = true := beq_iff_eq.mpr c18
                          have c18b1 : (((rd_T50 l0 (rd t250 x10_1)).f1) != 9) = false := bne_eq_false_iff_eq.mpr c18
                          clear c18
                          have H' := Aside0.mk H
                          clear H
                          go_wp2
                          go_meet
                          case rel => exact ⟨_, ((((rd_T50 l0 (rd t250 x10_1)).f1) == 9)), (sq), H', ⟨by have := HK1.out; have := HJ10.out; first | omega | exact Nat.le_refl _⟩, ⟨rq HO_9.out⟩, ⟨bq⟩⟩
                        · rw [if_neg c18] at H
                          have c18b0 : (((rd_T50 l0 (rd t250 x10_1)).f1) == 9) = false := beq_eq_false_iff_ne.mpr c18
                          have c18b1 : (((rd_T50 l0 (rd t250 x10_1)).f1) != 9) = true := bne_iff_ne.mpr c18
                          have H' := Aside0.mk H
                          clear H
                          go_wp2
                          go_meet
                          case rel => exact ⟨_, ((((rd_T50 l0 (rd t250 x10_1)).f1) == 10)), (sq), H', ⟨by have := HK1.out; have := HJ10.out; first | omega | exact Nat.le_refl _⟩, ⟨rq HO_9.out⟩, ⟨bq⟩⟩
                    case rest =>
                      clear HC16
                      try clear c1
                      try clear p2
                      try clear q2
                      try clear hx2
                      try clear p6
                      try clear c7
                      try clear c7b0
                      try clear c8
                      try clear c8b0
                      try clear c9
                      try clear c9b0
                      try clear c10
                      try clear c10b0
                      try clear c13
                      try clear c13b0
                      try clear c13b1
                      try clear c14
                      try clear c15
                      try clear c17
                      try clear c17b0
                      try clear c17b1
                      try clear c18
                      try clear c18b0
                      try clear c18b1
                      try clear hx253_0
                      try clear hx254_0
                      try clear hx254_1
                      try clear hx254_2
                      try clear hx254_3
                      try clear p2
                      try clear p253
                      try clear p254
                      try clear q2
                      try clear q253
                      try clear q254
                      obtain ⟨kq, x41_15, rfl, HA, HJ15, HO_9, HB⟩ := hcut
                      cases kq with
                      | zero => exact absurd HA.out (by simp [impl_blockOk.j2])
                      | succ kj15 =>
                        have H := HA.out
                        clear HA
                        simp only [impl_blockOk.j2] at H
                        by_cases c19 : x41_15 = true
                        · subst c19
                          have H1 : (some false) = some r := by rw [if_pos rfl] at H; exact H
                          clear H
                          have H := H1
                          clear H1
                          obtain rfl := Option.some.inj H
                          go_wp2
                          go_ret
                          exact ⟨by first | rfl | (simp [errW_none, errW_some] <;> rfl) | (simp [*, errW_none, errW_some] <;> rfl), bq⟩
                        · replace c19 := Bool.eq_false_iff.mpr c19
                          subst c19
                          have H1 : (if ((rd_T50 l0 (rd t250 x10_1)).f1) = 7 then ((impl_tryFrom.f kj15 l0 (rd t250 x10_1)).bind fun t255 => ((impl_tryOk.f l0 t255).bind fun t258 => (if t258 = true then (impl_blockOk.l1 kj15 l0 a3 t250 x10_1 t255 t255 (t255.length : Int) 0) else (some false)))) else (if ((rd_T50 l0 (rd t250 x10_1)).f1) = 11 then (impl_blockOk.j4 kj15 l0 a3 t250 x10_1 (rd t250 x10_1) ((rd_T50 l0 (rd t250 x10_1)).f1) (((rd_T50 l0 (rd t250 x10_1)).f1) == 11)) else (impl_blockOk.j4 kj15 l0 a3 t250 x10_1 (rd t250 x10_1) ((rd_T50 l0 (rd t250 x10_1)).f1) (((rd_T50 l0 (rd t250 x10_1)).f1) == 12)))) = some r := by rw [if_neg (show ¬ (false = true) by decide)] at H; exact H
                          clear H
                          have H := H1
                          clear H1
                          by_cases c20 : ((rd_T50 l0 (rd t250 x10_1)).f1) = 7
                          · rw [if_pos c20] at H
                            have c20b0 : (((rd_T50 l0 (rd t250 x10_1)).f1) == 7) = true := beq_iff_eq.mpr c20
                            have c20b1 : (((rd_T50 l0 (rd t250 x10_1)).f1) != 7) = false := bne_eq_false_iff_eq.mpr c20
                            clear c20
                            replace H := Option.bind_eq_some_iff.mp H
                            obtain ⟨t255, A210, H⟩ := H
                            replace H : ((impl_tryOk.f l0 t255).bind fun t258 => (if t258 = true then (impl_blockOk.l1 kj15 l0 a3 t250 x10_1 t255 t255 (t255.length : Int) 0) else (some false))) = some r := H
                            have A21 := Aside0.mk A210
                            clear A210
                            replace H := Option.bind_eq_some_iff.mp H
                            obtain ⟨t258, A220, H⟩ := H
                            replace H : (if t258 = true then (impl_blockOk.l1 kj15 l0 a3 t250 x10_1 t255 t255 (t255.length : Int) 0) else (some false)) = some r := H
                            have A22 := Aside0.mk A220
                            clear A220
                            by_cases c23 : t258 = true
                            · subst c23
                              have H1 : (impl_blockOk.l1 kj15 l0 a3 t250 x10_1 t255 t255 (t255.length : Int) 0) = some r := by rw [if_pos rfl] at H; exact H
                              clear H
                              have H := H1
                              clear H1
                              have H' := Aside0.mk H
                              clear H
                              go_wp2_with (first | ((with_reducible refine gate_callee (f := 64) rfl ?_); refine goesL_ (some 49) rfl rfl Try.func64 (by kernel_rfl) rfl #[.slice (some ad254) l0.length c0, .int .i64 (rd t250 x10_1)] rfl (aq) ?_; (with_reducible refine (impl_tryFrom.calls kj15 _ _ l0 (rd t250 x10_1) t255 _ ?side1 ?side2 A21.out).mono ?_); (case side1 => exact cq (Kd.C_below HR0.out HB.out)); (case side2 => exact HC0.out); rintro e w24 ⟨v256, rfl, ho0, hb⟩; refine ⟨_, rfl, ?_⟩; have n0_ := Aside0.mk (Kd.R_elder' (rq HO_9.out) (Kd.R_base ho0) hb); have n1_ := Aside0.mk (Kd.R_lower (Kd.R_new' ho0 (Kd.R_lt (rq HO_9.out))) (below_size (bq))); have n2_ := Aside0.mk (below_step (bq) hb); clear HO_9; clear HB; have HO_9 := n0_; have HO257 := n1_; have HB := n2_; clear n0_ n1_ n2_; (try clear hb); (try clear hb2); (try clear hk); (try clear hi); (try clear ho0); obtain ⟨Ao25, co25, eo25⟩ := Kd.R_slice HO257.out; subst eo25) | ((with_reducible refine gate_callee (f := 92) rfl ?_); refine goesL_ (some 52) rfl rfl Try.func92 (by kernel_rfl) rfl #[.slice (some ad254) l0.length c0, .slice Ao25 t255.length co25] rfl (aq) ?_; (with_reducible refine (impl_tryOk.calls _ _ l0 _ _ t255 true _ ?side1 ?side2 ?side3 ?side4 A22.out).mono ?_); (case side1 => exact cq (Kd.C_below HR0.out HB.out)); (case side2 => exact HC0.out); (case side3 => repeat (first | exact (Kd.R_reads' HO257.out).2.2 | (with_reducible refine Kd.C_alloc ?_ _) | (with_reducible refine Kd.C_drewN ?_ _) | (with_reducible refine Kd.C_drew ?_))); (case side4 => exact (Kd.R_reads' HO257.out).2.1); rintro e w' ⟨rfl, ⟨nd, rfl⟩⟩; refine ⟨_, rfl, ?_⟩))
                              go_loopg [56] kj15 (fun kq v56 w' => ∃ (x56_4 : Int), v56 = .int .i64 x56_4 ∧ Aside0 (impl_blockOk.l1 kq l0 a3 t250 x10_1 t255 t255 (t255.length : Int) x56_4 = some r) ∧ Aside0 (kq ≤ kj15) ∧ Aside0 (Kd.R (Kd.int .i64) 3 w' w.heap.size (fun k_ => some k_ ≠ ((.slice Ao25 t255.length co25) : Value).ownBlock ∧ some k_ ≠ ((.slice Ao25 t255.length co25) : Value).ownBlock) (.slice (some ad253) t250.length co12) t250) ∧ Aside0 (Kd.R (Kd.int .i64) 3 w' w.heap.size (fun k_ => some k_ ≠ ((.slice (some ad253) t250.length co12) : Value).ownBlock) (.slice Ao25 t255.length co25) t255) ∧ Aside0 (Kd.R (Kd.int .i64) 3 w' w.heap.size (fun k_ => some k_ ≠ ((.slice (some ad253) t250.length co12) : Value).ownBlock) (.slice Ao25 t255.length co25) t255) ∧ Aside0 (Below w.heap.size w w'))
                              case atStart => exact ⟨(0), (sq), H', ⟨Nat.le_refl _⟩, ⟨by (with_reducible repeat (first | apply Kd.R_alloc | apply Kd.R_drewN | apply Kd.R_drew)); exact Kd.R_mono HO_9.out (fun _ hk => ⟨hk.2, hk.2⟩)⟩, ⟨by (with_reducible repeat (first | apply Kd.R_alloc | apply Kd.R_drewN | apply Kd.R_drew)); exact Kd.R_mono HO257.out (fun _ hk => hk.2)⟩, ⟨by (with_reducible repeat (first | apply Kd.R_alloc | apply Kd.R_drewN | apply Kd.R_drew)); exact Kd.R_mono HO257.out (fun _ hk => hk.2)⟩, ⟨bq⟩⟩
                              case round =>
                                clear H'
                                try clear c1
                                try clear c2
                                try clear p2
                                try clear q2
                                try clear hx2
                                try clear c6
                                try clear p6
                                try clear c7
                                try clear c7b0
                                try clear c8
                                try clear c8b0
                                try clear c9
                                try clear c9b0
                                try clear c10
                                try clear c10b0
                                try clear c13
                                try clear c13b0
                                try clear c13b1
                                try clear c14
                                try clear c15
                                try clear c17
                                try clear c17b0
                                try clear c17b1
                                try clear c18
                                try clear c18b0
                                try clear c18b1
                                try clear c19
                                try clear c20
                                try clear c20b0
                                try clear c20b1
                                try clear c23
                                try clear p25
                                try clear q25
                                try clear hx25
                                try clear hx253_0
                                try clear hx254_0
                                try clear hx254_1
                                try clear hx254_2
                                try clear hx254_3
                                try clear p2
                                try clear p253
                                try clear p254
                                try clear p6
                                try clear q2
                                try clear q253
                                try clear q254
                                obtain ⟨x56_4, rfl, HA, HK4, HO_9, HO_13, HO_54, HB⟩ := hrel
                                cases gk with
                                | zero => exact absurd HA.out (by simp [impl_blockOk.l1])
                                | succ k4 =>
                                  have H := HA.out
                                  clear HA
                                  simp only [impl_blockOk.l1] at H
                                  by_cases c26 : x56_4 < (t255.length : Int)
                                  · rw [if_pos c26] at H
                                    have c26b0 : decide (x56_4 < (t255.length : Int)) = true := decide_eq_true c26
                                    clear c26
                                    by_cases c27 : 0 ≤ x56_4
                                    · rw [if_pos c27] at H
                                      have c27b0 : decide (0 ≤ x56_4) = true := decide_eq_true c27
                                      clear c27
                                      by_cases c28 : x56_4 < (t255.length : Int)
                                      · rw [if_pos c28] at H
                                        have c28b0 : decide (x56_4 < (t255.length : Int)) = true := decide_eq_true c28
                                        clear c28
                                        replace H := Option.bind_eq_some_iff.mp H
                                        obtain ⟨t260, A290, H⟩ := H
                                        replace H : ((impl_blockOk.f k4 l0 (wrap64 ((rd t255 x56_4) + 1)) t260 a3).bind fun t261 => (if t261 = true then (impl_blockOk.l1 k4 l0 a3 t250 x10_1 t255 t255 (t255.length : Int) (wrap64 (x56_4 + 1))) else (some false))) = some r := H
                                        have A29 := Aside0.mk A290
                                        clear A290
                                        replace H := Option.bind_eq_some_iff.mp H
                                        obtain ⟨t261, A300, H⟩ := H
                                        replace H : (if t261 = true then (impl_blockOk.l1 k4 l0 a3 t250 x10_1 t255 t255 (t255.length : Int) (wrap64 (x56_4 + 1))) else (some false)) = some r := H
                                        have A30 := Aside0.mk A300
                                        clear A300
                                        by_cases c31 : t261 = true
                                        · subst c31
                                          have H1 : (impl_blockOk.l1 k4 l0 a3 t250 x10_1 t255 t255 (t255.length : Int) (wrap64 (x56_4 + 1))) = some r := by rw [if_pos rfl] at H; exact H
                                          clear H
                                          have H := H1
                                          clear H1
                                          have H' := Aside0.mk H
                                          clear H
                                          have p259 : 0 ≤ (x56_4 : Int) := of_decide_eq_true (uq)
                                          have q259 : x56_4 < (t255.length : Int) := of_decide_eq_true (uq)
                                          obtain ⟨ad259, e259, hx259_0⟩ := Kd.at_int (Kd.R_reads' HO_54.out).2.2 x56_4 p259 q259
                                          cases e259
                                          replace p259 := eq_true p259
                                          replace q259 := eq_true q259
                                          go_wp2_with (first | ((with_reducible refine gate_callee (f := 67) rfl ?_); refine goesL_ (some 65) rfl rfl Try.func67 (by kernel_rfl) rfl #[.slice (some ad254) l0.length c0, .int .i64 (rd t255 x56_4)] rfl (aq) ?_; (with_reducible refine (impl_endOf.calls k4 _ _ l0 (rd t255 x56_4) t260 _ ?side1 ?side2 A29.out).mono ?_); (case side1 => exact cq (Kd.C_below HR0.out HB.out)); (case side2 => exact HC0.out); rintro e w' ⟨rfl, ⟨nd, rfl⟩⟩; refine ⟨_, rfl, ?_⟩) | ((with_reducible refine gate_callee (f := 76) rfl ?_); refine goesL_ (some 67) rfl rfl Try.func76 (by kernel_rfl) rfl #[.slice (some ad254) l0.length c0, .int .i64 (wrap64 ((rd t255 x56_4) + 1)), .int .i64 t260, .bool a3] rfl (aq) ?_; (with_reducible refine (ih k4 (by have := HK1.out; have := HJ10.out; have := HJ15.out; have := HK4.out; omega) _ _ l0 (wrap64 ((rd t255 x56_4) + 1)) t260 a3 true _ ?side1 ?side2 A30.out).mono ?_); (case side1 => repeat (first | exact (Kd.C_below HR0.out (bq)) | (with_reducible refine Kd.C_alloc ?_ _) | (with_reducible refine Kd.C_drewN ?_ _) | (with_reducible refine Kd.C_drew ?_))); (case side2 => exact HC0.out); rintro e w32 ⟨rfl, hb⟩; refine ⟨_, rfl, ?_⟩; have n0_ := Aside0.mk (Kd.R_below (rq HO_9.out) hb); have n1_ := Aside0.mk (Kd.R_below (rq HO_13.out) hb); have n2_ := Aside0.mk (Kd.R_below (rq HO_54.out) hb); have n3_ := Aside0.mk (below_step (bq) hb); clear HO_9; clear HO_13; clear HO_54; clear HB; have HO_9 := n0_; have HO_13 := n1_; have HO_54 := n2_; have HB := n3_; clear n0_ n1_ n2_ n3_; (try clear hb); (try clear hb2); (try clear hk); (try clear hi)))
                                          go_roundg k4
                                          case measure => have := HK1.out; have := HJ10.out; have := HJ15.out; have := HK4.out; omega
                                          case rel => exact ⟨(wrap64 (x56_4 + 1)), (sq), H', ⟨by have := HK1.out; have := HJ10.out; have := HJ15.out; have := HK4.out; omega⟩, ⟨rq HO_9.out⟩, ⟨rq HO_13.out⟩, ⟨rq HO_54.out⟩, ⟨bq⟩⟩
                                        · replace c31 := Bool.eq_false_iff.mpr c31
                                          subst c31
                                          have H1 : (some false) = some r := by rw [if_neg (show ¬ (false = true) by decide)] at H; exact H
                                          clear H
                                          have H := H1
                                          clear H1
                                          obtain rfl := Option.some.inj H
                                          have p259 : 0 ≤ (x56_4 : Int) := of_decide_eq_true (uq)
                                          have q259 : x56_4 < (t255.length : Int) := of_decide_eq_true (uq)
                                          obtain ⟨ad259, e259, hx259_0⟩ := Kd.at_int (Kd.R_reads' HO_54.out).2.2 x56_4 p259 q259
                                          cases e259
                                          replace p259 := eq_true p259
                                          replace q259 := eq_true q259
                                          go_wp2_with (first | ((with_reducible refine gate_callee (f := 67) rfl ?_); refine goesL_ (some 65) rfl rfl Try.func67 (by kernel_rfl) rfl #[.slice (some ad254) l0.length c0, .int .i64 (rd t255 x56_4)] rfl (aq) ?_; (with_reducible refine (impl_endOf.calls k4 _ _ l0 (rd t255 x56_4) t260 _ ?side1 ?side2 A29.out).mono ?_); (case side1 => exact cq (Kd.C_below HR0.out HB.out)); (case side2 => exact HC0.out); rintro e w' ⟨rfl, ⟨nd, rfl⟩⟩; refine ⟨_, rfl, ?_⟩) | ((with_reducible refine gate_callee (f := 76) rfl ?_); refine goesL_ (some 67) rfl rfl Try.func76 (by kernel_rfl) rfl #[.slice (some ad254) l0.length c0, .int .i64 (wrap64 ((rd t255 x56_4) + 1)), .int .i64 t260, .bool a3] rfl (aq) ?_; (with_reducible refine (ih k4 (by have := HK1.out; have := HJ10.out; have := HJ15.out; have := HK4.out; omega) _ _ l0 (wrap64 ((rd t255 x56_4) + 1)) t260 a3 false _ ?side1 ?side2 A30.out).mono ?_); (case side1 => repeat (first | exact (Kd.C_below HR0.out (bq)) | (with_reducible refine Kd.C_alloc ?_ _) | (with_reducible refine Kd.C_drewN ?_ _) | (with_reducible refine Kd.C_drew ?_))); (case side2 => exact HC0.out); rintro e w33 ⟨rfl, hb⟩; refine ⟨_, rfl, ?_⟩; have n0_ := Aside0.mk (Kd.R_below (rq HO_9.out) hb); have n1_ := Aside0.mk (Kd.R_below (rq HO_13.out) hb); have n2_ := Aside0.mk (Kd.R_below (rq HO_54.out) hb); have n3_ := Aside0.mk (below_step (bq) hb); clear HO_9; clear HO_13; clear HO_54; clear HB; have HO_9 := n0_; have HO_13 := n1_; have HO_54 := n2_; have HB := n3_; clear n0_ n1_ n2_ n3_; (try clear hb); (try clear hb2); (try clear hk); (try clear hi)))
                                          go_ret
                                          exact ⟨by first | rfl | (simp [errW_none, errW_some] <;> rfl) | (simp [*, errW_none, errW_some] <;> rfl), bq⟩
                                      · rw [if_neg c28] at H
                                        exact absurd H (by simp)
                                    · rw [if_neg c27] at H
                                      exact absurd H (by simp)
                                  · rw [if_neg c26] at H
                                    have c26b0 : decide (x56_4 < (t255.length : Int)) = false := decide_eq_false c26
                                    clear c26
                                    have H' := Aside0.mk H
                                    clear H
                                    go_wp2
                                    go_roundg k4
                                    case measure => have := HK1.out; have := HJ10.out; have := HJ15.out; have := HK4.out; omega
                                    case rel => exact ⟨(wrap64 ((wrap64 (x10_1 + (wrap64 ((t255.length : Int) - 1)))) + 1)), (sq), H', ⟨by have := HK1.out; have := HJ10.out; have := HJ15.out; have := HK4.out; omega⟩, ⟨by (with_reducible repeat (first | apply Kd.R_alloc | apply Kd.R_drewN | apply Kd.R_drew)); exact Kd.R_mono HO_9.out (fun _ hk => trivial)⟩, ⟨bq⟩⟩
                            · replace c23 := Bool.eq_false_iff.mpr c23
                              subst c23
                              have H1 : (some false) = some r := by rw [if_neg (show ¬ (false = true) by decide)] at H; exact H
                              clear H
                              have H := H1
                              clear H1
                              obtain rfl := Option.some.inj H
                              go_wp2_with (first | ((with_reducible refine gate_callee (f := 64) rfl ?_); refine goesL_ (some 49) rfl rfl Try.func64 (by kernel_rfl) rfl #[.slice (some ad254) l0.length c0, .int .i64 (rd t250 x10_1)] rfl (aq) ?_; (with_reducible refine (impl_tryFrom.calls kj15 _ _ l0 (rd t250 x10_1) t255 _ ?side1 ?side2 A21.out).mono ?_); (case side1 => exact cq (Kd.C_below HR0.out HB.out)); (case side2 => exact HC0.out); rintro e w34 ⟨v256, rfl, ho0, hb⟩; refine ⟨_, rfl, ?_⟩; have n0_ := Aside0.mk (Kd.R_elder' (rq HO_9.out) (Kd.R_base ho0) hb); have n1_ := Aside0.mk (Kd.R_lower (Kd.R_new' ho0 (Kd.R_lt (rq HO_9.out))) (below_size (bq))); have n2_ := Aside0.mk (below_step (bq) hb); clear HO_9; clear HB; have HO_9 := n0_; have HO257 := n1_; have HB := n2_; clear n0_ n1_ n2_; (try clear hb); (try clear hb2); (try clear hk); (try clear hi); (try clear ho0); obtain ⟨Ao35, co35, eo35⟩ := Kd.R_slice HO257.out; subst eo35) | ((with_reducible refine gate_callee (f := 92) rfl ?_); refine goesL_ (some 52) rfl rfl Try.func92 (by kernel_rfl) rfl #[.slice (some ad254) l0.length c0, .slice Ao35 t255.length co35] rfl (aq) ?_; (with_reducible refine (impl_tryOk.calls _ _ l0 _ _ t255 false _ ?side1 ?side2 ?side3 ?side4 A22.out).mono ?_); (case side1 => exact cq (Kd.C_below HR0.out HB.out)); (case side2 => exact HC0.out); (case side3 => repeat (first | exact (Kd.R_reads' HO257.out).2.2 | (with_reducible refine Kd.C_alloc ?_ _) | (with_reducible refine Kd.C_drewN ?_ _) | (with_reducible refine Kd.C_drew ?_))); (case side4 => exact (Kd.R_reads' HO257.out).2.1); rintro e w' ⟨rfl, ⟨nd, rfl⟩⟩; refine ⟨_, rfl, ?_⟩))
                              go_ret
                              exact ⟨by first | rfl | (simp [errW_none, errW_some] <;> rfl) | (simp [*, errW_none, errW_some] <;> rfl), bq⟩
                          · rw [if_neg c20] at H
                            have c20b0 : (((rd_T50 l0 (rd t250 x10_1)).f1) == 7) = false := beq_eq_false_iff_ne.mpr c20
                            have c20b1 : (((rd_T50 l0 (rd t250 x10_1)).f1) != 7) = true := bne_iff_ne.mpr c20
                            have HC36 := Aside0.mk H
                            clear H
                            go_upto_if 75 with (fail)
                            go_cut [75] (fun v75 wc => ∃ (kq : Nat) (x75_35 : Bool), v75 = .bool x75_35 ∧ Aside0 (impl_blockOk.j4 kq l0 a3 t250 x10_1 (rd t250 x10_1) ((rd_T50 l0 (rd t250 x10_1)).f1) x75_35 = some r) ∧ Aside0 (kq ≤ kj15) ∧ Aside0 (Kd.R (Kd.int .i64) 3 wc w.heap.size (fun _ => True) (.slice (some ad253) t250.length co12) t250) ∧ Aside0 (Below w.heap.size w wc))
                            case first =>
                              have H := HC36.out
                              clear HC36
                              by_cases c37 : ((rd_T50 l0 (rd t250 x10_1)).f1) = 11
                              · rw [if_pos c37] at H
                                have c37b0 : (((rd_T50 l0 (rd t250 x10_1)).f1) == 11) = true := beq_iff_eq.mpr c37
                                have c37b1 : (((rd_T50 l0 (rd t250 x10_1)).f1) != 11) = false := bne_eq_false_iff_eq.mpr c37
                                clear c37
                                (first | rw [c37b0] | (simp only [i64_w, i32_w]; rw [c37b0]) | skip)
                                have H' := Aside0.mk H
                                clear H
                                go_wp2
                                go_meet
                                case rel => exact ⟨_, ((((rd_T50 l0 (rd t250 x10_1)).f1) == 11)), (sq), H', ⟨by have := HK1.out; have := HJ10.out; have := HJ15.out; first | omega | exact Nat.le_refl _⟩, ⟨rq HO_9.out⟩, ⟨bq⟩⟩
                              · rw [if_neg c37] at H
                                have c37b0 : (((rd_T50 l0 (rd t250 x10_1)).f1) == 11) = false := beq_eq_false_iff_ne.mpr c37
                                have c37b1 : (((rd_T50 l0 (rd t250 x10_1)).f1) != 11) = true := bne_iff_ne.mpr c37
                                (first | rw [c37b0] | (simp only [i64_w, i32_w]; rw [c37b0]) | skip)
                                have H' := Aside0.mk H
                                clear H
                                go_wp2
                                go_meet
                                case rel => exact ⟨_, ((((rd_T50 l0 (rd t250 x10_1)).f1) == 12)), (sq), H', ⟨by have := HK1.out; have := HJ10.out; have := HJ15.out; first | omega | exact Nat.le_refl _⟩, ⟨rq HO_9.out⟩, ⟨bq⟩⟩
                            case rest =>
                              clear HC36
                              try clear c1
                              try clear c2
                              try clear p2
                              try clear q2
                              try clear hx2
                              try clear c3
                              try clear c6
                              try clear p6
                              try clear c7
                              try clear c7b0
                              try clear c8
                              try clear c8b0
                              try clear c9
                              try clear c9b0
                              try clear c10
                              try clear c10b0
                              try clear c13
                              try clear c13b0
                              try clear c13b1
                              try clear c14
                              try clear c15
                              try clear c17
                              try clear c17b0
                              try clear c17b1
                              try clear c18
                              try clear c18b0
                              try clear c18b1
                              try clear c19
                              try clear c20
                              try clear c20b0
                              try clear c20b1
                              try clear c23
                              try clear p25
                              try clear q25
                              try clear hx25
                              try clear c26
                              try clear c26b0
                              try clear c27
                              try clear c27b0
                              try clear c28
                              try clear c28b0
                              try clear c31
                              try clear c37
                              try clear c37b0
                              try clear c37b1
                              try clear hx253_0
                              try clear hx254_0
                              try clear hx254_1
                              try clear hx254_2
                              try clear hx254_3
                              try clear hx259_0
                              try clear p2
                              try clear p25
                              try clear p253
                              try clear p254
                              try clear p259
                              try clear p6
                              try clear q2
                              try clear q25
                              try clear q253
                              try clear q254
                              try clear q259
                              obtain ⟨kq, x75_35, rfl, HA, HJ35, HO_9, HB⟩ := hcut
                              cases kq with
                              | zero => exact absurd HA.out (by simp [impl_blockOk.j4])
                              | succ kj35 =>
                                have H := HA.out
                                clear HA
                                simp only [impl_blockOk.j4] at H
                                by_cases c38 : x75_35 = true
                                · subst c38
                                  have H1 : ((impl_endOf.f kj35 l0 (rd t250 x10_1)).bind fun t262 => (if a3 = true then ((impl_blockOk.f kj35 l0 (wrap64 ((rd t250 x10_1) + 1)) t262 true).bind fun t263 => (if t263 = true then (impl_blockOk.l0 kj35 l0 a3 t250 (wrap64 (x10_1 + 1))) else (some false))) else ((impl_blockOk.f kj35 l0 (wrap64 ((rd t250 x10_1) + 1)) t262 (((rd_T50 l0 (rd t250 x10_1)).f1) == 12)).bind fun t264 => (if t264 = true then (impl_blockOk.l0 kj35 l0 a3 t250 (wrap64 (x10_1 + 1))) else (some false))))) = some r := by rw [if_pos rfl] at H; exact H
                                  clear H
                                  have H := H1
                                  clear H1
                                  replace H := Option.bind_eq_some_iff.mp H
                                  obtain ⟨t262, A390, H⟩ := H
                                  replace H : (if a3 = true then ((impl_blockOk.f kj35 l0 (wrap64 ((rd t250 x10_1) + 1)) t262 true).bind fun t263 => (if t263 = true then (impl_blockOk.l0 kj35 l0 a3 t250 (wrap64 (x10_1 + 1))) else (some false))) else ((impl_blockOk.f kj35 l0 (wrap64 ((rd t250 x10_1) + 1)) t262 (((rd_T50 l0 (rd t250 x10_1)).f1) == 12)).bind fun t264 => (if t264 = true then (impl_blockOk.l0 kj35 l0 a3 t250 (wrap64 (x10_1 + 1))) else (some false)))) = some r := H
                                  have A39 := Aside0.mk A390
                                  clear A390
                                  by_cases c40 : a3 = true
                                  · subst c40
                                    have H1 : ((impl_blockOk.f kj35 l0 (wrap64 ((rd t250 x10_1) + 1)) t262 true).bind fun t263 => (if t263 = true then (impl_blockOk.l0 kj35 l0 true t250 (wrap64 (x10_1 + 1))) else (some false))) = some r := by rw [if_pos rfl] at H; exact H
                                    clear H
                                    have H := H1
                                    clear H1
                                    replace H := Option.bind_eq_some_iff.mp H
                                    obtain ⟨t263, A410, H⟩ := H
                                    replace H : (if t263 = true then (impl_blockOk.l0 kj35 l0 true t250 (wrap64 (x10_1 + 1))) else (some false)) = some r := H
                                    have A41 := Aside0.mk A410
                                    clear A410
                                    by_cases c42 : t263 = true
                                    · subst c42
                                      have H1 : (impl_blockOk.l0 kj35 l0 true t250 (wrap64 (x10_1 + 1))) = some r := by rw [if_pos rfl] at H; exact H
                                      clear H
                                      have H := H1
                                      clear H1
                                      have H' := Aside0.mk H
                                      clear H
                                      go_wp2_with (first | ((with_reducible refine gate_callee (f := 67) rfl ?_); refine goesL_ (some 83) rfl rfl Try.func67 (by kernel_rfl) rfl #[.slice (some ad254) l0.length c0, .int .i64 (rd t250 x10_1)] rfl (aq) ?_; (with_reducible refine (impl_endOf.calls kj35 _ _ l0 (rd t250 x10_1) t262 _ ?side1 ?side2 A39.out).mono ?_); (case side1 => exact cq (Kd.C_below HR0.out HB.out)); (case side2 => exact HC0.out); rintro e w' ⟨rfl, ⟨nd, rfl⟩⟩; refine ⟨_, rfl, ?_⟩) | ((with_reducible refine gate_callee (f := 76) rfl ?_); refine goesL_ (some 89) rfl rfl Try.func76 (by kernel_rfl) rfl #[.slice (some ad254) l0.length c0, .int .i64 (wrap64 ((rd t250 x10_1) + 1)), .int .i64 t262, .bool true] rfl (aq) ?_; (with_reducible refine (ih kj35 (by have := HK1.out; have := HJ10.out; have := HJ15.out; have := HJ35.out; omega) _ _ l0 (wrap64 ((rd t250 x10_1) + 1)) t262 true true _ ?side1 ?side2 A41.out).mono ?_); (case side1 => repeat (first | exact (Kd.C_below HR0.out (bq)) | (with_reducible refine Kd.C_alloc ?_ _) | (with_reducible refine Kd.C_drewN ?_ _) | (with_reducible refine Kd.C_drew ?_))); (case side2 => exact HC0.out); rintro e w43 ⟨rfl, hb⟩; refine ⟨_, rfl, ?_⟩; have n0_ := Aside0.mk (Kd.R_below (rq HO_9.out) hb); have n1_ := Aside0.mk (below_step (bq) hb); clear HO_9; clear HB; have HO_9 := n0_; have HB := n1_; clear n0_ n1_; (try clear hb); (try clear hb2); (try clear hk); (try clear hi)))
                                      go_roundg kj35
                                      case measure => have := HK1.out; have := HJ10.out; have := HJ15.out; have := HJ35.out; omega
                                      case rel => exact ⟨(wrap64 (x10_1 + 1)), (sq), H', ⟨by have := HK1.out; have := HJ10.out; have := HJ15.out; have := HJ35.out; omega⟩, ⟨rq HO_9.out⟩, ⟨bq⟩⟩
                                    · replace c42 := Bool.eq_false_iff.mpr c42
                                      subst c42
                                      have H1 : (some false) = some r := by rw [if_neg (show ¬ (false = true) by decide)] at H; exact H
                                      clear H
                                      have H := H1
                                      clear H1
                                      obtain rfl := Option.some.inj H
                                      go_wp2_with (first | ((with_reducible refine gate_callee (f := 67) rfl ?_); refine goesL_ (some 83) rfl rfl Try.func67 (by kernel_rfl) rfl #[.slice (some ad254) l0.length c0, .int .i64 (rd t250 x10_1)] rfl (aq) ?_; (with_reducible refine (impl_endOf.calls kj35 _ _ l0 (rd t250 x10_1) t262 _ ?side1 ?side2 A39.out).mono ?_); (case side1 => exact cq (Kd.C_below HR0.out HB.out)); (case side2 => exact HC0.out); rintro e w' ⟨rfl, ⟨nd, rfl⟩⟩; refine ⟨_, rfl, ?_⟩) | ((with_reducible refine gate_callee (f := 76) rfl ?_); refine goesL_ (some 89) rfl rfl Try.func76 (by kernel_rfl) rfl #[.slice (some ad254) l0.length c0, .int .i64 (wrap64 ((rd t250 x10_1) + 1)), .int .i64 t262, .bool true] rfl (aq) ?_; (with_reducible refine (ih kj35 (by have := HK1.out; have := HJ10.out; have := HJ15.out; have := HJ35.out; omega) _ _ l0 (wrap64 ((rd t250 x10_1) + 1)) t262 true false _ ?side1 ?side2 A41.out).mono ?_); (case side1 => repeat (first | exact (Kd.C_below HR0.out (bq)) | (with_reducible refine Kd.C_alloc ?_ _) | (with_reducible refine Kd.C_drewN ?_ _) | (with_reducible refine Kd.C_drew ?_))); (case side2 => exact HC0.out); rintro e w44 ⟨rfl, hb⟩; refine ⟨_, rfl, ?_⟩; have n0_ := Aside0.mk (Kd.R_below (rq HO_9.out) hb); have n1_ := Aside0.mk (below_step (bq) hb); clear HO_9; clear HB; have HO_9 := n0_; have HB := n1_; clear n0_ n1_; (try clear hb); (try clear hb2); (try clear hk); (try clear hi)))
                                      go_ret
                                      exact ⟨by first | rfl | (simp [errW_none, errW_some] <;> rfl) | (simp [*, errW_none, errW_some] <;> rfl), bq⟩
                                  · replace c40 := Bool.eq_false_iff.mpr c40
                                    subst c40
                                    have H1 : ((impl_blockOk.f kj35 l0 (wrap64 ((rd t250 x10_1) + 1)) t262 (((rd_T50 l0 (rd t250 x10_1)).f1) == 12)).bind fun t264 => (if t264 = true then (impl_blockOk.l0 kj35 l0 false t250 (wrap64 (x10_1 + 1))) else (some false))) = some r := by rw [if_neg (show ¬ (false = true) by decide)] at H; exact H
                                    clear H
                                    have H := H1
                                    clear H1
                                    replace H := Option.bind_eq_some_iff.mp H
                                    obtain ⟨t264, A450, H⟩ := H
                                    replace H : (if t264 = true then (impl_blockOk.l0 kj35 l0 false t250 (wrap64 (x10_1 + 1))) else (some false)) = some r := H
                                    have A45 := Aside0.mk A450
                                    clear A450
                                    by_cases c46 : t264 = true
                                    · subst c46
                                      have H1 : (impl_blockOk.l0 kj35 l0 false t250 (wrap64 (x10_1 + 1))) = some r := by rw [if_pos rfl] at H; exact H
                                      clear H
                                      have H := H1
                                      clear H1
                                      have H' := Aside0.mk H
                                      clear H
                                      go_wp2_with (first | ((with_reducible refine gate_callee (f := 67) rfl ?_); refine goesL_ (some 83) rfl rfl Try.func67 (by kernel_rfl) rfl #[.slice (some ad254) l0.length c0, .int .i64 (rd t250 x10_1)] rfl (aq) ?_; (with_reducible refine (impl_endOf.calls kj35 _ _ l0 (rd t250 x10_1) t262 _ ?side1 ?side2 A39.out).mono ?_); (case side1 => exact cq (Kd.C_below HR0.out HB.out)); (case side2 => exact HC0.out); rintro e w' ⟨rfl, ⟨nd, rfl⟩⟩; refine ⟨_, rfl, ?_⟩) | ((with_reducible refine gate_callee (f := 76) rfl ?_); refine goesL_ (some 89) rfl rfl Try.func76 (by kernel_rfl) rfl #[.slice (some ad254) l0.length c0, .int .i64 (wrap64 ((rd t250 x10_1) + 1)), .int .i64 t262, .bool (((rd_T50 l0 (rd t250 x10_1)).f1) == 12)] rfl (aq) ?_; (with_reducible refine (ih kj35 (by have := HK1.out; have := HJ10.out; have := HJ15.out; have := HJ35.out; omega) _ _ l0 (wrap64 ((rd t250 x10_1) + 1)) t262 (((rd_T50 l0 (rd t250 x10_1)).f1) == 12) true _ ?side1 ?side2 A45.out).mono ?_); (case side1 => repeat (first | exact (Kd.C_below HR0.out (bq)) | (with_reducible refine Kd.C_alloc ?_ _) | (with_reducible refine Kd.C_drewN ?_ _) | (with_reducible refine Kd.C_drew ?_))); (case side2 => exact HC0.out); rintro e w47 ⟨rfl, hb⟩; refine ⟨_, rfl, ?_⟩; have n0_ := Aside0.mk (Kd.R_below (rq HO_9.out) hb); have n1_ := Aside0.mk (below_step (bq) hb); clear HO_9; clear HB; have HO_9 := n0_; have HB := n1_; clear n0_ n1_; (try clear hb); (try clear hb2); (try clear hk); (try clear hi)))
                                      go_roundg kj35
                                      case measure => have := HK1.out; have := HJ10.out; have := HJ15.out; have := HJ35.out; omega
                                      case rel => exact ⟨(wrap64 (x10_1 + 1)), (sq), H', ⟨by have := HK1.out; have := HJ10.out; have := HJ15.out; have := HJ35.out; omega⟩, ⟨rq HO_9.out⟩, ⟨bq⟩⟩
                                    · replace c46 := Bool.eq_false_iff.mpr c46
                                      subst c46
                                      have H1 : (some false) = some r := by rw [if_neg (show ¬ (false = true) by decide)] at H; exact H
                                      clear H
                                      have H := H1
                                      clear H1
                                      obtain rfl := Option.some.inj H
                                      go_wp2_with (first | ((with_reducible refine gate_callee (f := 67) rfl ?_); refine goesL_ (some 83) rfl rfl Try.func67 (by kernel_rfl) rfl #[.slice (some ad254) l0.length c0, .int .i64 (rd t250 x10_1)] rfl (aq) ?_; (with_reducible refine (impl_endOf.calls kj35 _ _ l0 (rd t250 x10_1) t262 _ ?side1 ?side2 A39.out).mono ?_); (case side1 => exact cq (Kd.C_below HR0.out HB.out)); (case side2 => exact HC0.out); rintro e w' ⟨rfl, ⟨nd, rfl⟩⟩; refine ⟨_, rfl, ?_⟩) | ((with_reducible refine gate_callee (f := 76) rfl ?_); refine goesL_ (some 89) rfl rfl Try.func76 (by kernel_rfl) rfl #[.slice (some ad254) l0.length c0, .int .i64 (wrap64 ((rd t250 x10_1) + 1)), .int .i64 t262, .bool (((rd_T50 l0 (rd t250 x10_1)).f1) == 12)] rfl (aq) ?_; (with_reducible refine (ih kj35 (by have := HK1.out; have := HJ10.out; have := HJ15.out; have := HJ35.out; omega) _ _ l0 (wrap64 ((rd t250 x10_1) + 1)) t262 (((rd_T50 l0 (rd t250 x10_1)).f1) == 12) false _ ?side1 ?side2 A45.out).mono ?_); (case side1 => repeat (first | exact (Kd.C_below HR0.out (bq)) | (with_reducible refine Kd.C_alloc ?_ _) | (with_reducible refine Kd.C_drewN ?_ _) | (with_reducible refine Kd.C_drew ?_))); (case side2 => exact HC0.out); rintro e w48 ⟨rfl, hb⟩; refine ⟨_, rfl, ?_⟩; have n0_ := Aside0.mk (Kd.R_below (rq HO_9.out) hb); have n1_ := Aside0.mk (below_step (bq) hb); clear HO_9; clear HB; have HO_9 := n0_; have HB := n1_; clear n0_ n1_; (try clear hb); (try clear hb2); (try clear hk); (try clear hi)))
                                      go_ret
                                      exact ⟨by first | rfl | (simp [errW_none, errW_some] <;> rfl) | (simp [*, errW_none, errW_some] <;> rfl), bq⟩
                                · replace c38 := Bool.eq_false_iff.mpr c38
                                  subst c38
                                  have H1 : (impl_blockOk.l0 kj35 l0 a3 t250 (wrap64 (x10_1 + 1))) = some r := by rw [if_neg (show ¬ (false = true) by decide)] at H; exact H
                                  clear H
                                  have H := H1
                                  clear H1
                                  have H' := Aside0.mk H
                                  clear H
                                  go_wp2
                                  go_roundg kj35
                                  case measure => have := HK1.out; have := HJ10.out; have := HJ15.out; have := HJ35.out; omega
                                  case rel => exact ⟨(wrap64 (x10_1 + 1)), (sq), H', ⟨by have := HK1.out; have := HJ10.out; have := HJ15.out; have := HJ35.out; omega⟩, ⟨rq HO_9.out⟩, ⟨bq⟩⟩
            · rw [if_neg c10] at H
              exact absurd H (by simp)
          · rw [if_neg c9] at H
            exact absurd H (by simp)
        · rw [if_neg c8] at H
          exact absurd H (by simp)
      · rw [if_neg c7] at H
        have c7b0 : decide (x10_1 < (t250.length : Int)) = false := decide_eq_false c7
        clear c7
        obtain rfl := Option.some.inj H
        obtain ⟨Ao49, co49, eo49⟩ := Kd.R_slice HO_9.out
        subst eo49
        go_wp2
        go_ret
        exact ⟨by first | rfl | (simp [errW_none, errW_some] <;> rfl) | (simp [*, errW_none, errW_some] <;> rfl), bq⟩
end Go.Proofs.Ytbclgpgolbmlpaa.P
end

section
namespace Go.Proofs.Ytbclgpgolbmlpaa.P
open Go.RowKit Go.Proofs.YtbclgpgolbmlpaaW.PrintWords Go.Proofs.YtbclgpgolbmlpaaW.PrintLast Go.Proofs.YtbclgpgolbmlpaaW.PrintMore
attribute [local go_sem] max2_int min2_int max_two min_two max_three min_three max_four min_four isSome_cell_setCell   -- for this text's walks alone
set_option linter.unusedVariables false
set_option linter.unusedSimpArgs false
def inB (a lo hi : Int) : Bool := decide (lo ≤ a) && decide (a ≤ hi)
theorem impl_within_eq (a lo hi : Int) : impl_within.f a lo hi = some (inB a lo hi) := by
  unfold impl_within.f inB
  by_cases h : a ≥ lo
  · rw [if_pos h]; simp [show lo ≤ a from h]
  · rw [if_neg h]; simp [show ¬ lo ≤ a from h]
theorem impl_Line_opens_eq (a b c d : Int) : impl_Line_opens.f a b c d = some (inB b 7 12) := by
  unfold impl_Line_opens.f
  rw [impl_within_eq]; rfl
def VF (W : World) (B1 BL BT : Nat) (a x : S50) (tv : Value) : Prop :=
  W.heap[B1]? = some (.cells #[.int .i64 a.f0, .int .i64 a.f1, .int .i64 a.f2, .int .i64 a.f3] 50 (0, 0)) ∧ W.heap[BL]? = some (.cells #[.int .i64 x.f0, .int .i64 x.f1, .int .i64 x.f2, .int .i64 x.f3] 50 (0, 0)) ∧ W.cell? ⟨BT, 0, none⟩ = some tv
theorem VF.below {W W' : World} {B1 BL BT : Nat} {a x : S50} {tv : Value} (h : VF W B1 BL BT a x tv) (hb : Below W.heap.size W W') : VF W' B1 BL BT a x tv :=
  ⟨(hb.block _ (blk_lt h.1)).trans h.1, (hb.block _ (blk_lt h.2.1)).trans h.2.1, pw_cell_below hb h.2.2⟩
theorem VF.cells {W : World} {B1 BL BT : Nat} {a x : S50} {tv : Value} (h : VF W B1 BL BT a x tv) :
    W.cell? ⟨B1, 0, none⟩ = some (.int .i64 a.f0) ∧ W.cell? ⟨B1, 1, none⟩ = some (.int .i64 a.f1) ∧ W.cell? ⟨B1, 2, none⟩ = some (.int .i64 a.f2) ∧ W.cell? ⟨B1, 3, none⟩ = some (.int .i64 a.f3) ∧
    W.cell? ⟨BL, 0, none⟩ = some (.int .i64 x.f0) ∧ W.cell? ⟨BL, 1, none⟩ = some (.int .i64 x.f1) ∧ W.cell? ⟨BL, 2, none⟩ = some (.int .i64 x.f2) ∧ W.cell? ⟨BL, 3, none⟩ = some (.int .i64 x.f3) ∧ W.cell? ⟨BT, 0, none⟩ = some tv :=
  ⟨(blk_cell h.1 0).trans rfl, (blk_cell h.1 1).trans rfl, (blk_cell h.1 2).trans rfl, (blk_cell h.1 3).trans rfl, (blk_cell h.2.1 0).trans rfl, (blk_cell h.2.1 1).trans rfl, (blk_cell h.2.1 2).trans rfl, (blk_cell h.2.1 3).trans rfl, h.2.2⟩
theorem VF.frozen {W : World} {B1 BL BT : Nat} {a x : S50} {tv : Value} (h : VF W B1 BL BT a x tv) : W.frozen? ⟨B1, 0, none⟩ = false ∧ W.frozen? ⟨B1, 1, none⟩ = false ∧ W.frozen? ⟨B1, 2, none⟩ = false ∧ W.frozen? ⟨B1, 3, none⟩ = false :=
  ⟨blk_frozen h.1 0, blk_frozen h.1 1, blk_frozen h.1 2, blk_frozen h.1 3⟩
theorem four_stored {W : World} {B T : Nat} {a b c d a' b' c' d' : Value} (h : W.heap[B]? = some (.cells #[a, b, c, d] T (0, 0))) :
    ((((W.setCell ⟨B, 0, none⟩ a').setCell ⟨B, 1, none⟩ b').setCell ⟨B, 2, none⟩ c').setCell ⟨B, 3, none⟩ d').heap[B]? = some (.cells #[a', b', c', d'] T (0, 0)) := by
  have h0 := blk_set h 0 a'
  have h1 := blk_set h0 1 b'
  have h2 := blk_set h1 2 c'
  have h3 := blk_set h2 3 d'
  simpa using h3
theorem four_below {W w : World} {base B : Nat} {a' b' c' d' : Value} (h : Below base w W) (hB : base ≤ B) :
    Below base w ((((W.setCell ⟨B, 0, none⟩ a').setCell ⟨B, 1, none⟩ b').setCell ⟨B, 2, none⟩ c').setCell ⟨B, 3, none⟩ d') :=
  (((h.setCell (p := ⟨B, 0, none⟩) hB _).setCell (p := ⟨B, 1, none⟩) hB _).setCell (p := ⟨B, 2, none⟩) hB _).setCell (p := ⟨B, 3, none⟩) hB _
theorem four_far {W : World} {B C : Nat} {a' b' c' d' v : Value} (h : W.cell? ⟨C, 0, none⟩ = some v) (hne : B ≠ C) :
    ((((W.setCell ⟨B, 0, none⟩ a').setCell ⟨B, 1, none⟩ b').setCell ⟨B, 2, none⟩ c').setCell ⟨B, 3, none⟩ d').cell? ⟨C, 0, none⟩ = some v := by
  have e : ∀ j, (⟨B, j, none⟩ : Addr) ≠ ⟨C, 0, none⟩ := fun j hj => hne (by injection hj)
  rw [World.cell?_setCell_other (h := e 3), World.cell?_setCell_other (h := e 2), World.cell?_setCell_other (h := e 1), World.cell?_setCell_other (h := e 0)]
  exact h
def impl_ValidProgram.bad (x last : S50) : Bool := !inB x.f0 0 5 || (inB last.f1 7 12 && decide (x.f0 ≠ last.f0 + 1)) || (!inB last.f1 7 12 && decide (last.f0 < x.f0))
def impl_ValidProgram.go (k : Nat) (t : List S68) : List S50 → S50 → Option (Option S50)
  | [], last => some (some last)
  | x :: xs, last => (impl_Line_argued.f k x.f0 x.f1 x.f2 x.f3 t).bind fun v => if v = false then some none else if impl_ValidProgram.bad x last then some none else impl_ValidProgram.go k t xs x
def impl_ValidProgram.f (k : Nat) (l0_0 : List S68) (l1 : List S50) : Option Bool := (impl_ValidTree.f k l0_0).bind fun v =>
  if v = false then some false else if 24 < l1.length then some false else
  (impl_ValidProgram.go k l0_0 l1 ⟨-1, 7, 0, 0⟩).bind fun q => match q with
  | none => some false
  | some last => if l1.length = 0 then impl_blockOk.f k l1 0 (l1.length : Int) false else if inB last.f1 7 12 then some false else impl_blockOk.f k l1 0 (l1.length : Int) false
theorem impl_ValidProgram.go_mono : ∀ (l : List S50) (t : List S68) (x : S50) k, LeO (impl_ValidProgram.go k t l x) (impl_ValidProgram.go (k + 1) t l x)
  | [], _, _, _ => LeO.refl _
  | y :: l, t, x, k => by
    simp only [impl_ValidProgram.go]
    refine LeO.bind (impl_Line_argued.mono _ _ _ _ _ _) fun v => LeO.ite (LeO.refl _) (LeO.ite (LeO.refl _) (impl_ValidProgram.go_mono l t y k))
theorem impl_ValidProgram.mono : ∀ a0 a1 k, LeO (impl_ValidProgram.f k a0 a1) (impl_ValidProgram.f (k + 1) a0 a1) := by
  intro a0 a1 k
  refine LeO.bind (impl_ValidTree.mono _ _) fun v => LeO.ite (LeO.refl _) (LeO.ite (LeO.refl _) (LeO.bind (impl_ValidProgram.go_mono _ _ _ _) fun q => ?_))
  cases q with
  | none => exact LeO.refl _
  | some last => exact LeO.ite (impl_blockOk.mono _ _ _ _ _) (LeO.ite (LeO.refl _) (impl_blockOk.mono _ _ _ _ _))
theorem impl_ValidProgram.step {k : Nat} {t : List S68} {p : List S50} {n : Nat} {last : S50} {q : Option S50} (hn : n < p.length) (h : impl_ValidProgram.go k t (p.drop n) last = some q) :
    ∃ v, impl_Line_argued.f k p[n].f0 p[n].f1 p[n].f2 p[n].f3 t = some v ∧ (if v = false then some none else if impl_ValidProgram.bad p[n] last then some none else impl_ValidProgram.go k t (p.drop (n + 1)) p[n]) = some q := by
  rw [List.drop_eq_getElem_cons hn] at h
  exact Option.bind_eq_some_iff.mp h
set_option maxHeartbeats 8000000 in
set_option maxRecDepth 100000 in
theorem impl_ValidProgram.calls (k : Nat) (A0_0 : Option Addr) (c0_0 : Nat) (l0_0 : List S68) (A1 : Option Addr) (c1 : Nat) (l1 : List S50) (r : Bool) (w : World) (hr0_0 : Kd.C k68 w A0_0 l0_0.length l0_0) (hc0_0 : l0_0.length ≤ c0_0) (hr1 : Kd.C k50 w A1 l1.length l1) (hc1 : l1.length ≤ c1) (h : impl_ValidProgram.f k l0_0 l1 = some r) :
    Calls Try.prog 59 #[.agg #[.slice A0_0 l0_0.length c0_0], .slice A1 l1.length c1] w fun e w' => e = .returned (.bool r) ∧ Below w.heap.size w w' := by
  have hu31 := Try.underlying31
  have hu50 := Try.underlying50
  have hm : l1.length ≤ 9223372036854775807 := Kd.C_max hr1
  obtain ⟨v, hv, h⟩ := Option.bind_eq_some_iff.mp h
  have HV := Aside0.mk (fun W (hb : Below w.heap.size w W) => impl_ValidTree.calls k A0_0 c0_0 l0_0 v W (Kd.C_below hr0_0 hb) hc0_0 hv)
  have HR0 := Aside0.mk hr0_0
  have HR1 := Aside0.mk hr1
  clear hv hr0_0 hr1
  cases v with
  | false =>
    obtain rfl : false = r := by simpa using h
    clear h
    go_enter Try.func59, Try.ntmps59
    go_wp2_with (go_at_call 74; refine (HV.out _ ((Below.refl _ _).alloc (Nat.le_refl _) _)).mono ?_; rintro e w' ⟨rfl, hb2⟩)
    go_ret
    exact ⟨rfl, ((Below.refl _ _).alloc (Nat.le_refl _) _).trans (hb2.mono (by simp))⟩
  | true =>
    simp only [Bool.true_eq_false, if_false] at h
    by_cases h24 : 24 < l1.length
    · rw [if_pos h24] at h
      obtain rfl : false = r := by simpa using h
      have h24b : decide (24 < l1.length) = true := decide_eq_true h24
      clear h
      go_enter Try.func59, Try.ntmps59
      go_wp2_with (go_at_call 74; refine (HV.out _ ((Below.refl _ _).alloc (Nat.le_refl _) _)).mono ?_; rintro e w' ⟨rfl, hb2⟩)
      go_ret
      exact ⟨rfl, ((Below.refl _ _).alloc (Nat.le_refl _) _).trans (hb2.mono (by simp))⟩
    · rw [if_neg h24] at h
      have h24b : decide (24 < l1.length) = false := decide_eq_false h24
      obtain ⟨q, hq, h⟩ := Option.bind_eq_some_iff.mp h
      have H0 := Aside0.mk hq
      have HZ := Aside0.mk h
      clear h hq
      go_enter Try.func59, Try.ntmps59
      go_wp2_with (go_at_call 74; refine (HV.out _ ((Below.refl _ _).alloc (Nat.le_refl _) _)).mono ?_; rintro e w2 ⟨rfl, hb2⟩; have HB2 := Aside0.mk (((Below.refl w.heap.size w).alloc (Nat.le_refl _) (.cells #[.slice A0_0 l0_0.length c0_0] 31)).trans (hb2.mono (by simp))); have hs2 : w.heap.size < w2.heap.size := Nat.lt_of_lt_of_le (by simp) hb2.size; have ht2 := pw_cell_below hb2 (show (w.alloc (.cells #[.slice A0_0 l0_0.length c0_0] 31)).cell? ⟨w.heap.size, 0, none⟩ = some (.slice A0_0 l0_0.length c0_0) by simp); clear hb2)
      obtain ⟨B1, hB1⟩ : ∃ B1, B1 = w2.heap.size := ⟨_, rfl⟩
      have HBK := Aside0.mk (show (w2.alloc (.cells #[.int .i64 (-1), .int .i64 7, .int .i64 0, .int .i64 0] 50)).heap[B1]? = some (.cells #[.int .i64 (-1), .int .i64 7, .int .i64 0, .int .i64 0] 50 (0, 0)) by rw [hB1]; exact heap_alloc_new w2 _)
      have hBl := Aside0.mk (HB2.out.alloc (Nat.le_of_lt hs2) (.cells #[.int .i64 (-1), .int .i64 7, .int .i64 0, .int .i64 0] 50))
      have hT := Aside0.mk (show (w2.alloc (.cells #[.int .i64 (-1), .int .i64 7, .int .i64 0, .int .i64 0] 50)).cell? ⟨w.heap.size, 0, none⟩ = some (.slice A0_0 l0_0.length c0_0) by simp [World.cell?_alloc_old, Nat.ne_of_lt hs2, ht2])
      rw [← hB1]
      have hlt1 : w.heap.size < B1 := by omega
      clear hB1
      generalize w2.alloc (.cells #[.int .i64 (-1), .int .i64 7, .int .i64 0, .int .i64 0] 50) = w3 at HBK hBl hT ⊢
      clear ht2 hs2 HB2 HV
      go_loopw [19] (fun i19 wr => ∃ (n : Nat) (last : S50), i19 = .int .i64 n ∧ n ≤ l1.length ∧ -1 ≤ last.f0 ∧ last.f0 ≤ 5 ∧ Aside0 (impl_ValidProgram.go k l0_0 (l1.drop n) last = some q) ∧ Aside0 (wr.heap[B1]? = some (.cells #[.int .i64 last.f0, .int .i64 last.f1, .int .i64 last.f2, .int .i64 last.f3] 50 (0, 0))) ∧ Aside0 (wr.cell? ⟨w.heap.size, 0, none⟩ = some (.slice A0_0 l0_0.length c0_0)) ∧ Aside0 (Below w.heap.size w wr)) (fun i19 _ => l1.length - (intOf i19).toNat)
      case atStart => exact ⟨0, ⟨-1, 7, 0, 0⟩, rfl, Nat.zero_le _, by simp, by simp, H0, HBK, hT, hBl⟩
      case round =>
        clear H0 HBK hT hBl
        obtain ⟨n, last, rfl, hn, hlo, hhi, HA, HBK, HT, HB⟩ := hrel
        have ht2 := HT.out
        have g0 : wr.cell? ⟨B1, 0, none⟩ = some (.int .i64 last.f0) := (blk_cell HBK.out 0).trans rfl
        have g1 : wr.cell? ⟨B1, 1, none⟩ = some (.int .i64 last.f1) := (blk_cell HBK.out 1).trans rfl
        have g2 : wr.cell? ⟨B1, 2, none⟩ = some (.int .i64 last.f2) := (blk_cell HBK.out 2).trans rfl
        have g3 : wr.cell? ⟨B1, 3, none⟩ = some (.int .i64 last.f3) := (blk_cell HBK.out 3).trans rfl
        have hBw : B1 < wr.heap.size := blk_lt HBK.out
        have hne : B1 ≠ wr.heap.size := by omega
        have hne2 : w.heap.size ≠ wr.heap.size := by omega
        have hTw : w.heap.size < wr.heap.size := by omega
        by_cases hlt : n < l1.length
        · obtain ⟨v, hv, hs⟩ := impl_ValidProgram.step hlt HA.out
          clear HA
          obtain ⟨ad, rfl, hx0, hx1, hx2, hx3⟩ := at_T50 HR1.out (n : Int) (by omega) (by omega)
          have hrd : rd_T50 l1 (n : Int) = l1[n] := by simp [rd_T50, List.getD_eq_getElem?_getD, hlt]
          rw [hrd, Int.toNat_natCast] at hx0 hx1 hx2 hx3
          clear hrd
          generalize l1[n] = x at hv hs hx0 hx1 hx2 hx3
          have hb := HB.out
          replace hx0 := pw_cell_below hb hx0
          replace hx1 := pw_cell_below hb hx1
          replace hx2 := pw_cell_below hb hx2
          replace hx3 := pw_cell_below hb hx3
          clear hb
          have HG := Aside0.mk (fun W (hb : Below w.heap.size w W) => impl_Line_argued.calls k x.f0 x.f1 x.f2 x.f3 A0_0 c0_0 l0_0 v W (Kd.C_below HR0.out hb) hc0_0 hv)
          clear hv
          cases v with
          | false =>
            obtain rfl : none = q := by simpa using hs
            obtain rfl : false = r := by simpa using HZ.out
            clear hs HZ
            go_wp2_with (go_at_call 75; refine (HG.out _ (HB.out.alloc HB.out.size _)).mono ?_; rintro e w4 ⟨rfl, hb4⟩)
            go_ret
            exact ⟨rfl, below_then (HB.out.alloc HB.out.size _) (by simp; have := HB.out.size; omega) hb4⟩
          | true =>
            simp only [Bool.true_eq_false, if_false] at hs
            have V0 := Aside0.mk (show VF (wr.alloc (.cells #[.int .i64 x.f0, .int .i64 x.f1, .int .i64 x.f2, .int .i64 x.f3] 50)) B1 wr.heap.size w.heap.size last x (.slice A0_0 l0_0.length c0_0) from ⟨(heap_alloc_old wr _ hBw).trans HBK.out, heap_alloc_new wr _, by rw [World.cell?_alloc_old _ _ _ hne2]; exact HT.out⟩)
            have HO := Aside0.mk (fun W => impl_Line_opens.calls last.f0 last.f1 last.f2 last.f3 _ W (impl_Line_opens_eq _ _ _ _))
            clear g0 g1 g2 g3
            have tok1 : True := trivial
            have HS := Aside0.mk hs
            clear hs
            cases h5 : inB x.f0 0 5 with
            | false =>
              have H5 := Aside0.mk h5
              obtain rfl : none = q := by simpa [impl_ValidProgram.bad, h5] using HS.out
              obtain rfl : false = r := by simpa using HZ.out
              clear HS HZ h5
              go_wp2_with (first | (go_at_call 75; refine (HG.out _ (HB.out.alloc HB.out.size _)).mono ?_; rintro e w4 ⟨rfl, hb4⟩; have V4 := Aside0.mk (VF.below V0.out hb4); have HB4 := Aside0.mk (below_then (HB.out.alloc HB.out.size _) (by simp; have := HB.out.size; omega) hb4); clear hb4; obtain ⟨g0, g1, g2, g3, e0, e1, e2, e3, ht4⟩ := VF.cells V4.out) | (go_at_call 44; refine (impl_within.calls _ _ _ _ _ (impl_within_eq _ _ _)).mono ?_; rintro e w5 ⟨rfl, ⟨nd, rfl⟩⟩; rw [H5.out]))
              go_ret
              exact ⟨rfl, pw_below_drewN HB4.out _⟩
            | true =>
              have H5 := Aside0.mk h5
              have hx5 : 0 ≤ x.f0 ∧ x.f0 ≤ 5 := by simpa [inB] using h5
              cases ho : inB last.f1 7 12 with
              | true =>
                rw [ho] at HO
                by_cases hd : x.f0 = last.f0 + 1
                · have hb1 : (x.f0 != last.f0 + 1) = false := by simpa using hd
                  have hbad : impl_ValidProgram.bad x last = false := by unfold impl_ValidProgram.bad; rw [h5, ho]; simp [hd]
                  have HN := Aside0.mk (by have := HS.out; rw [hbad] at this; simpa using this : impl_ValidProgram.go k l0_0 (l1.drop (n + 1)) x = some q)
                  clear hbad
                  clear HS hd h5 ho
                  go_wp2_with (first | (go_at_call 75; refine (HG.out _ (HB.out.alloc HB.out.size _)).mono ?_; rintro e w4 ⟨rfl, hb4⟩; have V4 := Aside0.mk (VF.below V0.out hb4); have HB4 := Aside0.mk (below_then (HB.out.alloc HB.out.size _) (by simp; have := HB.out.size; omega) hb4); clear hb4; obtain ⟨g0, g1, g2, g3, e0, e1, e2, e3, ht4⟩ := VF.cells V4.out) | (go_at_call 44; refine (impl_within.calls _ _ _ _ _ (impl_within_eq _ _ _)).mono ?_; rintro e w5 ⟨rfl, ⟨nd, rfl⟩⟩; rw [H5.out]) | (go_at_call 66; have tk1 := tok1; clear tok1; refine (HO.out _).mono ?_; rintro e w6 ⟨rfl, hb6⟩; have V6 := Aside0.mk (VF.below (W := World.drewN _ _) V4.out hb6); have HB6 := Aside0.mk (below_then (w1 := World.drewN _ _) (show Below w.heap.size w (World.drewN _ _) from ⟨HB4.out.os, HB4.out.tape, HB4.out.output, HB4.out.size, HB4.out.block⟩) HB4.out.size hb6); clear hb6 g0 g1 g2 g3 e0 e1 e2 e3 ht4; obtain ⟨g0, g1, g2, g3, e0, e1, e2, e3, ht4⟩ := VF.cells V6.out) | (go_at_call 66; refine (HO.out _).mono ?_; rintro e w7 ⟨rfl, hb7⟩; have V7 := Aside0.mk (VF.below V6.out hb7); have HB7 := Aside0.mk (below_then HB6.out HB6.out.size hb7); clear hb7 g0 g1 g2 g3 e0 e1 e2 e3 ht4; obtain ⟨g0, g1, g2, g3, e0, e1, e2, e3, ht4⟩ := VF.cells V7.out; obtain ⟨f0, f1, f2, f3⟩ := VF.frozen V7.out))
                  go_roundw
                  case rel => exact ⟨n + 1, x, by go_num, hlt, by omega, by omega, HN, ⟨four_stored V7.out.1⟩, ⟨four_far V7.out.2.2 (by omega)⟩, ⟨four_below HB7.out (by omega)⟩⟩
                  case measure => simp [intOf]; omega
                · have hb1 : (x.f0 != last.f0 + 1) = true := by simpa using hd
                  obtain rfl : none = q := by simpa [impl_ValidProgram.bad, h5, ho, hd] using HS.out
                  obtain rfl : false = r := by simpa using HZ.out
                  clear HS HZ hd h5 ho
                  go_wp2_with (first | (go_at_call 75; refine (HG.out _ (HB.out.alloc HB.out.size _)).mono ?_; rintro e w4 ⟨rfl, hb4⟩; have V4 := Aside0.mk (VF.below V0.out hb4); have HB4 := Aside0.mk (below_then (HB.out.alloc HB.out.size _) (by simp; have := HB.out.size; omega) hb4); clear hb4; obtain ⟨g0, g1, g2, g3, e0, e1, e2, e3, ht4⟩ := VF.cells V4.out) | (go_at_call 44; refine (impl_within.calls _ _ _ _ _ (impl_within_eq _ _ _)).mono ?_; rintro e w5 ⟨rfl, ⟨nd, rfl⟩⟩; rw [H5.out]) | (go_at_call 66; have tk1 := tok1; clear tok1; refine (HO.out _).mono ?_; rintro e w6 ⟨rfl, hb6⟩; have V6 := Aside0.mk (VF.below (W := World.drewN _ _) V4.out hb6); have HB6 := Aside0.mk (below_then (w1 := World.drewN _ _) (show Below w.heap.size w (World.drewN _ _) from ⟨HB4.out.os, HB4.out.tape, HB4.out.output, HB4.out.size, HB4.out.block⟩) HB4.out.size hb6); clear hb6 g0 g1 g2 g3 e0 e1 e2 e3 ht4; obtain ⟨g0, g1, g2, g3, e0, e1, e2, e3, ht4⟩ := VF.cells V6.out))
                  go_ret
                  exact ⟨rfl, HB6.out⟩
              | false =>
                rw [ho] at HO
                by_cases hd : last.f0 < x.f0
                · have hb1 : decide (last.f0 < x.f0) = true := decide_eq_true hd
                  have hbad : impl_ValidProgram.bad x last = true := by unfold impl_ValidProgram.bad; rw [h5, ho]; simp [hd]
                  obtain rfl : none = q := by have := HS.out; rw [hbad] at this; simpa using this
                  obtain rfl : false = r := by simpa using HZ.out
                  clear HS HZ hd h5 ho hbad
                  go_wp2_with (first | (go_at_call 75; refine (HG.out _ (HB.out.alloc HB.out.size _)).mono ?_; rintro e w4 ⟨rfl, hb4⟩; have V4 := Aside0.mk (VF.below V0.out hb4); have HB4 := Aside0.mk (below_then (HB.out.alloc HB.out.size _) (by simp; have := HB.out.size; omega) hb4); clear hb4; obtain ⟨g0, g1, g2, g3, e0, e1, e2, e3, ht4⟩ := VF.cells V4.out) | (go_at_call 44; refine (impl_within.calls _ _ _ _ _ (impl_within_eq _ _ _)).mono ?_; rintro e w5 ⟨rfl, ⟨nd, rfl⟩⟩; rw [H5.out]) | (go_at_call 66; have tk1 := tok1; clear tok1; refine (HO.out _).mono ?_; rintro e w6 ⟨rfl, hb6⟩; have V6 := Aside0.mk (VF.below (W := World.drewN _ _) V4.out hb6); have HB6 := Aside0.mk (below_then (w1 := World.drewN _ _) (show Below w.heap.size w (World.drewN _ _) from ⟨HB4.out.os, HB4.out.tape, HB4.out.output, HB4.out.size, HB4.out.block⟩) HB4.out.size hb6); clear hb6 g0 g1 g2 g3 e0 e1 e2 e3 ht4; obtain ⟨g0, g1, g2, g3, e0, e1, e2, e3, ht4⟩ := VF.cells V6.out) | (go_at_call 66; refine (HO.out _).mono ?_; rintro e w7 ⟨rfl, hb7⟩; have V7 := Aside0.mk (VF.below V6.out hb7); have HB7 := Aside0.mk (below_then HB6.out HB6.out.size hb7); clear hb7 g0 g1 g2 g3 e0 e1 e2 e3 ht4; obtain ⟨g0, g1, g2, g3, e0, e1, e2, e3, ht4⟩ := VF.cells V7.out; obtain ⟨f0, f1, f2, f3⟩ := VF.frozen V7.out))
                  go_ret
                  exact ⟨rfl, HB7.out⟩
                · have hb1 : decide (last.f0 < x.f0) = false := decide_eq_false hd
                  have hbad : impl_ValidProgram.bad x last = false := by unfold impl_ValidProgram.bad; rw [h5, ho]; simp [hd]
                  have HN := Aside0.mk (by have := HS.out; rw [hbad] at this; simpa using this : impl_ValidProgram.go k l0_0 (l1.drop (n + 1)) x = some q)
                  clear hbad HS hd h5 ho
                  go_wp2_with (first | (go_at_call 75; refine (HG.out _ (HB.out.alloc HB.out.size _)).mono ?_; rintro e w4 ⟨rfl, hb4⟩; have V4 := Aside0.mk (VF.below V0.out hb4); have HB4 := Aside0.mk (below_then (HB.out.alloc HB.out.size _) (by simp; have := HB.out.size; omega) hb4); clear hb4; obtain ⟨g0, g1, g2, g3, e0, e1, e2, e3, ht4⟩ := VF.cells V4.out) | (go_at_call 44; refine (impl_within.calls _ _ _ _ _ (impl_within_eq _ _ _)).mono ?_; rintro e w5 ⟨rfl, ⟨nd, rfl⟩⟩; rw [H5.out]) | (go_at_call 66; have tk1 := tok1; clear tok1; refine (HO.out _).mono ?_; rintro e w6 ⟨rfl, hb6⟩; have V6 := Aside0.mk (VF.below (W := World.drewN _ _) V4.out hb6); have HB6 := Aside0.mk (below_then (w1 := World.drewN _ _) (show Below w.heap.size w (World.drewN _ _) from ⟨HB4.out.os, HB4.out.tape, HB4.out.output, HB4.out.size, HB4.out.block⟩) HB4.out.size hb6); clear hb6 g0 g1 g2 g3 e0 e1 e2 e3 ht4; obtain ⟨g0, g1, g2, g3, e0, e1, e2, e3, ht4⟩ := VF.cells V6.out) | (go_at_call 66; refine (HO.out _).mono ?_; rintro e w7 ⟨rfl, hb7⟩; have V7 := Aside0.mk (VF.below V6.out hb7); have HB7 := Aside0.mk (below_then HB6.out HB6.out.size hb7); clear hb7 g0 g1 g2 g3 e0 e1 e2 e3 ht4; obtain ⟨g0, g1, g2, g3, e0, e1, e2, e3, ht4⟩ := VF.cells V7.out; obtain ⟨f0, f1, f2, f3⟩ := VF.frozen V7.out))
                  go_roundw
                  case rel => exact ⟨n + 1, x, by go_num, hlt, by omega, by omega, HN, ⟨four_stored V7.out.1⟩, ⟨four_far V7.out.2.2 (by omega)⟩, ⟨four_below HB7.out (by omega)⟩⟩
                  case measure => simp [intOf]; omega
        · have hgo := HA.out
          rw [List.drop_eq_nil_of_le (by omega)] at hgo
          obtain rfl : some last = q := by simpa [impl_ValidProgram.go] using hgo
          clear hgo HA
          have HY := Aside0.mk HZ.out
          clear HZ
          by_cases h0 : l1.length = 0
          · have hy := HY.out
            simp only [if_pos h0] at hy
            have HQ := Aside0.mk (fun W (hb : Below w.heap.size w W) => impl_blockOk.calls k A1 c1 l1 0 (l1.length : Int) false r W (Kd.C_below HR1.out hb) hc1 hy)
            have HBX := HB.out
            clear hy HY
            have hz1 : ((l1.length : Int) == 0) = true := by simp [h0]
            have hz2 : (l1.length == 0) = true := by simp [h0]
            clear h0
            go_wp2_with (first | (go_at_call 76; refine (HQ.out _ HBX).mono ?_; rintro e w9 ⟨rfl, hb9⟩; have HB9 := Aside0.mk (below_then HBX HBX.size hb9)))
            go_ret
            exact ⟨rfl, HB9.out⟩
          · have hz1 : ((l1.length : Int) == 0) = false := by simpa using h0
            have hz2 : (l1.length == 0) = false := by simpa using h0
            have HO := Aside0.mk (fun W => impl_Line_opens.calls last.f0 last.f1 last.f2 last.f3 _ W (impl_Line_opens_eq _ _ _ _))
            have hy := HY.out
            simp only [if_neg h0] at hy
            clear HY
            cases ho : inB last.f1 7 12 with
            | true =>
              rw [ho] at HO hy
              obtain rfl : false = r := by simpa using hy
              clear hy ho h0
              go_wp2_with (first | (go_at_call 66; refine (HO.out _).mono ?_; rintro e w6 ⟨rfl, hb6⟩; have HBX := below_then HB.out HB.out.size hb6; clear hb6))
              go_ret
              exact ⟨rfl, HBX⟩
            | false =>
              rw [ho] at HO hy
              simp only [Bool.false_eq_true, if_false] at hy
              have HQ := Aside0.mk (fun W (hb : Below w.heap.size w W) => impl_blockOk.calls k A1 c1 l1 0 (l1.length : Int) false r W (Kd.C_below HR1.out hb) hc1 hy)
              clear hy ho h0
              go_wp2_with (first | (go_at_call 66; refine (HO.out _).mono ?_; rintro e w6 ⟨rfl, hb6⟩; have HBX := below_then HB.out HB.out.size hb6; clear hb6) | (go_at_call 76; refine (HQ.out _ HBX).mono ?_; rintro e w9 ⟨rfl, hb9⟩; have HB9 := Aside0.mk (below_then HBX HBX.size hb9)))
              go_ret
              exact ⟨rfl, HB9.out⟩
end Go.Proofs.Ytbclgpgolbmlpaa.P
end

section
namespace Go.Proofs.Ytbclgpgolbmlpaa.P
open Go.RowKit Go.Proofs.YtbclgpgolbmlpaaW.PrintWords Go.Proofs.YtbclgpgolbmlpaaW.PrintLast Go.Proofs.YtbclgpgolbmlpaaW.PrintMore
attribute [local go_sem] max2_int min2_int max_two min_two max_three min_three max_four min_four isSome_cell_setCell   -- for this text's walks alone
set_option linter.unusedVariables false
set_option linter.unusedSimpArgs false
def impl_lineIn.f (k : Nat) (l0_0 : List (S68)) (l1 : List (S50)) (a2 : Int) : Option (Bool) := (impl_ValidProgram.f k l0_0 l1).bind fun t266 => (if t266 = true then ((impl_within.f a2 0 (wrap64 ((l1.length : Int) - 1))).bind fun t267 => (some t267)) else (some false))
theorem impl_lineIn.mono : ∀ a0 a1 a2 k, LeO (impl_lineIn.f k a0 a1 a2) (impl_lineIn.f (k + 1) a0 a1 a2) := by
  intro a0 a1 a2 k
  unfold impl_lineIn.f
  repeat' first
      | (with_reducible exact impl_ValidProgram.mono _ _ _)
      | (with_reducible exact LeO.refl _)
      | (with_reducible exact LeO.none _)
      | (with_reducible refine LeO.ite ?_ ?_)
      | (with_reducible refine LeO.bind ?_ (fun _ => ?_))
      | exact impl_ValidProgram.mono _ _ _
      | exact LeO.none _
      | refine LeO.ite ?_ ?_
      | refine LeO.bind ?_ (fun _ => ?_)
set_option maxHeartbeats 8000000 in
set_option maxRecDepth 100000 in
theorem impl_lineIn.calls (k : Nat) (A0_0 : Option Addr) (c0_0 : Nat) (l0_0 : List (S68)) (A1 : Option Addr) (c1 : Nat) (l1 : List (S50)) (a2 : Int) (r : Bool) (w : World) (hr0_0 : Kd.C k68 w A0_0 l0_0.length l0_0) (hc0_0 : l0_0.length ≤ c0_0) (hr1 : Kd.C k50 w A1 l1.length l1) (hc1 : l1.length ≤ c1) (h : impl_lineIn.f k l0_0 l1 a2 = some r) :
    Calls Try.prog 37 #[.agg #[.slice A0_0 l0_0.length c0_0], .slice A1 l1.length c1, .int .i64 a2] w fun e w' => e = .returned (.bool r) ∧ Below w.heap.size w w' := by
  have hu31 := Try.underlying31
  have HR0_0 := Aside0.mk hr0_0
  have HC0_0 := Aside0.mk hc0_0
  clear hr0_0 hc0_0
  have HR1 := Aside0.mk hr1
  have HC1 := Aside0.mk hc1
  clear hr1 hc1
  have HB := Aside0.mk (Below.refl w.heap.size w)
  have H : ((impl_ValidProgram.f k l0_0 l1).bind fun t266 => (if t266 = true then ((impl_within.f a2 0 (wrap64 ((l1.length : Int) - 1))).bind fun t267 => (some t267)) else (some false))) = some r := h
  clear h
  replace H := Option.bind_eq_some_iff.mp H
  obtain ⟨t266, A40, H⟩ := H
  replace H : (if t266 = true then ((impl_within.f a2 0 (wrap64 ((l1.length : Int) - 1))).bind fun t267 => (some t267)) else (some false)) = some r := H
  have A4 := Aside0.mk A40
  clear A40
  by_cases c5 : t266 = true
  · subst c5
    have H1 : ((impl_within.f a2 0 (wrap64 ((l1.length : Int) - 1))).bind fun t267 => (some t267)) = some r := by rw [if_pos rfl] at H; exact H
    clear H
    have H := H1
    clear H1
    replace H := Option.bind_eq_some_iff.mp H
    obtain ⟨t267, A60, H⟩ := H
    replace H : (some t267) = some r := H
    have A6 := Aside0.mk A60
    clear A60
    obtain rfl := Option.some.inj H
    go_enter Try.func37, Try.ntmps37
    go_wp2_with (first | ((with_reducible refine gate_dst (N := 3) rfl ?_); (try (refine gate_guard (by rfl) ?_; dsimp only)); refine box_event ?hg (N := 3) ?hd (cs := #[.slice A0_0 l0_0.length c0_0]) (t := 31) ?hr ?_; (case hd => rfl); (case hg => rfl); (case hr => first | (go_simp; done) | (go_simp; rfl)); intro gb265 hg w7 hbox hb; have n0_ := Aside0.mk (below_step (bq) hb); have n1_ := Aside0.mk (hbox); have n2_ := Aside0.mk ((by rw [hg]; exact (below_size (bq)) : w.heap.size ≤ gb265)); have n3_ := Aside0.mk ((by rw [hg]; exact (below_size (bq)) : w.heap.size ≤ gb265)); clear HB; have HB := n0_; have BK265 := n1_; have GW265 := n2_; have GE265 := n3_; clear n0_ n1_ n2_ n3_; clear hb hbox hg; have hcz8_0 : w7.cell? ⟨gb265, 0, none⟩ = some (.slice A0_0 l0_0.length c0_0) := (blk_cell BK265.out 0).trans rfl; have hfz8_0 := blk_frozen BK265.out 0) | ((with_reducible refine gate_callee (f := 59) rfl ?_); refine goesL_ (some 9) rfl rfl Try.func59 (by kernel_rfl) rfl #[.agg #[.slice A0_0 l0_0.length c0_0], .slice A1 l1.length c1] rfl (aq) ?_; (with_reducible refine (impl_ValidProgram.calls k _ _ l0_0 _ _ l1 true _ ?side1 ?side2 ?side3 ?side4 A4.out).mono ?_); (case side1 => exact cq (Kd.C_below HR0_0.out HB.out)); (case side2 => exact HC0_0.out); (case side3 => repeat (first | exact (Kd.C_below HR1.out HB.out) | (with_reducible refine Kd.C_alloc ?_ _) | (with_reducible refine Kd.C_drewN ?_ _) | (with_reducible refine Kd.C_drew ?_))); (case side4 => exact HC1.out); rintro e w9 ⟨rfl, hb⟩; refine ⟨_, rfl, ?_⟩; have n0_ := Aside0.mk (blk_below (g := gb265) (o := .cells #[.slice A0_0 l0_0.length c0_0] 31 (0, 0)) (kq BK265.out) hb); have n1_ := Aside0.mk (below_step (by repeat (first | (with_reducible first | exact HB.out | apply below_alloc | apply pw_below_drewN | apply below_drew1 | refine below_set ?_ GE265.out) | exact HB.out)) hb); clear BK265; clear HB; have BK265 := n0_; have HB := n1_; clear n0_ n1_; (try clear hb); (try clear hb2); (try clear hk); (try clear hi)) | (go_at_call 44; (with_reducible refine (impl_within.calls a2 0 (wrap64 ((l1.length : Int) - 1)) t267 _ A6.out).mono ?_); rintro e w' ⟨rfl, ⟨nd, rfl⟩⟩))
    go_ret
    exact ⟨by first | rfl | (simp [errW_none, errW_some] <;> rfl) | (simp [*, errW_none, errW_some] <;> rfl), by repeat (first | (with_reducible first | exact HB.out | apply below_alloc | apply pw_below_drewN | apply below_drew1 | refine below_set ?_ GE265.out) | exact HB.out)⟩
  · replace c5 := Bool.eq_false_iff.mpr c5
    subst c5
    have H1 : (some false) = some r := by rw [if_neg (show ¬ (false = true) by decide)] at H; exact H
    clear H
    have H := H1
    clear H1
    obtain rfl := Option.some.inj H
    go_enter Try.func37, Try.ntmps37
    go_wp2_with (first | ((with_reducible refine gate_dst (N := 3) rfl ?_); (try (refine gate_guard (by rfl) ?_; dsimp only)); refine box_event ?hg (N := 3) ?hd (cs := #[.slice A0_0 l0_0.length c0_0]) (t := 31) ?hr ?_; (case hd => rfl); (case hg => rfl); (case hr => first | (go_simp; done) | (go_simp; rfl)); intro gb265 hg w10 hbox hb; have n0_ := Aside0.mk (below_step (bq) hb); have n1_ := Aside0.mk (hbox); have n2_ := Aside0.mk ((by rw [hg]; exact (below_size (bq)) : w.heap.size ≤ gb265)); have n3_ := Aside0.mk ((by rw [hg]; exact (below_size (bq)) : w.heap.size ≤ gb265)); clear HB; have HB := n0_; have BK265 := n1_; have GW265 := n2_; have GE265 := n3_; clear n0_ n1_ n2_ n3_; clear hb hbox hg; have hcz11_0 : w10.cell? ⟨gb265, 0, none⟩ = some (.slice A0_0 l0_0.length c0_0) := (blk_cell BK265.out 0).trans rfl; have hfz11_0 := blk_frozen BK265.out 0) | ((with_reducible refine gate_callee (f := 59) rfl ?_); refine goesL_ (some 9) rfl rfl Try.func59 (by kernel_rfl) rfl #[.agg #[.slice A0_0 l0_0.length c0_0], .slice A1 l1.length c1] rfl (aq) ?_; (with_reducible refine (impl_ValidProgram.calls k _ _ l0_0 _ _ l1 false _ ?side1 ?side2 ?side3 ?side4 A4.out).mono ?_); (case side1 => exact cq (Kd.C_below HR0_0.out HB.out)); (case side2 => exact HC0_0.out); (case side3 => repeat (first | exact (Kd.C_below HR1.out HB.out) | (with_reducible refine Kd.C_alloc ?_ _) | (with_reducible refine Kd.C_drewN ?_ _) | (with_reducible refine Kd.C_drew ?_))); (case side4 => exact HC1.out); rintro e w12 ⟨rfl, hb⟩; refine ⟨_, rfl, ?_⟩; have n0_ := Aside0.mk (blk_below (g := gb265) (o := .cells #[.slice A0_0 l0_0.length c0_0] 31 (0, 0)) (kq BK265.out) hb); have n1_ := Aside0.mk (below_step (by repeat (first | (with_reducible first | exact HB.out | apply below_alloc | apply pw_below_drewN | apply below_drew1 | refine below_set ?_ GE265.out) | exact HB.out)) hb); clear BK265; clear HB; have BK265 := n0_; have HB := n1_; clear n0_ n1_; (try clear hb); (try clear hb2); (try clear hk); (try clear hi)))
    go_ret
    exact ⟨by first | rfl | (simp [errW_none, errW_some] <;> rfl) | (simp [*, errW_none, errW_some] <;> rfl), by repeat (first | (with_reducible first | exact HB.out | apply below_alloc | apply pw_below_drewN | apply below_drew1 | refine below_set ?_ GE265.out) | exact HB.out)⟩
def slices_Clip_int_int.f (l0 : List Int) : Option (List Int) := some (l0)
set_option maxHeartbeats 8000000 in
set_option maxRecDepth 100000 in
theorem slices_Clip_int_int.calls (P0_ : Nat → Prop) (u9000_ : Value) (l0 : List Int) (r : List Int) (w0 w : World) (hB : Below w0.heap.size w0 w) (ho0 : Kd.R (Kd.int .i64) 3 w w0.heap.size P0_ u9000_ l0) (h : slices_Clip_int_int.f l0 = some r) :
    Calls Try.prog 63 #[u9000_] w fun e w' => ∃ v0_ : Value, e = .returned (v0_) ∧ Kd.R (Kd.int .i64) 3 w' w0.heap.size (fun k_ => (P0_ k_ ∨ w.heap.size ≤ k_)) v0_ r ∧ Below w0.heap.size w0 w' ∧ Kept w w' (fun k_ => P0_ k_) := by
  have HO0 := Aside0.mk (show Kd.R (Kd.int .i64) 3 w w0.heap.size (fun k_ => (P0_ k_ ∨ w.heap.size ≤ k_)) u9000_ l0 from Kd.R_mono ho0 (fun k_ hk => (.inl hk)))
  have HK := Aside0.mk (Kept.refl w (fun k_ => P0_ k_))
  have HW0 := Aside0.mk hB.size
  have HB := Aside0.mk hB
  clear hB
  have H : (some (l0)) = some r := h
  clear h
  obtain ⟨y268, hy268⟩ : ∃ y_ : List Int, y_ = (l0) := ⟨_, rfl⟩
  replace H : (some y268) = some r := by first | (rw [hy268]; with_reducible exact H) | (have H2_ := (Option.bind_some _ _).symm.trans H; rw [hy268]; with_reducible exact H2_) | (have H2_ := (Option.bind_some _ _).symm.trans H; with_reducible exact H2_) | with_reducible exact H | (rw [hy268]; exact H) | exact H
  have Ny268 := Aside0.mk hy268
  clear hy268
  obtain rfl := Option.some.inj H
  obtain ⟨Ao2, co2, eo2⟩ := Kd.R_slice HO0.out
  subst eo2
  obtain ⟨i03, hi03, _, hsz3, _⟩ := info_parts info3
  have hy3 : y268.length = l0.length := (by rw [Ny268.out])
  have hcut3 := cut_clip (P := Try.prog) 38 3 Try.underlying38 hi03 Ao2 _ co2 _ (Kd.R_reads' HO0.out).2.1 hy3
  have hr3 := Kd.R_clip HO0.out Ny268.out
  clear hy3 hi03 hsz3 HO0
  have HO270 := Aside0.mk hr3
  clear hr3
  go_enter Try.func63, Try.ntmps63
  go_wp2
  go_ret
  exact ⟨_, by first | rfl | (simp [errW_none, errW_some] <;> rfl) | (simp [*, errW_none, errW_some] <;> rfl), rq HO270.out, bq, by repeat (first | (with_reducible first | exact HK.out | apply Kept.alloc | apply Kept.drewN | apply Kept.drew) | exact HK.out)⟩
end Go.Proofs.Ytbclgpgolbmlpaa.P
end

section
namespace Go.Proofs.Ytbclgpgolbmlpaa.P
open Go.RowKit Go.Proofs.YtbclgpgolbmlpaaW.PrintWords Go.Proofs.YtbclgpgolbmlpaaW.PrintLast Go.Proofs.YtbclgpgolbmlpaaW.PrintMore
attribute [local go_sem] max2_int min2_int max_two min_two max_three min_three max_four min_four isSome_cell_setCell   -- for this text's walks alone
set_option linter.unusedVariables false
set_option linter.unusedSimpArgs false
def impl_enclosing.l0 : Nat → List (S50) → Int → List Int → Int → Option (List Int)
  | 0, _, _, _, _ => none
  | k + 1, x0, x1, x5, x6 => if x6 ≥ 0 then (if 0 ≤ x6 then (if x6 < (x0.length : Int) then ((impl_Line_opens.f ((rd_T50 x0 x6).f0) ((rd_T50 x0 x6).f1) ((rd_T50 x0 x6).f2) ((rd_T50 x0 x6).f3)).bind fun t278 => (if t278 = true then ((impl_endOf.f k x0 x6).bind fun t279 => (if t279 > x1 then (if x5.length < 17592186044416 then (impl_enclosing.l0 k x0 x1 (x5 ++ [x6]) (wrap64 (x6 - 1))) else (none)) else (impl_enclosing.l0 k x0 x1 x5 (wrap64 (x6 - 1))))) else (impl_enclosing.l0 k x0 x1 x5 (wrap64 (x6 - 1))))) else (none)) else (none)) else ((slices_Clip_int_int.f x5).bind fun t274 => (some t274))
def impl_enclosing.f (k : Nat) (l0 : List (S50)) (a1 : Int) : Option (List Int) := impl_enclosing.l0 k l0 a1 (([] : List Int)) (wrap64 (a1 - 1))
theorem impl_enclosing.mono_l : ∀ k, (∀ y0 y1 y2 y3, LeO (impl_enclosing.l0 k y0 y1 y2 y3) (impl_enclosing.l0 (k + 1) y0 y1 y2 y3))
  | 0 => fun _ _ _ _ r h => by simp [impl_enclosing.l0] at h
  | k + 1 => by
    have ih0 := impl_enclosing.mono_l k
    · intro y0 y1 y2 y3
      unfold impl_enclosing.l0
      repeat' first
      | (with_reducible exact ih0 _ _ _ _)
      | (with_reducible exact impl_endOf.mono _ _ _)
      | (with_reducible exact LeO.refl _)
      | (with_reducible exact LeO.none _)
      | (with_reducible refine LeO.ite ?_ ?_)
      | (with_reducible refine LeO.bind ?_ (fun _ => ?_))
      | exact ih0 _ _ _ _
      | exact impl_endOf.mono _ _ _
      | exact LeO.none _
      | refine LeO.ite ?_ ?_
      | refine LeO.bind ?_ (fun _ => ?_)
theorem impl_enclosing.mono : ∀ a0 a1 k, LeO (impl_enclosing.f k a0 a1) (impl_enclosing.f (k + 1) a0 a1) := by
  intro a0 a1 k
  have ih0 := impl_enclosing.mono_l k
  unfold impl_enclosing.f
  repeat' first
      | (with_reducible exact ih0 _ _ _ _)
      | (with_reducible exact impl_endOf.mono _ _ _)
      | (with_reducible exact LeO.refl _)
      | (with_reducible exact LeO.none _)
      | (with_reducible refine LeO.ite ?_ ?_)
      | (with_reducible refine LeO.bind ?_ (fun _ => ?_))
      | exact ih0 _ _ _ _
      | exact impl_endOf.mono _ _ _
      | exact LeO.none _
      | refine LeO.ite ?_ ?_
      | refine LeO.bind ?_ (fun _ => ?_)
set_option maxHeartbeats 8000000 in
set_option maxRecDepth 100000 in
theorem impl_enclosing.calls (k : Nat) (A0 : Option Addr) (c0 : Nat) (l0 : List (S50)) (a1 : Int) (r : List Int) (w : World) (hr0 : Kd.C k50 w A0 l0.length l0) (hc0 : l0.length ≤ c0) (h : impl_enclosing.f k l0 a1 = some r) :
    Calls Try.prog 47 #[.slice A0 l0.length c0, .int .i64 a1] w fun e w' => ∃ v0_ : Value, e = .returned (v0_) ∧ Kd.R (Kd.int .i64) 3 w' w.heap.size (fun _ => True) v0_ r ∧ Below w.heap.size w w' := by
  have hu50 := Try.underlying50
  have HR0 := Aside0.mk hr0
  have HC0 := Aside0.mk hc0
  clear hr0 hc0
  have HB := Aside0.mk (Below.refl w.heap.size w)
  have H : (impl_enclosing.l0 k l0 a1 (([] : List Int)) (wrap64 (a1 - 1))) = some r := h
  clear h
  obtain ⟨y271, hy271⟩ : ∃ y_ : List Int, y_ = (([] : List Int)) := ⟨_, rfl⟩
  replace H : (impl_enclosing.l0 k l0 a1 y271 (wrap64 (a1 - 1))) = some r := by first | (rw [hy271]; with_reducible exact H) | (have H2_ := (Option.bind_some _ _).symm.trans H; rw [hy271]; with_reducible exact H2_) | (have H2_ := (Option.bind_some _ _).symm.trans H; with_reducible exact H2_) | with_reducible exact H | (rw [hy271]; exact H) | exact H
  have Ny271 := Aside0.mk hy271
  clear hy271
  have H' := Aside0.mk H
  clear H
  go_enter Try.func47, Try.ntmps47
  go_wp2_with (first | ((with_reducible refine gate_dst (N := 7) rfl ?_); refine Kd.R_lit (Kd.int .i64) _ 3 ?hg (N := 7) ?hd (xs := ([] : List Int)) (inner := []) (ok := fun _ => True) (okp := fun _ => True) ?hr ?hp (fun _ hk => hk) trivial (Below.refl _ _) (Nat.le_refl _) (by simp) ?_; (case hd => rfl); (case hg => rfl); (case hr => first | (go_simp; done) | (go_simp; rfl)); (case hp => exact (Reps.none _ _)); intro v272 w3 ho4 hb hg_ hnew_; clear hg_ hnew_; (first | rw [← Ny271.out] at ho4 | (simp only [Int.reduceToNat] at ho4; rw [← Ny271.out] at ho4)); have n0_ := Aside0.mk (Kd.R_lower ho4 (below_size (bq))); have n1_ := Aside0.mk (below_step (bq) hb); clear HB; have HO273 := n0_; have HB := n1_; clear n0_ n1_; clear hb ho4))
  go_loopg [5, 6] k (fun kq v5 v6 w' => ∃ (x5_1 : List Int) (x6_1 : Int), v6 = .int .i64 x6_1 ∧ Aside0 (impl_enclosing.l0 kq l0 a1 x5_1 x6_1 = some r) ∧ Aside0 (kq ≤ k) ∧ Aside0 (Kd.R (Kd.int .i64) 3 w' w.heap.size (fun _ => True) v5 x5_1) ∧ Aside0 (Below w.heap.size w w'))
  case atStart => exact ⟨(y271), (wrap64 (a1 - 1)), (sq), H', ⟨Nat.le_refl _⟩, ⟨rq HO273.out⟩, ⟨bq⟩⟩
  case round =>
    clear H'
    try clear p2
    try clear c4
    obtain ⟨x5_1, x6_1, rfl, HA, HK1, HO_5, HB⟩ := hrel
    cases gk with
    | zero => exact absurd HA.out (by simp [impl_enclosing.l0])
    | succ k1 =>
      have H := HA.out
      clear HA
      simp only [impl_enclosing.l0] at H
      by_cases c5 : x6_1 ≥ 0
      · rw [if_pos c5] at H
        have c5b0 : decide (0 ≤ x6_1) = true := decide_eq_true c5
        clear c5
        by_cases c6 : 0 ≤ x6_1
        · rw [if_pos c6] at H
          have c6b0 : decide (0 ≤ x6_1) = true := decide_eq_true c6
          clear c6
          by_cases c7 : x6_1 < (l0.length : Int)
          · rw [if_pos c7] at H
            have c7b0 : decide (x6_1 < (l0.length : Int)) = true := decide_eq_true c7
            clear c7
            replace H := Option.bind_eq_some_iff.mp H
            obtain ⟨t278, A80, H⟩ := H
            replace H : (if t278 = true then ((impl_endOf.f k1 l0 x6_1).bind fun t279 => (if t279 > a1 then (if x5_1.length < 17592186044416 then (impl_enclosing.l0 k1 l0 a1 (x5_1 ++ [x6_1]) (wrap64 (x6_1 - 1))) else (none)) else (impl_enclosing.l0 k1 l0 a1 x5_1 (wrap64 (x6_1 - 1))))) else (impl_enclosing.l0 k1 l0 a1 x5_1 (wrap64 (x6_1 - 1)))) = some r := H
            have A8 := Aside0.mk A80
            clear A80
            by_cases c9 : t278 = true
            · subst c9
              have H1 : ((impl_endOf.f k1 l0 x6_1).bind fun t279 => (if t279 > a1 then (if x5_1.length < 17592186044416 then (impl_enclosing.l0 k1 l0 a1 (x5_1 ++ [x6_1]) (wrap64 (x6_1 - 1))) else (none)) else (impl_enclosing.l0 k1 l0 a1 x5_1 (wrap64 (x6_1 - 1))))) = some r := by rw [if_pos rfl] at H; exact H
              clear H
              have H := H1
              clear H1
              replace H := Option.bind_eq_some_iff.mp H
              obtain ⟨t279, A100, H⟩ := H
              replace H : (if t279 > a1 then (if x5_1.length < 17592186044416 then (impl_enclosing.l0 k1 l0 a1 (x5_1 ++ [x6_1]) (wrap64 (x6_1 - 1))) else (none)) else (impl_enclosing.l0 k1 l0 a1 x5_1 (wrap64 (x6_1 - 1)))) = some r := H
              have A10 := Aside0.mk A100
              clear A100
              by_cases c11 : t279 > a1
              · rw [if_pos c11] at H
                have c11b0 : decide (a1 < t279) = true := decide_eq_true c11
                clear c11
                by_cases c12 : x5_1.length < 17592186044416
                · rw [if_pos c12] at H
                  have LMc12 := Aside0.mk c12
                  clear c12
                  obtain ⟨y280, hy280⟩ : ∃ y_ : List Int, y_ = (x5_1 ++ [x6_1]) := ⟨_, rfl⟩
                  replace H : (impl_enclosing.l0 k1 l0 a1 y280 (wrap64 (x6_1 - 1))) = some r := by first | (rw [hy280]; with_reducible exact H) | (have H2_ := (Option.bind_some _ _).symm.trans H; rw [hy280]; with_reducible exact H2_) | (have H2_ := (Option.bind_some _ _).symm.trans H; with_reducible exact H2_) | with_reducible exact H | (rw [hy280]; exact H) | exact H
                  have Ny280 := Aside0.mk hy280
                  clear hy280
                  have H' := Aside0.mk H
                  clear H
                  have p277 : 0 ≤ (x6_1 : Int) := of_decide_eq_true (uq)
                  have q277 : x6_1 < (l0.length : Int) := of_decide_eq_true (uq)
                  obtain ⟨ad277, e277, hx277_0, hx277_1, hx277_2, hx277_3⟩ := at_T50 HR0.out x6_1 p277 q277
                  cases e277
                  replace hx277_0 := (HB.out.cell (World.block_lt_of_cell? w _ hx277_0)).trans hx277_0
                  replace hx277_1 := (HB.out.cell (World.block_lt_of_cell? w _ hx277_1)).trans hx277_1
                  replace hx277_2 := (HB.out.cell (World.block_lt_of_cell? w _ hx277_2)).trans hx277_2
                  replace hx277_3 := (HB.out.cell (World.block_lt_of_cell? w _ hx277_3)).trans hx277_3
                  replace p277 := eq_true p277
                  replace q277 := eq_true q277
                  go_wp2_with (first | ((with_reducible refine gate_callee (f := 66) rfl ?_); refine goesL_ (some 18) rfl rfl Try.func66 (by kernel_rfl) rfl #[.agg #[.int .i64 ((rd_T50 l0 x6_1).f0), .int .i64 ((rd_T50 l0 x6_1).f1), .int .i64 ((rd_T50 l0 x6_1).f2), .int .i64 ((rd_T50 l0 x6_1).f3)]] rfl (aq) ?_; (with_reducible refine (impl_Line_opens.calls ((rd_T50 l0 x6_1).f0) ((rd_T50 l0 x6_1).f1) ((rd_T50 l0 x6_1).f2) ((rd_T50 l0 x6_1).f3) true _ A8.out).mono ?_); rintro e w13 ⟨rfl, hb⟩; refine ⟨_, rfl, ?_⟩; have n0_ := Aside0.mk (Kd.R_below (rq HO_5.out) hb); have n1_ := Aside0.mk (below_step (bq) hb); clear HO_5; clear HB; have HO_5 := n0_; have HB := n1_; clear n0_ n1_; (try clear hb); (try clear hb2); (try clear hk); (try clear hi)) | (go_at_call 67; (with_reducible refine (impl_endOf.calls k1 _ _ l0 x6_1 t279 _ ?side1 ?side2 A10.out).mono ?_); (case side1 => exact cq (Kd.C_below HR0.out HB.out)); (case side2 => exact HC0.out); rintro e w' ⟨rfl, ⟨nd, rfl⟩⟩) | ((with_reducible refine gate_builtin (b := .append) (xs := #[.tmp 26, .tmp 28]) rfl ?_); at_builtin; refine Kd.R_append (Kd.int .i64) (w0 := w) w.heap.size rfl (.tmp 26) (.tmp 28) 38 3 (.int .i64 0) 8 rfl Try.underlying38 info3 rfl (by decide) (by omega) u5 x5_1 x6_1 [.int .i64 x6_1] (fun _ => True) (fun _ => False) rfl rfl ?aP (fun _ hk => hk.elim) ?aF ?aO ?aB ?aS ?aL ?_; (case aP => exact rfl); (case aB => exact (bq)); (case aF => exact (fun _ _ => trivial)); (case aO => exact (rq HO_5.out)); (case aS => exact (below_size (bq))); (case aL => have := LMc12.out; omega); intro v281 w14 ho hb hg hat; rw [← Ny280.out] at ho; have n0_ := Aside0.mk (hb); have n1_ := Aside0.mk (ho); clear HB; clear HO_5; have HB := n0_; have HO282 := n1_; clear n0_ n1_; clear ho hb hg hat))
                  go_roundg k1
                  case measure => have := HK1.out; omega
                  case rel => exact ⟨(y280), (wrap64 (x6_1 - 1)), (sq), H', ⟨by have := HK1.out; omega⟩, ⟨rq HO282.out⟩, ⟨bq⟩⟩
                · rw [if_neg c12] at H
                  exact absurd H (by simp)
              · rw [if_neg c11] at H
                have c11b0 : decide (a1 < t279) = false := decide_eq_false c11
                clear c11
                have H' := Aside0.mk H
                clear H
                have p277 : 0 ≤ (x6_1 : Int) := of_decide_eq_true (uq)
                have q277 : x6_1 < (l0.length : Int) := of_decide_eq_true (uq)
                obtain ⟨ad277, e277, hx277_0, hx277_1, hx277_2, hx277_3⟩ := at_T50 HR0.out x6_1 p277 q277
                cases e277
                replace hx277_0 := (HB.out.cell (World.block_lt_of_cell? w _ hx277_0)).trans hx277_0
                replace hx277_1 := (HB.out.cell (World.block_lt_of_cell? w _ hx277_1)).trans hx277_1
                replace hx277_2 := (HB.out.cell (World.block_lt_of_cell? w _ hx277_2)).trans hx277_2
                replace hx277_3 := (HB.out.cell (World.block_lt_of_cell? w _ hx277_3)).trans hx277_3
                replace p277 := eq_true p277
                replace q277 := eq_true q277
                go_wp2_with (first | ((with_reducible refine gate_callee (f := 66) rfl ?_); refine goesL_ (some 18) rfl rfl Try.func66 (by kernel_rfl) rfl #[.agg #[.int .i64 ((rd_T50 l0 x6_1).f0), .int .i64 ((rd_T50 l0 x6_1).f1), .int .i64 ((rd_T50 l0 x6_1).f2), .int .i64 ((rd_T50 l0 x6_1).f3)]] rfl (aq) ?_; (with_reducible refine (impl_Line_opens.calls ((rd_T50 l0 x6_1).f0) ((rd_T50 l0 x6_1).f1) ((rd_T50 l0 x6_1).f2) ((rd_T50 l0 x6_1).f3) true _ A8.out).mono ?_); rintro e w15 ⟨rfl, hb⟩; refine ⟨_, rfl, ?_⟩; have n0_ := Aside0.mk (Kd.R_below (rq HO_5.out) hb); have n1_ := Aside0.mk (below_step (bq) hb); clear HO_5; clear HB; have HO_5 := n0_; have HB := n1_; clear n0_ n1_; (try clear hb); (try clear hb2); (try clear hk); (try clear hi)) | (go_at_call 67; (with_reducible refine (impl_endOf.calls k1 _ _ l0 x6_1 t279 _ ?side1 ?side2 A10.out).mono ?_); (case side1 => exact cq (Kd.C_below HR0.out HB.out)); (case side2 => exact HC0.out); rintro e w' ⟨rfl, ⟨nd, rfl⟩⟩))
                go_roundg k1
                case measure => have := HK1.out; omega
                case rel => exact ⟨(x5_1), (wrap64 (x6_1 - 1)), (sq), H', ⟨by have := HK1.out; omega⟩, ⟨rq HO_5.out⟩, ⟨bq⟩⟩
            · replace c9 := Bool.eq_false_iff.mpr c9
              subst c9
              have H1 : (impl_enclosing.l0 k1 l0 a1 x5_1 (wrap64 (x6_1 - 1))) = some r := by rw [if_neg (show ¬ (false = true) by decide)] at H; exact H
              clear H
              have H := H1
              clear H1
              have H' := Aside0.mk H
              clear H
              have p277 : 0 ≤ (x6_1 : Int) := of_decide_eq_true (uq)
              have q277 : x6_1 < (l0.length : Int) := of_decide_eq_true (uq)
              obtain ⟨ad277, e277, hx277_0, hx277_1, hx277_2, hx277_3⟩ := at_T50 HR0.out x6_1 p277 q277
              cases e277
              replace hx277_0 := (HB.out.cell (World.block_lt_of_cell? w _ hx277_0)).trans hx277_0
              replace hx277_1 := (HB.out.cell (World.block_lt_of_cell? w _ hx277_1)).trans hx277_1
              replace hx277_2 := (HB.out.cell (World.block_lt_of_cell? w _ hx277_2)).trans hx277_2
              replace hx277_3 := (HB.out.cell (World.block_lt_of_cell? w _ hx277_3)).trans hx277_3
              replace p277 := eq_true p277
              replace q277 := eq_true q277
              go_wp2_with (first | ((with_reducible refine gate_callee (f := 66) rfl ?_); refine goesL_ (some 18) rfl rfl Try.func66 (by kernel_rfl) rfl #[.agg #[.int .i64 ((rd_T50 l0 x6_1).f0), .int .i64 ((rd_T50 l0 x6_1).f1), .int .i64 ((rd_T50 l0 x6_1).f2), .int .i64 ((rd_T50 l0 x6_1).f3)]] rfl (aq) ?_; (with_reducible refine (impl_Line_opens.calls ((rd_T50 l0 x6_1).f0) ((rd_T50 l0 x6_1).f1) ((rd_T50 l0 x6_1).f2) ((rd_T50 l0 x6_1).f3) false _ A8.out).mono ?_); rintro e w16 ⟨rfl, hb⟩; refine ⟨_, rfl, ?_⟩; have n0_ := Aside0.mk (Kd.R_below (rq HO_5.out) hb); have n1_ := Aside0.mk (below_step (bq) hb); clear HO_5; clear HB; have HO_5 := n0_; have HB := n1_; clear n0_ n1_; (try clear hb); (try clear hb2); (try clear hk); (try clear hi)))
              go_roundg k1
              case measure => have := HK1.out; omega
              case rel => exact ⟨(x5_1), (wrap64 (x6_1 - 1)), (sq), H', ⟨by have := HK1.out; omega⟩, ⟨rq HO_5.out⟩, ⟨bq⟩⟩
          · rw [if_neg c7] at H
            exact absurd H (by simp)
        · rw [if_neg c6] at H
          exact absurd H (by simp)
      · rw [if_neg c5] at H
        have c5b0 : decide (0 ≤ x6_1) = false := decide_eq_false c5
        clear c5
        replace H := Option.bind_eq_some_iff.mp H
        obtain ⟨t274, A170, H⟩ := H
        replace H : (some t274) = some r := H
        have A17 := Aside0.mk A170
        clear A170
        obtain rfl := Option.some.inj H
        obtain ⟨Ao18, co18, eo18⟩ := Kd.R_slice HO_5.out
        subst eo18
        go_wp2_with (first | ((with_reducible refine gate_callee (f := 63) rfl ?_); refine goesL_ (some 31) rfl rfl Try.func63 (by kernel_rfl) rfl #[.slice Ao18 x5_1.length co18] rfl (aq) ?_; (with_reducible refine (slices_Clip_int_int.calls (fun k_ => some k_ = (.slice Ao18 x5_1.length co18 : Value).ownBlock) (.slice Ao18 x5_1.length co18) x5_1 t274 w _ ?side1 ?side2 A17.out).mono ?_); (case side1 => repeat (first | (with_reducible first | exact HB.out | apply below_alloc | apply pw_below_drewN | apply below_drew1) | exact HB.out)); (case side2 => exact Kd.R_tight rfl HO_5.out); rintro e w19 ⟨v275, rfl, ho0, hb, hkp⟩; refine ⟨_, rfl, ?_⟩; have n0_ := Aside0.mk (Kd.R_mono (ok' := fun k_ => True) ho0 (fun k_ hk_ => trivial)); have n1_ := Aside0.mk (hb); clear HB; clear HO_5; have HO276 := n0_; have HB := n1_; clear n0_ n1_; (try clear hb); (try clear hkp); (try clear ho0)))
        go_ret
        exact ⟨_, by first | rfl | (simp [errW_none, errW_some] <;> rfl) | (simp [*, errW_none, errW_some] <;> rfl), rq HO276.out, bq⟩
end Go.Proofs.Ytbclgpgolbmlpaa.P
end

section
namespace Go.Proofs.Ytbclgpgolbmlpaa.P
open Go.RowKit Go.Proofs.YtbclgpgolbmlpaaW.PrintWords Go.Proofs.YtbclgpgolbmlpaaW.PrintLast Go.Proofs.YtbclgpgolbmlpaaW.PrintMore
attribute [local go_sem] max2_int min2_int max_two min_two max_three min_three max_four min_four isSome_cell_setCell   -- for this text's walks alone
set_option linter.unusedVariables false
set_option linter.unusedSimpArgs false
def impl_loopOf.l0 : Nat → List (S50) → List Int → Int → Int → Option (Int)
  | 0, _, _, _, _ => none
  | k + 1, x0, x9, x10, x11 => if x11 < x10 then (if 0 ≤ x11 then (if x11 < (x9.length : Int) then (if 0 ≤ (rd x9 x11) then (if (rd x9 x11) < (x0.length : Int) then (if ((rd_T50 x0 (rd x9 x11)).f1) = 12 then (some (rd x9 x11)) else (impl_loopOf.l0 k x0 x9 x10 (wrap64 (x11 + 1)))) else (none)) else (none)) else (none)) else (none)) else (some (-1))
def impl_loopOf.f (k : Nat) (l0 : List (S50)) (a1 : Int) : Option (Int) := (impl_enclosing.f k l0 a1).bind fun t283 => (impl_loopOf.l0 k l0 t283 (t283.length : Int) 0)
theorem impl_loopOf.mono_l : ∀ k, (∀ y0 y1 y2 y3, LeO (impl_loopOf.l0 k y0 y1 y2 y3) (impl_loopOf.l0 (k + 1) y0 y1 y2 y3))
  | 0 => fun _ _ _ _ r h => by simp [impl_loopOf.l0] at h
  | k + 1 => by
    have ih0 := impl_loopOf.mono_l k
    · intro y0 y1 y2 y3
      unfold impl_loopOf.l0
      repeat' first
      | (with_reducible exact ih0 _ _ _ _)
      | (with_reducible exact impl_enclosing.mono _ _ _)
      | (with_reducible exact LeO.refl _)
      | (with_reducible exact LeO.none _)
      | (with_reducible refine LeO.ite ?_ ?_)
      | (with_reducible refine LeO.bind ?_ (fun _ => ?_))
      | exact ih0 _ _ _ _
      | exact impl_enclosing.mono _ _ _
      | exact LeO.none _
      | refine LeO.ite ?_ ?_
      | refine LeO.bind ?_ (fun _ => ?_)
theorem impl_loopOf.mono : ∀ a0 a1 k, LeO (impl_loopOf.f k a0 a1) (impl_loopOf.f (k + 1) a0 a1) := by
  intro a0 a1 k
  have ih0 := impl_loopOf.mono_l k
  unfold impl_loopOf.f
  repeat' first
      | (with_reducible exact ih0 _ _ _ _)
      | (with_reducible exact impl_enclosing.mono _ _ _)
      | (with_reducible exact LeO.refl _)
      | (with_reducible exact LeO.none _)
      | (with_reducible refine LeO.ite ?_ ?_)
      | (with_reducible refine LeO.bind ?_ (fun _ => ?_))
      | exact ih0 _ _ _ _
      | exact impl_enclosing.mono _ _ _
      | exact LeO.none _
      | refine LeO.ite ?_ ?_
      | refine LeO.bind ?_ (fun _ => ?_)
set_option maxHeartbeats 8000000 in
set_option maxRecDepth 100000 in
theorem impl_loopOf.calls (k : Nat) (A0 : Option Addr) (c0 : Nat) (l0 : List (S50)) (a1 : Int) (r : Int) (w : World) (hr0 : Kd.C k50 w A0 l0.length l0) (hc0 : l0.length ≤ c0) (h : impl_loopOf.f k l0 a1 = some r) :
    Calls Try.prog 38 #[.slice A0 l0.length c0, .int .i64 a1] w fun e w' => e = .returned (.int .i64 r) ∧ Below w.heap.size w w' := by
  have HR0 := Aside0.mk hr0
  have HC0 := Aside0.mk hc0
  clear hr0 hc0
  have HB := Aside0.mk (Below.refl w.heap.size w)
  have H : ((impl_enclosing.f k l0 a1).bind fun t283 => (impl_loopOf.l0 k l0 t283 (t283.length : Int) 0)) = some r := h
  clear h
  replace H := Option.bind_eq_some_iff.mp H
  obtain ⟨t283, A30, H⟩ := H
  replace H : (impl_loopOf.l0 k l0 t283 (t283.length : Int) 0) = some r := H
  have A3 := Aside0.mk A30
  clear A30
  have H' := Aside0.mk H
  clear H
  go_enter Try.func38, Try.ntmps38
  go_wp2_with (first | ((with_reducible refine gate_callee (f := 47) rfl ?_); refine goesL_ (some 9) rfl rfl Try.func47 (by kernel_rfl) rfl #[.slice A0 l0.length c0, .int .i64 a1] rfl (aq) ?_; (with_reducible refine (impl_enclosing.calls k _ _ l0 a1 t283 _ ?side1 ?side2 A3.out).mono ?_); (case side1 => repeat (first | exact HR0.out | (with_reducible refine Kd.C_alloc ?_ _) | (with_reducible refine Kd.C_drewN ?_ _) | (with_reducible refine Kd.C_drew ?_))); (case side2 => exact HC0.out); rintro e w4 ⟨v284, rfl, ho0, hb⟩; refine ⟨_, rfl, ?_⟩; have n0_ := Aside0.mk (Kd.R_lower ho0 (below_size (bq))); have n1_ := Aside0.mk (below_step (bq) hb); clear HB; have HO285 := n0_; have HB := n1_; clear n0_ n1_; (try clear hb); (try clear hb2); (try clear hk); (try clear hi); (try clear ho0); obtain ⟨Ao5, co5, eo5⟩ := Kd.R_slice HO285.out; subst eo5))
  go_loopg [11] k (fun kq v11 w' => ∃ (x11_1 : Int), v11 = .int .i64 x11_1 ∧ Aside0 (impl_loopOf.l0 kq l0 t283 (t283.length : Int) x11_1 = some r) ∧ Aside0 (kq ≤ k) ∧ Aside0 (Kd.R (Kd.int .i64) 3 w' w.heap.size (fun _ => True) (.slice Ao5 t283.length co5) t283) ∧ Aside0 (Below w.heap.size w w'))
  case atStart => exact ⟨(0), (sq), H', ⟨Nat.le_refl _⟩, ⟨rq HO285.out⟩, ⟨bq⟩⟩
  case round =>
    clear H'
    try clear p2
    try clear c3
    try clear c4
    obtain ⟨x11_1, rfl, HA, HK1, HO_9, HB⟩ := hrel
    cases gk with
    | zero => exact absurd HA.out (by simp [impl_loopOf.l0])
    | succ k1 =>
      have H := HA.out
      clear HA
      simp only [impl_loopOf.l0] at H
      by_cases c6 : x11_1 < (t283.length : Int)
      · rw [if_pos c6] at H
        have c6b0 : decide (x11_1 < (t283.length : Int)) = true := decide_eq_true c6
        clear c6
        by_cases c7 : 0 ≤ x11_1
        · rw [if_pos c7] at H
          have c7b0 : decide (0 ≤ x11_1) = true := decide_eq_true c7
          clear c7
          by_cases c8 : x11_1 < (t283.length : Int)
          · rw [if_pos c8] at H
            have c8b0 : decide (x11_1 < (t283.length : Int)) = true := decide_eq_true c8
            clear c8
            by_cases c9 : 0 ≤ (rd t283 x11_1)
            · rw [if_pos c9] at H
              have c9b0 : decide (0 ≤ (rd t283 x11_1)) = true := decide_eq_true c9
              clear c9
              by_cases c10 : (rd t283 x11_1) < (l0.length : Int)
              · rw [if_pos c10] at H
                have c10b0 : decide ((rd t283 x11_1) < (l0.length : Int)) = true := decide_eq_true c10
                clear c10
                by_cases c11 : ((rd_T50 l0 (rd t283 x11_1)).f1) = 12
                · rw [if_pos c11] at H
                  have c11b0 : (((rd_T50 l0 (rd t283 x11_1)).f1) == 12) = true := beq_iff_eq.mpr c11
                  have c11b1 : (((rd_T50 l0 (rd t283 x11_1)).f1) != 12) = false := bne_eq_false_iff_eq.mpr c11
                  clear c11
                  obtain rfl := Option.some.inj H
                  have p286 : 0 ≤ (x11_1 : Int) := of_decide_eq_true (uq)
                  have q286 : x11_1 < (t283.length : Int) := of_decide_eq_true (uq)
                  obtain ⟨ad286, e286, hx286_0⟩ := Kd.at_int (Kd.R_reads' HO_9.out).2.2 x11_1 p286 q286
                  cases e286
                  replace p286 := eq_true p286
                  replace q286 := eq_true q286
                  have p287 : 0 ≤ ((rd t283 x11_1) : Int) := of_decide_eq_true (uq)
                  have q287 : (rd t283 x11_1) < (l0.length : Int) := of_decide_eq_true (uq)
                  obtain ⟨ad287, e287, hx287_0, hx287_1, hx287_2, hx287_3⟩ := at_T50 HR0.out (rd t283 x11_1) p287 q287
                  cases e287
                  replace hx287_0 := (HB.out.cell (World.block_lt_of_cell? w _ hx287_0)).trans hx287_0
                  replace hx287_1 := (HB.out.cell (World.block_lt_of_cell? w _ hx287_1)).trans hx287_1
                  replace hx287_2 := (HB.out.cell (World.block_lt_of_cell? w _ hx287_2)).trans hx287_2
                  replace hx287_3 := (HB.out.cell (World.block_lt_of_cell? w _ hx287_3)).trans hx287_3
                  replace p287 := eq_true p287
                  replace q287 := eq_true q287
                  go_wp2
                  go_ret
                  exact ⟨by first | rfl | (simp [errW_none, errW_some] <;> rfl) | (simp [*, errW_none, errW_some] <;> rfl), bq⟩
                · rw [if_neg c11] at H
                  have c11b0 : (((rd_T50 l0 (rd t283 x11_1)).f1) == 12) = false := beq_eq_false_iff_ne.mpr c11
                  have c11b1 : (((rd_T50 l0 (rd t283 x11_1)).f1) != 12) = true := bne_iff_ne.mpr c11
                  have H' := Aside0.mk H
                  clear H
                  have p286 : 0 ≤ (x11_1 : Int) := of_decide_eq_true (uq)
                  have q286 : x11_1 < (t283.length : Int) := of_decide_eq_true (uq)
                  obtain ⟨ad286, e286, hx286_0⟩ := Kd.at_int (Kd.R_reads' HO_9.out).2.2 x11_1 p286 q286
                  cases e286
                  replace p286 := eq_true p286
                  replace q286 := eq_true q286
                  have p287 : 0 ≤ ((rd t283 x11_1) : Int) := of_decide_eq_true (uq)
                  have q287 : (rd t283 x11_1) < (l0.length : Int) := of_decide_eq_true (uq)
                  obtain ⟨ad287, e287, hx287_0, hx287_1, hx287_2, hx287_3⟩ := at_T50 HR0.out (rd t283 x11_1) p287 q287
                  cases e287
                  replace hx287_0 := (HB.out.cell (World.block_lt_of_cell? w _ hx287_0)).trans hx287_0
                  replace hx287_1 := (HB.out.cell (World.block_lt_of_cell? w _ hx287_1)).trans hx287_1
                  replace hx287_2 := (HB.out.cell (World.block_lt_of_cell? w _ hx287_2)).trans hx287_2
                  replace hx287_3 := (HB.out.cell (World.block_lt_of_cell? w _ hx287_3)).trans hx287_3
                  replace p287 := eq_true p287
                  replace q287 := eq_true q287
                  go_wp2
                  go_roundg k1
                  case measure => have := HK1.out; omega
                  case rel => exact ⟨(wrap64 (x11_1 + 1)), (sq), H', ⟨by have := HK1.out; omega⟩, ⟨rq HO_9.out⟩, ⟨bq⟩⟩
              · rw [if_neg c10] at H
                exact absurd H (by simp)
            · rw [if_neg c9] at H
              exact absurd H (by simp)
          · rw [if_neg c8] at H
            exact absurd H (by simp)
        · rw [if_neg c7] at H
          exact absurd H (by simp)
      · rw [if_neg c6] at H
        have c6b0 : decide (x11_1 < (t283.length : Int)) = false := decide_eq_false c6
        clear c6
        obtain rfl := Option.some.inj H
        go_wp2
        go_ret
        exact ⟨by first | rfl | (simp [errW_none, errW_some] <;> rfl) | (simp [*, errW_none, errW_some] <;> rfl), bq⟩
end Go.Proofs.Ytbclgpgolbmlpaa.P
end

section
namespace Go.Proofs.Ytbclgpgolbmlpaa.P
open Go.RowKit Go.Proofs.YtbclgpgolbmlpaaW.PrintWords Go.Proofs.YtbclgpgolbmlpaaW.PrintLast Go.Proofs.YtbclgpgolbmlpaaW.PrintMore
attribute [local go_sem] max2_int min2_int max_two min_two max_three min_three max_four min_four isSome_cell_setCell   -- for this text's walks alone
set_option linter.unusedVariables false
set_option linter.unusedSimpArgs false
def impl_LoopOf.f (k : Nat) (l0_0 : List (S68)) (l1 : List (S50)) (a2 : Int) : Option (Int) := (impl_lineIn.f k l0_0 l1 a2).bind fun t289 => (if t289 = true then ((impl_loopOf.f k l1 a2).bind fun t290 => (some t290)) else (some (-1)))
theorem impl_LoopOf.mono : ∀ a0 a1 a2 k, LeO (impl_LoopOf.f k a0 a1 a2) (impl_LoopOf.f (k + 1) a0 a1 a2) := by
  intro a0 a1 a2 k
  unfold impl_LoopOf.f
  repeat' first
      | (with_reducible exact impl_lineIn.mono _ _ _ _)
      | (with_reducible exact impl_loopOf.mono _ _ _)
      | (with_reducible exact LeO.refl _)
      | (with_reducible exact LeO.none _)
      | (with_reducible refine LeO.ite ?_ ?_)
      | (with_reducible refine LeO.bind ?_ (fun _ => ?_))
      | exact impl_lineIn.mono _ _ _ _
      | exact impl_loopOf.mono _ _ _
      | exact LeO.none _
      | refine LeO.ite ?_ ?_
      | refine LeO.bind ?_ (fun _ => ?_)
set_option maxHeartbeats 8000000 in
set_option maxRecDepth 100000 in
theorem impl_LoopOf.calls (k : Nat) (A0_0 : Option Addr) (c0_0 : Nat) (l0_0 : List (S68)) (A1 : Option Addr) (c1 : Nat) (l1 : List (S50)) (a2 : Int) (r : Int) (w : World) (hr0_0 : Kd.C k68 w A0_0 l0_0.length l0_0) (hc0_0 : l0_0.length ≤ c0_0) (hr1 : Kd.C k50 w A1 l1.length l1) (hc1 : l1.length ≤ c1) (h : impl_LoopOf.f k l0_0 l1 a2 = some r) :
    Calls Try.prog 14 #[.agg #[.slice A0_0 l0_0.length c0_0], .slice A1 l1.length c1, .int .i64 a2] w fun e w' => e = .returned (.int .i64 r) ∧ Below w.heap.size w w' := by
  have hu31 := Try.underlying31
  have HR0_0 := Aside0.mk hr0_0
  have HC0_0 := Aside0.mk hc0_0
  clear hr0_0 hc0_0
  have HR1 := Aside0.mk hr1
  have HC1 := Aside0.mk hc1
  clear hr1 hc1
  have HB := Aside0.mk (Below.refl w.heap.size w)
  have H : ((impl_lineIn.f k l0_0 l1 a2).bind fun t289 => (if t289 = true then ((impl_loopOf.f k l1 a2).bind fun t290 => (some t290)) else (some (-1)))) = some r := h
  clear h
  replace H := Option.bind_eq_some_iff.mp H
  obtain ⟨t289, A40, H⟩ := H
  replace H : (if t289 = true then ((impl_loopOf.f k l1 a2).bind fun t290 => (some t290)) else (some (-1))) = some r := H
  have A4 := Aside0.mk A40
  clear A40
  by_cases c5 : t289 = true
  · subst c5
    have H1 : ((impl_loopOf.f k l1 a2).bind fun t290 => (some t290)) = some r := by rw [if_pos rfl] at H; exact H
    clear H
    have H := H1
    clear H1
    replace H := Option.bind_eq_some_iff.mp H
    obtain ⟨t290, A60, H⟩ := H
    replace H : (some t290) = some r := H
    have A6 := Aside0.mk A60
    clear A60
    obtain rfl := Option.some.inj H
    go_enter Try.func14, Try.ntmps14
    go_wp2_with (first | ((with_reducible refine gate_dst (N := 3) rfl ?_); refine box_event ?hg (N := 3) ?hd (cs := #[.slice A0_0 l0_0.length c0_0]) (t := 31) ?hr ?_; (case hd => rfl); (case hg => rfl); (case hr => first | (go_simp; done) | (go_simp; rfl)); intro gb288 hg w7 hbox hb; have n0_ := Aside0.mk (below_step (bq) hb); have n1_ := Aside0.mk (hbox); have n2_ := Aside0.mk ((by rw [hg]; exact (below_size (bq)) : w.heap.size ≤ gb288)); have n3_ := Aside0.mk ((by rw [hg]; exact (below_size (bq)) : w.heap.size ≤ gb288)); clear HB; have HB := n0_; have BK288 := n1_; have GW288 := n2_; have GE288 := n3_; clear n0_ n1_ n2_ n3_; clear hb hbox hg; have hcz8_0 : w7.cell? ⟨gb288, 0, none⟩ = some (.slice A0_0 l0_0.length c0_0) := (blk_cell BK288.out 0).trans rfl; have hfz8_0 := blk_frozen BK288.out 0) | ((with_reducible refine gate_callee (f := 37) rfl ?_); refine goesL_ (some 10) rfl rfl Try.func37 (by kernel_rfl) rfl #[.agg #[.slice A0_0 l0_0.length c0_0], .slice A1 l1.length c1, .int .i64 a2] rfl (aq) ?_; (with_reducible refine (impl_lineIn.calls k _ _ l0_0 _ _ l1 a2 true _ ?side1 ?side2 ?side3 ?side4 A4.out).mono ?_); (case side1 => exact cq (Kd.C_below HR0_0.out HB.out)); (case side2 => exact HC0_0.out); (case side3 => repeat (first | exact (Kd.C_below HR1.out HB.out) | (with_reducible refine Kd.C_alloc ?_ _) | (with_reducible refine Kd.C_drewN ?_ _) | (with_reducible refine Kd.C_drew ?_))); (case side4 => exact HC1.out); rintro e w9 ⟨rfl, hb⟩; refine ⟨_, rfl, ?_⟩; have n0_ := Aside0.mk (blk_below (g := gb288) (o := .cells #[.slice A0_0 l0_0.length c0_0] 31 (0, 0)) (kq BK288.out) hb); have n1_ := Aside0.mk (below_step (by repeat (first | (with_reducible first | exact HB.out | apply below_alloc | apply pw_below_drewN | apply below_drew1 | refine below_set ?_ GE288.out) | exact HB.out)) hb); clear BK288; clear HB; have BK288 := n0_; have HB := n1_; clear n0_ n1_; (try clear hb); (try clear hb2); (try clear hk); (try clear hi)) | ((with_reducible refine gate_callee (f := 38) rfl ?_); refine goesL_ (some 14) rfl rfl Try.func38 (by kernel_rfl) rfl #[.slice A1 l1.length c1, .int .i64 a2] rfl (aq) ?_; (with_reducible refine (impl_loopOf.calls k _ _ l1 a2 t290 _ ?side1 ?side2 A6.out).mono ?_); (case side1 => exact cq (Kd.C_below HR1.out HB.out)); (case side2 => exact HC1.out); rintro e w10 ⟨rfl, hb⟩; refine ⟨_, rfl, ?_⟩; have n0_ := Aside0.mk (blk_below (g := gb288) (o := .cells #[.slice A0_0 l0_0.length c0_0] 31 (0, 0)) (kq BK288.out) hb); have n1_ := Aside0.mk (below_step (by repeat (first | (with_reducible first | exact HB.out | apply below_alloc | apply pw_below_drewN | apply below_drew1 | refine below_set ?_ GE288.out) | exact HB.out)) hb); clear BK288; clear HB; have BK288 := n0_; have HB := n1_; clear n0_ n1_; (try clear hb); (try clear hb2); (try clear hk); (try clear hi)))
    go_ret
    exact ⟨by first | rfl | (simp [errW_none, errW_some] <;> rfl) | (simp [*, errW_none, errW_some] <;> rfl), by repeat (first | (with_reducible first | exact HB.out | apply below_alloc | apply pw_below_drewN | apply below_drew1 | refine below_set ?_ GE288.out) | exact HB.out)⟩
  · replace c5 := Bool.eq_false_iff.mpr c5
    subst c5
    have H1 : (some (-1)) = some r := by rw [if_neg (show ¬ (false = true) by decide)] at H; exact H
    clear H
    have H := H1
    clear H1
    obtain rfl := Option.some.inj H
    go_enter Try.func14, Try.ntmps14
    go_wp2_with (first | ((with_reducible refine gate_dst (N := 3) rfl ?_); refine box_event ?hg (N := 3) ?hd (cs := #[.slice A0_0 l0_0.length c0_0]) (t := 31) ?hr ?_; (case hd => rfl); (case hg => rfl); (case hr => first | (go_simp; done) | (go_simp; rfl)); intro gb288 hg w11 hbox hb; have n0_ := Aside0.mk (below_step (bq) hb); have n1_ := Aside0.mk (hbox); have n2_ := Aside0.mk ((by rw [hg]; exact (below_size (bq)) : w.heap.size ≤ gb288)); have n3_ := Aside0.mk ((by rw [hg]; exact (below_size (bq)) : w.heap.size ≤ gb288)); clear HB; have HB := n0_; have BK288 := n1_; have GW288 := n2_; have GE288 := n3_; clear n0_ n1_ n2_ n3_; clear hb hbox hg; have hcz12_0 : w11.cell? ⟨gb288, 0, none⟩ = some (.slice A0_0 l0_0.length c0_0) := (blk_cell BK288.out 0).trans rfl; have hfz12_0 := blk_frozen BK288.out 0) | ((with_reducible refine gate_callee (f := 37) rfl ?_); refine goesL_ (some 10) rfl rfl Try.func37 (by kernel_rfl) rfl #[.agg #[.slice A0_0 l0_0.length c0_0], .slice A1 l1.length c1, .int .i64 a2] rfl (aq) ?_; (with_reducible refine (impl_lineIn.calls k _ _ l0_0 _ _ l1 a2 false _ ?side1 ?side2 ?side3 ?side4 A4.out).mono ?_); (case side1 => exact cq (Kd.C_below HR0_0.out HB.out)); (case side2 => exact HC0_0.out); (case side3 => repeat (first | exact (Kd.C_below HR1.out HB.out) | (with_reducible refine Kd.C_alloc ?_ _) | (with_reducible refine Kd.C_drewN ?_ _) | (with_reducible refine Kd.C_drew ?_))); (case side4 => exact HC1.out); rintro e w13 ⟨rfl, hb⟩; refine ⟨_, rfl, ?_⟩; have n0_ := Aside0.mk (blk_below (g := gb288) (o := .cells #[.slice A0_0 l0_0.length c0_0] 31 (0, 0)) (kq BK288.out) hb); have n1_ := Aside0.mk (below_step (by repeat (first | (with_reducible first | exact HB.out | apply below_alloc | apply pw_below_drewN | apply below_drew1 | refine below_set ?_ GE288.out) | exact HB.out)) hb); clear BK288; clear HB; have BK288 := n0_; have HB := n1_; clear n0_ n1_; (try clear hb); (try clear hb2); (try clear hk); (try clear hi)))
    go_ret
    exact ⟨by first | rfl | (simp [errW_none, errW_some] <;> rfl) | (simp [*, errW_none, errW_some] <;> rfl), by repeat (first | (with_reducible first | exact HB.out | apply below_alloc | apply pw_below_drewN | apply below_drew1 | refine below_set ?_ GE288.out) | exact HB.out)⟩
def laws_eqClass.f (a0_0 : ByteArray) (a0_1 : Int) (a1_0 : ByteArray) (a1_1 : Int) : Option (Bool) := if a0_0.toList = a1_0.toList then (if a0_1 = a1_1 then (some true) else (some false)) else (some false)
set_option maxHeartbeats 8000000 in
set_option maxRecDepth 100000 in
theorem laws_eqClass.calls (a0_0 : ByteArray) (a0_1 : Int) (a1_0 : ByteArray) (a1_1 : Int) (r : Bool) (w : World) (h : laws_eqClass.f a0_0 a0_1 a1_0 a1_1 = some r) :
    Calls Try.prog 60 #[.agg #[.string a0_0, .int .i64 a0_1], .agg #[.string a1_0, .int .i64 a1_1]] w fun e w' => e = .returned (.bool r) ∧ Below w.heap.size w w' := by
  have hu68 := Try.underlying68
  have HB := Aside0.mk (Below.refl w.heap.size w)
  have H : (if a0_0.toList = a1_0.toList then (if a0_1 = a1_1 then (some true) else (some false)) else (some false)) = some r := h
  clear h
  by_cases c3 : a0_0.toList = a1_0.toList
  · rw [if_pos c3] at H
    have c3b0 : (a0_0.toList == a1_0.toList) = true := beq_iff_eq.mpr c3
    have c3b1 : (a0_0.toList != a1_0.toList) = false := bne_eq_false_iff_eq.mpr c3
    clear c3
    by_cases c4 : a0_1 = a1_1
    · rw [if_pos c4] at H
      have c4b0 : (a0_1 == a1_1) = true := beq_iff_eq.mpr c4
      have c4b1 : (a0_1 != a1_1) = false := bne_eq_false_iff_eq.mpr c4
      clear c4
      obtain rfl := Option.some.inj H
      go_enter Try.func60, Try.ntmps60
      go_wp2_with (first | ((with_reducible refine gate_dst (N := 2) rfl ?_); refine box_event ?hg (N := 2) ?hd (cs := #[.string a0_0, .int .i64 a0_1]) (t := 68) ?hr ?_; (case hd => rfl); (case hg => rfl); (case hr => first | (go_simp; done) | (go_simp; rfl)); intro gb291 hg w5 hbox hb; have n0_ := Aside0.mk (below_step (bq) hb); have n1_ := Aside0.mk (hbox); have n2_ := Aside0.mk ((by rw [hg]; exact (below_size (bq)) : w.heap.size ≤ gb291)); have n3_ := Aside0.mk ((by rw [hg]; exact (below_size (bq)) : w.heap.size ≤ gb291)); clear HB; have HB := n0_; have BK291 := n1_; have GW291 := n2_; have GE291 := n3_; clear n0_ n1_ n2_ n3_; clear hb hbox hg) | ((with_reducible refine gate_dst (N := 3) rfl ?_); refine box_event ?hg (N := 3) ?hd (cs := #[.string a1_0, .int .i64 a1_1]) (t := 68) ?hr ?_; (case hd => rfl); (case hg => rfl); (case hr => first | (go_simp; done) | (go_simp; rfl)); intro gb292 hg w6 hbox hb; have n0_ := Aside0.mk (blk_below (g := gb291) (o := .cells #[.string a0_0, .int .i64 a0_1] 68 (0, 0)) (kq BK291.out) hb); have n1_ := Aside0.mk (below_step (by repeat (first | (with_reducible first | exact HB.out | apply below_alloc | apply pw_below_drewN | apply below_drew1 | refine below_set ?_ GE291.out) | exact HB.out)) hb); have n2_ := Aside0.mk (hbox); have n3_ := Aside0.mk ((by rw [hg]; exact (below_size (by repeat (first | (with_reducible first | exact HB.out | apply below_alloc | apply pw_below_drewN | apply below_drew1 | refine below_set ?_ GE291.out) | exact HB.out))) : w.heap.size ≤ gb292)); have n4_ := Aside0.mk ((by rw [hg]; exact (below_size (by repeat (first | (with_reducible first | exact HB.out | apply below_alloc | apply pw_below_drewN | apply below_drew1 | refine below_set ?_ GE291.out) | exact HB.out))) : w.heap.size ≤ gb292)); have n5_ := Aside0.mk ((by rw [hg]; exact Nat.ne_of_lt (blk_lt (g := gb291) (o := .cells #[.string a0_0, .int .i64 a0_1] 68 (0, 0)) (kq BK291.out)) : gb291 ≠ gb292)); have n6_ := Aside0.mk ((by rw [hg]; exact Nat.ne_of_gt (blk_lt (g := gb291) (o := .cells #[.string a0_0, .int .i64 a0_1] 68 (0, 0)) (kq BK291.out)) : gb292 ≠ gb291)); clear BK291; clear HB; have BK291 := n0_; have HB := n1_; have BK292 := n2_; have GW292 := n3_; have GE292 := n4_; have NB291_292 := n5_; have NB292_291 := n6_; clear n0_ n1_ n2_ n3_ n4_ n5_ n6_; clear hb hbox hg; have hnb7 := NB291_292.out; have hnc7 := NB292_291.out; have hcz8_0 : w6.cell? ⟨gb291, 0, none⟩ = some (.string a0_0) := (blk_cell BK291.out 0).trans rfl; have hcz8_1 : w6.cell? ⟨gb291, 1, none⟩ = some (.int .i64 a0_1) := (blk_cell BK291.out 1).trans rfl; have hfz8_0 := blk_frozen BK291.out 0; have hfz8_1 := blk_frozen BK291.out 1; have hcz9_0 : w6.cell? ⟨gb292, 0, none⟩ = some (.string a1_0) := (blk_cell BK292.out 0).trans rfl; have hcz9_1 : w6.cell? ⟨gb292, 1, none⟩ = some (.int .i64 a1_1) := (blk_cell BK292.out 1).trans rfl; have hfz9_0 := blk_frozen BK292.out 0; have hfz9_1 := blk_frozen BK292.out 1))
      go_ret
      exact ⟨by first | rfl | (simp [errW_none, errW_some] <;> rfl) | (simp [*, errW_none, errW_some] <;> rfl), by repeat (first | (with_reducible first | exact HB.out | apply below_alloc | apply pw_below_drewN | apply below_drew1 | refine below_set ?_ GE291.out | refine below_set ?_ GE292.out) | exact HB.out)⟩
    · rw [if_neg c4] at H
      have c4b0 : (a0_1 == a1_1) = false := beq_eq_false_iff_ne.mpr c4
      have c4b1 : (a0_1 != a1_1) = true := bne_iff_ne.mpr c4
      obtain rfl := Option.some.inj H
      go_enter Try.func60, Try.ntmps60
      go_wp2_with (first | ((with_reducible refine gate_dst (N := 2) rfl ?_); refine box_event ?hg (N := 2) ?hd (cs := #[.string a0_0, .int .i64 a0_1]) (t := 68) ?hr ?_; (case hd => rfl); (case hg => rfl); (case hr => first | (go_simp; done) | (go_simp; rfl)); intro gb291 hg w10 hbox hb; have n0_ := Aside0.mk (below_step (bq) hb); have n1_ := Aside0.mk (hbox); have n2_ := Aside0.mk ((by rw [hg]; exact (below_size (bq)) : w.heap.size ≤ gb291)); have n3_ := Aside0.mk ((by rw [hg]; exact (below_size (bq)) : w.heap.size ≤ gb291)); clear HB; have HB := n0_; have BK291 := n1_; have GW291 := n2_; have GE291 := n3_; clear n0_ n1_ n2_ n3_; clear hb hbox hg) | ((with_reducible refine gate_dst (N := 3) rfl ?_); refine box_event ?hg (N := 3) ?hd (cs := #[.string a1_0, .int .i64 a1_1]) (t := 68) ?hr ?_; (case hd => rfl); (case hg => rfl); (case hr => first | (go_simp; done) | (go_simp; rfl)); intro gb292 hg w11 hbox hb; have n0_ := Aside0.mk (blk_below (g := gb291) (o := .cells #[.string a0_0, .int .i64 a0_1] 68 (0, 0)) (kq BK291.out) hb); have n1_ := Aside0.mk (below_step (by repeat (first | (with_reducible first | exact HB.out | apply below_alloc | apply pw_below_drewN | apply below_drew1 | refine below_set ?_ GE291.out) | exact HB.out)) hb); have n2_ := Aside0.mk (hbox); have n3_ := Aside0.mk ((by rw [hg]; exact (below_size (by repeat (first | (with_reducible first | exact HB.out | apply below_alloc | apply pw_below_drewN | apply below_drew1 | refine below_set ?_ GE291.out) | exact HB.out))) : w.heap.size ≤ gb292)); have n4_ := Aside0.mk ((by rw [hg]; exact (below_size (by repeat (first | (with_reducible first | exact HB.out | apply below_alloc | apply pw_below_drewN | apply below_drew1 | refine below_set ?_ GE291.out) | exact HB.out))) : w.heap.size ≤ gb292)); have n5_ := Aside0.mk ((by rw [hg]; exact Nat.ne_of_lt (blk_lt (g := gb291) (o := .cells #[.string a0_0, .int .i64 a0_1] 68 (0, 0)) (kq BK291.out)) : gb291 ≠ gb292)); have n6_ := Aside0.mk ((by rw [hg]; exact Nat.ne_of_gt (blk_lt (g := gb291) (o := .cells #[.string a0_0, .int .i64 a0_1] 68 (0, 0)) (kq BK291.out)) : gb292 ≠ gb291)); clear BK291; clear HB; have BK291 := n0_; have HB := n1_; have BK292 := n2_; have GW292 := n3_; have GE292 := n4_; have NB291_292 := n5_; have NB292_291 := n6_; clear n0_ n1_ n2_ n3_ n4_ n5_ n6_; clear hb hbox hg; have hnb12 := NB291_292.out; have hnc12 := NB292_291.out; have hcz13_0 : w11.cell? ⟨gb291, 0, none⟩ = some (.string a0_0) := (blk_cell BK291.out 0).trans rfl; have hcz13_1 : w11.cell? ⟨gb291, 1, none⟩ = some (.int .i64 a0_1) := (blk_cell BK291.out 1).trans rfl; have hfz13_0 := blk_frozen BK291.out 0; have hfz13_1 := blk_frozen BK291.out 1; have hcz14_0 : w11.cell? ⟨gb292, 0, none⟩ = some (.string a1_0) := (blk_cell BK292.out 0).trans rfl; have hcz14_1 : w11.cell? ⟨gb292, 1, none⟩ = some (.int .i64 a1_1) := (blk_cell BK292.out 1).trans rfl; have hfz14_0 := blk_frozen BK292.out 0; have hfz14_1 := blk_frozen BK292.out 1))
      go_ret
      exact ⟨by first | rfl | (simp [errW_none, errW_some] <;> rfl) | (simp [*, errW_none, errW_some] <;> rfl), by repeat (first | (with_reducible first | exact HB.out | apply below_alloc | apply pw_below_drewN | apply below_drew1 | refine below_set ?_ GE291.out | refine below_set ?_ GE292.out) | exact HB.out)⟩
  · rw [if_neg c3] at H
    have c3b0 : (a0_0.toList == a1_0.toList) = false := beq_eq_false_iff_ne.mpr c3
    have c3b1 : (a0_0.toList != a1_0.toList) = true := bne_iff_ne.mpr c3
    obtain rfl := Option.some.inj H
    go_enter Try.func60, Try.ntmps60
    go_wp2_with (first | ((with_reducible refine gate_dst (N := 2) rfl ?_); refine box_event ?hg (N := 2) ?hd (cs := #[.string a0_0, .int .i64 a0_1]) (t := 68) ?hr ?_; (case hd => rfl); (case hg => rfl); (case hr => first | (go_simp; done) | (go_simp; rfl)); intro gb291 hg w15 hbox hb; have n0_ := Aside0.mk (below_step (bq) hb); have n1_ := Aside0.mk (hbox); have n2_ := Aside0.mk ((by rw [hg]; exact (below_size (bq)) : w.heap.size ≤ gb291)); have n3_ := Aside0.mk ((by rw [hg]; exact (below_size (bq)) : w.heap.size ≤ gb291)); clear HB; have HB := n0_; have BK291 := n1_; have GW291 := n2_; have GE291 := n3_; clear n0_ n1_ n2_ n3_; clear hb hbox hg) | ((with_reducible refine gate_dst (N := 3) rfl ?_); refine box_event ?hg (N := 3) ?hd (cs := #[.string a1_0, .int .i64 a1_1]) (t := 68) ?hr ?_; (case hd => rfl); (case hg => rfl); (case hr => first | (go_simp; done) | (go_simp; rfl)); intro gb292 hg w16 hbox hb; have n0_ := Aside0.mk (blk_below (g := gb291) (o := .cells #[.string a0_0, .int .i64 a0_1] 68 (0, 0)) (kq BK291.out) hb); have n1_ := Aside0.mk (below_step (by repeat (first | (with_reducible first | exact HB.out | apply below_alloc | apply pw_below_drewN | apply below_drew1 | refine below_set ?_ GE291.out) | exact HB.out)) hb); have n2_ := Aside0.mk (hbox); have n3_ := Aside0.mk ((by rw [hg]; exact (below_size (by repeat (first | (with_reducible first | exact HB.out | apply below_alloc | apply pw_below_drewN | apply below_drew1 | refine below_set ?_ GE291.out) | exact HB.out))) : w.heap.size ≤ gb292)); have n4_ := Aside0.mk ((by rw [hg]; exact (below_size (by repeat (first | (with_reducible first | exact HB.out | apply below_alloc | apply pw_below_drewN | apply below_drew1 | refine below_set ?_ GE291.out) | exact HB.out))) : w.heap.size ≤ gb292)); have n5_ := Aside0.mk ((by rw [hg]; exact Nat.ne_of_lt (blk_lt (g := gb291) (o := .cells #[.string a0_0, .int .i64 a0_1] 68 (0, 0)) (kq BK291.out)) : gb291 ≠ gb292)); have n6_ := Aside0.mk ((by rw [hg]; exact Nat.ne_of_gt (blk_lt (g := gb291) (o := .cells #[.string a0_0, .int .i64 a0_1] 68 (0, 0)) (kq BK291.out)) : gb292 ≠ gb291)); clear BK291; clear HB; have BK291 := n0_; have HB := n1_; have BK292 := n2_; have GW292 := n3_; have GE292 := n4_; have NB291_292 := n5_; have NB292_291 := n6_; clear n0_ n1_ n2_ n3_ n4_ n5_ n6_; clear hb hbox hg; have hnb17 := NB291_292.out; have hnc17 := NB292_291.out; have hcz18_0 : w16.cell? ⟨gb291, 0, none⟩ = some (.string a0_0) := (blk_cell BK291.out 0).trans rfl; have hcz18_1 : w16.cell? ⟨gb291, 1, none⟩ = some (.int .i64 a0_1) := (blk_cell BK291.out 1).trans rfl; have hfz18_0 := blk_frozen BK291.out 0; have hfz18_1 := blk_frozen BK291.out 1; have hcz19_0 : w16.cell? ⟨gb292, 0, none⟩ = some (.string a1_0) := (blk_cell BK292.out 0).trans rfl; have hcz19_1 : w16.cell? ⟨gb292, 1, none⟩ = some (.int .i64 a1_1) := (blk_cell BK292.out 1).trans rfl; have hfz19_0 := blk_frozen BK292.out 0; have hfz19_1 := blk_frozen BK292.out 1))
    go_ret
    exact ⟨by first | rfl | (simp [errW_none, errW_some] <;> rfl) | (simp [*, errW_none, errW_some] <;> rfl), by repeat (first | (with_reducible first | exact HB.out | apply below_alloc | apply pw_below_drewN | apply below_drew1 | refine below_set ?_ GE291.out | refine below_set ?_ GE292.out) | exact HB.out)⟩
end Go.Proofs.Ytbclgpgolbmlpaa.P
end
