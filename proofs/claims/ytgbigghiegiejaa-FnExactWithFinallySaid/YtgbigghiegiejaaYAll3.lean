/- One part of the proofs on this program: functions of the program as plain functions, that the code comes to them, and facts on them. -/
import Derived.Test.YtgbigghiegiejaaYAll1
import Derived.Test.YtgbigghiegiejaaYAll2
import Derived.Test.YtgbigghiegiejaaYWAuto
section
namespace Go.Proofs.Ytgbigghiegiejaa.P
open Go.RowKit Go.Proofs.YtgbigghiegiejaaW.PrintWords Go.Proofs.YtgbigghiegiejaaW.PrintLast Go.Proofs.YtgbigghiegiejaaW.PrintMore
attribute [local go_sem] max2_int min2_int max_two min_two max_three min_three max_four min_four isSome_cell_setCell
set_option linter.unusedVariables false
set_option linter.unusedSimpArgs false
mutual
def impl_ValidTree.l0 : Nat → List (S63) → Int → Int → List (S63) → Option (Bool)
 | 0, _, _, _, _ => none
 | k + 1, x6, x7, x8, x207000 => if x8 < x7 then (if 0 ≤ x8 then (if x8 < (x6.length : Int) then ((impl_nameOk.f k ((rd_T63 x6 x8).f0)).bind fun t210 => (if t210 = true then ((impl_Tree_named.f x207000 ((rd_T63 x6 x8).f0)).bind fun t211 => (if t211 = x8 then (if x8 = 0 then (if ((rd_T63 x6 x8).f1) = (-1) then (if x8 > 0 then ((impl_within.f ((rd_T63 x6 x8).f1) 0 (wrap64 (x8 - 1))).bind fun t212 => (impl_ValidTree.j1 k x6 x7 x8 (!t212) x207000)) else (impl_ValidTree.j1 k x6 x7 x8 false x207000)) else (impl_ValidTree.j1 k x6 x7 x8 true x207000)) else (if x8 > 0 then ((impl_within.f ((rd_T63 x6 x8).f1) 0 (wrap64 (x8 - 1))).bind fun t213 => (impl_ValidTree.j1 k x6 x7 x8 (!t213) x207000)) else (impl_ValidTree.j1 k x6 x7 x8 false x207000))) else (impl_ValidTree.j1 k x6 x7 x8 true x207000))) else (impl_ValidTree.j1 k x6 x7 x8 true x207000))) else (none)) else (none)) else ((impl_within.f (x207000.length : Int) 1 8).bind fun t207 => (some t207))
def impl_ValidTree.j1 : Nat → List (S63) → Int → Int → Bool → List (S63) → Option (Bool)
 | 0, _, _, _, _, _ => none
 | k + 1, x6, x7, x8, x45, x207000 => if x45 = true then (some false) else (impl_ValidTree.l0 k x6 x7 (wrap64 (x8 + 1)) x207000)
end
def impl_ValidTree.f (k : Nat) (l0_0 : List (S63)) : Option (Bool) := impl_ValidTree.l0 k l0_0 (l0_0.length : Int) 0 l0_0
set_option maxHeartbeats 8000000 in
set_option maxRecDepth 100000 in
theorem impl_ValidTree.calls (k : Nat) (A0_0 : Option Addr) (c0_0 : Nat) (l0_0 : List (S63)) (r : Bool) (w : World) (hr0_0 : Kd.C k63 w A0_0 l0_0.length l0_0) (hc0_0 : l0_0.length ≤ c0_0) (h : impl_ValidTree.f k l0_0 = some r) :
  Calls Try.prog 48 #[.agg #[.slice A0_0 l0_0.length c0_0]] w fun e w' => e = .returned (.bool r) ∧ Below w.heap.size w w' := by
 have hu33 := Try.underlying33
 have hu63 := Try.underlying63
 have HR0_0 := am hr0_0
 have HC0_0 := am hc0_0
 clear hr0_0 hc0_0
 have HB := am (Below.refl w.heap.size w)
 have H : (impl_ValidTree.l0 k l0_0 (l0_0.length : Int) 0 l0_0) = some r := h
 clear h
 have H' := am H
 clear H
 go_enter Try.func48, Try.ntmps48
 go_wp2_with (first | ((with_reducible refine gate_dst (N := 1) rfl ?_); refine bE (N := 1) (cs := #[.slice A0_0 l0_0.length c0_0]) (t := 33) ?_; intro gb206 hg w2 hbox hb; have BK206 := am (hbox); have GW206 := am ((Y0 : w.heap.size ≤ gb206)); have GE206 := am ((Y0 : w.heap.size ≤ gb206)); replace HB := am (below_step (bq) hb); clear hb hbox hg; have hcz3_0 := bc0 BK206.out; have hfz3_0 := blk_frozen BK206.out 0))
 go_loopg [8] k (fun kq v8 w' => ∃ (x8_1 : Int), v8 = .int .i64 x8_1 ∧ Aside0 (impl_ValidTree.l0 kq l0_0 (l0_0.length : Int) x8_1 l0_0 = some r) ∧ Aside0 (kq ≤ k) ∧ Aside0 (w'.heap[gb206]? = some (.cells #[(.slice A0_0 l0_0.length c0_0)] 33 (0, 0))) ∧ Aside0 (Below w.heap.size w w'))
 case atStart => exact ⟨(0), (sq), H', ⟨Nat.le_refl _⟩, ⟨kq BK206.out⟩, ⟨Y58⟩⟩
 case round =>
  clear H'
  try clear p2
  try clear hcz3_0
  try clear hfz3_0
  obtain ⟨x8_1, rfl, HA, HK1, BK206, HB⟩ := hrel
  cases gk with
  | zero => exact absurd HA.out (by simp [impl_ValidTree.l0])
  | succ k1 =>
   have H := HA.out
   clear HA
   simp only [impl_ValidTree.l0] at H
   by_cases c4 : x8_1 < (l0_0.length : Int)
   ·rw [if_pos c4] at H
    have c4b0 : decide (x8_1 < (l0_0.length : Int)) = true := decide_eq_true c4
    clear c4
    by_cases c5 : 0 ≤ x8_1
    ·rw [if_pos c5] at H
     have c5b0 : decide (0 ≤ x8_1) = true := decide_eq_true c5
     clear c5
     by_cases c6 : x8_1 < (l0_0.length : Int)
     ·rw [if_pos c6] at H
      have c6b0 : decide (x8_1 < (l0_0.length : Int)) = true := decide_eq_true c6
      clear c6
      have HC7 := am H
      clear H
      have p208 : 0 ≤ (x8_1 : Int) := of_decide_eq_true (uq)
      have q208 : x8_1 < (l0_0.length : Int) := of_decide_eq_true (uq)
      obtain ⟨ad208, e208, hx208_0, hx208_1⟩ := at_T63 HR0_0.out x8_1 p208 q208
      cases e208
      replace hx208_0 := cb HB.out hx208_0
      replace hx208_1 := cb HB.out hx208_1
      replace p208 := eq_true p208
      replace q208 := eq_true q208
      go_upto_region 4 with (first | ((with_reducible refine gate_dst (N := 4) rfl ?_); refine bE (N := 4) (cs := #[.string (⟨#[]⟩ : ByteArray), .int .i64 0]) (t := 63) ?_; intro gb209 hg w8 hbox hb; have BK209 := am (hbox); have GW209 := am ((Y77 : w.heap.size ≤ gb209)); have GE209 := am ((Y77 : w.heap.size ≤ gb209)); have NB206_209 := am ((by rw [hg]; exact Nat.ne_of_lt (blk_lt (g := gb206) (o := .cells #[.slice (some ad208) l0_0.length c0_0] 33 (0, 0)) (kq BK206.out)) : gb206 ≠ gb209)); have NB209_206 := am ((by rw [hg]; exact Nat.ne_of_gt (blk_lt (g := gb206) (o := .cells #[.slice (some ad208) l0_0.length c0_0] 33 (0, 0)) (kq BK206.out)) : gb209 ≠ gb206)); replace BK206 := am (blk_below (g := gb206) (o := .cells #[.slice (some ad208) l0_0.length c0_0] 33 (0, 0)) (kq BK206.out) hb); replace HB := am (below_step (Y58) hb); clear hb hbox hg; have hnb9 := NB209_206.out; have hnc9 := NB206_209.out; have hcz10_0 := bc0 BK209.out; have hcz10_1 := bc1 BK209.out; have hfz10_0 := blk_frozen BK209.out 0; have hfz10_1 := blk_frozen BK209.out 1))
      (try simp only [Act.put, List.setIfInBounds_toArray, List.set_cons_zero, List.set_cons_succ])
      go_cut [45] (fun v45 wc => ∃ (kq : Nat) (x45_6 : Bool), v45 = .bool x45_6 ∧ Aside0 (impl_ValidTree.j1 kq l0_0 (l0_0.length : Int) x8_1 x45_6 l0_0 = some r) ∧ Aside0 (kq ≤ k1) ∧ Aside0 (wc.heap[gb206]? = some (.cells #[(.slice (some ad208) l0_0.length c0_0)] 33 (0, 0))) ∧ Aside0 (wc.heap[gb209]? = some (.cells #[.string ((rd_T63 l0_0 x8_1).f0), .int .i64 ((rd_T63 l0_0 x8_1).f1)] 63 (0, 0))) ∧ Aside0 (Below w.heap.size w wc))
      case first =>
       have H := HC7.out
       clear HC7
       replace H := Option.bind_eq_some_iff.mp H
       obtain ⟨t210, A110, H⟩ := H
       replace H : (if t210 = true then ((impl_Tree_named.f l0_0 ((rd_T63 l0_0 x8_1).f0)).bind fun t211 => (if t211 = x8_1 then (if x8_1 = 0 then (if ((rd_T63 l0_0 x8_1).f1) = (-1) then (if x8_1 > 0 then ((impl_within.f ((rd_T63 l0_0 x8_1).f1) 0 (wrap64 (x8_1 - 1))).bind fun t212 => (impl_ValidTree.j1 k1 l0_0 (l0_0.length : Int) x8_1 (!t212) l0_0)) else (impl_ValidTree.j1 k1 l0_0 (l0_0.length : Int) x8_1 false l0_0)) else (impl_ValidTree.j1 k1 l0_0 (l0_0.length : Int) x8_1 true l0_0)) else (if x8_1 > 0 then ((impl_within.f ((rd_T63 l0_0 x8_1).f1) 0 (wrap64 (x8_1 - 1))).bind fun t213 => (impl_ValidTree.j1 k1 l0_0 (l0_0.length : Int) x8_1 (!t213) l0_0)) else (impl_ValidTree.j1 k1 l0_0 (l0_0.length : Int) x8_1 false l0_0))) else (impl_ValidTree.j1 k1 l0_0 (l0_0.length : Int) x8_1 true l0_0))) else (impl_ValidTree.j1 k1 l0_0 (l0_0.length : Int) x8_1 true l0_0)) = some r := H
       have A11 := am A110
       clear A110
       by_cases c12 : t210 = true
       ·subst c12
        have H1 : ((impl_Tree_named.f l0_0 ((rd_T63 l0_0 x8_1).f0)).bind fun t211 => (if t211 = x8_1 then (if x8_1 = 0 then (if ((rd_T63 l0_0 x8_1).f1) = (-1) then (if x8_1 > 0 then ((impl_within.f ((rd_T63 l0_0 x8_1).f1) 0 (wrap64 (x8_1 - 1))).bind fun t212 => (impl_ValidTree.j1 k1 l0_0 (l0_0.length : Int) x8_1 (!t212) l0_0)) else (impl_ValidTree.j1 k1 l0_0 (l0_0.length : Int) x8_1 false l0_0)) else (impl_ValidTree.j1 k1 l0_0 (l0_0.length : Int) x8_1 true l0_0)) else (if x8_1 > 0 then ((impl_within.f ((rd_T63 l0_0 x8_1).f1) 0 (wrap64 (x8_1 - 1))).bind fun t213 => (impl_ValidTree.j1 k1 l0_0 (l0_0.length : Int) x8_1 (!t213) l0_0)) else (impl_ValidTree.j1 k1 l0_0 (l0_0.length : Int) x8_1 false l0_0))) else (impl_ValidTree.j1 k1 l0_0 (l0_0.length : Int) x8_1 true l0_0))) = some r := by rw [if_pos rfl] at H; exact H
        clear H
        have H := H1
        clear H1
        replace H := Option.bind_eq_some_iff.mp H
        obtain ⟨t211, A130, H⟩ := H
        replace H : (if t211 = x8_1 then (if x8_1 = 0 then (if ((rd_T63 l0_0 x8_1).f1) = (-1) then (if x8_1 > 0 then ((impl_within.f ((rd_T63 l0_0 x8_1).f1) 0 (wrap64 (x8_1 - 1))).bind fun t212 => (impl_ValidTree.j1 k1 l0_0 (l0_0.length : Int) x8_1 (!t212) l0_0)) else (impl_ValidTree.j1 k1 l0_0 (l0_0.length : Int) x8_1 false l0_0)) else (impl_ValidTree.j1 k1 l0_0 (l0_0.length : Int) x8_1 true l0_0)) else (if x8_1 > 0 then ((impl_within.f ((rd_T63 l0_0 x8_1).f1) 0 (wrap64 (x8_1 - 1))).bind fun t213 => (impl_ValidTree.j1 k1 l0_0 (l0_0.length : Int) x8_1 (!t213) l0_0)) else (impl_ValidTree.j1 k1 l0_0 (l0_0.length : Int) x8_1 false l0_0))) else (impl_ValidTree.j1 k1 l0_0 (l0_0.length : Int) x8_1 true l0_0)) = some r := H
        have A13 := am A130
        clear A130
        by_cases c14 : t211 = x8_1
        ·rw [if_pos c14] at H
         have c14b0 : (t211 == x8_1) = true := beq_iff_eq.mpr c14
         have c14b1 : (t211 != x8_1) = false := bne_eq_false_iff_eq.mpr c14
         clear c14
         (first | rw [c14b0] | (simp only [i64_w, i32_w]; rw [c14b0]) | skip)
         by_cases c15 : x8_1 = 0
         ·rw [if_pos c15] at H
          have c15b0 : (x8_1 == 0) = true := beq_iff_eq.mpr c15
          have c15b1 : (x8_1 != 0) = false := bne_eq_false_iff_eq.mpr c15
          clear c15
          by_cases c16 : ((rd_T63 l0_0 x8_1).f1) = (-1)
          ·rw [if_pos c16] at H
           have c16b0 : (((rd_T63 l0_0 x8_1).f1) == (-1)) = true := beq_iff_eq.mpr c16
           have c16b1 : (((rd_T63 l0_0 x8_1).f1) != (-1)) = false := bne_eq_false_iff_eq.mpr c16
           clear c16
           by_cases c17 : x8_1 > 0
           ·rw [if_pos c17] at H
            have c17b0 : decide (0 < x8_1) = true := decide_eq_true c17
            clear c17
            replace H := Option.bind_eq_some_iff.mp H
            obtain ⟨t212, A180, H⟩ := H
            replace H : (impl_ValidTree.j1 k1 l0_0 (l0_0.length : Int) x8_1 (!t212) l0_0) = some r := H
            have A18 := am A180
            clear A180
            have H' := am H
            clear H
            have hnb19 := NB209_206.out
            have hnc19 := NB206_209.out
            have hcz20_0 := bc0 BK209.out
            have hcz20_1 := bc1 BK209.out
            have hfz20_0 := blk_frozen BK209.out 0
            have hfz20_1 := blk_frozen BK209.out 1
            go_wp2_with (first | ((with_reducible refine gate_callee (f := 62) rfl ?_); refine gL (some 15) Try.func62 #[.string ((rd_T63 l0_0 x8_1).f0)] ?_; (with_reducible refine (impl_nameOk.calls k1 ((rd_T63 l0_0 x8_1).f0) true _ A11.out).mono ?_); rintro e w' ⟨rfl, ⟨nd, rfl⟩⟩; refine ⟨_, rfl, ?_⟩; have hcz21_0 := bc0 BK206.out; have hfz21_0 := blk_frozen BK206.out 0) | (go_at_call 63; (with_reducible refine (impl_Tree_named.calls _ _ l0_0 ((rd_T63 l0_0 x8_1).f0) t211 _ ?side1 ?side2 A13.out).mono ?_); (case side1 => exact Kd.C_below HR0_0.out (Y12)); (case side2 => exact HC0_0.out); rintro e w22 ⟨rfl, hb⟩; replace BK206 := am (blk_below (g := gb206) (o := .cells #[.slice (some ad208) l0_0.length c0_0] 33 (0, 0)) (Y33) hb); replace BK209 := am (blk_below (g := gb209) (o := .cells #[.string ((rd_T63 l0_0 x8_1).f0), .int .i64 ((rd_T63 l0_0 x8_1).f1)] 63 (0, 0)) (Y34) hb); replace HB := am (below_step (Y12) hb); (try clear hb); (try clear hb2); (try clear hk); (try clear hi); have hcz23_0 := bc0 BK209.out; have hcz23_1 := bc1 BK209.out; have hfz23_0 := blk_frozen BK209.out 0; have hfz23_1 := blk_frozen BK209.out 1) | (go_at_call 50; (with_reducible refine (impl_within.calls ((rd_T63 l0_0 x8_1).f1) 0 (wrap64 (x8_1 - 1)) t212 _ A18.out).mono ?_); rintro e w' ⟨rfl, ⟨nd, rfl⟩⟩))
            go_meet
            case rel => exact ⟨_, (!t212), (sq), H', ⟨by have := HK1.out; first | omega | exact Nat.le_refl _⟩, ⟨kq BK206.out⟩, ⟨kq BK209.out⟩, ⟨Y12⟩⟩
           ·rw [if_neg c17] at H
            have c17b0 : decide (0 < x8_1) = false := decide_eq_false c17
            clear c17
            have H' := am H
            clear H
            have hnb24 := NB209_206.out
            have hnc24 := NB206_209.out
            have hcz25_0 := bc0 BK209.out
            have hcz25_1 := bc1 BK209.out
            have hfz25_0 := blk_frozen BK209.out 0
            have hfz25_1 := blk_frozen BK209.out 1
            go_wp2_with (first | ((with_reducible refine gate_callee (f := 62) rfl ?_); refine gL (some 15) Try.func62 #[.string ((rd_T63 l0_0 x8_1).f0)] ?_; (with_reducible refine (impl_nameOk.calls k1 ((rd_T63 l0_0 x8_1).f0) true _ A11.out).mono ?_); rintro e w' ⟨rfl, ⟨nd, rfl⟩⟩; refine ⟨_, rfl, ?_⟩; have hcz26_0 := bc0 BK206.out; have hfz26_0 := blk_frozen BK206.out 0) | (go_at_call 63; (with_reducible refine (impl_Tree_named.calls _ _ l0_0 ((rd_T63 l0_0 x8_1).f0) t211 _ ?side1 ?side2 A13.out).mono ?_); (case side1 => exact Kd.C_below HR0_0.out (Y12)); (case side2 => exact HC0_0.out); rintro e w27 ⟨rfl, hb⟩; replace BK206 := am (blk_below (g := gb206) (o := .cells #[.slice (some ad208) l0_0.length c0_0] 33 (0, 0)) (Y33) hb); replace BK209 := am (blk_below (g := gb209) (o := .cells #[.string ((rd_T63 l0_0 x8_1).f0), .int .i64 ((rd_T63 l0_0 x8_1).f1)] 63 (0, 0)) (Y34) hb); replace HB := am (below_step (Y12) hb); (try clear hb); (try clear hb2); (try clear hk); (try clear hi); have hcz28_0 := bc0 BK209.out; have hcz28_1 := bc1 BK209.out; have hfz28_0 := blk_frozen BK209.out 0; have hfz28_1 := blk_frozen BK209.out 1))
            go_meet
            case rel => exact ⟨_, (false), (sq), H', ⟨by have := HK1.out; first | omega | exact Nat.le_refl _⟩, ⟨kq BK206.out⟩, ⟨kq BK209.out⟩, ⟨Y12⟩⟩
          ·rw [if_neg c16] at H
           have c16b0 : (((rd_T63 l0_0 x8_1).f1) == (-1)) = false := beq_eq_false_iff_ne.mpr c16
           have c16b1 : (((rd_T63 l0_0 x8_1).f1) != (-1)) = true := bne_iff_ne.mpr c16
           have H' := am H
           clear H
           have hnb29 := NB209_206.out
           have hnc29 := NB206_209.out
           have hcz30_0 := bc0 BK209.out
           have hcz30_1 := bc1 BK209.out
           have hfz30_0 := blk_frozen BK209.out 0
           have hfz30_1 := blk_frozen BK209.out 1
           go_wp2_with (first | ((with_reducible refine gate_callee (f := 62) rfl ?_); refine gL (some 15) Try.func62 #[.string ((rd_T63 l0_0 x8_1).f0)] ?_; (with_reducible refine (impl_nameOk.calls k1 ((rd_T63 l0_0 x8_1).f0) true _ A11.out).mono ?_); rintro e w' ⟨rfl, ⟨nd, rfl⟩⟩; refine ⟨_, rfl, ?_⟩; have hcz31_0 := bc0 BK206.out; have hfz31_0 := blk_frozen BK206.out 0) | (go_at_call 63; (with_reducible refine (impl_Tree_named.calls _ _ l0_0 ((rd_T63 l0_0 x8_1).f0) t211 _ ?side1 ?side2 A13.out).mono ?_); (case side1 => exact Kd.C_below HR0_0.out (Y12)); (case side2 => exact HC0_0.out); rintro e w32 ⟨rfl, hb⟩; replace BK206 := am (blk_below (g := gb206) (o := .cells #[.slice (some ad208) l0_0.length c0_0] 33 (0, 0)) (Y33) hb); replace BK209 := am (blk_below (g := gb209) (o := .cells #[.string ((rd_T63 l0_0 x8_1).f0), .int .i64 ((rd_T63 l0_0 x8_1).f1)] 63 (0, 0)) (Y34) hb); replace HB := am (below_step (Y12) hb); (try clear hb); (try clear hb2); (try clear hk); (try clear hi); have hcz33_0 := bc0 BK209.out; have hcz33_1 := bc1 BK209.out; have hfz33_0 := blk_frozen BK209.out 0; have hfz33_1 := blk_frozen BK209.out 1))
           go_meet
           case rel => exact ⟨_, (true), (sq), H', ⟨by have := HK1.out; first | omega | exact Nat.le_refl _⟩, ⟨kq BK206.out⟩, ⟨kq BK209.out⟩, ⟨Y12⟩⟩
         ·rw [if_neg c15] at H
          have c15b0 : (x8_1 == 0) = false := beq_eq_false_iff_ne.mpr c15
          have c15b1 : (x8_1 != 0) = true := bne_iff_ne.mpr c15
          by_cases c34 : x8_1 > 0
          ·rw [if_pos c34] at H
           have c34b0 : decide (0 < x8_1) = true := decide_eq_true c34
           clear c34
           replace H := Option.bind_eq_some_iff.mp H
           obtain ⟨t213, A350, H⟩ := H
           replace H : (impl_ValidTree.j1 k1 l0_0 (l0_0.length : Int) x8_1 (!t213) l0_0) = some r := H
           have A35 := am A350
           clear A350
           have H' := am H
           clear H
           have hnb36 := NB209_206.out
           have hnc36 := NB206_209.out
           have hcz37_0 := bc0 BK209.out
           have hcz37_1 := bc1 BK209.out
           have hfz37_0 := blk_frozen BK209.out 0
           have hfz37_1 := blk_frozen BK209.out 1
           go_wp2_with (first | ((with_reducible refine gate_callee (f := 62) rfl ?_); refine gL (some 15) Try.func62 #[.string ((rd_T63 l0_0 x8_1).f0)] ?_; (with_reducible refine (impl_nameOk.calls k1 ((rd_T63 l0_0 x8_1).f0) true _ A11.out).mono ?_); rintro e w' ⟨rfl, ⟨nd, rfl⟩⟩; refine ⟨_, rfl, ?_⟩; have hcz38_0 := bc0 BK206.out; have hfz38_0 := blk_frozen BK206.out 0) | (go_at_call 63; (with_reducible refine (impl_Tree_named.calls _ _ l0_0 ((rd_T63 l0_0 x8_1).f0) t211 _ ?side1 ?side2 A13.out).mono ?_); (case side1 => exact Kd.C_below HR0_0.out (Y12)); (case side2 => exact HC0_0.out); rintro e w39 ⟨rfl, hb⟩; replace BK206 := am (blk_below (g := gb206) (o := .cells #[.slice (some ad208) l0_0.length c0_0] 33 (0, 0)) (Y33) hb); replace BK209 := am (blk_below (g := gb209) (o := .cells #[.string ((rd_T63 l0_0 x8_1).f0), .int .i64 ((rd_T63 l0_0 x8_1).f1)] 63 (0, 0)) (Y34) hb); replace HB := am (below_step (Y12) hb); (try clear hb); (try clear hb2); (try clear hk); (try clear hi); have hcz40_0 := bc0 BK209.out; have hcz40_1 := bc1 BK209.out; have hfz40_0 := blk_frozen BK209.out 0; have hfz40_1 := blk_frozen BK209.out 1) | (go_at_call 50; (with_reducible refine (impl_within.calls ((rd_T63 l0_0 x8_1).f1) 0 (wrap64 (x8_1 - 1)) t213 _ A35.out).mono ?_); rintro e w' ⟨rfl, ⟨nd, rfl⟩⟩))
           go_meet
           case rel => exact ⟨_, (!t213), (sq), H', ⟨by have := HK1.out; first | omega | exact Nat.le_refl _⟩, ⟨kq BK206.out⟩, ⟨kq BK209.out⟩, ⟨Y12⟩⟩
          ·rw [if_neg c34] at H
           have c34b0 : decide (0 < x8_1) = false := decide_eq_false c34
           clear c34
           have H' := am H
           clear H
           have hnb41 := NB209_206.out
           have hnc41 := NB206_209.out
           have hcz42_0 := bc0 BK209.out
           have hcz42_1 := bc1 BK209.out
           have hfz42_0 := blk_frozen BK209.out 0
           have hfz42_1 := blk_frozen BK209.out 1
           go_wp2_with (first | ((with_reducible refine gate_callee (f := 62) rfl ?_); refine gL (some 15) Try.func62 #[.string ((rd_T63 l0_0 x8_1).f0)] ?_; (with_reducible refine (impl_nameOk.calls k1 ((rd_T63 l0_0 x8_1).f0) true _ A11.out).mono ?_); rintro e w' ⟨rfl, ⟨nd, rfl⟩⟩; refine ⟨_, rfl, ?_⟩; have hcz43_0 := bc0 BK206.out; have hfz43_0 := blk_frozen BK206.out 0) | (go_at_call 63; (with_reducible refine (impl_Tree_named.calls _ _ l0_0 ((rd_T63 l0_0 x8_1).f0) t211 _ ?side1 ?side2 A13.out).mono ?_); (case side1 => exact Kd.C_below HR0_0.out (Y12)); (case side2 => exact HC0_0.out); rintro e w44 ⟨rfl, hb⟩; replace BK206 := am (blk_below (g := gb206) (o := .cells #[.slice (some ad208) l0_0.length c0_0] 33 (0, 0)) (Y33) hb); replace BK209 := am (blk_below (g := gb209) (o := .cells #[.string ((rd_T63 l0_0 x8_1).f0), .int .i64 ((rd_T63 l0_0 x8_1).f1)] 63 (0, 0)) (Y34) hb); replace HB := am (below_step (Y12) hb); (try clear hb); (try clear hb2); (try clear hk); (try clear hi)))
           go_meet
           case rel => exact ⟨_, (false), (sq), H', ⟨by have := HK1.out; first | omega | exact Nat.le_refl _⟩, ⟨kq BK206.out⟩, ⟨kq BK209.out⟩, ⟨Y12⟩⟩
        ·rw [if_neg c14] at H
         have c14b0 : (t211 == x8_1) = false := beq_eq_false_iff_ne.mpr c14
         have c14b1 : (t211 != x8_1) = true := bne_iff_ne.mpr c14
         (first | rw [c14b0] | (simp only [i64_w, i32_w]; rw [c14b0]) | skip)
         have H' := am H
         clear H
         have hnb45 := NB209_206.out
         have hnc45 := NB206_209.out
         have hcz46_0 := bc0 BK209.out
         have hcz46_1 := bc1 BK209.out
         have hfz46_0 := blk_frozen BK209.out 0
         have hfz46_1 := blk_frozen BK209.out 1
         go_wp2_with (first | ((with_reducible refine gate_callee (f := 62) rfl ?_); refine gL (some 15) Try.func62 #[.string ((rd_T63 l0_0 x8_1).f0)] ?_; (with_reducible refine (impl_nameOk.calls k1 ((rd_T63 l0_0 x8_1).f0) true _ A11.out).mono ?_); rintro e w' ⟨rfl, ⟨nd, rfl⟩⟩; refine ⟨_, rfl, ?_⟩; have hcz47_0 := bc0 BK206.out; have hfz47_0 := blk_frozen BK206.out 0) | (go_at_call 63; (with_reducible refine (impl_Tree_named.calls _ _ l0_0 ((rd_T63 l0_0 x8_1).f0) t211 _ ?side1 ?side2 A13.out).mono ?_); (case side1 => exact Kd.C_below HR0_0.out (Y12)); (case side2 => exact HC0_0.out); rintro e w48 ⟨rfl, hb⟩; replace BK206 := am (blk_below (g := gb206) (o := .cells #[.slice (some ad208) l0_0.length c0_0] 33 (0, 0)) (Y33) hb); replace BK209 := am (blk_below (g := gb209) (o := .cells #[.string ((rd_T63 l0_0 x8_1).f0), .int .i64 ((rd_T63 l0_0 x8_1).f1)] 63 (0, 0)) (Y34) hb); replace HB := am (below_step (Y12) hb); (try clear hb); (try clear hb2); (try clear hk); (try clear hi)))
         go_meet
         case rel => exact ⟨_, (true), (sq), H', ⟨by have := HK1.out; first | omega | exact Nat.le_refl _⟩, ⟨kq BK206.out⟩, ⟨kq BK209.out⟩, ⟨Y12⟩⟩
       ·replace c12 := Bool.eq_false_iff.mpr c12
        subst c12
        have H1 : (impl_ValidTree.j1 k1 l0_0 (l0_0.length : Int) x8_1 true l0_0) = some r := by rw [if_neg (show ¬ (false = true) by decide)] at H; exact H
        clear H
        have H := H1
        clear H1
        have H' := am H
        clear H
        have hnb49 := NB209_206.out
        have hnc49 := NB206_209.out
        have hcz50_0 := bc0 BK209.out
        have hcz50_1 := bc1 BK209.out
        have hfz50_0 := blk_frozen BK209.out 0
        have hfz50_1 := blk_frozen BK209.out 1
        go_wp2_with (first | ((with_reducible refine gate_callee (f := 62) rfl ?_); refine gL (some 15) Try.func62 #[.string ((rd_T63 l0_0 x8_1).f0)] ?_; (with_reducible refine (impl_nameOk.calls k1 ((rd_T63 l0_0 x8_1).f0) false _ A11.out).mono ?_); rintro e w' ⟨rfl, ⟨nd, rfl⟩⟩; refine ⟨_, rfl, ?_⟩))
        go_meet
        case rel => exact ⟨_, (true), (sq), H', ⟨by have := HK1.out; first | omega | exact Nat.le_refl _⟩, ⟨by (with_reducible repeat (first | refine blk_drewN ?_ _ | refine blk_drew ?_ | refine blk_alloc ?_ _)); refine blk_far ?_ NB206_209.out _; (with_reducible repeat (first | refine blk_drewN ?_ _ | refine blk_drew ?_ | refine blk_alloc ?_ _)); refine blk_far ?_ NB206_209.out _; (with_reducible repeat (first | refine blk_drewN ?_ _ | refine blk_drew ?_ | refine blk_alloc ?_ _)); exact BK206.out⟩, ⟨by (with_reducible repeat (first | refine blk_drewN ?_ _ | refine blk_drew ?_ | refine blk_alloc ?_ _)); refine blk_put (cs := #[.string ((rd_T63 l0_0 x8_1).f0), .int .i64 0]) ?_ 1 _ rfl; (with_reducible repeat (first | refine blk_drewN ?_ _ | refine blk_drew ?_ | refine blk_alloc ?_ _)); refine blk_put (cs := #[.string (⟨#[]⟩ : ByteArray), .int .i64 0]) ?_ 0 _ rfl; (with_reducible repeat (first | refine blk_drewN ?_ _ | refine blk_drew ?_ | refine blk_alloc ?_ _)); exact BK209.out⟩, ⟨Y12⟩⟩
      case rest =>
       clear HC7
       try clear c1
       try clear c2
       try clear p2
       try clear q2
       try clear hx2
       try clear c3
       try clear c4
       try clear c4b0
       try clear c5
       try clear c5b0
       try clear c6
       try clear c6b0
       try clear p6
       try clear c9
       try clear c12
       try clear c14
       try clear c14b0
       try clear c14b1
       try clear c15
       try clear c15b0
       try clear c15b1
       try clear c16
       try clear c16b0
       try clear c16b1
       try clear c17
       try clear c17b0
       try clear c19
       try clear p20
       try clear q20
       try clear hx20
       try clear c24
       try clear c29
       try clear c34
       try clear c34b0
       try clear c36
       try clear c41
       try clear c45
       try clear c48
       try clear c49
       try clear hcz10_0
       try clear hcz10_1
       try clear hcz20_0
       try clear hcz20_1
       try clear hcz21_0
       try clear hcz23_0
       try clear hcz23_1
       try clear hcz25_0
       try clear hcz25_1
       try clear hcz26_0
       try clear hcz28_0
       try clear hcz28_1
       try clear hcz30_0
       try clear hcz30_1
       try clear hcz31_0
       try clear hcz33_0
       try clear hcz33_1
       try clear hcz37_0
       try clear hcz37_1
       try clear hcz38_0
       try clear hcz3_0
       try clear hcz40_0
       try clear hcz40_1
       try clear hcz42_0
       try clear hcz42_1
       try clear hcz43_0
       try clear hcz46_0
       try clear hcz46_1
       try clear hcz47_0
       try clear hcz50_0
       try clear hcz50_1
       try clear hfz10_0
       try clear hfz10_1
       try clear hfz20_0
       try clear hfz20_1
       try clear hfz21_0
       try clear hfz23_0
       try clear hfz23_1
       try clear hfz25_0
       try clear hfz25_1
       try clear hfz26_0
       try clear hfz28_0
       try clear hfz28_1
       try clear hfz30_0
       try clear hfz30_1
       try clear hfz31_0
       try clear hfz33_0
       try clear hfz33_1
       try clear hfz37_0
       try clear hfz37_1
       try clear hfz38_0
       try clear hfz3_0
       try clear hfz40_0
       try clear hfz40_1
       try clear hfz42_0
       try clear hfz42_1
       try clear hfz43_0
       try clear hfz46_0
       try clear hfz46_1
       try clear hfz47_0
       try clear hfz50_0
       try clear hfz50_1
       try clear hx208_0
       try clear hx208_1
       try clear p2
       try clear p208
       try clear q208
       obtain ⟨kq, x45_6, rfl, HA, HJ6, BK206, BK209, HB⟩ := hcut
       cases kq with
       | zero => exact absurd HA.out (by simp [impl_ValidTree.j1])
       | succ kj6 =>
        have H := HA.out
        clear HA
        simp only [impl_ValidTree.j1] at H
        by_cases c51 : x45_6 = true
        ·subst c51
         have H1 : (some false) = some r := by rw [if_pos rfl] at H; exact H
         clear H
         have H := H1
         clear H1
         obtain rfl := Option.some.inj H
         go_wp2
         go_ret
         exact ⟨Y1, Y12⟩
        ·replace c51 := Bool.eq_false_iff.mpr c51
         subst c51
         have H1 : (impl_ValidTree.l0 kj6 l0_0 (l0_0.length : Int) (wrap64 (x8_1 + 1)) l0_0) = some r := by rw [if_neg (show ¬ (false = true) by decide)] at H; exact H
         clear H
         have H := H1
         clear H1
         have H' := am H
         clear H
         go_wp2
         go_roundg kj6
         case measure => have := HK1.out; have := HJ6.out; omega
         case rel => exact ⟨(wrap64 (x8_1 + 1)), (sq), H', ⟨by have := HK1.out; have := HJ6.out; omega⟩, ⟨kq BK206.out⟩, ⟨Y12⟩⟩
     ·rw [if_neg c6] at H
      exact absurd H (by simp)
    ·rw [if_neg c5] at H
     exact absurd H (by simp)
   ·rw [if_neg c4] at H
    have c4b0 : decide (x8_1 < (l0_0.length : Int)) = false := decide_eq_false c4
    clear c4
    replace H := Option.bind_eq_some_iff.mp H
    obtain ⟨t207, A520, H⟩ := H
    replace H : (some t207) = some r := H
    have A52 := am A520
    clear A520
    obtain rfl := Option.some.inj H
    have hcz53_0 := bc0 BK206.out
    have hfz53_0 := blk_frozen BK206.out 0
    go_wp2_with (first | ((with_reducible refine gate_callee (f := 50) rfl ?_); refine gL (some 50) Try.func50 #[.int .i64 (l0_0.length : Int), .int .i64 1, .int .i64 8] ?_; (with_reducible refine (impl_within.calls (l0_0.length : Int) 1 8 t207 _ A52.out).mono ?_); rintro e w' ⟨rfl, ⟨nd, rfl⟩⟩; refine ⟨_, rfl, ?_⟩))
    go_ret
    exact ⟨Y1, Y58⟩
def impl_codeOk.f (a0 : Int) : Option (Bool) := (impl_within.f a0 0 99).bind fun t214 => (some t214)
set_option maxHeartbeats 8000000 in
set_option maxRecDepth 100000 in
theorem impl_codeOk.calls (a0 : Int) (r : Bool) (w : World) (h : impl_codeOk.f a0 = some r) :
  Calls Try.prog 64 #[.int .i64 a0] w fun e w' => e = .returned (.bool r) ∧ Drawn0 w w' := by
 have H : ((impl_within.f a0 0 99).bind fun t214 => (some t214)) = some r := h
 clear h
 replace H := Option.bind_eq_some_iff.mp H
 obtain ⟨t214, A20, H⟩ := H
 replace H : (some t214) = some r := H
 have A2 := am A20
 clear A20
 obtain rfl := Option.some.inj H
 go_enter Try.func64, Try.ntmps64
 go_wp2_with (first | ((with_reducible refine gate_callee (f := 50) rfl ?_); refine gL (some 4) Try.func50 #[.int .i64 a0, .int .i64 0, .int .i64 99] ?_; (with_reducible refine (impl_within.calls a0 0 99 t214 _ A2.out).mono ?_); rintro e w' ⟨rfl, ⟨nd, rfl⟩⟩; refine ⟨_, rfl, ?_⟩))
 go_ret
 exact ⟨sq, Y5⟩
def impl_Tree_has.f (l0_0 : List (S63)) (a1 : Int) : Option (Bool) := (impl_within.f a1 0 (wrap64 ((l0_0.length : Int) - 1))).bind fun t216 => (some t216)
set_option maxHeartbeats 8000000 in
set_option maxRecDepth 100000 in
theorem impl_Tree_has.calls (A0_0 : Option Addr) (c0_0 : Nat) (l0_0 : List (S63)) (a1 : Int) (r : Bool) (w : World) (hr0_0 : Kd.C k63 w A0_0 l0_0.length l0_0) (hc0_0 : l0_0.length ≤ c0_0) (h : impl_Tree_has.f l0_0 a1 = some r) :
  Calls Try.prog 65 #[.agg #[.slice A0_0 l0_0.length c0_0], .int .i64 a1] w fun e w' => e = .returned (.bool r) ∧ Below w.heap.size w w' := by
 have hu33 := Try.underlying33
 have HR0_0 := am hr0_0
 have HC0_0 := am hc0_0
 clear hr0_0 hc0_0
 have HB := am (Below.refl w.heap.size w)
 have H : ((impl_within.f a1 0 (wrap64 ((l0_0.length : Int) - 1))).bind fun t216 => (some t216)) = some r := h
 clear h
 replace H := Option.bind_eq_some_iff.mp H
 obtain ⟨t216, A30, H⟩ := H
 replace H : (some t216) = some r := H
 have A3 := am A30
 clear A30
 obtain rfl := Option.some.inj H
 go_enter Try.func65, Try.ntmps65
 go_wp2_with (first | ((with_reducible refine gate_dst (N := 2) rfl ?_); refine bE (N := 2) (cs := #[.slice A0_0 l0_0.length c0_0]) (t := 33) ?_; intro gb215 hg w4 hbox hb; have BK215 := am (hbox); have GW215 := am ((Y0 : w.heap.size ≤ gb215)); have GE215 := am ((Y0 : w.heap.size ≤ gb215)); replace HB := am (below_step (bq) hb); clear hb hbox hg; have hcz5_0 := bc0 BK215.out; have hfz5_0 := blk_frozen BK215.out 0) | ((with_reducible refine gate_callee (f := 50) rfl ?_); refine gL (some 10) Try.func50 #[.int .i64 a1, .int .i64 0, .int .i64 (wrap64 ((l0_0.length : Int) - 1))] ?_; (with_reducible refine (impl_within.calls a1 0 (wrap64 ((l0_0.length : Int) - 1)) t216 _ A3.out).mono ?_); rintro e w' ⟨rfl, ⟨nd, rfl⟩⟩; refine ⟨_, rfl, ?_⟩))
 go_ret
 exact ⟨Y1, by repeat (first | (with_reducible first | exact HB.out | apply below_alloc | apply pw_below_drewN | apply below_drew1 | refine below_set ?_ GE215.out) | exact HB.out)⟩
def impl_Line_argued.j0 : Nat → Int → Bool → Int → Int → Int → Int → List (S63) → Option (Bool)
 | 0, _, _, _, _, _, _, _ => none
 | k + 1, x6, x7, x218000, x218001, x218002, x218003, x219000 => if x7 = true then ((impl_codeOk.f x218002).bind fun t219 => (if t219 = true then (some (x218003 == 0)) else (some false))) else (if x6 = 2 then ((impl_Tree_has.f x219000 x218002).bind fun t220 => (if t220 = true then ((impl_codeOk.f x218003).bind fun t221 => (some t221)) else (some false))) else (if x6 = 8 then ((impl_Tree_has.f x219000 x218002).bind fun t222 => (if t222 = true then (some (x218003 == 0)) else (some false))) else (if x6 = 11 then ((impl_within.f x218002 0 9).bind fun t223 => (if t223 = true then ((impl_within.f x218003 0 1).bind fun t224 => (some t224)) else (some false))) else (if x6 = 12 then ((impl_within.f x218002 0 3).bind fun t225 => (if t225 = true then (some (x218003 == 0)) else (some false))) else ((impl_within.f x218001 0 12).bind fun t226 => (if t226 = true then (if x218002 = 0 then (some (x218003 == 0)) else (some false)) else (some false)))))))
def impl_Line_argued.f (k : Nat) (a0_0 : Int) (a0_1 : Int) (a0_2 : Int) (a0_3 : Int) (l1_0 : List (S63)) : Option (Bool) := if a0_1 = 1 then (impl_Line_argued.j0 k a0_1 (a0_1 == 1) a0_0 a0_1 a0_2 a0_3 l1_0) else (impl_Line_argued.j0 k a0_1 (a0_1 == 4) a0_0 a0_1 a0_2 a0_3 l1_0)
set_option maxHeartbeats 8000000 in
set_option maxRecDepth 100000 in
theorem impl_Line_argued.calls (k : Nat) (a0_0 : Int) (a0_1 : Int) (a0_2 : Int) (a0_3 : Int) (A1_0 : Option Addr) (c1_0 : Nat) (l1_0 : List (S63)) (r : Bool) (w : World) (hr1_0 : Kd.C k63 w A1_0 l1_0.length l1_0) (hc1_0 : l1_0.length ≤ c1_0) (h : impl_Line_argued.f k a0_0 a0_1 a0_2 a0_3 l1_0 = some r) :
  Calls Try.prog 49 #[.agg #[.int .i64 a0_0, .int .i64 a0_1, .int .i64 a0_2, .int .i64 a0_3], .agg #[.slice A1_0 l1_0.length c1_0]] w fun e w' => e = .returned (.bool r) ∧ Below w.heap.size w w' := by
 have hu50 := Try.underlying50
 have hu33 := Try.underlying33
 have HR1_0 := am hr1_0
 have HC1_0 := am hc1_0
 clear hr1_0 hc1_0
 have HB := am (Below.refl w.heap.size w)
 have H : (if a0_1 = 1 then (impl_Line_argued.j0 k a0_1 (a0_1 == 1) a0_0 a0_1 a0_2 a0_3 l1_0) else (impl_Line_argued.j0 k a0_1 (a0_1 == 4) a0_0 a0_1 a0_2 a0_3 l1_0)) = some r := h
 clear h
 have HC3 := am H
 clear H
 go_enter Try.func49, Try.ntmps49
 go_upto_if 7 with (first | ((with_reducible refine gate_dst (N := 2) rfl ?_); refine bE (N := 2) (cs := #[.int .i64 a0_0, .int .i64 a0_1, .int .i64 a0_2, .int .i64 a0_3]) (t := 50) ?_; intro gb217 hg w4 hbox hb; have BK217 := am (hbox); have GW217 := am ((Y0 : w.heap.size ≤ gb217)); have GE217 := am ((Y0 : w.heap.size ≤ gb217)); replace HB := am (below_step (bq) hb); clear hb hbox hg) | ((with_reducible refine gate_dst (N := 3) rfl ?_); refine bE (N := 3) (cs := #[.slice A1_0 l1_0.length c1_0]) (t := 33) ?_; intro gb218 hg w5 hbox hb; have BK218 := am (hbox); have GW218 := am ((Y78 : w.heap.size ≤ gb218)); have GE218 := am ((Y78 : w.heap.size ≤ gb218)); have NB217_218 := am ((by rw [hg]; exact Nat.ne_of_lt (blk_lt (g := gb217) (o := .cells #[.int .i64 a0_0, .int .i64 a0_1, .int .i64 a0_2, .int .i64 a0_3] 50 (0, 0)) (kq BK217.out)) : gb217 ≠ gb218)); have NB218_217 := am ((by rw [hg]; exact Nat.ne_of_gt (blk_lt (g := gb217) (o := .cells #[.int .i64 a0_0, .int .i64 a0_1, .int .i64 a0_2, .int .i64 a0_3] 50 (0, 0)) (kq BK217.out)) : gb218 ≠ gb217)); replace BK217 := am (blk_below (g := gb217) (o := .cells #[.int .i64 a0_0, .int .i64 a0_1, .int .i64 a0_2, .int .i64 a0_3] 50 (0, 0)) (kq BK217.out) hb); replace HB := am (below_step (by repeat (first | (with_reducible first | exact HB.out | apply below_alloc | apply pw_below_drewN | apply below_drew1 | refine below_set ?_ GE217.out) | exact HB.out)) hb); clear hb hbox hg; have hnb6 := NB217_218.out; have hnc6 := NB218_217.out; have hcz7_0 := bc0 BK217.out; have hcz7_1 := bc1 BK217.out; have hcz7_2 := bc2 BK217.out; have hcz7_3 := bc3 BK217.out; have hfz7_0 := blk_frozen BK217.out 0; have hfz7_1 := blk_frozen BK217.out 1; have hfz7_2 := blk_frozen BK217.out 2; have hfz7_3 := blk_frozen BK217.out 3))
 (try simp only [Act.put, List.setIfInBounds_toArray, List.set_cons_zero, List.set_cons_succ])
 go_cut [7] (fun v7 wc => ∃ (kq : Nat) (x7_2 : Bool), v7 = .bool x7_2 ∧ Aside0 (impl_Line_argued.j0 kq a0_1 x7_2 a0_0 a0_1 a0_2 a0_3 l1_0 = some r) ∧ Aside0 (kq ≤ k) ∧ Aside0 (wc.heap[gb217]? = some (.cells #[.int .i64 a0_0, .int .i64 a0_1, .int .i64 a0_2, .int .i64 a0_3] 50 (0, 0))) ∧ Aside0 (wc.heap[gb218]? = some (.cells #[(.slice A1_0 l1_0.length c1_0)] 33 (0, 0))) ∧ Aside0 (Below w.heap.size w wc))
 case first =>
  have H := HC3.out
  clear HC3
  by_cases c8 : a0_1 = 1
  ·rw [if_pos c8] at H
   have c8b0 : (a0_1 == 1) = true := beq_iff_eq.mpr c8
   have c8b1 : (a0_1 != 1) = false := bne_eq_false_iff_eq.mpr c8
   clear c8
   (first | rw [c8b0] | (simp only [i64_w, i32_w]; rw [c8b0]) | skip)
   have H' := am H
   clear H
   go_wp2
   go_meet
   case rel => exact ⟨_, ((a0_1 == 1)), (sq), H', ⟨Y22⟩, ⟨kq BK217.out⟩, ⟨kq BK218.out⟩, ⟨Y19⟩⟩
  ·rw [if_neg c8] at H
   have c8b0 : (a0_1 == 1) = false := beq_eq_false_iff_ne.mpr c8
   have c8b1 : (a0_1 != 1) = true := bne_iff_ne.mpr c8
   (first | rw [c8b0] | (simp only [i64_w, i32_w]; rw [c8b0]) | skip)
   have H' := am H
   clear H
   go_wp2
   go_meet
   case rel => exact ⟨_, ((a0_1 == 4)), (sq), H', ⟨Y22⟩, ⟨kq BK217.out⟩, ⟨kq BK218.out⟩, ⟨Y19⟩⟩
 case rest =>
  clear HC3
  try clear c1
  try clear p2
  try clear c4
  try clear c6
  try clear c8
  try clear c8b0
  try clear c8b1
  try clear hcz7_0
  try clear hcz7_1
  try clear hcz7_2
  try clear hcz7_3
  try clear hfz7_0
  try clear hfz7_1
  try clear hfz7_2
  try clear hfz7_3
  obtain ⟨kq, x7_2, rfl, HA, HJ2, BK217, BK218, HB⟩ := hcut
  cases kq with
  | zero => exact absurd HA.out (by simp [impl_Line_argued.j0])
  | succ kj2 =>
   have H := HA.out
   clear HA
   simp only [impl_Line_argued.j0] at H
   by_cases c9 : x7_2 = true
   ·subst c9
    have H1 : ((impl_codeOk.f a0_2).bind fun t219 => (if t219 = true then (some (a0_3 == 0)) else (some false))) = some r := by rw [if_pos rfl] at H; exact H
    clear H
    have H := H1
    clear H1
    replace H := Option.bind_eq_some_iff.mp H
    obtain ⟨t219, A100, H⟩ := H
    replace H : (if t219 = true then (some (a0_3 == 0)) else (some false)) = some r := H
    have A10 := am A100
    clear A100
    by_cases c11 : t219 = true
    ·subst c11
     have H1 : (some (a0_3 == 0)) = some r := by rw [if_pos rfl] at H; exact H
     clear H
     have H := H1
     clear H1
     obtain rfl := Option.some.inj H
     have hnb12 := NB217_218.out
     have hnc12 := NB218_217.out
     have hcz13_0 := bc0 BK217.out
     have hcz13_1 := bc1 BK217.out
     have hcz13_2 := bc2 BK217.out
     have hcz13_3 := bc3 BK217.out
     have hfz13_0 := blk_frozen BK217.out 0
     have hfz13_1 := blk_frozen BK217.out 1
     have hfz13_2 := blk_frozen BK217.out 2
     have hfz13_3 := blk_frozen BK217.out 3
     go_wp2_with (first | ((with_reducible refine gate_callee (f := 64) rfl ?_); refine gL (some 12) Try.func64 #[.int .i64 a0_2] ?_; (with_reducible refine (impl_codeOk.calls a0_2 true _ A10.out).mono ?_); rintro e w' ⟨rfl, ⟨nd, rfl⟩⟩; refine ⟨_, rfl, ?_⟩))
     go_ret
     exact ⟨Y1, Y19⟩
    ·replace c11 := Bool.eq_false_iff.mpr c11
     subst c11
     have H1 : (some false) = some r := by rw [if_neg (show ¬ (false = true) by decide)] at H; exact H
     clear H
     have H := H1
     clear H1
     obtain rfl := Option.some.inj H
     have hnb14 := NB217_218.out
     have hnc14 := NB218_217.out
     have hcz15_0 := bc0 BK217.out
     have hcz15_1 := bc1 BK217.out
     have hcz15_2 := bc2 BK217.out
     have hcz15_3 := bc3 BK217.out
     have hfz15_0 := blk_frozen BK217.out 0
     have hfz15_1 := blk_frozen BK217.out 1
     have hfz15_2 := blk_frozen BK217.out 2
     have hfz15_3 := blk_frozen BK217.out 3
     go_wp2_with (first | ((with_reducible refine gate_callee (f := 64) rfl ?_); refine gL (some 12) Try.func64 #[.int .i64 a0_2] ?_; (with_reducible refine (impl_codeOk.calls a0_2 false _ A10.out).mono ?_); rintro e w' ⟨rfl, ⟨nd, rfl⟩⟩; refine ⟨_, rfl, ?_⟩))
     go_ret
     exact ⟨Y1, Y19⟩
   ·replace c9 := Bool.eq_false_iff.mpr c9
    subst c9
    have H1 : (if a0_1 = 2 then ((impl_Tree_has.f l1_0 a0_2).bind fun t220 => (if t220 = true then ((impl_codeOk.f a0_3).bind fun t221 => (some t221)) else (some false))) else (if a0_1 = 8 then ((impl_Tree_has.f l1_0 a0_2).bind fun t222 => (if t222 = true then (some (a0_3 == 0)) else (some false))) else (if a0_1 = 11 then ((impl_within.f a0_2 0 9).bind fun t223 => (if t223 = true then ((impl_within.f a0_3 0 1).bind fun t224 => (some t224)) else (some false))) else (if a0_1 = 12 then ((impl_within.f a0_2 0 3).bind fun t225 => (if t225 = true then (some (a0_3 == 0)) else (some false))) else ((impl_within.f a0_1 0 12).bind fun t226 => (if t226 = true then (if a0_2 = 0 then (some (a0_3 == 0)) else (some false)) else (some false))))))) = some r := by rw [if_neg (show ¬ (false = true) by decide)] at H; exact H
    clear H
    have H := H1
    clear H1
    by_cases c16 : a0_1 = 2
    ·rw [if_pos c16] at H
     have c16b0 : (a0_1 == 2) = true := beq_iff_eq.mpr c16
     have c16b1 : (a0_1 != 2) = false := bne_eq_false_iff_eq.mpr c16
     clear c16
     replace H := Option.bind_eq_some_iff.mp H
     obtain ⟨t220, A170, H⟩ := H
     replace H : (if t220 = true then ((impl_codeOk.f a0_3).bind fun t221 => (some t221)) else (some false)) = some r := H
     have A17 := am A170
     clear A170
     by_cases c18 : t220 = true
     ·subst c18
      have H1 : ((impl_codeOk.f a0_3).bind fun t221 => (some t221)) = some r := by rw [if_pos rfl] at H; exact H
      clear H
      have H := H1
      clear H1
      replace H := Option.bind_eq_some_iff.mp H
      obtain ⟨t221, A190, H⟩ := H
      replace H : (some t221) = some r := H
      have A19 := am A190
      clear A190
      obtain rfl := Option.some.inj H
      have hnb20 := NB218_217.out
      have hnc20 := NB217_218.out
      have hcz21_0 := bc0 BK218.out
      have hfz21_0 := blk_frozen BK218.out 0
      have hcz22_0 := bc0 BK217.out
      have hcz22_1 := bc1 BK217.out
      have hcz22_2 := bc2 BK217.out
      have hcz22_3 := bc3 BK217.out
      have hfz22_0 := blk_frozen BK217.out 0
      have hfz22_1 := blk_frozen BK217.out 1
      have hfz22_2 := blk_frozen BK217.out 2
      have hfz22_3 := blk_frozen BK217.out 3
      go_wp2_with (first | ((with_reducible refine gate_callee (f := 65) rfl ?_); refine gL (some 23) Try.func65 #[.agg #[.slice A1_0 l1_0.length c1_0], .int .i64 a0_2] ?_; (with_reducible refine (impl_Tree_has.calls _ _ l1_0 a0_2 true _ ?side1 ?side2 A17.out).mono ?_); (case side1 => exact cq (Kd.C_below HR1_0.out HB.out)); (case side2 => exact HC1_0.out); rintro e w23 ⟨rfl, hb⟩; refine ⟨_, rfl, ?_⟩; replace BK217 := am (blk_below (g := gb217) (o := .cells #[.int .i64 a0_0, .int .i64 a0_1, .int .i64 a0_2, .int .i64 a0_3] 50 (0, 0)) (kq BK217.out) hb); replace BK218 := am (blk_below (g := gb218) (o := .cells #[.slice A1_0 l1_0.length c1_0] 33 (0, 0)) (kq BK218.out) hb); replace HB := am (below_step (Y19) hb); (try clear hb); (try clear hb2); (try clear hk); (try clear hi); have hcz24_0 := bc0 BK217.out; have hcz24_1 := bc1 BK217.out; have hcz24_2 := bc2 BK217.out; have hcz24_3 := bc3 BK217.out; have hfz24_0 := blk_frozen BK217.out 0; have hfz24_1 := blk_frozen BK217.out 1; have hfz24_2 := blk_frozen BK217.out 2; have hfz24_3 := blk_frozen BK217.out 3) | (go_at_call 64; (with_reducible refine (impl_codeOk.calls a0_3 t221 _ A19.out).mono ?_); rintro e w' ⟨rfl, ⟨nd, rfl⟩⟩))
      go_ret
      exact ⟨Y1, Y19⟩
     ·replace c18 := Bool.eq_false_iff.mpr c18
      subst c18
      have H1 : (some false) = some r := by rw [if_neg (show ¬ (false = true) by decide)] at H; exact H
      clear H
      have H := H1
      clear H1
      obtain rfl := Option.some.inj H
      have hnb25 := NB218_217.out
      have hnc25 := NB217_218.out
      have hcz26_0 := bc0 BK218.out
      have hfz26_0 := blk_frozen BK218.out 0
      have hcz27_0 := bc0 BK217.out
      have hcz27_1 := bc1 BK217.out
      have hcz27_2 := bc2 BK217.out
      have hcz27_3 := bc3 BK217.out
      have hfz27_0 := blk_frozen BK217.out 0
      have hfz27_1 := blk_frozen BK217.out 1
      have hfz27_2 := blk_frozen BK217.out 2
      have hfz27_3 := blk_frozen BK217.out 3
      go_wp2_with (first | ((with_reducible refine gate_callee (f := 65) rfl ?_); refine gL (some 23) Try.func65 #[.agg #[.slice A1_0 l1_0.length c1_0], .int .i64 a0_2] ?_; (with_reducible refine (impl_Tree_has.calls _ _ l1_0 a0_2 false _ ?side1 ?side2 A17.out).mono ?_); (case side1 => exact cq (Kd.C_below HR1_0.out HB.out)); (case side2 => exact HC1_0.out); rintro e w28 ⟨rfl, hb⟩; refine ⟨_, rfl, ?_⟩; replace BK217 := am (blk_below (g := gb217) (o := .cells #[.int .i64 a0_0, .int .i64 a0_1, .int .i64 a0_2, .int .i64 a0_3] 50 (0, 0)) (kq BK217.out) hb); replace BK218 := am (blk_below (g := gb218) (o := .cells #[.slice A1_0 l1_0.length c1_0] 33 (0, 0)) (kq BK218.out) hb); replace HB := am (below_step (Y19) hb); (try clear hb); (try clear hb2); (try clear hk); (try clear hi)))
      go_ret
      exact ⟨Y1, Y19⟩
    ·rw [if_neg c16] at H
     have c16b0 : (a0_1 == 2) = false := beq_eq_false_iff_ne.mpr c16
     have c16b1 : (a0_1 != 2) = true := bne_iff_ne.mpr c16
     by_cases c29 : a0_1 = 8
     ·rw [if_pos c29] at H
      have c29b0 : (a0_1 == 8) = true := beq_iff_eq.mpr c29
      have c29b1 : (a0_1 != 8) = false := bne_eq_false_iff_eq.mpr c29
      clear c29
      replace H := Option.bind_eq_some_iff.mp H
      obtain ⟨t222, A300, H⟩ := H
      replace H : (if t222 = true then (some (a0_3 == 0)) else (some false)) = some r := H
      have A30 := am A300
      clear A300
      by_cases c31 : t222 = true
      ·subst c31
       have H1 : (some (a0_3 == 0)) = some r := by rw [if_pos rfl] at H; exact H
       clear H
       have H := H1
       clear H1
       obtain rfl := Option.some.inj H
       have hnb32 := NB218_217.out
       have hnc32 := NB217_218.out
       have hcz33_0 := bc0 BK218.out
       have hfz33_0 := blk_frozen BK218.out 0
       have hcz34_0 := bc0 BK217.out
       have hcz34_1 := bc1 BK217.out
       have hcz34_2 := bc2 BK217.out
       have hcz34_3 := bc3 BK217.out
       have hfz34_0 := blk_frozen BK217.out 0
       have hfz34_1 := blk_frozen BK217.out 1
       have hfz34_2 := blk_frozen BK217.out 2
       have hfz34_3 := blk_frozen BK217.out 3
       go_wp2_with (first | ((with_reducible refine gate_callee (f := 65) rfl ?_); refine gL (some 34) Try.func65 #[.agg #[.slice A1_0 l1_0.length c1_0], .int .i64 a0_2] ?_; (with_reducible refine (impl_Tree_has.calls _ _ l1_0 a0_2 true _ ?side1 ?side2 A30.out).mono ?_); (case side1 => exact cq (Kd.C_below HR1_0.out HB.out)); (case side2 => exact HC1_0.out); rintro e w35 ⟨rfl, hb⟩; refine ⟨_, rfl, ?_⟩; replace BK217 := am (blk_below (g := gb217) (o := .cells #[.int .i64 a0_0, .int .i64 a0_1, .int .i64 a0_2, .int .i64 a0_3] 50 (0, 0)) (kq BK217.out) hb); replace BK218 := am (blk_below (g := gb218) (o := .cells #[.slice A1_0 l1_0.length c1_0] 33 (0, 0)) (kq BK218.out) hb); replace HB := am (below_step (Y19) hb); (try clear hb); (try clear hb2); (try clear hk); (try clear hi); have hcz36_0 := bc0 BK217.out; have hcz36_1 := bc1 BK217.out; have hcz36_2 := bc2 BK217.out; have hcz36_3 := bc3 BK217.out; have hfz36_0 := blk_frozen BK217.out 0; have hfz36_1 := blk_frozen BK217.out 1; have hfz36_2 := blk_frozen BK217.out 2; have hfz36_3 := blk_frozen BK217.out 3))
       go_ret
       exact ⟨Y1, Y19⟩
      ·replace c31 := Bool.eq_false_iff.mpr c31
       subst c31
       have H1 : (some false) = some r := by rw [if_neg (show ¬ (false = true) by decide)] at H; exact H
       clear H
       have H := H1
       clear H1
       obtain rfl := Option.some.inj H
       have hnb37 := NB218_217.out
       have hnc37 := NB217_218.out
       have hcz38_0 := bc0 BK218.out
       have hfz38_0 := blk_frozen BK218.out 0
       have hcz39_0 := bc0 BK217.out
       have hcz39_1 := bc1 BK217.out
       have hcz39_2 := bc2 BK217.out
       have hcz39_3 := bc3 BK217.out
       have hfz39_0 := blk_frozen BK217.out 0
       have hfz39_1 := blk_frozen BK217.out 1
       have hfz39_2 := blk_frozen BK217.out 2
       have hfz39_3 := blk_frozen BK217.out 3
       go_wp2_with (first | ((with_reducible refine gate_callee (f := 65) rfl ?_); refine gL (some 34) Try.func65 #[.agg #[.slice A1_0 l1_0.length c1_0], .int .i64 a0_2] ?_; (with_reducible refine (impl_Tree_has.calls _ _ l1_0 a0_2 false _ ?side1 ?side2 A30.out).mono ?_); (case side1 => exact cq (Kd.C_below HR1_0.out HB.out)); (case side2 => exact HC1_0.out); rintro e w40 ⟨rfl, hb⟩; refine ⟨_, rfl, ?_⟩; replace BK217 := am (blk_below (g := gb217) (o := .cells #[.int .i64 a0_0, .int .i64 a0_1, .int .i64 a0_2, .int .i64 a0_3] 50 (0, 0)) (kq BK217.out) hb); replace BK218 := am (blk_below (g := gb218) (o := .cells #[.slice A1_0 l1_0.length c1_0] 33 (0, 0)) (kq BK218.out) hb); replace HB := am (below_step (Y19) hb); (try clear hb); (try clear hb2); (try clear hk); (try clear hi)))
       go_ret
       exact ⟨Y1, Y19⟩
     ·rw [if_neg c29] at H
      have c29b0 : (a0_1 == 8) = false := beq_eq_false_iff_ne.mpr c29
      have c29b1 : (a0_1 != 8) = true := bne_iff_ne.mpr c29
      by_cases c41 : a0_1 = 11
      ·rw [if_pos c41] at H
       have c41b0 : (a0_1 == 11) = true := beq_iff_eq.mpr c41
       have c41b1 : (a0_1 != 11) = false := bne_eq_false_iff_eq.mpr c41
       clear c41
       replace H := Option.bind_eq_some_iff.mp H
       obtain ⟨t223, A420, H⟩ := H
       replace H : (if t223 = true then ((impl_within.f a0_3 0 1).bind fun t224 => (some t224)) else (some false)) = some r := H
       have A42 := am A420
       clear A420
       by_cases c43 : t223 = true
       ·subst c43
        have H1 : ((impl_within.f a0_3 0 1).bind fun t224 => (some t224)) = some r := by rw [if_pos rfl] at H; exact H
        clear H
        have H := H1
        clear H1
        replace H := Option.bind_eq_some_iff.mp H
        obtain ⟨t224, A440, H⟩ := H
        replace H : (some t224) = some r := H
        have A44 := am A440
        clear A440
        obtain rfl := Option.some.inj H
        have hnb45 := NB217_218.out
        have hnc45 := NB218_217.out
        have hcz46_0 := bc0 BK217.out
        have hcz46_1 := bc1 BK217.out
        have hcz46_2 := bc2 BK217.out
        have hcz46_3 := bc3 BK217.out
        have hfz46_0 := blk_frozen BK217.out 0
        have hfz46_1 := blk_frozen BK217.out 1
        have hfz46_2 := blk_frozen BK217.out 2
        have hfz46_3 := blk_frozen BK217.out 3
        go_wp2_with (first | ((with_reducible refine gate_callee (f := 50) rfl ?_); refine gL (some 44) Try.func50 #[.int .i64 a0_2, .int .i64 0, .int .i64 9] ?_; (with_reducible refine (impl_within.calls a0_2 0 9 true _ A42.out).mono ?_); rintro e w' ⟨rfl, ⟨nd, rfl⟩⟩; refine ⟨_, rfl, ?_⟩) | (go_at_call 50; (with_reducible refine (impl_within.calls a0_3 0 1 t224 _ A44.out).mono ?_); rintro e w' ⟨rfl, ⟨nd, rfl⟩⟩))
        go_ret
        exact ⟨Y1, Y19⟩
       ·replace c43 := Bool.eq_false_iff.mpr c43
        subst c43
        have H1 : (some false) = some r := by rw [if_neg (show ¬ (false = true) by decide)] at H; exact H
        clear H
        have H := H1
        clear H1
        obtain rfl := Option.some.inj H
        have hnb47 := NB217_218.out
        have hnc47 := NB218_217.out
        have hcz48_0 := bc0 BK217.out
        have hcz48_1 := bc1 BK217.out
        have hcz48_2 := bc2 BK217.out
        have hcz48_3 := bc3 BK217.out
        have hfz48_0 := blk_frozen BK217.out 0
        have hfz48_1 := blk_frozen BK217.out 1
        have hfz48_2 := blk_frozen BK217.out 2
        have hfz48_3 := blk_frozen BK217.out 3
        go_wp2_with (first | ((with_reducible refine gate_callee (f := 50) rfl ?_); refine gL (some 44) Try.func50 #[.int .i64 a0_2, .int .i64 0, .int .i64 9] ?_; (with_reducible refine (impl_within.calls a0_2 0 9 false _ A42.out).mono ?_); rintro e w' ⟨rfl, ⟨nd, rfl⟩⟩; refine ⟨_, rfl, ?_⟩))
        go_ret
        exact ⟨Y1, Y19⟩
      ·rw [if_neg c41] at H
       have c41b0 : (a0_1 == 11) = false := beq_eq_false_iff_ne.mpr c41
       have c41b1 : (a0_1 != 11) = true := bne_iff_ne.mpr c41
       by_cases c49 : a0_1 = 12
       ·rw [if_pos c49] at H
        have c49b0 : (a0_1 == 12) = true := beq_iff_eq.mpr c49
        have c49b1 : (a0_1 != 12) = false := bne_eq_false_iff_eq.mpr c49
        clear c49
        replace H := Option.bind_eq_some_iff.mp H
        obtain ⟨t225, A500, H⟩ := H
        replace H : (if t225 = true then (some (a0_3 == 0)) else (some false)) = some r := H
        have A50 := am A500
        clear A500
        by_cases c51 : t225 = true
        ·subst c51
         have H1 : (some (a0_3 == 0)) = some r := by rw [if_pos rfl] at H; exact H
         clear H
         have H := H1
         clear H1
         obtain rfl := Option.some.inj H
         have hnb52 := NB217_218.out
         have hnc52 := NB218_217.out
         have hcz53_0 := bc0 BK217.out
         have hcz53_1 := bc1 BK217.out
         have hcz53_2 := bc2 BK217.out
         have hcz53_3 := bc3 BK217.out
         have hfz53_0 := blk_frozen BK217.out 0
         have hfz53_1 := blk_frozen BK217.out 1
         have hfz53_2 := blk_frozen BK217.out 2
         have hfz53_3 := blk_frozen BK217.out 3
         go_wp2_with (first | ((with_reducible refine gate_callee (f := 50) rfl ?_); refine gL (some 54) Try.func50 #[.int .i64 a0_2, .int .i64 0, .int .i64 3] ?_; (with_reducible refine (impl_within.calls a0_2 0 3 true _ A50.out).mono ?_); rintro e w' ⟨rfl, ⟨nd, rfl⟩⟩; refine ⟨_, rfl, ?_⟩))
         go_ret
         exact ⟨Y1, Y19⟩
        ·replace c51 := Bool.eq_false_iff.mpr c51
         subst c51
         have H1 : (some false) = some r := by rw [if_neg (show ¬ (false = true) by decide)] at H; exact H
         clear H
         have H := H1
         clear H1
         obtain rfl := Option.some.inj H
         have hnb54 := NB217_218.out
         have hnc54 := NB218_217.out
         have hcz55_0 := bc0 BK217.out
         have hcz55_1 := bc1 BK217.out
         have hcz55_2 := bc2 BK217.out
         have hcz55_3 := bc3 BK217.out
         have hfz55_0 := blk_frozen BK217.out 0
         have hfz55_1 := blk_frozen BK217.out 1
         have hfz55_2 := blk_frozen BK217.out 2
         have hfz55_3 := blk_frozen BK217.out 3
         go_wp2_with (first | ((with_reducible refine gate_callee (f := 50) rfl ?_); refine gL (some 54) Try.func50 #[.int .i64 a0_2, .int .i64 0, .int .i64 3] ?_; (with_reducible refine (impl_within.calls a0_2 0 3 false _ A50.out).mono ?_); rintro e w' ⟨rfl, ⟨nd, rfl⟩⟩; refine ⟨_, rfl, ?_⟩))
         go_ret
         exact ⟨Y1, Y19⟩
       ·rw [if_neg c49] at H
        have c49b0 : (a0_1 == 12) = false := beq_eq_false_iff_ne.mpr c49
        have c49b1 : (a0_1 != 12) = true := bne_iff_ne.mpr c49
        replace H := Option.bind_eq_some_iff.mp H
        obtain ⟨t226, A560, H⟩ := H
        replace H : (if t226 = true then (if a0_2 = 0 then (some (a0_3 == 0)) else (some false)) else (some false)) = some r := H
        have A56 := am A560
        clear A560
        by_cases c57 : t226 = true
        ·subst c57
         have H1 : (if a0_2 = 0 then (some (a0_3 == 0)) else (some false)) = some r := by rw [if_pos rfl] at H; exact H
         clear H
         have H := H1
         clear H1
         by_cases c58 : a0_2 = 0
         ·rw [if_pos c58] at H
          have c58b0 : (a0_2 == 0) = true := beq_iff_eq.mpr c58
          have c58b1 : (a0_2 != 0) = false := bne_eq_false_iff_eq.mpr c58
          clear c58
          obtain rfl := Option.some.inj H
          have hnb59 := NB217_218.out
          have hnc59 := NB218_217.out
          have hcz60_0 := bc0 BK217.out
          have hcz60_1 := bc1 BK217.out
          have hcz60_2 := bc2 BK217.out
          have hcz60_3 := bc3 BK217.out
          have hfz60_0 := blk_frozen BK217.out 0
          have hfz60_1 := blk_frozen BK217.out 1
          have hfz60_2 := blk_frozen BK217.out 2
          have hfz60_3 := blk_frozen BK217.out 3
          go_wp2_with (first | ((with_reducible refine gate_callee (f := 50) rfl ?_); refine gL (some 62) Try.func50 #[.int .i64 a0_1, .int .i64 0, .int .i64 12] ?_; (with_reducible refine (impl_within.calls a0_1 0 12 true _ A56.out).mono ?_); rintro e w' ⟨rfl, ⟨nd, rfl⟩⟩; refine ⟨_, rfl, ?_⟩))
          go_ret
          exact ⟨Y1, Y19⟩
         ·rw [if_neg c58] at H
          have c58b0 : (a0_2 == 0) = false := beq_eq_false_iff_ne.mpr c58
          have c58b1 : (a0_2 != 0) = true := bne_iff_ne.mpr c58
          obtain rfl := Option.some.inj H
          have hnb61 := NB217_218.out
          have hnc61 := NB218_217.out
          have hcz62_0 := bc0 BK217.out
          have hcz62_1 := bc1 BK217.out
          have hcz62_2 := bc2 BK217.out
          have hcz62_3 := bc3 BK217.out
          have hfz62_0 := blk_frozen BK217.out 0
          have hfz62_1 := blk_frozen BK217.out 1
          have hfz62_2 := blk_frozen BK217.out 2
          have hfz62_3 := blk_frozen BK217.out 3
          go_wp2_with (first | ((with_reducible refine gate_callee (f := 50) rfl ?_); refine gL (some 62) Try.func50 #[.int .i64 a0_1, .int .i64 0, .int .i64 12] ?_; (with_reducible refine (impl_within.calls a0_1 0 12 true _ A56.out).mono ?_); rintro e w' ⟨rfl, ⟨nd, rfl⟩⟩; refine ⟨_, rfl, ?_⟩))
          go_ret
          exact ⟨Y1, Y19⟩
        ·replace c57 := Bool.eq_false_iff.mpr c57
         subst c57
         have H1 : (some false) = some r := by rw [if_neg (show ¬ (false = true) by decide)] at H; exact H
         clear H
         have H := H1
         clear H1
         obtain rfl := Option.some.inj H
         have hnb63 := NB217_218.out
         have hnc63 := NB218_217.out
         have hcz64_0 := bc0 BK217.out
         have hcz64_1 := bc1 BK217.out
         have hcz64_2 := bc2 BK217.out
         have hcz64_3 := bc3 BK217.out
         have hfz64_0 := blk_frozen BK217.out 0
         have hfz64_1 := blk_frozen BK217.out 1
         have hfz64_2 := blk_frozen BK217.out 2
         have hfz64_3 := blk_frozen BK217.out 3
         go_wp2_with (first | ((with_reducible refine gate_callee (f := 50) rfl ?_); refine gL (some 62) Try.func50 #[.int .i64 a0_1, .int .i64 0, .int .i64 12] ?_; (with_reducible refine (impl_within.calls a0_1 0 12 false _ A56.out).mono ?_); rintro e w' ⟨rfl, ⟨nd, rfl⟩⟩; refine ⟨_, rfl, ?_⟩))
         go_ret
         exact ⟨Y1, Y19⟩
def impl_Line_opens.f (a0_0 : Int) (a0_1 : Int) (a0_2 : Int) (a0_3 : Int) : Option (Bool) := (impl_within.f a0_1 7 12).bind fun t228 => (some t228)
set_option maxHeartbeats 8000000 in
set_option maxRecDepth 100000 in
theorem impl_Line_opens.calls (a0_0 : Int) (a0_1 : Int) (a0_2 : Int) (a0_3 : Int) (r : Bool) (w : World) (h : impl_Line_opens.f a0_0 a0_1 a0_2 a0_3 = some r) :
  Calls Try.prog 51 #[.agg #[.int .i64 a0_0, .int .i64 a0_1, .int .i64 a0_2, .int .i64 a0_3]] w fun e w' => e = .returned (.bool r) ∧ Below w.heap.size w w' := by
 have hu50 := Try.underlying50
 have HB := am (Below.refl w.heap.size w)
 have H : ((impl_within.f a0_1 7 12).bind fun t228 => (some t228)) = some r := h
 clear h
 replace H := Option.bind_eq_some_iff.mp H
 obtain ⟨t228, A20, H⟩ := H
 replace H : (some t228) = some r := H
 have A2 := am A20
 clear A20
 obtain rfl := Option.some.inj H
 go_enter Try.func51, Try.ntmps51
 go_wp2_with (first | ((with_reducible refine gate_dst (N := 1) rfl ?_); refine bE (N := 1) (cs := #[.int .i64 a0_0, .int .i64 a0_1, .int .i64 a0_2, .int .i64 a0_3]) (t := 50) ?_; intro gb227 hg w3 hbox hb; have BK227 := am (hbox); have GW227 := am ((Y0 : w.heap.size ≤ gb227)); have GE227 := am ((Y0 : w.heap.size ≤ gb227)); replace HB := am (below_step (bq) hb); clear hb hbox hg; have hcz4_0 := bc0 BK227.out; have hcz4_1 := bc1 BK227.out; have hcz4_2 := bc2 BK227.out; have hcz4_3 := bc3 BK227.out; have hfz4_0 := blk_frozen BK227.out 0; have hfz4_1 := blk_frozen BK227.out 1; have hfz4_2 := blk_frozen BK227.out 2; have hfz4_3 := blk_frozen BK227.out 3) | ((with_reducible refine gate_callee (f := 50) rfl ?_); refine gL (some 5) Try.func50 #[.int .i64 a0_1, .int .i64 7, .int .i64 12] ?_; (with_reducible refine (impl_within.calls a0_1 7 12 t228 _ A2.out).mono ?_); rintro e w' ⟨rfl, ⟨nd, rfl⟩⟩; refine ⟨_, rfl, ?_⟩))
 go_ret
 exact ⟨Y1, by repeat (first | (with_reducible first | exact HB.out | apply below_alloc | apply pw_below_drewN | apply below_drew1 | refine below_set ?_ GE227.out) | exact HB.out)⟩
def impl_endOf.l0 : Nat → List (S50) → Int → Int → Option (Int)
 | 0, _, _, _ => none
 | k + 1, x0, x1, x5 => if x5 < (x0.length : Int) then (if 0 ≤ x5 then (if 0 ≤ x1 then (if x1 < (x0.length : Int) then (if ((rd_T50 x0 x5).f0) > ((rd_T50 x0 x1).f0) then (impl_endOf.l0 k x0 x1 (wrap64 (x5 + 1))) else (some x5)) else (none)) else (none)) else (none)) else (some x5)
def impl_endOf.f (k : Nat) (l0 : List (S50)) (a1 : Int) : Option (Int) := impl_endOf.l0 k l0 a1 (wrap64 (a1 + 1))
set_option maxHeartbeats 8000000 in
set_option maxRecDepth 100000 in
theorem impl_endOf.calls (k : Nat) (A0 : Option Addr) (c0 : Nat) (l0 : List (S50)) (a1 : Int) (r : Int) (w : World) (hr0 : Kd.C k50 w A0 l0.length l0) (hc0 : l0.length ≤ c0) (h : impl_endOf.f k l0 a1 = some r) :
  Calls Try.prog 69 #[.slice A0 l0.length c0, .int .i64 a1] w fun e w' => e = .returned (.int .i64 r) ∧ Drawn0 w w' := by
 have HR0 := am hr0
 have HC0 := am hc0
 clear hr0 hc0
 have H : (impl_endOf.l0 k l0 a1 (wrap64 (a1 + 1))) = some r := h
 clear h
 have H' := am H
 clear H
 go_enter Try.func69, Try.ntmps69
 go_wp2
 repeat (go_quiet (fail); try go_wp2)
 go_loopg [5] k (fun kq v5 w' => ∃ (x5_1 : Int), v5 = .int .i64 x5_1 ∧ Aside0 (impl_endOf.l0 kq l0 a1 x5_1 = some r) ∧ Aside0 (kq ≤ k) ∧ Drawn0 w w')
 case atStart => exact ⟨(wrap64 (a1 + 1)), (sq), H', ⟨Nat.le_refl _⟩, Y5⟩
 case round =>
  clear H'
  try clear p2
  obtain ⟨x5_1, rfl, HA, HK1, ⟨m1, rfl⟩⟩ := hrel
  cases gk with
  | zero => exact absurd HA.out (by simp [impl_endOf.l0])
  | succ k1 =>
   have H := HA.out
   clear HA
   simp only [impl_endOf.l0] at H
   by_cases c3 : x5_1 < (l0.length : Int)
   ·rw [if_pos c3] at H
    have c3b0 : decide (x5_1 < (l0.length : Int)) = true := decide_eq_true c3
    clear c3
    by_cases c4 : 0 ≤ x5_1
    ·rw [if_pos c4] at H
     have c4b0 : decide (0 ≤ x5_1) = true := decide_eq_true c4
     clear c4
     by_cases c5 : 0 ≤ a1
     ·rw [if_pos c5] at H
      have c5b0 : decide (0 ≤ a1) = true := decide_eq_true c5
      clear c5
      by_cases c6 : a1 < (l0.length : Int)
      ·rw [if_pos c6] at H
       have c6b0 : decide (a1 < (l0.length : Int)) = true := decide_eq_true c6
       clear c6
       by_cases c7 : ((rd_T50 l0 x5_1).f0) > ((rd_T50 l0 a1).f0)
       ·rw [if_pos c7] at H
        have c7b0 : decide (((rd_T50 l0 a1).f0) < ((rd_T50 l0 x5_1).f0)) = true := decide_eq_true c7
        clear c7
        have H' := am H
        clear H
        have p229 : 0 ≤ (x5_1 : Int) := of_decide_eq_true (uq)
        have q229 : x5_1 < (l0.length : Int) := of_decide_eq_true (uq)
        obtain ⟨ad229, e229, hx229_0, hx229_1, hx229_2, hx229_3⟩ := at_T50 HR0.out x5_1 p229 q229
        cases e229
        replace p229 := eq_true p229
        replace q229 := eq_true q229
        have p230 : 0 ≤ (a1 : Int) := of_decide_eq_true (uq)
        have q230 : a1 < (l0.length : Int) := of_decide_eq_true (uq)
        obtain ⟨ad230, e230, hx230_0, hx230_1, hx230_2, hx230_3⟩ := at_T50 HR0.out a1 p230 q230
        obtain rfl : ad229 = ad230 := (by injection e230)
        replace p230 := eq_true p230
        replace q230 := eq_true q230
        go_wp2
        repeat (go_quiet (fail); try go_wp2)
        go_roundg k1
        case measure => have := HK1.out; omega
        case rel => exact ⟨(wrap64 (x5_1 + 1)), (sq), H', ⟨by have := HK1.out; omega⟩, Y5⟩
       ·rw [if_neg c7] at H
        have c7b0 : decide (((rd_T50 l0 a1).f0) < ((rd_T50 l0 x5_1).f0)) = false := decide_eq_false c7
        clear c7
        obtain rfl := Option.some.inj H
        have p229 : 0 ≤ (x5_1 : Int) := of_decide_eq_true (uq)
        have q229 : x5_1 < (l0.length : Int) := of_decide_eq_true (uq)
        obtain ⟨ad229, e229, hx229_0, hx229_1, hx229_2, hx229_3⟩ := at_T50 HR0.out x5_1 p229 q229
        cases e229
        replace p229 := eq_true p229
        replace q229 := eq_true q229
        have p230 : 0 ≤ (a1 : Int) := of_decide_eq_true (uq)
        have q230 : a1 < (l0.length : Int) := of_decide_eq_true (uq)
        obtain ⟨ad230, e230, hx230_0, hx230_1, hx230_2, hx230_3⟩ := at_T50 HR0.out a1 p230 q230
        obtain rfl : ad229 = ad230 := (by injection e230)
        replace p230 := eq_true p230
        replace q230 := eq_true q230
        go_wp2
        repeat (go_quiet (fail); try go_wp2)
        go_ret
        exact ⟨sq, Y5⟩
      ·rw [if_neg c6] at H
       exact absurd H (by simp)
     ·rw [if_neg c5] at H
      exact absurd H (by simp)
    ·rw [if_neg c4] at H
     exact absurd H (by simp)
   ·rw [if_neg c3] at H
    have c3b0 : decide (x5_1 < (l0.length : Int)) = false := decide_eq_false c3
    clear c3
    obtain rfl := Option.some.inj H
    go_wp2
    repeat (go_quiet (fail); try go_wp2)
    go_ret
    exact ⟨sq, Y5⟩
def impl_siblings.l0 : Nat → List (S50) → Int → List Int → Int → Option (List Int)
 | 0, _, _, _, _ => none
 | k + 1, x0, x2, x7, x8 => if x8 < x2 then (if x7.length < 17592186044416 then ((impl_endOf.f k x0 x8).bind fun t237 => (impl_siblings.l0 k x0 x2 (x7 ++ [x8]) t237)) else (none)) else (some x7)
def impl_siblings.f (k : Nat) (l0 : List (S50)) (a1 : Int) (a2 : Int) : Option (List Int) := impl_siblings.l0 k l0 a2 (([] : List Int)) a1
set_option maxHeartbeats 8000000 in
set_option maxRecDepth 100000 in
theorem impl_siblings.calls (k : Nat) (A0 : Option Addr) (c0 : Nat) (l0 : List (S50)) (a1 : Int) (a2 : Int) (r : List Int) (w : World) (hr0 : Kd.C k50 w A0 l0.length l0) (hc0 : l0.length ≤ c0) (h : impl_siblings.f k l0 a1 a2 = some r) :
  Calls Try.prog 66 #[.slice A0 l0.length c0, .int .i64 a1, .int .i64 a2] w fun e w' => ∃ v0_ : Value, e = .returned (v0_) ∧ Kd.R (Kd.int .i64) 3 w' w.heap.size (fun _ => True) v0_ r ∧ Below w.heap.size w w' := by
 have HR0 := am hr0
 have HC0 := am hc0
 clear hr0 hc0
 have HB := am (Below.refl w.heap.size w)
 have H : (impl_siblings.l0 k l0 a2 (([] : List Int)) a1) = some r := h
 clear h
 obtain ⟨y231, hy231⟩ : ∃ y_ : List Int, y_ = (([] : List Int)) := ⟨_, rfl⟩
 replace H : (impl_siblings.l0 k l0 a2 y231 a1) = some r := by first | (rw [hy231]; with_reducible exact H) | (have H2_ := (Option.bind_some _ _).symm.trans H; rw [hy231]; with_reducible exact H2_) | (have H2_ := (Option.bind_some _ _).symm.trans H; with_reducible exact H2_) | with_reducible exact H | (rw [hy231]; exact H) | exact H
 have Ny231 := am hy231
 clear hy231
 have H' := am H
 clear H
 go_enter Try.func66, Try.ntmps66
 go_wp2_with (first | ((with_reducible refine gate_dst (N := 9) rfl ?_); refine Kd.R_lit (Kd.int .i64) _ 3 ?hg (N := 9) ?hd (xs := ([] : List Int)) (inner := []) (ok := fun _ => True) (okp := fun _ => True) ?hr ?hp (fun _ hk => hk) trivial (Below.refl _ _) (Nat.le_refl _) (by simp) ?_; (case hd => rfl); (case hg => rfl); (case hr => exact Y4); (case hp => exact (Reps.none _ _)); intro v232 w4 ho5 hb hg_ hnew_; clear hg_ hnew_; (first | rw [← Ny231.out] at ho5 | (simp only [Int.reduceToNat] at ho5; rw [← Ny231.out] at ho5)); have HO233 := am (Kd.R_lower ho5 (below_size (bq))); replace HB := am (below_step (bq) hb); clear hb ho5))
 go_loopg [7, 8] k (fun kq v7 v8 w' => ∃ (x7_1 : List Int) (x8_1 : Int), v8 = .int .i64 x8_1 ∧ Aside0 (impl_siblings.l0 kq l0 a2 x7_1 x8_1 = some r) ∧ Aside0 (kq ≤ k) ∧ Aside0 (Kd.R (Kd.int .i64) 3 w' w.heap.size (fun _ => True) v7 x7_1) ∧ Aside0 (Below w.heap.size w w'))
 case atStart => exact ⟨(y231), (a1), (sq), H', ⟨Nat.le_refl _⟩, ⟨rq HO233.out⟩, ⟨bq⟩⟩
 case round =>
  clear H'
  try clear p2
  obtain ⟨x7_1, x8_1, rfl, HA, HK1, HO_7, HB⟩ := hrel
  cases gk with
  | zero => exact absurd HA.out (by simp [impl_siblings.l0])
  | succ k1 =>
   have H := HA.out
   clear HA
   simp only [impl_siblings.l0] at H
   by_cases c6 : x8_1 < a2
   ·rw [if_pos c6] at H
    have c6b0 : decide (x8_1 < a2) = true := decide_eq_true c6
    clear c6
    by_cases c7 : x7_1.length < 17592186044416
    ·rw [if_pos c7] at H
     have LMc7 := am c7
     clear c7
     obtain ⟨y234, hy234⟩ : ∃ y_ : List Int, y_ = (x7_1 ++ [x8_1]) := ⟨_, rfl⟩
     replace H : ((impl_endOf.f k1 l0 x8_1).bind fun t237 => (impl_siblings.l0 k1 l0 a2 y234 t237)) = some r := by first | (rw [hy234]; with_reducible exact H) | (have H2_ := (Option.bind_some _ _).symm.trans H; rw [hy234]; with_reducible exact H2_) | (have H2_ := (Option.bind_some _ _).symm.trans H; with_reducible exact H2_) | with_reducible exact H | (rw [hy234]; exact H) | exact H
     have Ny234 := am hy234
     clear hy234
     replace H := Option.bind_eq_some_iff.mp H
     obtain ⟨t237, A80, H⟩ := H
     replace H : (impl_siblings.l0 k1 l0 a2 y234 t237) = some r := H
     have A8 := am A80
     clear A80
     have H' := am H
     clear H
     go_wp2_with (first | ((with_reducible refine gate_builtin (b := .append) (xs := #[.tmp 17, .tmp 19]) rfl ?_); at_builtin; refine Kd.R_append (Kd.int .i64) (w0 := w) w.heap.size rfl (.tmp 17) (.tmp 19) 81 3 (.int .i64 0) 8 rfl Try.underlying81 info3 rfl (by decide) (by omega) u7 x7_1 x8_1 [.int .i64 x8_1] (fun _ => True) (fun _ => False) rfl rfl ?aP (fun _ hk => hk.elim) ?aF ?aO ?aB ?aS ?aL ?_; (case aP => exact rfl); (case aB => exact (bq)); (case aF => exact (fun _ _ => trivial)); (case aO => exact (rq HO_7.out)); (case aS => exact (below_size (bq))); (case aL => have := LMc7.out; omega); intro v235 w9 ho hb hg hat; rw [← Ny234.out] at ho; have n0_ := am (hb); have n1_ := am (ho); clear HB HO_7; have HB := n0_; have HO236 := n1_; clear n0_ n1_ ho hb hg hat) | ((with_reducible refine gate_callee (f := 69) rfl ?_); refine gL (some 16) Try.func69 #[.slice A0 l0.length c0, .int .i64 x8_1] ?_; (with_reducible refine (impl_endOf.calls k1 _ _ l0 x8_1 t237 _ ?side1 ?side2 A8.out).mono ?_); (case side1 => exact cq (Kd.C_below HR0.out HB.out)); (case side2 => exact HC0.out); rintro e w' ⟨rfl, ⟨nd, rfl⟩⟩; refine ⟨_, rfl, ?_⟩))
     go_roundg k1
     case measure => have := HK1.out; omega
     case rel => exact ⟨(y234), (t237), (sq), H', ⟨by have := HK1.out; omega⟩, ⟨rq HO236.out⟩, ⟨bq⟩⟩
    ·rw [if_neg c7] at H
     exact absurd H (by simp)
   ·rw [if_neg c6] at H
    have c6b0 : decide (x8_1 < a2) = false := decide_eq_false c6
    clear c6
    obtain rfl := Option.some.inj H
    go_wp2
    go_ret
    exact ⟨_, Y1, rq HO_7.out, bq⟩
mutual
def impl_tryFrom.l0 : Nat → List (S50) → Int → List Int → Int → Option (List Int)
 | 0, _, _, _, _ => none
 | k + 1, x0, x1, x5, x6 => if x6 < (x0.length : Int) then (if 0 ≤ x6 then (if 0 ≤ x1 then (if x1 < (x0.length : Int) then (if ((rd_T50 x0 x6).f0) = ((rd_T50 x0 x1).f0) then ((impl_within.f ((rd_T50 x0 x6).f1) 8 10).bind fun t245 => (impl_tryFrom.j1 k x0 x1 x5 x6 t245)) else (impl_tryFrom.j1 k x0 x1 x5 x6 false)) else (none)) else (none)) else (none)) else (impl_tryFrom.j1 k x0 x1 x5 x6 false)
def impl_tryFrom.j1 : Nat → List (S50) → Int → List Int → Int → Bool → Option (List Int)
 | 0, _, _, _, _, _ => none
 | k + 1, x0, x1, x5, x6, x36 => if x36 = true then (if x5.length < 17592186044416 then ((impl_endOf.f k x0 x6).bind fun t249 => (impl_tryFrom.l0 k x0 x1 (x5 ++ [x6]) t249)) else (none)) else (some x5)
end
def impl_tryFrom.f (k : Nat) (l0 : List (S50)) (a1 : Int) : Option (List Int) := (impl_endOf.f k l0 a1).bind fun t241 => (impl_tryFrom.l0 k l0 a1 (([a1] : List Int)) t241)
set_option maxHeartbeats 8000000 in
set_option maxRecDepth 100000 in
theorem impl_tryFrom.calls (k : Nat) (A0 : Option Addr) (c0 : Nat) (l0 : List (S50)) (a1 : Int) (r : List Int) (w : World) (hr0 : Kd.C k50 w A0 l0.length l0) (hc0 : l0.length ≤ c0) (h : impl_tryFrom.f k l0 a1 = some r) :
  Calls Try.prog 67 #[.slice A0 l0.length c0, .int .i64 a1] w fun e w' => ∃ v0_ : Value, e = .returned (v0_) ∧ Kd.R (Kd.int .i64) 3 w' w.heap.size (fun _ => True) v0_ r ∧ Below w.heap.size w w' := by
 have HR0 := am hr0
 have HC0 := am hc0
 clear hr0 hc0
 have HB := am (Below.refl w.heap.size w)
 have H : ((impl_endOf.f k l0 a1).bind fun t241 => (impl_tryFrom.l0 k l0 a1 (([a1] : List Int)) t241)) = some r := h
 clear h
 obtain ⟨y238, hy238⟩ : ∃ y_ : List Int, y_ = (([a1] : List Int)) := ⟨_, rfl⟩
 replace H : ((impl_endOf.f k l0 a1).bind fun t241 => (impl_tryFrom.l0 k l0 a1 y238 t241)) = some r := by first | (rw [hy238]; with_reducible exact H) | (have H2_ := (Option.bind_some _ _).symm.trans H; rw [hy238]; with_reducible exact H2_) | (have H2_ := (Option.bind_some _ _).symm.trans H; with_reducible exact H2_) | with_reducible exact H | (rw [hy238]; exact H) | exact H
 have Ny238 := am hy238
 clear hy238
 replace H := Option.bind_eq_some_iff.mp H
 obtain ⟨t241, A30, H⟩ := H
 replace H : (impl_tryFrom.l0 k l0 a1 y238 t241) = some r := H
 have A3 := am A30
 clear A30
 have H' := am H
 clear H
 go_enter Try.func67, Try.ntmps67
 go_wp2_with (first | ((with_reducible refine gate_dst (N := 8) rfl ?_); refine Kd.R_lit (Kd.int .i64) _ 3 ?hg (N := 8) ?hd (xs := ([a1] : List Int)) (inner := [.int .i64 a1]) (ok := fun _ => True) (okp := fun _ => True) ?hr ?hp (fun _ hk => hk) trivial (Below.refl _ _) (Nat.le_refl _) (by simp) ?_; (case hd => rfl); (case hg => rfl); (case hr => exact Y4); (case hp => exact (Reps.one (show Kd.M (Kd.int .i64) _ _ _ a1 [.int .i64 a1] from rfl) (Reps.none _ _))); intro v239 w4 ho5 hb hg_ hnew_; clear hg_ hnew_; (first | rw [← Ny238.out] at ho5 | (simp only [Int.reduceToNat] at ho5; rw [← Ny238.out] at ho5)); have HO240 := am (Kd.R_lower ho5 (below_size (bq))); replace HB := am (below_step (bq) hb); clear hb ho5) | (go_at_call 69; (with_reducible refine (impl_endOf.calls k _ _ l0 a1 t241 _ ?side1 ?side2 A3.out).mono ?_); (case side1 => exact cq (Kd.C_below HR0.out HB.out)); (case side2 => exact HC0.out); rintro e w' ⟨rfl, ⟨nd, rfl⟩⟩; (try first | exact ⟨rfl, _, World.drewN_drewN _ _ _⟩ | exact ⟨rfl, _, Eq.trans (World.drewN_drewN _ _ _) (congrArg (World.drewN _) (Nat.add_assoc _ _ _))⟩)))
 repeat (go_quiet (first | ((with_reducible refine gate_dst (N := 8) rfl ?_); refine Kd.R_lit (Kd.int .i64) _ 3 ?hg (N := 8) ?hd (xs := ([a1] : List Int)) (inner := [.int .i64 a1]) (ok := fun _ => True) (okp := fun _ => True) ?hr ?hp (fun _ hk => hk) trivial (Below.refl _ _) (Nat.le_refl _) (by simp) ?_; (case hd => rfl); (case hg => rfl); (case hr => exact Y4); (case hp => exact (Reps.one (show Kd.M (Kd.int .i64) _ _ _ a1 [.int .i64 a1] from rfl) (Reps.none _ _))); intro v239 w4 ho5 hb hg_ hnew_; clear hg_ hnew_; (first | rw [← Ny238.out] at ho5 | (simp only [Int.reduceToNat] at ho5; rw [← Ny238.out] at ho5)); have HO240 := am (Kd.R_lower ho5 (below_size (bq))); replace HB := am (below_step (bq) hb); clear hb ho5) | (go_at_call 69; (with_reducible refine (impl_endOf.calls k _ _ l0 a1 t241 _ ?side1 ?side2 A3.out).mono ?_); (case side1 => exact cq (Kd.C_below HR0.out HB.out)); (case side2 => exact HC0.out); rintro e w' ⟨rfl, ⟨nd, rfl⟩⟩; (try first | exact ⟨rfl, _, World.drewN_drewN _ _ _⟩ | exact ⟨rfl, _, Eq.trans (World.drewN_drewN _ _ _) (congrArg (World.drewN _) (Nat.add_assoc _ _ _))⟩))); try go_wp2_with (first | ((with_reducible refine gate_dst (N := 8) rfl ?_); refine Kd.R_lit (Kd.int .i64) _ 3 ?hg (N := 8) ?hd (xs := ([a1] : List Int)) (inner := [.int .i64 a1]) (ok := fun _ => True) (okp := fun _ => True) ?hr ?hp (fun _ hk => hk) trivial (Below.refl _ _) (Nat.le_refl _) (by simp) ?_; (case hd => rfl); (case hg => rfl); (case hr => exact Y4); (case hp => exact (Reps.one (show Kd.M (Kd.int .i64) _ _ _ a1 [.int .i64 a1] from rfl) (Reps.none _ _))); intro v239 w4 ho5 hb hg_ hnew_; clear hg_ hnew_; (first | rw [← Ny238.out] at ho5 | (simp only [Int.reduceToNat] at ho5; rw [← Ny238.out] at ho5)); have HO240 := am (Kd.R_lower ho5 (below_size (bq))); replace HB := am (below_step (bq) hb); clear hb ho5) | (go_at_call 69; (with_reducible refine (impl_endOf.calls k _ _ l0 a1 t241 _ ?side1 ?side2 A3.out).mono ?_); (case side1 => exact cq (Kd.C_below HR0.out HB.out)); (case side2 => exact HC0.out); rintro e w' ⟨rfl, ⟨nd, rfl⟩⟩; (try first | exact ⟨rfl, _, World.drewN_drewN _ _ _⟩ | exact ⟨rfl, _, Eq.trans (World.drewN_drewN _ _ _) (congrArg (World.drewN _) (Nat.add_assoc _ _ _))⟩))))
 go_loopg [5, 6] k (fun kq v5 v6 w' => ∃ (x5_1 : List Int) (x6_1 : Int), v6 = .int .i64 x6_1 ∧ Aside0 (impl_tryFrom.l0 kq l0 a1 x5_1 x6_1 = some r) ∧ Aside0 (kq ≤ k) ∧ Aside0 (Kd.R (Kd.int .i64) 3 w' w.heap.size (fun _ => True) v5 x5_1) ∧ Aside0 (Below w.heap.size w w'))
 case atStart => exact ⟨(y238), (t241), (sq), H', ⟨Nat.le_refl _⟩, ⟨rq HO240.out⟩, ⟨bq⟩⟩
 case round =>
  clear H'
  try clear p2
  obtain ⟨x5_1, x6_1, rfl, HA, HK1, HO_5, HB⟩ := hrel
  cases gk with
  | zero => exact absurd HA.out (by simp [impl_tryFrom.l0])
  | succ k1 =>
   have H := HA.out
   clear HA
   simp only [impl_tryFrom.l0] at H
   have HC6 := am H
   clear H
   go_upto_region 3 with (fail)
   repeat (go_quiet (fail); go_upto_region 3 with (fail))
   go_cut [36] (fun v36 wc => ∃ (kq : Nat) (x36_5 : Bool), v36 = .bool x36_5 ∧ Aside0 (impl_tryFrom.j1 kq l0 a1 x5_1 x6_1 x36_5 = some r) ∧ Aside0 (kq ≤ k1) ∧ Aside0 (Kd.R (Kd.int .i64) 3 wc w.heap.size (fun _ => True) u5 x5_1) ∧ Aside0 (Below w.heap.size w wc))
   case first =>
    have H := HC6.out
    clear HC6
    by_cases c7 : x6_1 < (l0.length : Int)
    ·rw [if_pos c7] at H
     have c7b0 : decide (x6_1 < (l0.length : Int)) = true := decide_eq_true c7
     clear c7
     (first | rw [c7b0] | (simp only [i64_w, i32_w]; rw [c7b0]) | skip)
     by_cases c8 : 0 ≤ x6_1
     ·rw [if_pos c8] at H
      have c8b0 : decide (0 ≤ x6_1) = true := decide_eq_true c8
      clear c8
      by_cases c9 : 0 ≤ a1
      ·rw [if_pos c9] at H
       have c9b0 : decide (0 ≤ a1) = true := decide_eq_true c9
       clear c9
       by_cases c10 : a1 < (l0.length : Int)
       ·rw [if_pos c10] at H
        have c10b0 : decide (a1 < (l0.length : Int)) = true := decide_eq_true c10
        clear c10
        by_cases c11 : ((rd_T50 l0 x6_1).f0) = ((rd_T50 l0 a1).f0)
        ·rw [if_pos c11] at H
         have c11b0 : (((rd_T50 l0 x6_1).f0) == ((rd_T50 l0 a1).f0)) = true := beq_iff_eq.mpr c11
         have c11b1 : (((rd_T50 l0 x6_1).f0) != ((rd_T50 l0 a1).f0)) = false := bne_eq_false_iff_eq.mpr c11
         clear c11
         replace H := Option.bind_eq_some_iff.mp H
         obtain ⟨t245, A120, H⟩ := H
         replace H : (impl_tryFrom.j1 k1 l0 a1 x5_1 x6_1 t245) = some r := H
         have A12 := am A120
         clear A120
         have H' := am H
         clear H
         have p242 : 0 ≤ (x6_1 : Int) := of_decide_eq_true (uq)
         have q242 : x6_1 < (l0.length : Int) := of_decide_eq_true (uq)
         obtain ⟨ad242, e242, hx242_0, hx242_1, hx242_2, hx242_3⟩ := at_T50 HR0.out x6_1 p242 q242
         cases e242
         replace hx242_0 := cb HB.out hx242_0
         replace hx242_1 := cb HB.out hx242_1
         replace hx242_2 := cb HB.out hx242_2
         replace hx242_3 := cb HB.out hx242_3
         replace p242 := eq_true p242
         replace q242 := eq_true q242
         have p243 : 0 ≤ (a1 : Int) := of_decide_eq_true (uq)
         have q243 : a1 < (l0.length : Int) := of_decide_eq_true (uq)
         obtain ⟨ad243, e243, hx243_0, hx243_1, hx243_2, hx243_3⟩ := at_T50 HR0.out a1 p243 q243
         obtain rfl : ad242 = ad243 := (by injection e243)
         replace hx243_0 := cb HB.out hx243_0
         replace hx243_1 := cb HB.out hx243_1
         replace hx243_2 := cb HB.out hx243_2
         replace hx243_3 := cb HB.out hx243_3
         replace p243 := eq_true p243
         replace q243 := eq_true q243
         have p244 : 0 ≤ (x6_1 : Int) := of_decide_eq_true (uq)
         have q244 : x6_1 < (l0.length : Int) := of_decide_eq_true (uq)
         obtain ⟨ad244, e244, hx244_0, hx244_1, hx244_2, hx244_3⟩ := at_T50 HR0.out x6_1 p244 q244
         obtain rfl : ad242 = ad244 := (by injection e244)
         replace hx244_0 := cb HB.out hx244_0
         replace hx244_1 := cb HB.out hx244_1
         replace hx244_2 := cb HB.out hx244_2
         replace hx244_3 := cb HB.out hx244_3
         replace p244 := eq_true p244
         replace q244 := eq_true q244
         go_wp2_with (first | (go_at_call 50; (with_reducible refine (impl_within.calls ((rd_T50 l0 x6_1).f1) 8 10 t245 _ A12.out).mono ?_); rintro e w' ⟨rfl, ⟨nd, rfl⟩⟩; (try first | exact ⟨rfl, _, World.drewN_drewN _ _ _⟩ | exact ⟨rfl, _, Eq.trans (World.drewN_drewN _ _ _) (congrArg (World.drewN _) (Nat.add_assoc _ _ _))⟩)))
         repeat (go_quiet (first | (go_at_call 50; (with_reducible refine (impl_within.calls ((rd_T50 l0 x6_1).f1) 8 10 t245 _ A12.out).mono ?_); rintro e w' ⟨rfl, ⟨nd, rfl⟩⟩; (try first | exact ⟨rfl, _, World.drewN_drewN _ _ _⟩ | exact ⟨rfl, _, Eq.trans (World.drewN_drewN _ _ _) (congrArg (World.drewN _) (Nat.add_assoc _ _ _))⟩))); try go_wp2_with (first | (go_at_call 50; (with_reducible refine (impl_within.calls ((rd_T50 l0 x6_1).f1) 8 10 t245 _ A12.out).mono ?_); rintro e w' ⟨rfl, ⟨nd, rfl⟩⟩; (try first | exact ⟨rfl, _, World.drewN_drewN _ _ _⟩ | exact ⟨rfl, _, Eq.trans (World.drewN_drewN _ _ _) (congrArg (World.drewN _) (Nat.add_assoc _ _ _))⟩))))
         go_meet
         case rel => exact ⟨_, (t245), (sq), H', ⟨by have := HK1.out; first | omega | exact Nat.le_refl _⟩, ⟨rq HO_5.out⟩, ⟨bq⟩⟩
        ·rw [if_neg c11] at H
         have c11b0 : (((rd_T50 l0 x6_1).f0) == ((rd_T50 l0 a1).f0)) = false := beq_eq_false_iff_ne.mpr c11
         have c11b1 : (((rd_T50 l0 x6_1).f0) != ((rd_T50 l0 a1).f0)) = true := bne_iff_ne.mpr c11
         have H' := am H
         clear H
         have p242 : 0 ≤ (x6_1 : Int) := of_decide_eq_true (uq)
         have q242 : x6_1 < (l0.length : Int) := of_decide_eq_true (uq)
         obtain ⟨ad242, e242, hx242_0, hx242_1, hx242_2, hx242_3⟩ := at_T50 HR0.out x6_1 p242 q242
         cases e242
         replace hx242_0 := cb HB.out hx242_0
         replace hx242_1 := cb HB.out hx242_1
         replace hx242_2 := cb HB.out hx242_2
         replace hx242_3 := cb HB.out hx242_3
         replace p242 := eq_true p242
         replace q242 := eq_true q242
         have p243 : 0 ≤ (a1 : Int) := of_decide_eq_true (uq)
         have q243 : a1 < (l0.length : Int) := of_decide_eq_true (uq)
         obtain ⟨ad243, e243, hx243_0, hx243_1, hx243_2, hx243_3⟩ := at_T50 HR0.out a1 p243 q243
         obtain rfl : ad242 = ad243 := (by injection e243)
         replace hx243_0 := cb HB.out hx243_0
         replace hx243_1 := cb HB.out hx243_1
         replace hx243_2 := cb HB.out hx243_2
         replace hx243_3 := cb HB.out hx243_3
         replace p243 := eq_true p243
         replace q243 := eq_true q243
         go_wp2
         repeat (go_quiet (fail); try go_wp2)
         go_meet
         case rel => exact ⟨_, (false), (sq), H', ⟨by have := HK1.out; first | omega | exact Nat.le_refl _⟩, ⟨rq HO_5.out⟩, ⟨bq⟩⟩
       ·rw [if_neg c10] at H
        exact absurd H (by simp)
      ·rw [if_neg c9] at H
       exact absurd H (by simp)
     ·rw [if_neg c8] at H
      exact absurd H (by simp)
    ·rw [if_neg c7] at H
     have c7b0 : decide (x6_1 < (l0.length : Int)) = false := decide_eq_false c7
     clear c7
     (first | rw [c7b0] | (simp only [i64_w, i32_w]; rw [c7b0]) | skip)
     have H' := am H
     clear H
     go_wp2
     repeat (go_quiet (fail); try go_wp2)
     go_meet
     case rel => exact ⟨_, (false), (sq), H', ⟨by have := HK1.out; first | omega | exact Nat.le_refl _⟩, ⟨rq HO_5.out⟩, ⟨bq⟩⟩
   case rest =>
    clear HC6
    try clear c1
    try clear p2
    try clear q2
    try clear hx2
    try clear c6
    try clear c7
    try clear c7b0
    try clear c8
    try clear c8b0
    try clear c9
    try clear c9b0
    try clear c10
    try clear c10b0
    try clear c11
    try clear c11b0
    try clear c11b1
    try clear hx242_0
    try clear hx242_1
    try clear hx242_2
    try clear hx242_3
    try clear hx243_0
    try clear hx243_1
    try clear hx243_2
    try clear hx243_3
    try clear hx244_0
    try clear hx244_1
    try clear hx244_2
    try clear hx244_3
    try clear p2
    try clear p242
    try clear p243
    try clear p244
    try clear q242
    try clear q243
    try clear q244
    obtain ⟨kq, x36_5, rfl, HA, HJ5, HO_5, HB⟩ := hcut
    cases kq with
    | zero => exact absurd HA.out (by simp [impl_tryFrom.j1])
    | succ kj5 =>
     have H := HA.out
     clear HA
     simp only [impl_tryFrom.j1] at H
     by_cases c13 : x36_5 = true
     ·subst c13
      have H1 : (if x5_1.length < 17592186044416 then ((impl_endOf.f kj5 l0 x6_1).bind fun t249 => (impl_tryFrom.l0 kj5 l0 a1 (x5_1 ++ [x6_1]) t249)) else (none)) = some r := by rw [if_pos rfl] at H; exact H
      clear H
      have H := H1
      clear H1
      by_cases c14 : x5_1.length < 17592186044416
      ·rw [if_pos c14] at H
       have LMc14 := am c14
       clear c14
       obtain ⟨y246, hy246⟩ : ∃ y_ : List Int, y_ = (x5_1 ++ [x6_1]) := ⟨_, rfl⟩
       replace H : ((impl_endOf.f kj5 l0 x6_1).bind fun t249 => (impl_tryFrom.l0 kj5 l0 a1 y246 t249)) = some r := by first | (rw [hy246]; with_reducible exact H) | (have H2_ := (Option.bind_some _ _).symm.trans H; rw [hy246]; with_reducible exact H2_) | (have H2_ := (Option.bind_some _ _).symm.trans H; with_reducible exact H2_) | with_reducible exact H | (rw [hy246]; exact H) | exact H
       have Ny246 := am hy246
       clear hy246
       replace H := Option.bind_eq_some_iff.mp H
       obtain ⟨t249, A150, H⟩ := H
       replace H : (impl_tryFrom.l0 kj5 l0 a1 y246 t249) = some r := H
       have A15 := am A150
       clear A150
       have H' := am H
       clear H
       go_wp2_with (first | ((with_reducible refine gate_builtin (b := .append) (xs := #[.tmp 40, .tmp 42]) rfl ?_); at_builtin; refine Kd.R_append (Kd.int .i64) (w0 := w) w.heap.size rfl (.tmp 40) (.tmp 42) 81 3 (.int .i64 0) 8 rfl Try.underlying81 info3 rfl (by decide) (by omega) u5 x5_1 x6_1 [.int .i64 x6_1] (fun _ => True) (fun _ => False) rfl rfl ?aP (fun _ hk => hk.elim) ?aF ?aO ?aB ?aS ?aL ?_; (case aP => exact rfl); (case aB => exact (bq)); (case aF => exact (fun _ _ => trivial)); (case aO => exact (rq HO_5.out)); (case aS => exact (below_size (bq))); (case aL => have := LMc14.out; omega); intro v247 w16 ho hb hg hat; rw [← Ny246.out] at ho; have n0_ := am (hb); have n1_ := am (ho); clear HB HO_5; have HB := n0_; have HO248 := n1_; clear n0_ n1_ ho hb hg hat) | (go_at_call 69; (with_reducible refine (impl_endOf.calls kj5 _ _ l0 x6_1 t249 _ ?side1 ?side2 A15.out).mono ?_); (case side1 => exact cq (Kd.C_below HR0.out HB.out)); (case side2 => exact HC0.out); rintro e w' ⟨rfl, ⟨nd, rfl⟩⟩; (try first | exact ⟨rfl, _, World.drewN_drewN _ _ _⟩ | exact ⟨rfl, _, Eq.trans (World.drewN_drewN _ _ _) (congrArg (World.drewN _) (Nat.add_assoc _ _ _))⟩)))
       repeat (go_quiet (first | ((with_reducible refine gate_builtin (b := .append) (xs := #[.tmp 40, .tmp 42]) rfl ?_); at_builtin; refine Kd.R_append (Kd.int .i64) (w0 := w) w.heap.size rfl (.tmp 40) (.tmp 42) 81 3 (.int .i64 0) 8 rfl Try.underlying81 info3 rfl (by decide) (by omega) u5 x5_1 x6_1 [.int .i64 x6_1] (fun _ => True) (fun _ => False) rfl rfl ?aP (fun _ hk => hk.elim) ?aF ?aO ?aB ?aS ?aL ?_; (case aP => exact rfl); (case aB => exact (bq)); (case aF => exact (fun _ _ => trivial)); (case aO => exact (rq HO_5.out)); (case aS => exact (below_size (bq))); (case aL => have := LMc14.out; omega); intro v247 w16 ho hb hg hat; rw [← Ny246.out] at ho; have n0_ := am (hb); have n1_ := am (ho); clear HB HO_5; have HB := n0_; have HO248 := n1_; clear n0_ n1_ ho hb hg hat) | (go_at_call 69; (with_reducible refine (impl_endOf.calls kj5 _ _ l0 x6_1 t249 _ ?side1 ?side2 A15.out).mono ?_); (case side1 => exact cq (Kd.C_below HR0.out HB.out)); (case side2 => exact HC0.out); rintro e w' ⟨rfl, ⟨nd, rfl⟩⟩; (try first | exact ⟨rfl, _, World.drewN_drewN _ _ _⟩ | exact ⟨rfl, _, Eq.trans (World.drewN_drewN _ _ _) (congrArg (World.drewN _) (Nat.add_assoc _ _ _))⟩))); try go_wp2_with (first | ((with_reducible refine gate_builtin (b := .append) (xs := #[.tmp 40, .tmp 42]) rfl ?_); at_builtin; refine Kd.R_append (Kd.int .i64) (w0 := w) w.heap.size rfl (.tmp 40) (.tmp 42) 81 3 (.int .i64 0) 8 rfl Try.underlying81 info3 rfl (by decide) (by omega) u5 x5_1 x6_1 [.int .i64 x6_1] (fun _ => True) (fun _ => False) rfl rfl ?aP (fun _ hk => hk.elim) ?aF ?aO ?aB ?aS ?aL ?_; (case aP => exact rfl); (case aB => exact (bq)); (case aF => exact (fun _ _ => trivial)); (case aO => exact (rq HO_5.out)); (case aS => exact (below_size (bq))); (case aL => have := LMc14.out; omega); intro v247 w16 ho hb hg hat; rw [← Ny246.out] at ho; have n0_ := am (hb); have n1_ := am (ho); clear HB HO_5; have HB := n0_; have HO248 := n1_; clear n0_ n1_ ho hb hg hat) | (go_at_call 69; (with_reducible refine (impl_endOf.calls kj5 _ _ l0 x6_1 t249 _ ?side1 ?side2 A15.out).mono ?_); (case side1 => exact cq (Kd.C_below HR0.out HB.out)); (case side2 => exact HC0.out); rintro e w' ⟨rfl, ⟨nd, rfl⟩⟩; (try first | exact ⟨rfl, _, World.drewN_drewN _ _ _⟩ | exact ⟨rfl, _, Eq.trans (World.drewN_drewN _ _ _) (congrArg (World.drewN _) (Nat.add_assoc _ _ _))⟩))))
       go_roundg kj5
       case measure => have := HK1.out; have := HJ5.out; omega
       case rel => exact ⟨(y246), (t249), (sq), H', ⟨by have := HK1.out; have := HJ5.out; omega⟩, ⟨rq HO248.out⟩, ⟨bq⟩⟩
      ·rw [if_neg c14] at H
       exact absurd H (by simp)
     ·replace c13 := Bool.eq_false_iff.mpr c13
      subst c13
      have H1 : (some x5_1) = some r := by rw [if_neg (show ¬ (false = true) by decide)] at H; exact H
      clear H
      have H := H1
      clear H1
      obtain rfl := Option.some.inj H
      go_wp2
      repeat (go_quiet (fail); try go_wp2)
      go_ret
      exact ⟨_, Y1, rq HO_5.out, bq⟩
def impl_tryOk.go (p : List S50) : List Int → Int → Int → Option (Option Int)
 | [], ex, _ => some (some ex)
 | k :: ks, ex, last => if 0 ≤ k then if k < (p.length : Int) then
   if (rd_T50 p k).f1 = 8 then if last ≤ 8 then impl_tryOk.go p ks (ex + 1) (rd_T50 p k).f1 else some none
   else if (rd_T50 p k).f1 = 9 then if last = 8 then impl_tryOk.go p ks ex (rd_T50 p k).f1 else some none
   else if (rd_T50 p k).f1 = 10 then if last < 10 then impl_tryOk.go p ks ex (rd_T50 p k).f1 else some none
   else some none
  else none else none
def impl_tryOk.f (l0 : List S50) (l1 : List Int) : Option Bool := if 1 ≤ l1.length then (impl_tryOk.go l0 (l1.drop 1) 0 7).bind fun r => match r with | none => some false | some ex => some (decide (1 < l1.length) && decide (ex ≤ 6)) else none
theorem impl_tryOk.step {p : List S50} {l : List Int} {k : Nat} {ex last : Int} {r : Option Int} (hk : k < l.length) (h : impl_tryOk.go p (l.drop k) ex last = some r) : impl_tryOk.go p (l[k] :: l.drop (k + 1)) ex last = some r := by
 rw [← List.drop_eq_getElem_cons hk]; exact h
set_option maxHeartbeats 8000000 in
set_option maxRecDepth 100000 in
theorem impl_tryOk.calls (A0 : Option Addr) (c0 : Nat) (l0 : List S50) (A1 : Option Addr) (c1 : Nat) (l1 : List Int) (r : Bool) (w : World) (hr0 : Kd.C k50 w A0 l0.length l0) (hc0 : l0.length ≤ c0) (hr1 : Kd.C (Kd.int .i64) w A1 l1.length l1) (hc1 : l1.length ≤ c1) (h : impl_tryOk.f l0 l1 = some r) :
  Calls Try.prog 68 #[.slice A0 l0.length c0, .slice A1 l1.length c1] w fun e w' => e = .returned (.bool r) ∧ Drawn0 w w' := by
 have hu50 := Try.underlying50
 have hm : l1.length ≤ 9223372036854775807 := Kd.C_max hr1
 simp only [impl_tryOk.f] at h
 by_cases h1 : 1 ≤ l1.length
 ·rw [if_pos h1] at h
  obtain ⟨q, hq, h⟩ := Option.bind_eq_some_iff.mp h
  have HR0 := am hr0
  have HR1 := am hr1
  have H0 := am hq
  have HZ := am h
  have h1b : (1 : Int) ≤ (l1.length : Int) := by omega
  obtain ⟨i03, hi03, _, hsz3, _⟩ := info_parts info3
  obtain ⟨A', hcut, hA', hC'⟩ := print_drop_of (P := Try.prog) (Value.int .i64) (0 : Int) 81 3 .i64 Try.underlying81 hi03 hsz3 A1 c1 l1 1 (by omega) h1b hc1
  replace hA' := hA' _ (Kd.reads_of_C hr1)
  rw [show ((1 : Int)).toNat = 1 from rfl] at hcut hA' hC'
  generalize hl2 : l1.drop 1 = l2 at hcut hA' hC' H0
  have hdl : l2.length < l1.length := by rw [← hl2, List.length_drop]; omega
  clear hl2
  have HS := am hA'
  clear hr0 hr1 hq h hA' hi03 hsz3
  go_enter Try.func68, Try.ntmps68
  go_wp2
  go_loop [5, 6, 13] (fun i5 i6 i13 => ∃ (k : Nat) (ex last : Int), i13 = .int .i64 k ∧ i5 = .int .i64 ex ∧ i6 = .int .i64 last ∧ k ≤ l2.length ∧ 0 ≤ ex ∧ ex ≤ (k : Int) ∧ Aside0 (impl_tryOk.go l0 (l2.drop k) ex last = some q)) (fun _ _ i13 => l2.length - (intOf i13).toNat)
  case atStart => exact ⟨0, 0, 7, rfl, rfl, rfl, Nat.zero_le _, by omega, by omega, H0⟩
  case round =>
   clear H0
   obtain ⟨k, ex, last, rfl, rfl, rfl, hk, hx0, hx1, HA⟩ := hrel
   by_cases hlt : k < l2.length
   ·have HB := am (impl_tryOk.step hlt HA.out)
    clear HA
    have HC := HS.out
    obtain ⟨ad, rfl, hx⟩ := Kd.at_int (Kd.C_of_reads (h1 := fun _ => rfl) HC) (k : Int) (by omega) (by omega)
    have hrd : rd l2 (k : Int) = l2[k] := by simp only [rd, Int.toNat_natCast, List.getD_eq_getElem?_getD, List.getElem?_eq_getElem hlt, Option.getD_some]
    rw [hrd, Int.toNat_natCast] at hx
    clear hrd HC
    have hgo := HB.out
    generalize l2[k] = x at hgo hx
    simp only [impl_tryOk.go] at hgo
    clear HB
    by_cases h0 : 0 ≤ x
    ·rw [if_pos h0] at hgo
     by_cases h2 : x < (l0.length : Int)
     ·rw [if_pos h2] at hgo
      obtain ⟨ad0, rfl, hy0, hy1, hy2, hy3⟩ := at_T50 HR0.out x h0 h2
      generalize hkd : (rd_T50 l0 x).f1 = kd at hgo hy1
      clear hkd
      have q2 := eq_true h2
      have q0 := eq_true h0
      clear h0 h2
      by_cases e8 : kd = 8
      ·subst e8
       rw [if_pos rfl] at hgo
       by_cases hl : last ≤ 8
       ·rw [if_pos hl] at hgo
        have hlb := decide_eq_true hl
        clear hl
        have HG := am hgo
        clear hgo HZ
        go_wp2
        go_round
        case rel => exact ⟨k + 1, ex + 1, _, by go_num, rfl, rfl, hlt, by omega, by omega, HG⟩
        case measure => simp [intOf]; omega
       ·rw [if_neg hl] at hgo
        have hlb := decide_eq_false hl
        clear hl
        obtain rfl : none = q := by simpa using hgo
        have HR := am (by simpa using HZ.out : r = false)
        clear hgo HZ
        go_wp2
        go_ret
        exact ⟨by rw [HR.out]; rfl, Drawn0.refl _⟩
      ·rw [if_neg e8] at hgo
       have e8b : (kd == 8) = false := beq_eq_false_iff_ne.2 e8
       clear e8
       by_cases e9 : kd = 9
       ·subst e9
        rw [if_pos rfl] at hgo
        by_cases hl : last = 8
        ·rw [if_pos hl] at hgo
         have hlb : (last == 8) = true := beq_iff_eq.2 hl
         clear hl
         have HG := am hgo
         clear hgo HZ
         go_wp2
         go_round
         case rel => exact ⟨k + 1, ex, _, by go_num, rfl, rfl, hlt, by omega, by omega, HG⟩
         case measure => simp [intOf]; omega
        ·rw [if_neg hl] at hgo
         have hlb : (last == 8) = false := beq_eq_false_iff_ne.2 hl
         clear hl
         obtain rfl : none = q := by simpa using hgo
         have HR := am (by simpa using HZ.out : r = false)
         clear hgo HZ
         go_wp2
         go_ret
         exact ⟨by rw [HR.out]; rfl, Drawn0.refl _⟩
       ·rw [if_neg e9] at hgo
        have e9b : (kd == 9) = false := beq_eq_false_iff_ne.2 e9
        clear e9
        by_cases e10 : kd = 10
        ·subst e10
         rw [if_pos rfl] at hgo
         by_cases hl : last < 10
         ·rw [if_pos hl] at hgo
          have hlb := decide_eq_true hl
          clear hl
          have HG := am hgo
          clear hgo HZ
          go_wp2
          go_round
          case rel => exact ⟨k + 1, ex, _, by go_num, rfl, rfl, hlt, by omega, by omega, HG⟩
          case measure => simp [intOf]; omega
         ·rw [if_neg hl] at hgo
          have hlb := decide_eq_false hl
          clear hl
          obtain rfl : none = q := by simpa using hgo
          have HR := am (by simpa using HZ.out : r = false)
          clear hgo HZ
          go_wp2
          go_ret
          exact ⟨by rw [HR.out]; rfl, Drawn0.refl _⟩
        ·rw [if_neg e10] at hgo
         have e10b : (kd == 10) = false := beq_eq_false_iff_ne.2 e10
         clear e10
         obtain rfl : none = q := by simpa using hgo
         have HR := am (by simpa using HZ.out : r = false)
         clear hgo HZ
         go_wp2
         go_ret
         exact ⟨by rw [HR.out]; rfl, Drawn0.refl _⟩
     ·rw [if_neg h2] at hgo
      cases hgo
    ·rw [if_neg h0] at hgo
     cases hgo
   ·have hgo := HA.out
    rw [List.drop_eq_nil_of_le (by omega)] at hgo
    obtain rfl : some ex = q := by simpa [impl_tryOk.go] using hgo
    clear hgo HA
    have HY := am (Option.some.inj HZ.out)
    clear HZ
    by_cases h1c : 1 < l1.length
    ·have hb1 := decide_eq_true h1c
     go_wp2
     go_ret
     exact ⟨by rw [← HY.out, hb1]; rfl, Drawn0.refl _⟩
    ·have hb1 := decide_eq_false h1c
     go_wp2
     go_ret
     exact ⟨by rw [← HY.out, hb1]; rfl, Drawn0.refl _⟩
 ·rw [if_neg h1] at h
  cases h
mutual
def impl_blockOk.l0 : Nat → List (S50) → Bool → List Int → Int → Option (Bool)
 | 0, _, _, _, _ => none
 | k + 1, x0, x3, x9, x10 => if x10 < (x9.length : Int) then (if 0 ≤ x10 then (if 0 ≤ (rd x9 x10) then (if (rd x9 x10) < (x0.length : Int) then (if ((rd_T50 x0 (rd x9 x10)).f1) = 5 then (impl_blockOk.j1 k x0 x3 x9 x10 (rd x9 x10) ((rd_T50 x0 (rd x9 x10)).f1) ((rd_T50 x0 (rd x9 x10)).f1) (((rd_T50 x0 (rd x9 x10)).f1) == 5)) else (impl_blockOk.j1 k x0 x3 x9 x10 (rd x9 x10) ((rd_T50 x0 (rd x9 x10)).f1) ((rd_T50 x0 (rd x9 x10)).f1) (((rd_T50 x0 (rd x9 x10)).f1) == 6))) else (none)) else (none)) else (none)) else (some true)
def impl_blockOk.j1 : Nat → List (S50) → Bool → List Int → Int → Int → Int → Int → Bool → Option (Bool)
 | 0, _, _, _, _, _, _, _, _ => none
 | k + 1, x0, x3, x9, x10, x11, x12, x35, x36 => if x36 = true then (if x3 = true then (impl_blockOk.l0 k x0 x3 x9 (wrap64 (x10 + 1))) else (some false)) else (if x35 = 8 then (impl_blockOk.j2 k x0 x3 x9 x10 x11 x12 x35 (x35 == 8)) else (if x35 = 9 then (impl_blockOk.j2 k x0 x3 x9 x10 x11 x12 x35 (x35 == 9)) else (impl_blockOk.j2 k x0 x3 x9 x10 x11 x12 x35 (x35 == 10))))
def impl_blockOk.j2 : Nat → List (S50) → Bool → List Int → Int → Int → Int → Int → Bool → Option (Bool)
 | 0, _, _, _, _, _, _, _, _ => none
 | k + 1, x0, x3, x9, x10, x11, x12, x35, x41 => if x41 = true then (some false) else (if x35 = 7 then ((impl_tryFrom.f k x0 x11).bind fun t255 => ((impl_tryOk.f x0 t255).bind fun t258 => (if t258 = true then (impl_blockOk.l1 k x0 x3 x9 x10 t255 t255 (t255.length : Int) 0) else (some false)))) else (if x35 = 11 then (impl_blockOk.j4 k x0 x3 x9 x10 x11 x12 (x35 == 11)) else (impl_blockOk.j4 k x0 x3 x9 x10 x11 x12 (x35 == 12))))
def impl_blockOk.l1 : Nat → List (S50) → Bool → List Int → Int → List Int → List Int → Int → Int → Option (Bool)
 | 0, _, _, _, _, _, _, _, _ => none
 | k + 1, x0, x3, x9, x10, x13, x54, x55, x56 => if x56 < x55 then (if 0 ≤ x56 then (if x56 < (x54.length : Int) then ((impl_endOf.f k x0 (rd x54 x56)).bind fun t260 => ((impl_blockOk.f k x0 (wrap64 ((rd x54 x56) + 1)) t260 x3).bind fun t261 => (if t261 = true then (impl_blockOk.l1 k x0 x3 x9 x10 x13 x54 x55 (wrap64 (x56 + 1))) else (some false)))) else (none)) else (none)) else (impl_blockOk.l0 k x0 x3 x9 (wrap64 ((wrap64 (x10 + (wrap64 ((x13.length : Int) - 1)))) + 1)))
def impl_blockOk.j4 : Nat → List (S50) → Bool → List Int → Int → Int → Int → Bool → Option (Bool)
 | 0, _, _, _, _, _, _, _ => none
 | k + 1, x0, x3, x9, x10, x11, x12, x75 => if x75 = true then ((impl_endOf.f k x0 x11).bind fun t262 => (if x3 = true then ((impl_blockOk.f k x0 (wrap64 (x11 + 1)) t262 true).bind fun t263 => (if t263 = true then (impl_blockOk.l0 k x0 x3 x9 (wrap64 (x10 + 1))) else (some false))) else ((impl_blockOk.f k x0 (wrap64 (x11 + 1)) t262 (x12 == 12)).bind fun t264 => (if t264 = true then (impl_blockOk.l0 k x0 x3 x9 (wrap64 (x10 + 1))) else (some false))))) else (impl_blockOk.l0 k x0 x3 x9 (wrap64 (x10 + 1)))
def impl_blockOk.f : Nat → List (S50) → Int → Int → Bool → Option (Bool)
 | 0, _, _, _, _ => none
 | k + 1, l0, a1, a2, a3 => (impl_siblings.f k l0 a1 a2).bind fun t250 => (impl_blockOk.l0 k l0 a3 t250 0)
end
set_option maxHeartbeats 8000000 in
set_option maxRecDepth 100000 in
theorem impl_blockOk.calls (k : Nat) : ∀ (A0 : Option Addr) (c0 : Nat) (l0 : List (S50)) (a1 : Int) (a2 : Int) (a3 : Bool) (r : Bool) (w : World) (hr0 : Kd.C k50 w A0 l0.length l0) (hc0 : l0.length ≤ c0) (h : impl_blockOk.f k l0 a1 a2 a3 = some r),
  Calls Try.prog 52 #[.slice A0 l0.length c0, .int .i64 a1, .int .i64 a2, .bool a3] w fun e w' => e = .returned (.bool r) ∧ Below w.heap.size w w' := by
 induction k using Nat.strongRecOn with
 | _ k ih =>
 intro A0 c0 l0 a1 a2 a3 r w hr0 hc0 h
 cases k with
 | zero => exact absurd h (by simp [impl_blockOk.f])
 | succ k =>
 simp only [impl_blockOk.f] at h
 have HR0 := am hr0
 have HC0 := am hc0
 clear hr0 hc0
 have HB := am (Below.refl w.heap.size w)
 have H : ((impl_siblings.f k l0 a1 a2).bind fun t250 => (impl_blockOk.l0 k l0 a3 t250 0)) = some r := h
 clear h
 replace H := Option.bind_eq_some_iff.mp H
 obtain ⟨t250, A50, H⟩ := H
 replace H : (impl_blockOk.l0 k l0 a3 t250 0) = some r := H
 have A5 := am A50
 clear A50
 have H' := am H
 clear H
 go_enter Try.func52, Try.ntmps52
 go_wp2_with (first | ((with_reducible refine gate_callee (f := 66) rfl ?_); refine gL (some 19) Try.func66 #[.slice A0 l0.length c0, .int .i64 a1, .int .i64 a2] ?_; (with_reducible refine (impl_siblings.calls k _ _ l0 a1 a2 t250 _ ?side1 ?side2 A5.out).mono ?_); (case side1 => exact Y27); (case side2 => exact HC0.out); rintro e w6 ⟨v251, rfl, ho0, hb⟩; refine ⟨_, rfl, ?_⟩; have HO252 := am (Kd.R_lower ho0 (below_size (bq))); replace HB := am (below_step (bq) hb); (try clear hb); (try clear hb2); (try clear hk); (try clear hi); (try clear ho0)))
 go_loopg [10] k (fun kq v10 w' => ∃ (x10_1 : Int), v10 = .int .i64 x10_1 ∧ Aside0 (impl_blockOk.l0 kq l0 a3 t250 x10_1 = some r) ∧ Aside0 (kq ≤ k) ∧ Aside0 (Kd.R (Kd.int .i64) 3 w' w.heap.size (fun _ => True) v251 t250) ∧ Aside0 (Below w.heap.size w w'))
 case atStart => exact ⟨(0), (sq), H', ⟨Nat.le_refl _⟩, ⟨rq HO252.out⟩, ⟨bq⟩⟩
 case round =>
  clear H'
  try clear p2
  try clear c5
  try clear c6
  obtain ⟨x10_1, rfl, HA, HK1, HO_9, HB⟩ := hrel
  cases gk with
  | zero => exact absurd HA.out (by simp [impl_blockOk.l0])
  | succ k1 =>
   have H := HA.out
   clear HA
   simp only [impl_blockOk.l0] at H
   by_cases c7 : x10_1 < (t250.length : Int)
   ·rw [if_pos c7] at H
    have c7b0 : decide (x10_1 < (t250.length : Int)) = true := decide_eq_true c7
    clear c7
    by_cases c8 : 0 ≤ x10_1
    ·rw [if_pos c8] at H
     have c8b0 : decide (0 ≤ x10_1) = true := decide_eq_true c8
     clear c8
     by_cases c9 : 0 ≤ (rd t250 x10_1)
     ·rw [if_pos c9] at H
      have c9b0 : decide (0 ≤ (rd t250 x10_1)) = true := decide_eq_true c9
      clear c9
      by_cases c10 : (rd t250 x10_1) < (l0.length : Int)
      ·rw [if_pos c10] at H
       have c10b0 : decide ((rd t250 x10_1) < (l0.length : Int)) = true := decide_eq_true c10
       clear c10
       have HC11 := am H
       clear H
       obtain ⟨Ao12, co12, eo12⟩ := Kd.R_slice HO_9.out
       subst eo12
       have p253 : 0 ≤ (x10_1 : Int) := of_decide_eq_true (uq)
       have q253 : x10_1 < (t250.length : Int) := of_decide_eq_true (uq)
       obtain ⟨ad253, e253, hx253_0⟩ := Kd.at_int (Kd.R_reads' HO_9.out).2.2 x10_1 p253 q253
       cases e253
       replace p253 := eq_true p253
       replace q253 := eq_true q253
       have p254 : 0 ≤ ((rd t250 x10_1) : Int) := of_decide_eq_true (uq)
       have q254 : (rd t250 x10_1) < (l0.length : Int) := of_decide_eq_true (uq)
       obtain ⟨ad254, e254, hx254_0, hx254_1, hx254_2, hx254_3⟩ := at_T50 HR0.out (rd t250 x10_1) p254 q254
       cases e254
       replace hx254_0 := cb HB.out hx254_0
       replace hx254_1 := cb HB.out hx254_1
       replace hx254_2 := cb HB.out hx254_2
       replace hx254_3 := cb HB.out hx254_3
       replace p254 := eq_true p254
       replace q254 := eq_true q254
       go_upto_if 36 with (fail)
       go_cut [36] (fun v36 wc => ∃ (kq : Nat) (x36_10 : Bool), v36 = .bool x36_10 ∧ Aside0 (impl_blockOk.j1 kq l0 a3 t250 x10_1 (rd t250 x10_1) ((rd_T50 l0 (rd t250 x10_1)).f1) ((rd_T50 l0 (rd t250 x10_1)).f1) x36_10 = some r) ∧ Aside0 (kq ≤ k1) ∧ Aside0 (Kd.R (Kd.int .i64) 3 wc w.heap.size (fun _ => True) (.slice (some ad253) t250.length co12) t250) ∧ Aside0 (Below w.heap.size w wc))
       case first =>
        have H := HC11.out
        clear HC11
        by_cases c13 : ((rd_T50 l0 (rd t250 x10_1)).f1) = 5
        ·rw [if_pos c13] at H
         have c13b0 : (((rd_T50 l0 (rd t250 x10_1)).f1) == 5) = true := beq_iff_eq.mpr c13
         have c13b1 : (((rd_T50 l0 (rd t250 x10_1)).f1) != 5) = false := bne_eq_false_iff_eq.mpr c13
         clear c13
         (first | rw [c13b0] | (simp only [i64_w, i32_w]; rw [c13b0]) | skip)
         have H' := am H
         clear H
         go_wp2
         go_meet
         case rel => exact ⟨_, ((((rd_T50 l0 (rd t250 x10_1)).f1) == 5)), (sq), H', ⟨by have := HK1.out; first | omega | exact Nat.le_refl _⟩, ⟨rq HO_9.out⟩, ⟨bq⟩⟩
        ·rw [if_neg c13] at H
         have c13b0 : (((rd_T50 l0 (rd t250 x10_1)).f1) == 5) = false := beq_eq_false_iff_ne.mpr c13
         have c13b1 : (((rd_T50 l0 (rd t250 x10_1)).f1) != 5) = true := bne_iff_ne.mpr c13
         (first | rw [c13b0] | (simp only [i64_w, i32_w]; rw [c13b0]) | skip)
         have H' := am H
         clear H
         go_wp2
         go_meet
         case rel => exact ⟨_, ((((rd_T50 l0 (rd t250 x10_1)).f1) == 6)), (sq), H', ⟨by have := HK1.out; first | omega | exact Nat.le_refl _⟩, ⟨rq HO_9.out⟩, ⟨bq⟩⟩
       case rest =>
        clear HC11
        try clear c1
        try clear p2
        try clear q2
        try clear hx2
        try clear c5
        try clear c6
        try clear c7
        try clear c7b0
        try clear c8
        try clear c8b0
        try clear c9
        try clear c9b0
        try clear c10
        try clear c10b0
        try clear c13
        try clear c13b0
        try clear c13b1
        try clear hx253_0
        try clear hx254_0
        try clear hx254_1
        try clear hx254_2
        try clear hx254_3
        try clear p2
        try clear p253
        try clear p254
        try clear q253
        try clear q254
        obtain ⟨kq, x36_10, rfl, HA, HJ10, HO_9, HB⟩ := hcut
        cases kq with
        | zero => exact absurd HA.out (by simp [impl_blockOk.j1])
        | succ kj10 =>
         have H := HA.out
         clear HA
         simp only [impl_blockOk.j1] at H
         by_cases c14 : x36_10 = true
         ·subst c14
          have H1 : (if a3 = true then (impl_blockOk.l0 kj10 l0 a3 t250 (wrap64 (x10_1 + 1))) else (some false)) = some r := by rw [if_pos rfl] at H; exact H
          clear H
          have H := H1
          clear H1
          by_cases c15 : a3 = true
          ·subst c15
           have H1 : (impl_blockOk.l0 kj10 l0 true t250 (wrap64 (x10_1 + 1))) = some r := by rw [if_pos rfl] at H; exact H
           clear H
           have H := H1
           clear H1
           have H' := am H
           clear H
           go_wp2
           go_roundg kj10
           case measure => have := HK1.out; have := HJ10.out; omega
           case rel => exact ⟨(wrap64 (x10_1 + 1)), (sq), H', ⟨by have := HK1.out; have := HJ10.out; omega⟩, ⟨rq HO_9.out⟩, ⟨bq⟩⟩
          ·replace c15 := Bool.eq_false_iff.mpr c15
           subst c15
           have H1 : (some false) = some r := by rw [if_neg (show ¬ (false = true) by decide)] at H; exact H
           clear H
           have H := H1
           clear H1
           obtain rfl := Option.some.inj H
           go_wp2
           go_ret
           exact ⟨Y1, bq⟩
         ·replace c14 := Bool.eq_false_iff.mpr c14
          subst c14
          have H1 : (if ((rd_T50 l0 (rd t250 x10_1)).f1) = 8 then (impl_blockOk.j2 kj10 l0 a3 t250 x10_1 (rd t250 x10_1) ((rd_T50 l0 (rd t250 x10_1)).f1) ((rd_T50 l0 (rd t250 x10_1)).f1) (((rd_T50 l0 (rd t250 x10_1)).f1) == 8)) else (if ((rd_T50 l0 (rd t250 x10_1)).f1) = 9 then (impl_blockOk.j2 kj10 l0 a3 t250 x10_1 (rd t250 x10_1) ((rd_T50 l0 (rd t250 x10_1)).f1) ((rd_T50 l0 (rd t250 x10_1)).f1) (((rd_T50 l0 (rd t250 x10_1)).f1) == 9)) else (impl_blockOk.j2 kj10 l0 a3 t250 x10_1 (rd t250 x10_1) ((rd_T50 l0 (rd t250 x10_1)).f1) ((rd_T50 l0 (rd t250 x10_1)).f1) (((rd_T50 l0 (rd t250 x10_1)).f1) == 10)))) = some r := by rw [if_neg (show ¬ (false = true) by decide)] at H; exact H
          clear H
          have H := H1
          clear H1
          have HC16 := am H
          clear H
          go_upto_if 41 with (fail)
          go_cut [41] (fun v41 wc => ∃ (kq : Nat) (x41_15 : Bool), v41 = .bool x41_15 ∧ Aside0 (impl_blockOk.j2 kq l0 a3 t250 x10_1 (rd t250 x10_1) ((rd_T50 l0 (rd t250 x10_1)).f1) ((rd_T50 l0 (rd t250 x10_1)).f1) x41_15 = some r) ∧ Aside0 (kq ≤ kj10) ∧ Aside0 (Kd.R (Kd.int .i64) 3 wc w.heap.size (fun _ => True) (.slice (some ad253) t250.length co12) t250) ∧ Aside0 (Below w.heap.size w wc))
          case first =>
           have H := HC16.out
           clear HC16
           by_cases c17 : ((rd_T50 l0 (rd t250 x10_1)).f1) = 8
           ·rw [if_pos c17] at H
            have c17b0 : (((rd_T50 l0 (rd t250 x10_1)).f1) == 8) = true := beq_iff_eq.mpr c17
            have c17b1 : (((rd_T50 l0 (rd t250 x10_1)).f1) != 8) = false := bne_eq_false_iff_eq.mpr c17
            clear c17
            (first | rw [c17b0] | (simp only [i64_w, i32_w]; rw [c17b0]) | skip)
            have H' := am H
            clear H
            go_wp2
            go_meet
            case rel => exact ⟨_, ((((rd_T50 l0 (rd t250 x10_1)).f1) == 8)), (sq), H', ⟨by have := HK1.out; have := HJ10.out; first | omega | exact Nat.le_refl _⟩, ⟨rq HO_9.out⟩, ⟨bq⟩⟩
           ·rw [if_neg c17] at H
            have c17b0 : (((rd_T50 l0 (rd t250 x10_1)).f1) == 8) = false := beq_eq_false_iff_ne.mpr c17
            have c17b1 : (((rd_T50 l0 (rd t250 x10_1)).f1) != 8) = true := bne_iff_ne.mpr c17
            (first | rw [c17b0] | (simp only [i64_w, i32_w]; rw [c17b0]) | skip)
            by_cases c18 : ((rd_T50 l0 (rd t250 x10_1)).f1) = 9
            ·rw [if_pos c18] at H
             have c18b0 : (((rd_T50 l0 (rd t250 x10_1)).f1) == 9) = true := beq_iff_eq.mpr c18
             have c18b1 : (((rd_T50 l0 (rd t250 x10_1)).f1) != 9) = false := bne_eq_false_iff_eq.mpr c18
             clear c18
             have H' := am H
             clear H
             go_wp2
             go_meet
             case rel => exact ⟨_, ((((rd_T50 l0 (rd t250 x10_1)).f1) == 9)), (sq), H', ⟨by have := HK1.out; have := HJ10.out; first | omega | exact Nat.le_refl _⟩, ⟨rq HO_9.out⟩, ⟨bq⟩⟩
            ·rw [if_neg c18] at H
             have c18b0 : (((rd_T50 l0 (rd t250 x10_1)).f1) == 9) = false := beq_eq_false_iff_ne.mpr c18
             have c18b1 : (((rd_T50 l0 (rd t250 x10_1)).f1) != 9) = true := bne_iff_ne.mpr c18
             have H' := am H
             clear H
             go_wp2
             go_meet
             case rel => exact ⟨_, ((((rd_T50 l0 (rd t250 x10_1)).f1) == 10)), (sq), H', ⟨by have := HK1.out; have := HJ10.out; first | omega | exact Nat.le_refl _⟩, ⟨rq HO_9.out⟩, ⟨bq⟩⟩
          case rest =>
           clear HC16
           try clear c1
           try clear p2
           try clear q2
           try clear hx2
           try clear c5
           try clear c6
           try clear p6
           try clear c7
           try clear c7b0
           try clear c8
           try clear c8b0
           try clear c9
           try clear c9b0
           try clear c10
           try clear c10b0
           try clear c13
           try clear c13b0
           try clear c13b1
           try clear c14
           try clear c15
           try clear c17
           try clear c17b0
           try clear c17b1
           try clear c18
           try clear c18b0
           try clear c18b1
           try clear hx253_0
           try clear hx254_0
           try clear hx254_1
           try clear hx254_2
           try clear hx254_3
           try clear p2
           try clear p253
           try clear p254
           try clear q2
           try clear q253
           try clear q254
           obtain ⟨kq, x41_15, rfl, HA, HJ15, HO_9, HB⟩ := hcut
           cases kq with
           | zero => exact absurd HA.out (by simp [impl_blockOk.j2])
           | succ kj15 =>
            have H := HA.out
            clear HA
            simp only [impl_blockOk.j2] at H
            by_cases c19 : x41_15 = true
            ·subst c19
             have H1 : (some false) = some r := by rw [if_pos rfl] at H; exact H
             clear H
             have H := H1
             clear H1
             obtain rfl := Option.some.inj H
             go_wp2
             go_ret
             exact ⟨Y1, bq⟩
            ·replace c19 := Bool.eq_false_iff.mpr c19
             subst c19
             have H1 : (if ((rd_T50 l0 (rd t250 x10_1)).f1) = 7 then ((impl_tryFrom.f kj15 l0 (rd t250 x10_1)).bind fun t255 => ((impl_tryOk.f l0 t255).bind fun t258 => (if t258 = true then (impl_blockOk.l1 kj15 l0 a3 t250 x10_1 t255 t255 (t255.length : Int) 0) else (some false)))) else (if ((rd_T50 l0 (rd t250 x10_1)).f1) = 11 then (impl_blockOk.j4 kj15 l0 a3 t250 x10_1 (rd t250 x10_1) ((rd_T50 l0 (rd t250 x10_1)).f1) (((rd_T50 l0 (rd t250 x10_1)).f1) == 11)) else (impl_blockOk.j4 kj15 l0 a3 t250 x10_1 (rd t250 x10_1) ((rd_T50 l0 (rd t250 x10_1)).f1) (((rd_T50 l0 (rd t250 x10_1)).f1) == 12)))) = some r := by rw [if_neg (show ¬ (false = true) by decide)] at H; exact H
             clear H
             have H := H1
             clear H1
             by_cases c20 : ((rd_T50 l0 (rd t250 x10_1)).f1) = 7
             ·rw [if_pos c20] at H
              have c20b0 : (((rd_T50 l0 (rd t250 x10_1)).f1) == 7) = true := beq_iff_eq.mpr c20
              have c20b1 : (((rd_T50 l0 (rd t250 x10_1)).f1) != 7) = false := bne_eq_false_iff_eq.mpr c20
              clear c20
              replace H := Option.bind_eq_some_iff.mp H
              obtain ⟨t255, A210, H⟩ := H
              replace H : ((impl_tryOk.f l0 t255).bind fun t258 => (if t258 = true then (impl_blockOk.l1 kj15 l0 a3 t250 x10_1 t255 t255 (t255.length : Int) 0) else (some false))) = some r := H
              have A21 := am A210
              clear A210
              replace H := Option.bind_eq_some_iff.mp H
              obtain ⟨t258, A220, H⟩ := H
              replace H : (if t258 = true then (impl_blockOk.l1 kj15 l0 a3 t250 x10_1 t255 t255 (t255.length : Int) 0) else (some false)) = some r := H
              have A22 := am A220
              clear A220
              by_cases c23 : t258 = true
              ·subst c23
               have H1 : (impl_blockOk.l1 kj15 l0 a3 t250 x10_1 t255 t255 (t255.length : Int) 0) = some r := by rw [if_pos rfl] at H; exact H
               clear H
               have H := H1
               clear H1
               have H' := am H
               clear H
               go_wp2_with (first | ((with_reducible refine gate_callee (f := 67) rfl ?_); refine gL (some 49) Try.func67 #[.slice (some ad254) l0.length c0, .int .i64 (rd t250 x10_1)] ?_; (with_reducible refine (impl_tryFrom.calls kj15 _ _ l0 (rd t250 x10_1) t255 _ ?side1 ?side2 A21.out).mono ?_); (case side1 => exact cq (Kd.C_below HR0.out HB.out)); (case side2 => exact HC0.out); rintro e w24 ⟨v256, rfl, ho0, hb⟩; refine ⟨_, rfl, ?_⟩; have HO257 := am (Kd.R_lower (Kd.R_new' ho0 (Kd.R_lt (rq HO_9.out))) (below_size (bq))); replace HO_9 := am (Kd.R_elder' (rq HO_9.out) (Kd.R_base ho0) hb); replace HB := am (below_step (bq) hb); (try clear hb); (try clear hb2); (try clear hk); (try clear hi); (try clear ho0); obtain ⟨Ao25, co25, eo25⟩ := Kd.R_slice HO257.out; subst eo25) | ((with_reducible refine gate_callee (f := 68) rfl ?_); refine gL (some 52) Try.func68 #[.slice (some ad254) l0.length c0, .slice Ao25 t255.length co25] ?_; (with_reducible refine (impl_tryOk.calls _ _ l0 _ _ t255 true _ ?side1 ?side2 ?side3 ?side4 A22.out).mono ?_); (case side1 => exact cq (Kd.C_below HR0.out HB.out)); (case side2 => exact HC0.out); (case side3 => exact cq (Kd.R_reads' HO257.out).2.2); (case side4 => exact (Kd.R_reads' HO257.out).2.1); rintro e w' ⟨rfl, ⟨nd, rfl⟩⟩; refine ⟨_, rfl, ?_⟩))
               go_loopg [56] kj15 (fun kq v56 w' => ∃ (x56_4 : Int), v56 = .int .i64 x56_4 ∧ Aside0 (impl_blockOk.l1 kq l0 a3 t250 x10_1 t255 t255 (t255.length : Int) x56_4 = some r) ∧ Aside0 (kq ≤ kj15) ∧ Aside0 (Kd.R (Kd.int .i64) 3 w' w.heap.size (fun k_ => some k_ ≠ ((.slice Ao25 t255.length co25) : Value).ownBlock ∧ some k_ ≠ ((.slice Ao25 t255.length co25) : Value).ownBlock) (.slice (some ad253) t250.length co12) t250) ∧ Aside0 (Kd.R (Kd.int .i64) 3 w' w.heap.size (fun k_ => some k_ ≠ ((.slice (some ad253) t250.length co12) : Value).ownBlock) (.slice Ao25 t255.length co25) t255) ∧ Aside0 (Kd.R (Kd.int .i64) 3 w' w.heap.size (fun k_ => some k_ ≠ ((.slice (some ad253) t250.length co12) : Value).ownBlock) (.slice Ao25 t255.length co25) t255) ∧ Aside0 (Below w.heap.size w w'))
               case atStart => exact ⟨(0), (sq), H', ⟨Nat.le_refl _⟩, ⟨by (with_reducible repeat (first | apply Kd.R_alloc | apply Kd.R_drewN | apply Kd.R_drew)); exact Kd.R_mono HO_9.out (fun _ hk => ⟨hk.2, hk.2⟩)⟩, ⟨by (with_reducible repeat (first | apply Kd.R_alloc | apply Kd.R_drewN | apply Kd.R_drew)); exact Kd.R_mono HO257.out (fun _ hk => hk.2)⟩, ⟨by (with_reducible repeat (first | apply Kd.R_alloc | apply Kd.R_drewN | apply Kd.R_drew)); exact Kd.R_mono HO257.out (fun _ hk => hk.2)⟩, ⟨bq⟩⟩
               case round =>
                clear H'
                try clear c1
                try clear c2
                try clear p2
                try clear q2
                try clear hx2
                try clear c5
                try clear c6
                try clear p6
                try clear c7
                try clear c7b0
                try clear c8
                try clear c8b0
                try clear c9
                try clear c9b0
                try clear c10
                try clear c10b0
                try clear c13
                try clear c13b0
                try clear c13b1
                try clear c14
                try clear c15
                try clear c17
                try clear c17b0
                try clear c17b1
                try clear c18
                try clear c18b0
                try clear c18b1
                try clear c19
                try clear c20
                try clear c20b0
                try clear c20b1
                try clear c23
                try clear p25
                try clear q25
                try clear hx25
                try clear hx253_0
                try clear hx254_0
                try clear hx254_1
                try clear hx254_2
                try clear hx254_3
                try clear p2
                try clear p253
                try clear p254
                try clear p6
                try clear q2
                try clear q253
                try clear q254
                obtain ⟨x56_4, rfl, HA, HK4, HO_9, HO_13, HO_54, HB⟩ := hrel
                cases gk with
                | zero => exact absurd HA.out (by simp [impl_blockOk.l1])
                | succ k4 =>
                 have H := HA.out
                 clear HA
                 simp only [impl_blockOk.l1] at H
                 by_cases c26 : x56_4 < (t255.length : Int)
                 ·rw [if_pos c26] at H
                  have c26b0 : decide (x56_4 < (t255.length : Int)) = true := decide_eq_true c26
                  clear c26
                  by_cases c27 : 0 ≤ x56_4
                  ·rw [if_pos c27] at H
                   have c27b0 : decide (0 ≤ x56_4) = true := decide_eq_true c27
                   clear c27
                   by_cases c28 : x56_4 < (t255.length : Int)
                   ·rw [if_pos c28] at H
                    have c28b0 : decide (x56_4 < (t255.length : Int)) = true := decide_eq_true c28
                    clear c28
                    replace H := Option.bind_eq_some_iff.mp H
                    obtain ⟨t260, A290, H⟩ := H
                    replace H : ((impl_blockOk.f k4 l0 (wrap64 ((rd t255 x56_4) + 1)) t260 a3).bind fun t261 => (if t261 = true then (impl_blockOk.l1 k4 l0 a3 t250 x10_1 t255 t255 (t255.length : Int) (wrap64 (x56_4 + 1))) else (some false))) = some r := H
                    have A29 := am A290
                    clear A290
                    replace H := Option.bind_eq_some_iff.mp H
                    obtain ⟨t261, A300, H⟩ := H
                    replace H : (if t261 = true then (impl_blockOk.l1 k4 l0 a3 t250 x10_1 t255 t255 (t255.length : Int) (wrap64 (x56_4 + 1))) else (some false)) = some r := H
                    have A30 := am A300
                    clear A300
                    by_cases c31 : t261 = true
                    ·subst c31
                     have H1 : (impl_blockOk.l1 k4 l0 a3 t250 x10_1 t255 t255 (t255.length : Int) (wrap64 (x56_4 + 1))) = some r := by rw [if_pos rfl] at H; exact H
                     clear H
                     have H := H1
                     clear H1
                     have H' := am H
                     clear H
                     have p259 : 0 ≤ (x56_4 : Int) := of_decide_eq_true (uq)
                     have q259 : x56_4 < (t255.length : Int) := of_decide_eq_true (uq)
                     obtain ⟨ad259, e259, hx259_0⟩ := Kd.at_int (Kd.R_reads' HO_54.out).2.2 x56_4 p259 q259
                     cases e259
                     replace p259 := eq_true p259
                     replace q259 := eq_true q259
                     go_wp2_with (first | ((with_reducible refine gate_callee (f := 69) rfl ?_); refine gL (some 65) Try.func69 #[.slice (some ad254) l0.length c0, .int .i64 (rd t255 x56_4)] ?_; (with_reducible refine (impl_endOf.calls k4 _ _ l0 (rd t255 x56_4) t260 _ ?side1 ?side2 A29.out).mono ?_); (case side1 => exact cq (Kd.C_below HR0.out HB.out)); (case side2 => exact HC0.out); rintro e w' ⟨rfl, ⟨nd, rfl⟩⟩; refine ⟨_, rfl, ?_⟩) | ((with_reducible refine gate_callee (f := 52) rfl ?_); refine gL (some 67) Try.func52 #[.slice (some ad254) l0.length c0, .int .i64 (wrap64 ((rd t255 x56_4) + 1)), .int .i64 t260, .bool a3] ?_; (with_reducible refine (ih k4 (by have := HK1.out; have := HJ10.out; have := HJ15.out; have := HK4.out; omega) _ _ l0 (wrap64 ((rd t255 x56_4) + 1)) t260 a3 true _ ?side1 ?side2 A30.out).mono ?_); (case side1 => exact cq (Kd.C_below HR0.out (bq))); (case side2 => exact HC0.out); rintro e w32 ⟨rfl, hb⟩; refine ⟨_, rfl, ?_⟩; replace HO_9 := am (Kd.R_below (rq HO_9.out) hb); replace HO_13 := am (Kd.R_below (rq HO_13.out) hb); replace HO_54 := am (Kd.R_below (rq HO_54.out) hb); replace HB := am (below_step (bq) hb); (try clear hb); (try clear hb2); (try clear hk); (try clear hi)))
                     go_roundg k4
                     case measure => have := HK1.out; have := HJ10.out; have := HJ15.out; have := HK4.out; omega
                     case rel => exact ⟨(wrap64 (x56_4 + 1)), (sq), H', ⟨by have := HK1.out; have := HJ10.out; have := HJ15.out; have := HK4.out; omega⟩, ⟨rq HO_9.out⟩, ⟨rq HO_13.out⟩, ⟨rq HO_54.out⟩, ⟨bq⟩⟩
                    ·replace c31 := Bool.eq_false_iff.mpr c31
                     subst c31
                     have H1 : (some false) = some r := by rw [if_neg (show ¬ (false = true) by decide)] at H; exact H
                     clear H
                     have H := H1
                     clear H1
                     obtain rfl := Option.some.inj H
                     have p259 : 0 ≤ (x56_4 : Int) := of_decide_eq_true (uq)
                     have q259 : x56_4 < (t255.length : Int) := of_decide_eq_true (uq)
                     obtain ⟨ad259, e259, hx259_0⟩ := Kd.at_int (Kd.R_reads' HO_54.out).2.2 x56_4 p259 q259
                     cases e259
                     replace p259 := eq_true p259
                     replace q259 := eq_true q259
                     go_wp2_with (first | ((with_reducible refine gate_callee (f := 69) rfl ?_); refine gL (some 65) Try.func69 #[.slice (some ad254) l0.length c0, .int .i64 (rd t255 x56_4)] ?_; (with_reducible refine (impl_endOf.calls k4 _ _ l0 (rd t255 x56_4) t260 _ ?side1 ?side2 A29.out).mono ?_); (case side1 => exact cq (Kd.C_below HR0.out HB.out)); (case side2 => exact HC0.out); rintro e w' ⟨rfl, ⟨nd, rfl⟩⟩; refine ⟨_, rfl, ?_⟩) | ((with_reducible refine gate_callee (f := 52) rfl ?_); refine gL (some 67) Try.func52 #[.slice (some ad254) l0.length c0, .int .i64 (wrap64 ((rd t255 x56_4) + 1)), .int .i64 t260, .bool a3] ?_; (with_reducible refine (ih k4 (by have := HK1.out; have := HJ10.out; have := HJ15.out; have := HK4.out; omega) _ _ l0 (wrap64 ((rd t255 x56_4) + 1)) t260 a3 false _ ?side1 ?side2 A30.out).mono ?_); (case side1 => exact cq (Kd.C_below HR0.out (bq))); (case side2 => exact HC0.out); rintro e w33 ⟨rfl, hb⟩; refine ⟨_, rfl, ?_⟩; replace HO_9 := am (Kd.R_below (rq HO_9.out) hb); replace HO_13 := am (Kd.R_below (rq HO_13.out) hb); replace HO_54 := am (Kd.R_below (rq HO_54.out) hb); replace HB := am (below_step (bq) hb); (try clear hb); (try clear hb2); (try clear hk); (try clear hi)))
                     go_ret
                     exact ⟨Y1, bq⟩
                   ·rw [if_neg c28] at H
                    exact absurd H (by simp)
                  ·rw [if_neg c27] at H
                   exact absurd H (by simp)
                 ·rw [if_neg c26] at H
                  have c26b0 : decide (x56_4 < (t255.length : Int)) = false := decide_eq_false c26
                  clear c26
                  have H' := am H
                  clear H
                  go_wp2
                  go_roundg k4
                  case measure => have := HK1.out; have := HJ10.out; have := HJ15.out; have := HK4.out; omega
                  case rel => exact ⟨(wrap64 ((wrap64 (x10_1 + (wrap64 ((t255.length : Int) - 1)))) + 1)), (sq), H', ⟨by have := HK1.out; have := HJ10.out; have := HJ15.out; have := HK4.out; omega⟩, ⟨by (with_reducible repeat (first | apply Kd.R_alloc | apply Kd.R_drewN | apply Kd.R_drew)); exact Kd.R_mono HO_9.out (fun _ hk => trivial)⟩, ⟨bq⟩⟩
              ·replace c23 := Bool.eq_false_iff.mpr c23
               subst c23
               have H1 : (some false) = some r := by rw [if_neg (show ¬ (false = true) by decide)] at H; exact H
               clear H
               have H := H1
               clear H1
               obtain rfl := Option.some.inj H
               go_wp2_with (first | ((with_reducible refine gate_callee (f := 67) rfl ?_); refine gL (some 49) Try.func67 #[.slice (some ad254) l0.length c0, .int .i64 (rd t250 x10_1)] ?_; (with_reducible refine (impl_tryFrom.calls kj15 _ _ l0 (rd t250 x10_1) t255 _ ?side1 ?side2 A21.out).mono ?_); (case side1 => exact cq (Kd.C_below HR0.out HB.out)); (case side2 => exact HC0.out); rintro e w34 ⟨v256, rfl, ho0, hb⟩; refine ⟨_, rfl, ?_⟩; have HO257 := am (Kd.R_lower (Kd.R_new' ho0 (Kd.R_lt (rq HO_9.out))) (below_size (bq))); replace HO_9 := am (Kd.R_elder' (rq HO_9.out) (Kd.R_base ho0) hb); replace HB := am (below_step (bq) hb); (try clear hb); (try clear hb2); (try clear hk); (try clear hi); (try clear ho0); obtain ⟨Ao35, co35, eo35⟩ := Kd.R_slice HO257.out; subst eo35) | ((with_reducible refine gate_callee (f := 68) rfl ?_); refine gL (some 52) Try.func68 #[.slice (some ad254) l0.length c0, .slice Ao35 t255.length co35] ?_; (with_reducible refine (impl_tryOk.calls _ _ l0 _ _ t255 false _ ?side1 ?side2 ?side3 ?side4 A22.out).mono ?_); (case side1 => exact cq (Kd.C_below HR0.out HB.out)); (case side2 => exact HC0.out); (case side3 => exact cq (Kd.R_reads' HO257.out).2.2); (case side4 => exact (Kd.R_reads' HO257.out).2.1); rintro e w' ⟨rfl, ⟨nd, rfl⟩⟩; refine ⟨_, rfl, ?_⟩))
               go_ret
               exact ⟨Y1, bq⟩
             ·rw [if_neg c20] at H
              have c20b0 : (((rd_T50 l0 (rd t250 x10_1)).f1) == 7) = false := beq_eq_false_iff_ne.mpr c20
              have c20b1 : (((rd_T50 l0 (rd t250 x10_1)).f1) != 7) = true := bne_iff_ne.mpr c20
              have HC36 := am H
              clear H
              go_upto_if 75 with (fail)
              go_cut [75] (fun v75 wc => ∃ (kq : Nat) (x75_35 : Bool), v75 = .bool x75_35 ∧ Aside0 (impl_blockOk.j4 kq l0 a3 t250 x10_1 (rd t250 x10_1) ((rd_T50 l0 (rd t250 x10_1)).f1) x75_35 = some r) ∧ Aside0 (kq ≤ kj15) ∧ Aside0 (Kd.R (Kd.int .i64) 3 wc w.heap.size (fun _ => True) (.slice (some ad253) t250.length co12) t250) ∧ Aside0 (Below w.heap.size w wc))
              case first =>
               have H := HC36.out
               clear HC36
               by_cases c37 : ((rd_T50 l0 (rd t250 x10_1)).f1) = 11
               ·rw [if_pos c37] at H
                have c37b0 : (((rd_T50 l0 (rd t250 x10_1)).f1) == 11) = true := beq_iff_eq.mpr c37
                have c37b1 : (((rd_T50 l0 (rd t250 x10_1)).f1) != 11) = false := bne_eq_false_iff_eq.mpr c37
                clear c37
                (first | rw [c37b0] | (simp only [i64_w, i32_w]; rw [c37b0]) | skip)
                have H' := am H
                clear H
                go_wp2
                go_meet
                case rel => exact ⟨_, ((((rd_T50 l0 (rd t250 x10_1)).f1) == 11)), (sq), H', ⟨by have := HK1.out; have := HJ10.out; have := HJ15.out; first | omega | exact Nat.le_refl _⟩, ⟨rq HO_9.out⟩, ⟨bq⟩⟩
               ·rw [if_neg c37] at H
                have c37b0 : (((rd_T50 l0 (rd t250 x10_1)).f1) == 11) = false := beq_eq_false_iff_ne.mpr c37
                have c37b1 : (((rd_T50 l0 (rd t250 x10_1)).f1) != 11) = true := bne_iff_ne.mpr c37
                (first | rw [c37b0] | (simp only [i64_w, i32_w]; rw [c37b0]) | skip)
                have H' := am H
                clear H
                go_wp2
                go_meet
                case rel => exact ⟨_, ((((rd_T50 l0 (rd t250 x10_1)).f1) == 12)), (sq), H', ⟨by have := HK1.out; have := HJ10.out; have := HJ15.out; first | omega | exact Nat.le_refl _⟩, ⟨rq HO_9.out⟩, ⟨bq⟩⟩
              case rest =>
               clear HC36
               try clear c1
               try clear c2
               try clear p2
               try clear q2
               try clear hx2
               try clear c3
               try clear c5
               try clear c6
               try clear p6
               try clear c7
               try clear c7b0
               try clear c8
               try clear c8b0
               try clear c9
               try clear c9b0
               try clear c10
               try clear c10b0
               try clear c13
               try clear c13b0
               try clear c13b1
               try clear c14
               try clear c15
               try clear c17
               try clear c17b0
               try clear c17b1
               try clear c18
               try clear c18b0
               try clear c18b1
               try clear c19
               try clear c20
               try clear c20b0
               try clear c20b1
               try clear c23
               try clear p25
               try clear q25
               try clear hx25
               try clear c26
               try clear c26b0
               try clear c27
               try clear c27b0
               try clear c28
               try clear c28b0
               try clear c31
               try clear c37
               try clear c37b0
               try clear c37b1
               try clear hx253_0
               try clear hx254_0
               try clear hx254_1
               try clear hx254_2
               try clear hx254_3
               try clear hx259_0
               try clear p2
               try clear p25
               try clear p253
               try clear p254
               try clear p259
               try clear p6
               try clear q2
               try clear q25
               try clear q253
               try clear q254
               try clear q259
               obtain ⟨kq, x75_35, rfl, HA, HJ35, HO_9, HB⟩ := hcut
               cases kq with
               | zero => exact absurd HA.out (by simp [impl_blockOk.j4])
               | succ kj35 =>
                have H := HA.out
                clear HA
                simp only [impl_blockOk.j4] at H
                by_cases c38 : x75_35 = true
                ·subst c38
                 have H1 : ((impl_endOf.f kj35 l0 (rd t250 x10_1)).bind fun t262 => (if a3 = true then ((impl_blockOk.f kj35 l0 (wrap64 ((rd t250 x10_1) + 1)) t262 true).bind fun t263 => (if t263 = true then (impl_blockOk.l0 kj35 l0 a3 t250 (wrap64 (x10_1 + 1))) else (some false))) else ((impl_blockOk.f kj35 l0 (wrap64 ((rd t250 x10_1) + 1)) t262 (((rd_T50 l0 (rd t250 x10_1)).f1) == 12)).bind fun t264 => (if t264 = true then (impl_blockOk.l0 kj35 l0 a3 t250 (wrap64 (x10_1 + 1))) else (some false))))) = some r := by rw [if_pos rfl] at H; exact H
                 clear H
                 have H := H1
                 clear H1
                 replace H := Option.bind_eq_some_iff.mp H
                 obtain ⟨t262, A390, H⟩ := H
                 replace H : (if a3 = true then ((impl_blockOk.f kj35 l0 (wrap64 ((rd t250 x10_1) + 1)) t262 true).bind fun t263 => (if t263 = true then (impl_blockOk.l0 kj35 l0 a3 t250 (wrap64 (x10_1 + 1))) else (some false))) else ((impl_blockOk.f kj35 l0 (wrap64 ((rd t250 x10_1) + 1)) t262 (((rd_T50 l0 (rd t250 x10_1)).f1) == 12)).bind fun t264 => (if t264 = true then (impl_blockOk.l0 kj35 l0 a3 t250 (wrap64 (x10_1 + 1))) else (some false)))) = some r := H
                 have A39 := am A390
                 clear A390
                 by_cases c40 : a3 = true
                 ·subst c40
                  have H1 : ((impl_blockOk.f kj35 l0 (wrap64 ((rd t250 x10_1) + 1)) t262 true).bind fun t263 => (if t263 = true then (impl_blockOk.l0 kj35 l0 true t250 (wrap64 (x10_1 + 1))) else (some false))) = some r := by rw [if_pos rfl] at H; exact H
                  clear H
                  have H := H1
                  clear H1
                  replace H := Option.bind_eq_some_iff.mp H
                  obtain ⟨t263, A410, H⟩ := H
                  replace H : (if t263 = true then (impl_blockOk.l0 kj35 l0 true t250 (wrap64 (x10_1 + 1))) else (some false)) = some r := H
                  have A41 := am A410
                  clear A410
                  by_cases c42 : t263 = true
                  ·subst c42
                   have H1 : (impl_blockOk.l0 kj35 l0 true t250 (wrap64 (x10_1 + 1))) = some r := by rw [if_pos rfl] at H; exact H
                   clear H
                   have H := H1
                   clear H1
                   have H' := am H
                   clear H
                   go_wp2_with (first | ((with_reducible refine gate_callee (f := 69) rfl ?_); refine gL (some 83) Try.func69 #[.slice (some ad254) l0.length c0, .int .i64 (rd t250 x10_1)] ?_; (with_reducible refine (impl_endOf.calls kj35 _ _ l0 (rd t250 x10_1) t262 _ ?side1 ?side2 A39.out).mono ?_); (case side1 => exact cq (Kd.C_below HR0.out HB.out)); (case side2 => exact HC0.out); rintro e w' ⟨rfl, ⟨nd, rfl⟩⟩; refine ⟨_, rfl, ?_⟩) | ((with_reducible refine gate_callee (f := 52) rfl ?_); refine gL (some 89) Try.func52 #[.slice (some ad254) l0.length c0, .int .i64 (wrap64 ((rd t250 x10_1) + 1)), .int .i64 t262, .bool true] ?_; (with_reducible refine (ih kj35 (by have := HK1.out; have := HJ10.out; have := HJ15.out; have := HJ35.out; omega) _ _ l0 (wrap64 ((rd t250 x10_1) + 1)) t262 true true _ ?side1 ?side2 A41.out).mono ?_); (case side1 => exact cq (Kd.C_below HR0.out (bq))); (case side2 => exact HC0.out); rintro e w43 ⟨rfl, hb⟩; refine ⟨_, rfl, ?_⟩; replace HO_9 := am (Kd.R_below (rq HO_9.out) hb); replace HB := am (below_step (bq) hb); (try clear hb); (try clear hb2); (try clear hk); (try clear hi)))
                   go_roundg kj35
                   case measure => have := HK1.out; have := HJ10.out; have := HJ15.out; have := HJ35.out; omega
                   case rel => exact ⟨(wrap64 (x10_1 + 1)), (sq), H', ⟨by have := HK1.out; have := HJ10.out; have := HJ15.out; have := HJ35.out; omega⟩, ⟨rq HO_9.out⟩, ⟨bq⟩⟩
                  ·replace c42 := Bool.eq_false_iff.mpr c42
                   subst c42
                   have H1 : (some false) = some r := by rw [if_neg (show ¬ (false = true) by decide)] at H; exact H
                   clear H
                   have H := H1
                   clear H1
                   obtain rfl := Option.some.inj H
                   go_wp2_with (first | ((with_reducible refine gate_callee (f := 69) rfl ?_); refine gL (some 83) Try.func69 #[.slice (some ad254) l0.length c0, .int .i64 (rd t250 x10_1)] ?_; (with_reducible refine (impl_endOf.calls kj35 _ _ l0 (rd t250 x10_1) t262 _ ?side1 ?side2 A39.out).mono ?_); (case side1 => exact cq (Kd.C_below HR0.out HB.out)); (case side2 => exact HC0.out); rintro e w' ⟨rfl, ⟨nd, rfl⟩⟩; refine ⟨_, rfl, ?_⟩) | ((with_reducible refine gate_callee (f := 52) rfl ?_); refine gL (some 89) Try.func52 #[.slice (some ad254) l0.length c0, .int .i64 (wrap64 ((rd t250 x10_1) + 1)), .int .i64 t262, .bool true] ?_; (with_reducible refine (ih kj35 (by have := HK1.out; have := HJ10.out; have := HJ15.out; have := HJ35.out; omega) _ _ l0 (wrap64 ((rd t250 x10_1) + 1)) t262 true false _ ?side1 ?side2 A41.out).mono ?_); (case side1 => exact cq (Kd.C_below HR0.out (bq))); (case side2 => exact HC0.out); rintro e w44 ⟨rfl, hb⟩; refine ⟨_, rfl, ?_⟩; replace HO_9 := am (Kd.R_below (rq HO_9.out) hb); replace HB := am (below_step (bq) hb); (try clear hb); (try clear hb2); (try clear hk); (try clear hi)))
                   go_ret
                   exact ⟨Y1, bq⟩
                 ·replace c40 := Bool.eq_false_iff.mpr c40
                  subst c40
                  have H1 : ((impl_blockOk.f kj35 l0 (wrap64 ((rd t250 x10_1) + 1)) t262 (((rd_T50 l0 (rd t250 x10_1)).f1) == 12)).bind fun t264 => (if t264 = true then (impl_blockOk.l0 kj35 l0 false t250 (wrap64 (x10_1 + 1))) else (some false))) = some r := by rw [if_neg (show ¬ (false = true) by decide)] at H; exact H
                  clear H
                  have H := H1
                  clear H1
                  replace H := Option.bind_eq_some_iff.mp H
                  obtain ⟨t264, A450, H⟩ := H
                  replace H : (if t264 = true then (impl_blockOk.l0 kj35 l0 false t250 (wrap64 (x10_1 + 1))) else (some false)) = some r := H
                  have A45 := am A450
                  clear A450
                  by_cases c46 : t264 = true
                  ·subst c46
                   have H1 : (impl_blockOk.l0 kj35 l0 false t250 (wrap64 (x10_1 + 1))) = some r := by rw [if_pos rfl] at H; exact H
                   clear H
                   have H := H1
                   clear H1
                   have H' := am H
                   clear H
                   go_wp2_with (first | ((with_reducible refine gate_callee (f := 69) rfl ?_); refine gL (some 83) Try.func69 #[.slice (some ad254) l0.length c0, .int .i64 (rd t250 x10_1)] ?_; (with_reducible refine (impl_endOf.calls kj35 _ _ l0 (rd t250 x10_1) t262 _ ?side1 ?side2 A39.out).mono ?_); (case side1 => exact cq (Kd.C_below HR0.out HB.out)); (case side2 => exact HC0.out); rintro e w' ⟨rfl, ⟨nd, rfl⟩⟩; refine ⟨_, rfl, ?_⟩) | ((with_reducible refine gate_callee (f := 52) rfl ?_); refine gL (some 89) Try.func52 #[.slice (some ad254) l0.length c0, .int .i64 (wrap64 ((rd t250 x10_1) + 1)), .int .i64 t262, .bool (((rd_T50 l0 (rd t250 x10_1)).f1) == 12)] ?_; (with_reducible refine (ih kj35 (by have := HK1.out; have := HJ10.out; have := HJ15.out; have := HJ35.out; omega) _ _ l0 (wrap64 ((rd t250 x10_1) + 1)) t262 (((rd_T50 l0 (rd t250 x10_1)).f1) == 12) true _ ?side1 ?side2 A45.out).mono ?_); (case side1 => exact cq (Kd.C_below HR0.out (bq))); (case side2 => exact HC0.out); rintro e w47 ⟨rfl, hb⟩; refine ⟨_, rfl, ?_⟩; replace HO_9 := am (Kd.R_below (rq HO_9.out) hb); replace HB := am (below_step (bq) hb); (try clear hb); (try clear hb2); (try clear hk); (try clear hi)))
                   go_roundg kj35
                   case measure => have := HK1.out; have := HJ10.out; have := HJ15.out; have := HJ35.out; omega
                   case rel => exact ⟨(wrap64 (x10_1 + 1)), (sq), H', ⟨by have := HK1.out; have := HJ10.out; have := HJ15.out; have := HJ35.out; omega⟩, ⟨rq HO_9.out⟩, ⟨bq⟩⟩
                  ·replace c46 := Bool.eq_false_iff.mpr c46
                   subst c46
                   have H1 : (some false) = some r := by rw [if_neg (show ¬ (false = true) by decide)] at H; exact H
                   clear H
                   have H := H1
                   clear H1
                   obtain rfl := Option.some.inj H
                   go_wp2_with (first | ((with_reducible refine gate_callee (f := 69) rfl ?_); refine gL (some 83) Try.func69 #[.slice (some ad254) l0.length c0, .int .i64 (rd t250 x10_1)] ?_; (with_reducible refine (impl_endOf.calls kj35 _ _ l0 (rd t250 x10_1) t262 _ ?side1 ?side2 A39.out).mono ?_); (case side1 => exact cq (Kd.C_below HR0.out HB.out)); (case side2 => exact HC0.out); rintro e w' ⟨rfl, ⟨nd, rfl⟩⟩; refine ⟨_, rfl, ?_⟩) | ((with_reducible refine gate_callee (f := 52) rfl ?_); refine gL (some 89) Try.func52 #[.slice (some ad254) l0.length c0, .int .i64 (wrap64 ((rd t250 x10_1) + 1)), .int .i64 t262, .bool (((rd_T50 l0 (rd t250 x10_1)).f1) == 12)] ?_; (with_reducible refine (ih kj35 (by have := HK1.out; have := HJ10.out; have := HJ15.out; have := HJ35.out; omega) _ _ l0 (wrap64 ((rd t250 x10_1) + 1)) t262 (((rd_T50 l0 (rd t250 x10_1)).f1) == 12) false _ ?side1 ?side2 A45.out).mono ?_); (case side1 => exact cq (Kd.C_below HR0.out (bq))); (case side2 => exact HC0.out); rintro e w48 ⟨rfl, hb⟩; refine ⟨_, rfl, ?_⟩; replace HO_9 := am (Kd.R_below (rq HO_9.out) hb); replace HB := am (below_step (bq) hb); (try clear hb); (try clear hb2); (try clear hk); (try clear hi)))
                   go_ret
                   exact ⟨Y1, bq⟩
                ·replace c38 := Bool.eq_false_iff.mpr c38
                 subst c38
                 have H1 : (impl_blockOk.l0 kj35 l0 a3 t250 (wrap64 (x10_1 + 1))) = some r := by rw [if_neg (show ¬ (false = true) by decide)] at H; exact H
                 clear H
                 have H := H1
                 clear H1
                 have H' := am H
                 clear H
                 go_wp2
                 go_roundg kj35
                 case measure => have := HK1.out; have := HJ10.out; have := HJ15.out; have := HJ35.out; omega
                 case rel => exact ⟨(wrap64 (x10_1 + 1)), (sq), H', ⟨by have := HK1.out; have := HJ10.out; have := HJ15.out; have := HJ35.out; omega⟩, ⟨rq HO_9.out⟩, ⟨bq⟩⟩
      ·rw [if_neg c10] at H
       exact absurd H (by simp)
     ·rw [if_neg c9] at H
      exact absurd H (by simp)
    ·rw [if_neg c8] at H
     exact absurd H (by simp)
   ·rw [if_neg c7] at H
    have c7b0 : decide (x10_1 < (t250.length : Int)) = false := decide_eq_false c7
    clear c7
    obtain rfl := Option.some.inj H
    obtain ⟨Ao49, co49, eo49⟩ := Kd.R_slice HO_9.out
    subst eo49
    go_wp2
    go_ret
    exact ⟨Y1, bq⟩
end Go.Proofs.Ytgbigghiegiejaa.P
end
