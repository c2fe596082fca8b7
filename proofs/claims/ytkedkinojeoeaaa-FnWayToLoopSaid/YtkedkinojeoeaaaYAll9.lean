/- One part of the proofs on this program: functions of the program as plain functions, that the code comes to them, and facts on them. -/
import Derived.Test.YtkedkinojeoeaaaYAll1
import Derived.Test.YtkedkinojeoeaaaYAll6
import Derived.Test.YtkedkinojeoeaaaYAll7
import Derived.Test.YtkedkinojeoeaaaYAll8
import Derived.Test.YtkedkinojeoeaaaYWAuto
section
namespace Go.Proofs.Ytkedkinojeoeaaa.P
open Go.RowKit Go.Proofs.YtkedkinojeoeaaaW.PrintWords Go.Proofs.YtkedkinojeoeaaaW.PrintLast Go.Proofs.YtkedkinojeoeaaaW.PrintMore
attribute [local go_sem] jna jla jza jya jda jca jma jka jk
set_option linter.unusedVariables false
set_option linter.unusedSimpArgs false
mutual
def jF.j0 : Nat → List (S36) → Int → List Int → Bool → List (S75) → Option (Bool)
 | 0, _, _, _, _, _ => none
 | k + 1, x4, x5, x6, x34, x735000 => if x34 = true then ((jGa.f k x735000 x4 x5).bind fun t742 => ((jX.f k x6 t742).bind fun t745 => (some t745))) else ((jQb.f k x735000 x4 x5).bind fun t746 => ((jNb.f k x735000 x4 x5).bind fun t749 => (jF.l0 k x4 x6 t746 t749 0)))
def jF.l0 : Nat → List (S36) → List Int → List Int → Int → Int → Option (Bool)
 | 0, _, _, _, _, _ => none
 | k + 1, x4, x6, x7, x8, x9 => if x9 < (x6.length : Int) then (if 0 ≤ x9 then (if 0 ≤ (rd x6 x9) then (if (rd x6 x9) < (x4.length : Int) then (if 0 ≤ x8 then (if x8 < (x4.length : Int) then (if ((je x4 (rd x6 x9)).f0) ≤ ((je x4 x8).f0) then (some false) else (jF.l0 k x4 x6 x7 x8 (wrap64 (x9 + 1)))) else (none)) else (none)) else (none)) else (none)) else (none)) else (if (x6.length : Int) ≤ (x7.length : Int) then (if 0 ≤ (x6.length : Int) then ((jX.f k (x7.take ((x6.length : Int) : Int).toNat) x6).bind fun t754 => (some t754)) else (none)) else (some false))
end
def jF.f (k : Nat) (l0 : List Int) : Option (Bool) := if (l0.length : Int) > 1048576 then (some true) else ((jeb.f k l0).bind fun bt727 => ((jra.f k bt727.1 bt727.2.1 bt727.2.2).bind fun t735 => ((jGa.f k bt727.1 bt727.2.1 bt727.2.2).bind fun t738 => ((jX.f k t735 t738).bind fun t741 => (if t741 = true then (jF.j0 k bt727.2.1 bt727.2.2 t735 ((t735.length : Int) == 0) bt727.1) else (jF.j0 k bt727.2.1 bt727.2.2 t735 true bt727.1))))))
set_option maxHeartbeats 8000000 in
set_option maxRecDepth 100000 in
theorem jF.calls (k : Nat) (A0 : Option Addr) (c0 : Nat) (l0 : List Int) (r : Bool) (w : World) (hr0 : Kd.C (Kd.int .u8) w A0 l0.length l0) (hc0 : l0.length ≤ c0) (hT : r = true) (h : jF.f k l0 = some r) :
  Calls Try.prog 4 #[.slice A0 l0.length c0] w fun e w' => e = .returned (.bool r) ∧ Below w.heap.size w w' := by
 have hu25 := Try.underlying25
 have HR0 := am hr0
 have HC0 := am hc0
 clear hr0 hc0
 have HB := am (Below.refl w.heap.size w)
 have H : (if (l0.length : Int) > 1048576 then (some true) else ((jeb.f k l0).bind fun bt727 => ((jra.f k bt727.1 bt727.2.1 bt727.2.2).bind fun t735 => ((jGa.f k bt727.1 bt727.2.1 bt727.2.2).bind fun t738 => ((jX.f k t735 t738).bind fun t741 => (if t741 = true then (jF.j0 k bt727.2.1 bt727.2.2 t735 ((t735.length : Int) == 0) bt727.1) else (jF.j0 k bt727.2.1 bt727.2.2 t735 true bt727.1))))))) = some r := h
 clear h
 by_cases c2 : (l0.length : Int) > 1048576
 ·rw [if_pos c2] at H
  have c2b0 : decide (1048576 < (l0.length : Int)) = true := decide_eq_true c2
  have c2b1 : decide (1048576 < l0.length) = true := decide_eq_true (by omega)
  clear c2
  obtain rfl := Option.some.inj H
  go_enter Try.func4, Try.ntmps4
  go_wp2
  repeat (go_quiet (fail); try go_wp2)
  go_ret
  exact ⟨Y0, bq⟩
 ·rw [if_neg c2] at H
  have c2b0 : decide (1048576 < (l0.length : Int)) = false := decide_eq_false c2
  have c2b1 : decide (1048576 < l0.length) = false := decide_eq_false (by omega)
  clear c2
  replace H := Option.bind_eq_some_iff.mp H
  obtain ⟨⟨t727, t730, t733⟩, A30, H⟩ := H
  replace H : ((jra.f k t727 t730 t733).bind fun t735 => ((jGa.f k t727 t730 t733).bind fun t738 => ((jX.f k t735 t738).bind fun t741 => (if t741 = true then (jF.j0 k t730 t733 t735 ((t735.length : Int) == 0) t727) else (jF.j0 k t730 t733 t735 true t727))))) = some r := H
  have A3 := am A30
  clear A30
  replace H := Option.bind_eq_some_iff.mp H
  obtain ⟨t735, A40, H⟩ := H
  replace H : ((jGa.f k t727 t730 t733).bind fun t738 => ((jX.f k t735 t738).bind fun t741 => (if t741 = true then (jF.j0 k t730 t733 t735 ((t735.length : Int) == 0) t727) else (jF.j0 k t730 t733 t735 true t727)))) = some r := H
  have A4 := am A40
  clear A40
  have HC5 := am H
  clear H
  go_enter Try.func4, Try.ntmps4
  go_upto_region 5 with (first | (go_at_call 14; (with_reducible refine (jeb.calls k _ _ l0 t727 t730 t733 _ ?side1 ?side2 A3.out).mono ?_); (case side1 => exact Y32); (case side2 => exact HC0.out); rintro e w6 ⟨v728, v731, rfl, ho0, ho1, hb⟩; have HO729 := am (Kd.jR ho0 (jK (bq))); have HO732 := am (Kd.Q_lower ho1 (jK (bq))); replace HB := am (jf (bq) hb); (try clear hb); (try clear hb2); (try clear hk); (try clear hi); (try clear ho0); (try clear ho1)) | ((with_reducible refine jI (N := 3) rfl ?_); (try (refine jgc (by rfl) ?_; dsimp only)); refine jkc ?hg (N := 3) ?hd (cs := #[.slice none 0 0]) (t := 25) ?hr ?_; (case hd => rfl); (case hg => rfl); (case hr => exact Y5); intro gb734 hg w7 hbox hb; have BK734 := am (hbox); have GW734 := am ((Y4 : w.heap.size ≤ gb734)); have GE734 := am ((Y4 : w.heap.size ≤ gb734)); replace HO729 := am (Kd.jfa (rq HO729.out) hb); replace HO732 := am (Kd.jBb (Y50) hb); replace HB := am (jf (bq) hb); clear hb hbox hg; obtain ⟨Ao8, co8, eo8⟩ := Kd.jY HO729.out; subst eo8; have hcz9_0 := bc0 BK734.out; have hfz9_0 := ja BK734.out 0; obtain ⟨Ao10, co10, eo10, _⟩ := Kd.Q_slice HO732.out; subst eo10) | (go_at_call 15; (with_reducible refine (jra.calls k _ _ t727 _ _ t730 t733 t735 _ ?side1 ?side2 ?side3 ?side4 A4.out).mono ?_); (case side1 => refine (Kd.jm (e := 75) (base := w.heap.size) (ok := fun k_ => True) (n := t727.length) (c := co8) ?_).2.2; exact (Y77)); (case side2 => exact (Kd.jm HO729.out).2.1); (case side3 => refine (Kd.jLa (e := 36) (base := w.heap.size) (ok := fun k_ => True) (n := t730.length) (c := co10) ?_).2.2; exact (Y78)); (case side4 => exact (Kd.jLa HO732.out).2.1); rintro e w11 ⟨v736, rfl, ho0, hb⟩; have HO737 := am (Kd.jR ho0 (jK (Y11))); replace HO729 := am (Kd.jfa (Y77) hb); replace HO732 := am (Kd.jBb (Y78) hb); replace BK734 := am (ji (g := gb734) (o := .cells #[.slice Ao8 t727.length co8] 25 (0, 0)) (Y115) hb); replace HB := am (jf (Y11) hb); (try clear hb); (try clear hb2); (try clear hk); (try clear hi); (try clear ho0)))
  repeat (go_quiet (first | (go_at_call 14; (with_reducible refine (jeb.calls k _ _ l0 t727 t730 t733 _ ?side1 ?side2 A3.out).mono ?_); (case side1 => exact Y32); (case side2 => exact HC0.out); rintro e w6 ⟨v728, v731, rfl, ho0, ho1, hb⟩; have HO729 := am (Kd.jR ho0 (jK (bq))); have HO732 := am (Kd.Q_lower ho1 (jK (bq))); replace HB := am (jf (bq) hb); (try clear hb); (try clear hb2); (try clear hk); (try clear hi); (try clear ho0); (try clear ho1)) | ((with_reducible refine jI (N := 3) rfl ?_); (try (refine jgc (by rfl) ?_; dsimp only)); refine jkc ?hg (N := 3) ?hd (cs := #[.slice none 0 0]) (t := 25) ?hr ?_; (case hd => rfl); (case hg => rfl); (case hr => exact Y5); intro gb734 hg w7 hbox hb; have BK734 := am (hbox); have GW734 := am ((Y4 : w.heap.size ≤ gb734)); have GE734 := am ((Y4 : w.heap.size ≤ gb734)); replace HO729 := am (Kd.jfa (rq HO729.out) hb); replace HO732 := am (Kd.jBb (Y50) hb); replace HB := am (jf (bq) hb); clear hb hbox hg; obtain ⟨Ao8, co8, eo8⟩ := Kd.jY HO729.out; subst eo8; have hcz9_0 := bc0 BK734.out; have hfz9_0 := ja BK734.out 0; obtain ⟨Ao10, co10, eo10, _⟩ := Kd.Q_slice HO732.out; subst eo10) | (go_at_call 15; (with_reducible refine (jra.calls k _ _ t727 _ _ t730 t733 t735 _ ?side1 ?side2 ?side3 ?side4 A4.out).mono ?_); (case side1 => refine (Kd.jm (e := 75) (base := w.heap.size) (ok := fun k_ => True) (n := t727.length) (c := co8) ?_).2.2; exact (Y77)); (case side2 => exact (Kd.jm HO729.out).2.1); (case side3 => refine (Kd.jLa (e := 36) (base := w.heap.size) (ok := fun k_ => True) (n := t730.length) (c := co10) ?_).2.2; exact (Y78)); (case side4 => exact (Kd.jLa HO732.out).2.1); rintro e w11 ⟨v736, rfl, ho0, hb⟩; have HO737 := am (Kd.jR ho0 (jK (Y11))); replace HO729 := am (Kd.jfa (Y77) hb); replace HO732 := am (Kd.jBb (Y78) hb); replace BK734 := am (ji (g := gb734) (o := .cells #[.slice Ao8 t727.length co8] 25 (0, 0)) (Y115) hb); replace HB := am (jf (Y11) hb); (try clear hb); (try clear hb2); (try clear hk); (try clear hi); (try clear ho0))); go_upto_region 5 with (first | (go_at_call 14; (with_reducible refine (jeb.calls k _ _ l0 t727 t730 t733 _ ?side1 ?side2 A3.out).mono ?_); (case side1 => exact Y32); (case side2 => exact HC0.out); rintro e w6 ⟨v728, v731, rfl, ho0, ho1, hb⟩; have HO729 := am (Kd.jR ho0 (jK (bq))); have HO732 := am (Kd.Q_lower ho1 (jK (bq))); replace HB := am (jf (bq) hb); (try clear hb); (try clear hb2); (try clear hk); (try clear hi); (try clear ho0); (try clear ho1)) | ((with_reducible refine jI (N := 3) rfl ?_); (try (refine jgc (by rfl) ?_; dsimp only)); refine jkc ?hg (N := 3) ?hd (cs := #[.slice none 0 0]) (t := 25) ?hr ?_; (case hd => rfl); (case hg => rfl); (case hr => exact Y5); intro gb734 hg w7 hbox hb; have BK734 := am (hbox); have GW734 := am ((Y4 : w.heap.size ≤ gb734)); have GE734 := am ((Y4 : w.heap.size ≤ gb734)); replace HO729 := am (Kd.jfa (rq HO729.out) hb); replace HO732 := am (Kd.jBb (Y50) hb); replace HB := am (jf (bq) hb); clear hb hbox hg; obtain ⟨Ao8, co8, eo8⟩ := Kd.jY HO729.out; subst eo8; have hcz9_0 := bc0 BK734.out; have hfz9_0 := ja BK734.out 0; obtain ⟨Ao10, co10, eo10, _⟩ := Kd.Q_slice HO732.out; subst eo10) | (go_at_call 15; (with_reducible refine (jra.calls k _ _ t727 _ _ t730 t733 t735 _ ?side1 ?side2 ?side3 ?side4 A4.out).mono ?_); (case side1 => refine (Kd.jm (e := 75) (base := w.heap.size) (ok := fun k_ => True) (n := t727.length) (c := co8) ?_).2.2; exact (Y77)); (case side2 => exact (Kd.jm HO729.out).2.1); (case side3 => refine (Kd.jLa (e := 36) (base := w.heap.size) (ok := fun k_ => True) (n := t730.length) (c := co10) ?_).2.2; exact (Y78)); (case side4 => exact (Kd.jLa HO732.out).2.1); rintro e w11 ⟨v736, rfl, ho0, hb⟩; have HO737 := am (Kd.jR ho0 (jK (Y11))); replace HO729 := am (Kd.jfa (Y77) hb); replace HO732 := am (Kd.jBb (Y78) hb); replace BK734 := am (ji (g := gb734) (o := .cells #[.slice Ao8 t727.length co8] 25 (0, 0)) (Y115) hb); replace HB := am (jf (Y11) hb); (try clear hb); (try clear hb2); (try clear hk); (try clear hi); (try clear ho0))))
  (try simp only [Act.put, List.setIfInBounds_toArray, List.set_cons_zero, List.set_cons_succ])
  go_cut [34] (fun v34 wc => ∃ (kq : Nat) (x34_4 : Bool), v34 = .bool x34_4 ∧ jo (jF.j0 kq t730 t733 t735 x34_4 t727 = some r) ∧ jo (kq ≤ k) ∧ jo (Kd.Q k36 36 wc w.heap.size (fun _ => True) (.slice Ao10 t730.length co10) t730) ∧ jo (Kd.R (Kd.int .i64) 3 wc w.heap.size (fun _ => True) v736 t735) ∧ jo (Kd.R k75 75 wc w.heap.size (fun _ => True) (.slice Ao8 t727.length co8) t727) ∧ jo (wc.heap[gb734]? = some (.cells #[(.slice Ao8 t727.length co8)] 25 (0, 0))) ∧ jo (Below w.heap.size w wc))
  case first =>
   have H := HC5.out
   clear HC5
   replace H := Option.bind_eq_some_iff.mp H
   obtain ⟨t738, A120, H⟩ := H
   replace H : ((jX.f k t735 t738).bind fun t741 => (if t741 = true then (jF.j0 k t730 t733 t735 ((t735.length : Int) == 0) t727) else (jF.j0 k t730 t733 t735 true t727))) = some r := H
   have A12 := am A120
   clear A120
   replace H := Option.bind_eq_some_iff.mp H
   obtain ⟨t741, A130, H⟩ := H
   replace H : (if t741 = true then (jF.j0 k t730 t733 t735 ((t735.length : Int) == 0) t727) else (jF.j0 k t730 t733 t735 true t727)) = some r := H
   have A13 := am A130
   clear A130
   by_cases c14 : t741 = true
   ·subst c14
    have H1 : (jF.j0 k t730 t733 t735 ((t735.length : Int) == 0) t727) = some r := by rw [if_pos rfl] at H; exact H
    clear H
    have H := H1
    clear H1
    have H' := am H
    clear H
    have hcz15_0 := bc0 BK734.out
    have hfz15_0 := ja BK734.out 0
    go_wp2_with (first | (go_at_call 16; (with_reducible refine (jGa.calls k _ _ t727 _ _ t730 t733 t738 _ ?side1 ?side2 ?side3 ?side4 A12.out).mono ?_); (case side1 => exact cq (Kd.jm HO729.out).2.2); (case side2 => exact (Kd.jm HO729.out).2.1); (case side3 => exact cq (Kd.jLa HO732.out).2.2); (case side4 => exact (Kd.jLa HO732.out).2.1); rintro e w16 ⟨v739, rfl, ho0, hb⟩; have HO740 := am (Kd.jR (Kd.jLb ho0 (Kd.R_lt (rq HO737.out))) (jK (Y11))); replace HO729 := am (Kd.jfa (rq HO729.out) hb); replace HO732 := am (Kd.jBb (Y50) hb); replace HO737 := am (Kd.jyb (rq HO737.out) (Kd.jMb ho0) hb); replace BK734 := am (ji (g := gb734) (o := .cells #[.slice Ao8 t727.length co8] 25 (0, 0)) (kq BK734.out) hb); replace HB := am (jf (Y11) hb); (try clear hb); (try clear hb2); (try clear hk); (try clear hi); (try clear ho0); obtain ⟨Ao17, co17, eo17⟩ := Kd.jY HO737.out; subst eo17; obtain ⟨Ao18, co18, eo18⟩ := Kd.jY HO740.out; subst eo18) | (go_at_call 10; (with_reducible refine (jX.calls k _ _ t735 _ _ t738 true _ ?side1 ?side2 ?side3 ?side4 A13.out).mono ?_); (case side1 => exact cq (Kd.jm HO737.out).2.2); (case side2 => exact (Kd.jm HO737.out).2.1); (case side3 => exact cq (Kd.jm HO740.out).2.2); (case side4 => exact (Kd.jm HO740.out).2.1); rintro e w' ⟨rfl, ⟨nd, rfl⟩⟩; (try first | exact ⟨rfl, _, World.drewN_drewN _ _ _⟩ | exact ⟨rfl, _, Eq.trans (World.drewN_drewN _ _ _) (congrArg (World.drewN _) (Nat.add_assoc _ _ _))⟩)))
    repeat (go_quiet (first | (go_at_call 16; (with_reducible refine (jGa.calls k _ _ t727 _ _ t730 t733 t738 _ ?side1 ?side2 ?side3 ?side4 A12.out).mono ?_); (case side1 => exact cq (Kd.jm HO729.out).2.2); (case side2 => exact (Kd.jm HO729.out).2.1); (case side3 => exact cq (Kd.jLa HO732.out).2.2); (case side4 => exact (Kd.jLa HO732.out).2.1); rintro e w16 ⟨v739, rfl, ho0, hb⟩; have HO740 := am (Kd.jR (Kd.jLb ho0 (Kd.R_lt (rq HO737.out))) (jK (Y11))); replace HO729 := am (Kd.jfa (rq HO729.out) hb); replace HO732 := am (Kd.jBb (Y50) hb); replace HO737 := am (Kd.jyb (rq HO737.out) (Kd.jMb ho0) hb); replace BK734 := am (ji (g := gb734) (o := .cells #[.slice Ao8 t727.length co8] 25 (0, 0)) (kq BK734.out) hb); replace HB := am (jf (Y11) hb); (try clear hb); (try clear hb2); (try clear hk); (try clear hi); (try clear ho0); obtain ⟨Ao17, co17, eo17⟩ := Kd.jY HO737.out; subst eo17; obtain ⟨Ao18, co18, eo18⟩ := Kd.jY HO740.out; subst eo18) | (go_at_call 10; (with_reducible refine (jX.calls k _ _ t735 _ _ t738 true _ ?side1 ?side2 ?side3 ?side4 A13.out).mono ?_); (case side1 => exact cq (Kd.jm HO737.out).2.2); (case side2 => exact (Kd.jm HO737.out).2.1); (case side3 => exact cq (Kd.jm HO740.out).2.2); (case side4 => exact (Kd.jm HO740.out).2.1); rintro e w' ⟨rfl, ⟨nd, rfl⟩⟩; (try first | exact ⟨rfl, _, World.drewN_drewN _ _ _⟩ | exact ⟨rfl, _, Eq.trans (World.drewN_drewN _ _ _) (congrArg (World.drewN _) (Nat.add_assoc _ _ _))⟩))); try go_wp2_with (first | (go_at_call 16; (with_reducible refine (jGa.calls k _ _ t727 _ _ t730 t733 t738 _ ?side1 ?side2 ?side3 ?side4 A12.out).mono ?_); (case side1 => exact cq (Kd.jm HO729.out).2.2); (case side2 => exact (Kd.jm HO729.out).2.1); (case side3 => exact cq (Kd.jLa HO732.out).2.2); (case side4 => exact (Kd.jLa HO732.out).2.1); rintro e w16 ⟨v739, rfl, ho0, hb⟩; have HO740 := am (Kd.jR (Kd.jLb ho0 (Kd.R_lt (rq HO737.out))) (jK (Y11))); replace HO729 := am (Kd.jfa (rq HO729.out) hb); replace HO732 := am (Kd.jBb (Y50) hb); replace HO737 := am (Kd.jyb (rq HO737.out) (Kd.jMb ho0) hb); replace BK734 := am (ji (g := gb734) (o := .cells #[.slice Ao8 t727.length co8] 25 (0, 0)) (kq BK734.out) hb); replace HB := am (jf (Y11) hb); (try clear hb); (try clear hb2); (try clear hk); (try clear hi); (try clear ho0); obtain ⟨Ao17, co17, eo17⟩ := Kd.jY HO737.out; subst eo17; obtain ⟨Ao18, co18, eo18⟩ := Kd.jY HO740.out; subst eo18) | (go_at_call 10; (with_reducible refine (jX.calls k _ _ t735 _ _ t738 true _ ?side1 ?side2 ?side3 ?side4 A13.out).mono ?_); (case side1 => exact cq (Kd.jm HO737.out).2.2); (case side2 => exact (Kd.jm HO737.out).2.1); (case side3 => exact cq (Kd.jm HO740.out).2.2); (case side4 => exact (Kd.jm HO740.out).2.1); rintro e w' ⟨rfl, ⟨nd, rfl⟩⟩; (try first | exact ⟨rfl, _, World.drewN_drewN _ _ _⟩ | exact ⟨rfl, _, Eq.trans (World.drewN_drewN _ _ _) (congrArg (World.drewN _) (Nat.add_assoc _ _ _))⟩))))
    go_meet
    case rel => exact ⟨_, (((t735.length : Int) == 0)), (sq), H', ⟨Y36⟩, ⟨by (with_reducible repeat (first | apply Kd.jmc | apply Kd.jlc | apply Kd.juc)); exact HO732.out⟩, ⟨by (with_reducible repeat (first | apply Kd.jW | apply Kd.jV | apply Kd.jha)); exact Kd.jA HO737.out (fun _ hk => trivial)⟩, ⟨rq HO729.out⟩, ⟨kq BK734.out⟩, ⟨Y11⟩⟩
   ·replace c14 := Bool.eq_false_iff.mpr c14
    subst c14
    have H1 : (jF.j0 k t730 t733 t735 true t727) = some r := by rw [if_neg (show ¬ (false = true) by decide)] at H; exact H
    clear H
    have H := H1
    clear H1
    have H' := am H
    clear H
    have hcz19_0 := bc0 BK734.out
    have hfz19_0 := ja BK734.out 0
    go_wp2_with (first | (go_at_call 16; (with_reducible refine (jGa.calls k _ _ t727 _ _ t730 t733 t738 _ ?side1 ?side2 ?side3 ?side4 A12.out).mono ?_); (case side1 => exact cq (Kd.jm HO729.out).2.2); (case side2 => exact (Kd.jm HO729.out).2.1); (case side3 => exact cq (Kd.jLa HO732.out).2.2); (case side4 => exact (Kd.jLa HO732.out).2.1); rintro e w20 ⟨v739, rfl, ho0, hb⟩; have HO740 := am (Kd.jR (Kd.jLb ho0 (Kd.R_lt (rq HO737.out))) (jK (Y11))); replace HO729 := am (Kd.jfa (rq HO729.out) hb); replace HO732 := am (Kd.jBb (Y50) hb); replace HO737 := am (Kd.jyb (rq HO737.out) (Kd.jMb ho0) hb); replace BK734 := am (ji (g := gb734) (o := .cells #[.slice Ao8 t727.length co8] 25 (0, 0)) (kq BK734.out) hb); replace HB := am (jf (Y11) hb); (try clear hb); (try clear hb2); (try clear hk); (try clear hi); (try clear ho0); obtain ⟨Ao21, co21, eo21⟩ := Kd.jY HO737.out; subst eo21; obtain ⟨Ao22, co22, eo22⟩ := Kd.jY HO740.out; subst eo22) | (go_at_call 10; (with_reducible refine (jX.calls k _ _ t735 _ _ t738 false _ ?side1 ?side2 ?side3 ?side4 A13.out).mono ?_); (case side1 => exact cq (Kd.jm HO737.out).2.2); (case side2 => exact (Kd.jm HO737.out).2.1); (case side3 => exact cq (Kd.jm HO740.out).2.2); (case side4 => exact (Kd.jm HO740.out).2.1); rintro e w' ⟨rfl, ⟨nd, rfl⟩⟩; (try first | exact ⟨rfl, _, World.drewN_drewN _ _ _⟩ | exact ⟨rfl, _, Eq.trans (World.drewN_drewN _ _ _) (congrArg (World.drewN _) (Nat.add_assoc _ _ _))⟩)))
    repeat (go_quiet (first | (go_at_call 16; (with_reducible refine (jGa.calls k _ _ t727 _ _ t730 t733 t738 _ ?side1 ?side2 ?side3 ?side4 A12.out).mono ?_); (case side1 => exact cq (Kd.jm HO729.out).2.2); (case side2 => exact (Kd.jm HO729.out).2.1); (case side3 => exact cq (Kd.jLa HO732.out).2.2); (case side4 => exact (Kd.jLa HO732.out).2.1); rintro e w20 ⟨v739, rfl, ho0, hb⟩; have HO740 := am (Kd.jR (Kd.jLb ho0 (Kd.R_lt (rq HO737.out))) (jK (Y11))); replace HO729 := am (Kd.jfa (rq HO729.out) hb); replace HO732 := am (Kd.jBb (Y50) hb); replace HO737 := am (Kd.jyb (rq HO737.out) (Kd.jMb ho0) hb); replace BK734 := am (ji (g := gb734) (o := .cells #[.slice Ao8 t727.length co8] 25 (0, 0)) (kq BK734.out) hb); replace HB := am (jf (Y11) hb); (try clear hb); (try clear hb2); (try clear hk); (try clear hi); (try clear ho0); obtain ⟨Ao21, co21, eo21⟩ := Kd.jY HO737.out; subst eo21; obtain ⟨Ao22, co22, eo22⟩ := Kd.jY HO740.out; subst eo22) | (go_at_call 10; (with_reducible refine (jX.calls k _ _ t735 _ _ t738 false _ ?side1 ?side2 ?side3 ?side4 A13.out).mono ?_); (case side1 => exact cq (Kd.jm HO737.out).2.2); (case side2 => exact (Kd.jm HO737.out).2.1); (case side3 => exact cq (Kd.jm HO740.out).2.2); (case side4 => exact (Kd.jm HO740.out).2.1); rintro e w' ⟨rfl, ⟨nd, rfl⟩⟩; (try first | exact ⟨rfl, _, World.drewN_drewN _ _ _⟩ | exact ⟨rfl, _, Eq.trans (World.drewN_drewN _ _ _) (congrArg (World.drewN _) (Nat.add_assoc _ _ _))⟩))); try go_wp2_with (first | (go_at_call 16; (with_reducible refine (jGa.calls k _ _ t727 _ _ t730 t733 t738 _ ?side1 ?side2 ?side3 ?side4 A12.out).mono ?_); (case side1 => exact cq (Kd.jm HO729.out).2.2); (case side2 => exact (Kd.jm HO729.out).2.1); (case side3 => exact cq (Kd.jLa HO732.out).2.2); (case side4 => exact (Kd.jLa HO732.out).2.1); rintro e w20 ⟨v739, rfl, ho0, hb⟩; have HO740 := am (Kd.jR (Kd.jLb ho0 (Kd.R_lt (rq HO737.out))) (jK (Y11))); replace HO729 := am (Kd.jfa (rq HO729.out) hb); replace HO732 := am (Kd.jBb (Y50) hb); replace HO737 := am (Kd.jyb (rq HO737.out) (Kd.jMb ho0) hb); replace BK734 := am (ji (g := gb734) (o := .cells #[.slice Ao8 t727.length co8] 25 (0, 0)) (kq BK734.out) hb); replace HB := am (jf (Y11) hb); (try clear hb); (try clear hb2); (try clear hk); (try clear hi); (try clear ho0); obtain ⟨Ao21, co21, eo21⟩ := Kd.jY HO737.out; subst eo21; obtain ⟨Ao22, co22, eo22⟩ := Kd.jY HO740.out; subst eo22) | (go_at_call 10; (with_reducible refine (jX.calls k _ _ t735 _ _ t738 false _ ?side1 ?side2 ?side3 ?side4 A13.out).mono ?_); (case side1 => exact cq (Kd.jm HO737.out).2.2); (case side2 => exact (Kd.jm HO737.out).2.1); (case side3 => exact cq (Kd.jm HO740.out).2.2); (case side4 => exact (Kd.jm HO740.out).2.1); rintro e w' ⟨rfl, ⟨nd, rfl⟩⟩; (try first | exact ⟨rfl, _, World.drewN_drewN _ _ _⟩ | exact ⟨rfl, _, Eq.trans (World.drewN_drewN _ _ _) (congrArg (World.drewN _) (Nat.add_assoc _ _ _))⟩))))
    go_meet
    case rel => exact ⟨_, (true), (sq), H', ⟨Y36⟩, ⟨by (with_reducible repeat (first | apply Kd.jmc | apply Kd.jlc | apply Kd.juc)); exact HO732.out⟩, ⟨by (with_reducible repeat (first | apply Kd.jW | apply Kd.jV | apply Kd.jha)); exact Kd.jA HO737.out (fun _ hk => trivial)⟩, ⟨rq HO729.out⟩, ⟨kq BK734.out⟩, ⟨Y11⟩⟩
  case rest =>
   clear HC5
   try clear c1
   try clear c2
   try clear c2b0
   try clear c2b1
   try clear p2
   try clear c4
   try clear c14
   try clear hcz15_0
   try clear hcz19_0
   try clear hcz9_0
   try clear hfz15_0
   try clear hfz19_0
   try clear hfz9_0
   obtain ⟨kq, x34_4, rfl, HA, HJ4, HO_4, HO_6, HO_735000, BK734, HB⟩ := hcut
   cases kq with
   | zero => exact absurd HA.out (by simp [jF.j0])
   | succ kj4 =>
    have H := HA.out
    clear HA
    simp only [jF.j0] at H
    by_cases c23 : x34_4 = true
    ·subst c23
     have H1 : ((jGa.f kj4 t727 t730 t733).bind fun t742 => ((jX.f kj4 t735 t742).bind fun t745 => (some t745))) = some r := by rw [if_pos rfl] at H; exact H
     clear H
     have H := H1
     clear H1
     replace H := Option.bind_eq_some_iff.mp H
     obtain ⟨t742, A240, H⟩ := H
     replace H : ((jX.f kj4 t735 t742).bind fun t745 => (some t745)) = some r := H
     have A24 := am A240
     clear A240
     replace H := Option.bind_eq_some_iff.mp H
     obtain ⟨t745, A250, H⟩ := H
     replace H : (some t745) = some r := H
     have A25 := am A250
     clear A250
     obtain rfl := Option.some.inj H
     have hcz26_0 := bc0 BK734.out
     have hfz26_0 := ja BK734.out 0
     go_wp2_with (first | (go_at_call 16; (with_reducible refine (jGa.calls kj4 _ _ t727 _ _ t730 t733 t742 _ ?side1 ?side2 ?side3 ?side4 A24.out).mono ?_); (case side1 => exact cq (Kd.jm HO_735000.out).2.2); (case side2 => exact (Kd.jm HO_735000.out).2.1); (case side3 => exact cq (Kd.jLa HO_4.out).2.2); (case side4 => exact (Kd.jLa HO_4.out).2.1); rintro e w27 ⟨v743, rfl, ho0, hb⟩; have HO744 := am (Kd.jR (Kd.jLb ho0 (Kd.R_lt (rq HO_6.out))) (jK (Y11))); replace HO_4 := am (Kd.jBb (Y51) hb); replace HO_6 := am (Kd.jyb (rq HO_6.out) (Kd.jMb ho0) hb); replace HO_735000 := am (Kd.jfa (rq HO_735000.out) hb); replace BK734 := am (ji (g := gb734) (o := .cells #[.slice Ao8 t727.length co8] 25 (0, 0)) (kq BK734.out) hb); replace HB := am (jf (Y11) hb); (try clear hb); (try clear hb2); (try clear hk); (try clear hi); (try clear ho0); obtain ⟨Ao28, co28, eo28⟩ := Kd.jY HO_6.out; subst eo28; obtain ⟨Ao29, co29, eo29⟩ := Kd.jY HO744.out; subst eo29) | (go_at_call 10; (with_reducible refine (jX.calls kj4 _ _ t735 _ _ t742 t745 _ ?side1 ?side2 ?side3 ?side4 A25.out).mono ?_); (case side1 => exact cq (Kd.jm HO_6.out).2.2); (case side2 => exact (Kd.jm HO_6.out).2.1); (case side3 => exact cq (Kd.jm HO744.out).2.2); (case side4 => exact (Kd.jm HO744.out).2.1); rintro e w' ⟨rfl, ⟨nd, rfl⟩⟩; (try first | exact ⟨rfl, _, World.drewN_drewN _ _ _⟩ | exact ⟨rfl, _, Eq.trans (World.drewN_drewN _ _ _) (congrArg (World.drewN _) (Nat.add_assoc _ _ _))⟩)))
     repeat (go_quiet (first | (go_at_call 16; (with_reducible refine (jGa.calls kj4 _ _ t727 _ _ t730 t733 t742 _ ?side1 ?side2 ?side3 ?side4 A24.out).mono ?_); (case side1 => exact cq (Kd.jm HO_735000.out).2.2); (case side2 => exact (Kd.jm HO_735000.out).2.1); (case side3 => exact cq (Kd.jLa HO_4.out).2.2); (case side4 => exact (Kd.jLa HO_4.out).2.1); rintro e w27 ⟨v743, rfl, ho0, hb⟩; have HO744 := am (Kd.jR (Kd.jLb ho0 (Kd.R_lt (rq HO_6.out))) (jK (Y11))); replace HO_4 := am (Kd.jBb (Y51) hb); replace HO_6 := am (Kd.jyb (rq HO_6.out) (Kd.jMb ho0) hb); replace HO_735000 := am (Kd.jfa (rq HO_735000.out) hb); replace BK734 := am (ji (g := gb734) (o := .cells #[.slice Ao8 t727.length co8] 25 (0, 0)) (kq BK734.out) hb); replace HB := am (jf (Y11) hb); (try clear hb); (try clear hb2); (try clear hk); (try clear hi); (try clear ho0); obtain ⟨Ao28, co28, eo28⟩ := Kd.jY HO_6.out; subst eo28; obtain ⟨Ao29, co29, eo29⟩ := Kd.jY HO744.out; subst eo29) | (go_at_call 10; (with_reducible refine (jX.calls kj4 _ _ t735 _ _ t742 t745 _ ?side1 ?side2 ?side3 ?side4 A25.out).mono ?_); (case side1 => exact cq (Kd.jm HO_6.out).2.2); (case side2 => exact (Kd.jm HO_6.out).2.1); (case side3 => exact cq (Kd.jm HO744.out).2.2); (case side4 => exact (Kd.jm HO744.out).2.1); rintro e w' ⟨rfl, ⟨nd, rfl⟩⟩; (try first | exact ⟨rfl, _, World.drewN_drewN _ _ _⟩ | exact ⟨rfl, _, Eq.trans (World.drewN_drewN _ _ _) (congrArg (World.drewN _) (Nat.add_assoc _ _ _))⟩))); try go_wp2_with (first | (go_at_call 16; (with_reducible refine (jGa.calls kj4 _ _ t727 _ _ t730 t733 t742 _ ?side1 ?side2 ?side3 ?side4 A24.out).mono ?_); (case side1 => exact cq (Kd.jm HO_735000.out).2.2); (case side2 => exact (Kd.jm HO_735000.out).2.1); (case side3 => exact cq (Kd.jLa HO_4.out).2.2); (case side4 => exact (Kd.jLa HO_4.out).2.1); rintro e w27 ⟨v743, rfl, ho0, hb⟩; have HO744 := am (Kd.jR (Kd.jLb ho0 (Kd.R_lt (rq HO_6.out))) (jK (Y11))); replace HO_4 := am (Kd.jBb (Y51) hb); replace HO_6 := am (Kd.jyb (rq HO_6.out) (Kd.jMb ho0) hb); replace HO_735000 := am (Kd.jfa (rq HO_735000.out) hb); replace BK734 := am (ji (g := gb734) (o := .cells #[.slice Ao8 t727.length co8] 25 (0, 0)) (kq BK734.out) hb); replace HB := am (jf (Y11) hb); (try clear hb); (try clear hb2); (try clear hk); (try clear hi); (try clear ho0); obtain ⟨Ao28, co28, eo28⟩ := Kd.jY HO_6.out; subst eo28; obtain ⟨Ao29, co29, eo29⟩ := Kd.jY HO744.out; subst eo29) | (go_at_call 10; (with_reducible refine (jX.calls kj4 _ _ t735 _ _ t742 t745 _ ?side1 ?side2 ?side3 ?side4 A25.out).mono ?_); (case side1 => exact cq (Kd.jm HO_6.out).2.2); (case side2 => exact (Kd.jm HO_6.out).2.1); (case side3 => exact cq (Kd.jm HO744.out).2.2); (case side4 => exact (Kd.jm HO744.out).2.1); rintro e w' ⟨rfl, ⟨nd, rfl⟩⟩; (try first | exact ⟨rfl, _, World.drewN_drewN _ _ _⟩ | exact ⟨rfl, _, Eq.trans (World.drewN_drewN _ _ _) (congrArg (World.drewN _) (Nat.add_assoc _ _ _))⟩))))
     go_ret
     exact ⟨Y0, Y11⟩
    ·replace c23 := Bool.eq_false_iff.mpr c23
     subst c23
     have H1 : ((jQb.f kj4 t727 t730 t733).bind fun t746 => ((jNb.f kj4 t727 t730 t733).bind fun t749 => (jF.l0 kj4 t730 t735 t746 t749 0))) = some r := by rw [if_neg (show ¬ (false = true) by decide)] at H; exact H
     clear H
     have H := H1
     clear H1
     replace H := Option.bind_eq_some_iff.mp H
     obtain ⟨t746, A300, H⟩ := H
     replace H : ((jNb.f kj4 t727 t730 t733).bind fun t749 => (jF.l0 kj4 t730 t735 t746 t749 0)) = some r := H
     have A30 := am A300
     clear A300
     replace H := Option.bind_eq_some_iff.mp H
     obtain ⟨t749, A310, H⟩ := H
     replace H : (jF.l0 kj4 t730 t735 t746 t749 0) = some r := H
     have A31 := am A310
     clear A310
     have H' := am H
     clear H
     have hcz32_0 := bc0 BK734.out
     have hfz32_0 := ja BK734.out 0
     go_wp2_with (first | (go_at_call 9; (with_reducible refine (jQb.calls kj4 _ _ t727 _ _ t730 t733 t746 _ ?side1 ?side2 ?side3 ?side4 A30.out).mono ?_); (case side1 => exact cq (Kd.jm HO_735000.out).2.2); (case side2 => exact (Kd.jm HO_735000.out).2.1); (case side3 => exact cq (Kd.jLa HO_4.out).2.2); (case side4 => exact (Kd.jLa HO_4.out).2.1); rintro e w33 ⟨v747, rfl, ho0, hb⟩; have HO748 := am (Kd.jR (Kd.jLb ho0 (Kd.R_lt (rq HO_6.out))) (jK (Y11))); replace HO_4 := am (Kd.jBb (Y51) hb); replace HO_6 := am (Kd.jyb (rq HO_6.out) (Kd.jMb ho0) hb); replace HO_735000 := am (Kd.jfa (rq HO_735000.out) hb); replace BK734 := am (ji (g := gb734) (o := .cells #[.slice Ao8 t727.length co8] 25 (0, 0)) (kq BK734.out) hb); replace HB := am (jf (Y11) hb); (try clear hb); (try clear hb2); (try clear hk); (try clear hi); (try clear ho0); have hcz34_0 := bc0 BK734.out; have hfz34_0 := ja BK734.out 0) | (go_at_call 17; (with_reducible refine (jNb.calls kj4 _ _ t727 _ _ t730 t733 t749 _ ?side1 ?side2 ?side3 ?side4 A31.out).mono ?_); (case side1 => exact cq (Kd.jm HO_735000.out).2.2); (case side2 => exact (Kd.jm HO_735000.out).2.1); (case side3 => exact cq (Kd.jLa HO_4.out).2.2); (case side4 => exact (Kd.jLa HO_4.out).2.1); rintro e w35 ⟨rfl, hb⟩; replace HO_4 := am (Kd.jBb (Y51) hb); replace HO_6 := am (Kd.jfa (rq HO_6.out) hb); replace HO_735000 := am (Kd.jfa (rq HO_735000.out) hb); replace HO748 := am (Kd.jfa (rq HO748.out) hb); replace BK734 := am (ji (g := gb734) (o := .cells #[.slice Ao8 t727.length co8] 25 (0, 0)) (kq BK734.out) hb); replace HB := am (jf (Y11) hb); (try clear hb); (try clear hb2); (try clear hk); (try clear hi)))
     repeat (go_quiet (first | (go_at_call 9; (with_reducible refine (jQb.calls kj4 _ _ t727 _ _ t730 t733 t746 _ ?side1 ?side2 ?side3 ?side4 A30.out).mono ?_); (case side1 => exact cq (Kd.jm HO_735000.out).2.2); (case side2 => exact (Kd.jm HO_735000.out).2.1); (case side3 => exact cq (Kd.jLa HO_4.out).2.2); (case side4 => exact (Kd.jLa HO_4.out).2.1); rintro e w33 ⟨v747, rfl, ho0, hb⟩; have HO748 := am (Kd.jR (Kd.jLb ho0 (Kd.R_lt (rq HO_6.out))) (jK (Y11))); replace HO_4 := am (Kd.jBb (Y51) hb); replace HO_6 := am (Kd.jyb (rq HO_6.out) (Kd.jMb ho0) hb); replace HO_735000 := am (Kd.jfa (rq HO_735000.out) hb); replace BK734 := am (ji (g := gb734) (o := .cells #[.slice Ao8 t727.length co8] 25 (0, 0)) (kq BK734.out) hb); replace HB := am (jf (Y11) hb); (try clear hb); (try clear hb2); (try clear hk); (try clear hi); (try clear ho0); have hcz34_0 := bc0 BK734.out; have hfz34_0 := ja BK734.out 0) | (go_at_call 17; (with_reducible refine (jNb.calls kj4 _ _ t727 _ _ t730 t733 t749 _ ?side1 ?side2 ?side3 ?side4 A31.out).mono ?_); (case side1 => exact cq (Kd.jm HO_735000.out).2.2); (case side2 => exact (Kd.jm HO_735000.out).2.1); (case side3 => exact cq (Kd.jLa HO_4.out).2.2); (case side4 => exact (Kd.jLa HO_4.out).2.1); rintro e w35 ⟨rfl, hb⟩; replace HO_4 := am (Kd.jBb (Y51) hb); replace HO_6 := am (Kd.jfa (rq HO_6.out) hb); replace HO_735000 := am (Kd.jfa (rq HO_735000.out) hb); replace HO748 := am (Kd.jfa (rq HO748.out) hb); replace BK734 := am (ji (g := gb734) (o := .cells #[.slice Ao8 t727.length co8] 25 (0, 0)) (kq BK734.out) hb); replace HB := am (jf (Y11) hb); (try clear hb); (try clear hb2); (try clear hk); (try clear hi))); try go_wp2_with (first | (go_at_call 9; (with_reducible refine (jQb.calls kj4 _ _ t727 _ _ t730 t733 t746 _ ?side1 ?side2 ?side3 ?side4 A30.out).mono ?_); (case side1 => exact cq (Kd.jm HO_735000.out).2.2); (case side2 => exact (Kd.jm HO_735000.out).2.1); (case side3 => exact cq (Kd.jLa HO_4.out).2.2); (case side4 => exact (Kd.jLa HO_4.out).2.1); rintro e w33 ⟨v747, rfl, ho0, hb⟩; have HO748 := am (Kd.jR (Kd.jLb ho0 (Kd.R_lt (rq HO_6.out))) (jK (Y11))); replace HO_4 := am (Kd.jBb (Y51) hb); replace HO_6 := am (Kd.jyb (rq HO_6.out) (Kd.jMb ho0) hb); replace HO_735000 := am (Kd.jfa (rq HO_735000.out) hb); replace BK734 := am (ji (g := gb734) (o := .cells #[.slice Ao8 t727.length co8] 25 (0, 0)) (kq BK734.out) hb); replace HB := am (jf (Y11) hb); (try clear hb); (try clear hb2); (try clear hk); (try clear hi); (try clear ho0); have hcz34_0 := bc0 BK734.out; have hfz34_0 := ja BK734.out 0) | (go_at_call 17; (with_reducible refine (jNb.calls kj4 _ _ t727 _ _ t730 t733 t749 _ ?side1 ?side2 ?side3 ?side4 A31.out).mono ?_); (case side1 => exact cq (Kd.jm HO_735000.out).2.2); (case side2 => exact (Kd.jm HO_735000.out).2.1); (case side3 => exact cq (Kd.jLa HO_4.out).2.2); (case side4 => exact (Kd.jLa HO_4.out).2.1); rintro e w35 ⟨rfl, hb⟩; replace HO_4 := am (Kd.jBb (Y51) hb); replace HO_6 := am (Kd.jfa (rq HO_6.out) hb); replace HO_735000 := am (Kd.jfa (rq HO_735000.out) hb); replace HO748 := am (Kd.jfa (rq HO748.out) hb); replace BK734 := am (ji (g := gb734) (o := .cells #[.slice Ao8 t727.length co8] 25 (0, 0)) (kq BK734.out) hb); replace HB := am (jf (Y11) hb); (try clear hb); (try clear hb2); (try clear hk); (try clear hi))))
     go_loopg [9] kj4 (fun kq v9 w' => ∃ (x9_2 : Int), v9 = .int .i64 x9_2 ∧ jo (jF.l0 kq t730 t735 t746 t749 x9_2 = some r) ∧ jo (kq ≤ kj4) ∧ jo (Kd.Q k36 36 w' w.heap.size (fun _ => True) (.slice Ao10 t730.length co10) t730) ∧ jo (Kd.R (Kd.int .i64) 3 w' w.heap.size (fun k_ => some k_ ≠ (v747 : Value).ownBlock) v736 t735) ∧ jo (Kd.R (Kd.int .i64) 3 w' w.heap.size (fun k_ => some k_ ≠ (v736 : Value).ownBlock) v747 t746) ∧ jo (Kd.R k75 75 w' w.heap.size (fun _ => True) (.slice Ao8 t727.length co8) t727) ∧ jo (w'.heap[gb734]? = some (.cells #[(.slice Ao8 t727.length co8)] 25 (0, 0))) ∧ jo (Below w.heap.size w w'))
     case atStart => exact ⟨(0), (sq), H', ⟨Nat.le_refl _⟩, ⟨by (with_reducible repeat (first | apply Kd.jmc | apply Kd.jlc | apply Kd.juc)); exact HO_4.out⟩, ⟨by (with_reducible repeat (first | apply Kd.jW | apply Kd.jV | apply Kd.jha)); exact Kd.jA HO_6.out (fun _ hk => hk.2)⟩, ⟨by (with_reducible repeat (first | apply Kd.jW | apply Kd.jV | apply Kd.jha)); exact Kd.jA HO748.out (fun _ hk => hk.2)⟩, ⟨rq HO_735000.out⟩, ⟨kq BK734.out⟩, ⟨Y11⟩⟩
     case round =>
      clear H'
      try clear c1
      try clear c2
      try clear c2b0
      try clear c2b1
      try clear p2
      try clear c4
      try clear c14
      try clear c23
      try clear hcz15_0
      try clear hcz19_0
      try clear hcz26_0
      try clear hcz32_0
      try clear hcz34_0
      try clear hcz9_0
      try clear hfz15_0
      try clear hfz19_0
      try clear hfz26_0
      try clear hfz32_0
      try clear hfz34_0
      try clear hfz9_0
      try clear p2
      obtain ⟨x9_2, rfl, HA, HK2, HO_4, HO_6, HO_7, HO_735000, BK734, HB⟩ := hrel
      cases gk with
      | zero => exact absurd HA.out (by simp [jF.l0])
      | succ k2 =>
       have H := HA.out
       clear HA
       simp only [jF.l0] at H
       by_cases c36 : x9_2 < (t735.length : Int)
       ·rw [if_pos c36] at H
        have c36b0 : decide (x9_2 < (t735.length : Int)) = true := decide_eq_true c36
        clear c36
        by_cases c37 : 0 ≤ x9_2
        ·rw [if_pos c37] at H
         have c37b0 : decide (0 ≤ x9_2) = true := decide_eq_true c37
         clear c37
         by_cases c38 : 0 ≤ (rd t735 x9_2)
         ·rw [if_pos c38] at H
          have c38b0 : decide (0 ≤ (rd t735 x9_2)) = true := decide_eq_true c38
          clear c38
          by_cases c39 : (rd t735 x9_2) < (t730.length : Int)
          ·rw [if_pos c39] at H
           have c39b0 : decide ((rd t735 x9_2) < (t730.length : Int)) = true := decide_eq_true c39
           clear c39
           by_cases c40 : 0 ≤ t749
           ·rw [if_pos c40] at H
            have c40b0 : decide (0 ≤ t749) = true := decide_eq_true c40
            clear c40
            by_cases c41 : t749 < (t730.length : Int)
            ·rw [if_pos c41] at H
             have c41b0 : decide (t749 < (t730.length : Int)) = true := decide_eq_true c41
             clear c41
             by_cases c42 : ((je t730 (rd t735 x9_2)).f0) ≤ ((je t730 t749).f0)
             ·rw [if_pos c42] at H
              have c42b0 : decide (((je t730 (rd t735 x9_2)).f0) ≤ ((je t730 t749).f0)) = true := decide_eq_true c42
              clear c42
              exact absurd ((Option.some.inj H).trans hT) Bool.false_ne_true
             ·rw [if_neg c42] at H
              have c42b0 : decide (((je t730 (rd t735 x9_2)).f0) ≤ ((je t730 t749).f0)) = false := decide_eq_false c42
              clear c42
              have H' := am H
              clear H
              obtain ⟨Ao43, co43, eo43⟩ := Kd.jY HO_6.out
              subst eo43
              have p755 : 0 ≤ (x9_2 : Int) := of_decide_eq_true (uq)
              have q755 : x9_2 < (t735.length : Int) := of_decide_eq_true (uq)
              obtain ⟨ad755, e755, hx755_0⟩ := Kd.jtb (Kd.jm HO_6.out).2.2 x9_2 p755 q755
              cases e755
              replace p755 := eq_true p755
              replace q755 := eq_true q755
              have p756 : 0 ≤ ((rd t735 x9_2) : Int) := of_decide_eq_true (uq)
              have q756 : (rd t735 x9_2) < (t730.length : Int) := of_decide_eq_true (uq)
              obtain ⟨ad756, e756, hx756_0, hx756_1, hx756_2, hx756_3⟩ := jsa (Kd.jLa HO_4.out).2.2 (rd t735 x9_2) p756 q756
              cases e756
              replace p756 := eq_true p756
              replace q756 := eq_true q756
              have p757 : 0 ≤ (t749 : Int) := of_decide_eq_true (uq)
              have q757 : t749 < (t730.length : Int) := of_decide_eq_true (uq)
              obtain ⟨ad757, e757, hx757_0, hx757_1, hx757_2, hx757_3⟩ := jsa (Kd.jLa HO_4.out).2.2 t749 p757 q757
              obtain rfl : ad756 = ad757 := (by injection e757)
              replace p757 := eq_true p757
              replace q757 := eq_true q757
              go_wp2
              repeat (go_quiet (fail); try go_wp2)
              go_roundg k2
              case measure => have := HJ4.out; have := HK2.out; omega
              case rel => exact ⟨(wrap64 (x9_2 + 1)), (sq), H', ⟨by have := HJ4.out; have := HK2.out; omega⟩, ⟨by (with_reducible repeat (first | apply Kd.jmc | apply Kd.jlc | apply Kd.juc)); exact HO_4.out⟩, ⟨rq HO_6.out⟩, ⟨rq HO_7.out⟩, ⟨rq HO_735000.out⟩, ⟨kq BK734.out⟩, ⟨Y11⟩⟩
            ·rw [if_neg c41] at H
             exact absurd H (by simp)
           ·rw [if_neg c40] at H
            exact absurd H (by simp)
          ·rw [if_neg c39] at H
           exact absurd H (by simp)
         ·rw [if_neg c38] at H
          exact absurd H (by simp)
        ·rw [if_neg c37] at H
         exact absurd H (by simp)
       ·rw [if_neg c36] at H
        have c36b0 : decide (x9_2 < (t735.length : Int)) = false := decide_eq_false c36
        clear c36
        by_cases c44 : (t735.length : Int) ≤ (t746.length : Int)
        ·rw [if_pos c44] at H
         have c44b0 : decide ((t735.length : Int) ≤ (t746.length : Int)) = true := decide_eq_true c44
         have c44b1 : decide (t735.length ≤ t746.length) = true := decide_eq_true (Int.ofNat_le.mp c44)
         clear c44
         by_cases c45 : 0 ≤ (t735.length : Int)
         ·rw [if_pos c45] at H
          have c45b0 := eq_true c45
          have c45b1 : decide (0 ≤ (t735.length : Int)) = true := decide_eq_true c45
          clear c45
          have c46b0 := eq_true (of_decide_eq_true (uq) : (t735.length : Int) ≤ (t746.length : Int))
          obtain ⟨y750, hy750⟩ : ∃ y_ : List Int, y_ = (t746.take ((t735.length : Int) : Int).toNat) := ⟨_, rfl⟩
          replace H : ((jX.f k2 y750 t735).bind fun t754 => (some t754)) = some r := by first | (rw [hy750]; with_reducible exact H) | (have H2_ := (Option.bind_some _ _).symm.trans H; rw [hy750]; with_reducible exact H2_) | (have H2_ := (Option.bind_some _ _).symm.trans H; with_reducible exact H2_) | with_reducible exact H | (rw [hy750]; exact H) | exact H
          have Ny750 := am hy750
          clear hy750
          replace H := Option.bind_eq_some_iff.mp H
          obtain ⟨t754, A470, H⟩ := H
          replace H : (some t754) = some r := H
          have A47 := am A470
          clear A470
          obtain rfl := Option.some.inj H
          obtain ⟨Ao48, co48, eo48⟩ := Kd.jY HO_6.out
          subst eo48
          obtain ⟨Ao49, co49, eo49⟩ := Kd.jY HO_7.out
          subst eo49
          have q50 : ((t735.length : Int) : Int) ≤ ((t746.length : Int) : Int) := of_decide_eq_true (uq)
          obtain ⟨i050, hi050, _, hsz50, _⟩ := info_parts info3
          have hroom50 : t746.length ≤ co49 := (Kd.jm HO_7.out).2.1
          have hC50 : Kd.C (Kd.int .i64) _ Ao49 t746.length t746 := (Kd.jm HO_7.out).2.2
          have hcut50 := cut_to (P := Try.prog) 29 3 .i64 Try.underlying29 hi050 Ao49 t746.length co49 (t735.length : Int) (of_decide_eq_true (uq)) q50 hroom50
          have hr50 := Kd.C_take (m := ((t735.length : Int) : Int).toNat) hC50 (by omega)
          have hy50 : y750.length = ((t735.length : Int) : Int).toNat := (by rw [Ny750.out, List.length_take]; omega)
          rw [← Ny750.out] at hr50
          rw [← hy50] at hcut50
          have HR753 := am hr50
          have HC753 := am (show y750.length ≤ co49 from by omega)
          clear hr50 hC50 hroom50 hi050 hsz50
          have KY50 := am hy50
          clear hy50
          have KL50 := am (show ((t735.length : Int) : Int).toNat ≤ t746.length from by omega)
          replace q50 := eq_true q50
          go_wp2_with (first | (go_at_call 10; (with_reducible refine (jX.calls k2 _ _ y750 _ _ t735 t754 _ ?side1 ?side2 ?side3 ?side4 A47.out).mono ?_); (case side1 => exact Y116); (case side2 => exact HC753.out); (case side3 => exact cq (Kd.jm HO_6.out).2.2); (case side4 => exact (Kd.jm HO_6.out).2.1); rintro e w' ⟨rfl, ⟨nd, rfl⟩⟩; (try first | exact ⟨rfl, _, World.drewN_drewN _ _ _⟩ | exact ⟨rfl, _, Eq.trans (World.drewN_drewN _ _ _) (congrArg (World.drewN _) (Nat.add_assoc _ _ _))⟩)))
          repeat (go_quiet (first | (go_at_call 10; (with_reducible refine (jX.calls k2 _ _ y750 _ _ t735 t754 _ ?side1 ?side2 ?side3 ?side4 A47.out).mono ?_); (case side1 => exact Y116); (case side2 => exact HC753.out); (case side3 => exact cq (Kd.jm HO_6.out).2.2); (case side4 => exact (Kd.jm HO_6.out).2.1); rintro e w' ⟨rfl, ⟨nd, rfl⟩⟩; (try first | exact ⟨rfl, _, World.drewN_drewN _ _ _⟩ | exact ⟨rfl, _, Eq.trans (World.drewN_drewN _ _ _) (congrArg (World.drewN _) (Nat.add_assoc _ _ _))⟩))); try go_wp2_with (first | (go_at_call 10; (with_reducible refine (jX.calls k2 _ _ y750 _ _ t735 t754 _ ?side1 ?side2 ?side3 ?side4 A47.out).mono ?_); (case side1 => exact Y116); (case side2 => exact HC753.out); (case side3 => exact cq (Kd.jm HO_6.out).2.2); (case side4 => exact (Kd.jm HO_6.out).2.1); rintro e w' ⟨rfl, ⟨nd, rfl⟩⟩; (try first | exact ⟨rfl, _, World.drewN_drewN _ _ _⟩ | exact ⟨rfl, _, Eq.trans (World.drewN_drewN _ _ _) (congrArg (World.drewN _) (Nat.add_assoc _ _ _))⟩))))
          go_ret
          exact ⟨Y0, Y11⟩
         ·rw [if_neg c45] at H
          exact absurd H (by simp)
        ·rw [if_neg c44] at H
         have c44b0 : decide ((t735.length : Int) ≤ (t746.length : Int)) = false := decide_eq_false c44
         have c44b1 : decide (t735.length ≤ t746.length) = false := decide_eq_false (fun h => c44 (Int.ofNat_le.mpr h))
         clear c44
         exact absurd ((Option.some.inj H).trans hT) Bool.false_ne_true
def jF.Pure : Prop := ∀ (l0 : List Int), l0.length ≤ maxLen → l0.length * 1 ≤ 140737488351232 → (∀ x ∈ l0, (Lit.int .u8 x).wf = true) → ∃ k, jF.f k l0 = some true
theorem jF.walk (P : jF.Pure) (a0 : Option Addr) (len0 cap0 : Nat) (z0 : List Int) (w : World) (w0 : (a0 = none ∧ len0 = 0 ∧ cap0 = 0 ∧ z0 = []) ∨ ∃ x, a0 = some x ∧ len0 ≤ cap0 ∧ cap0 ≤ maxLen ∧ z0.length = cap0 ∧ (∀ i, i < z0.length → w.cell? (x.add i) = some (.int .u8 (z0.getD i 0))) ∧ ∀ n ∈ z0, (Lit.int .u8 n).wf = true) (y0 : len0 * 1 ≤ 140737488351232) :
  Calls Try.prog 4 #[.slice a0 len0 cap0] w fun e w' => e = .returned (.bool true) ∧ Below w.heap.size w w' := by
 obtain ⟨l0, rfl, hr0, hm0, hw0, hc0⟩ := jwb.ofRowC w0
 obtain ⟨k, h⟩ := P l0 hm0 y0 hw0
 refine (jF.calls k _ _ l0 true w (Kd.C_of_reads (d := (0 : Int)) (h1 := fun _ => rfl) hr0) hc0 rfl h).mono ?_
 rintro e w' ⟨rfl, hd⟩
 exact ⟨rfl, hd⟩
def spec_WayOut.f (k : Nat) (l0_0 : List (S75)) (l1 : List (S36)) (a2 : Int) : Option (List Int) := (jIb.f k l0_0 l1 a2).bind fun t614 => (if t614 = true then ((joa.f k l1 a2).bind fun t615 => ((jHa.f k l1 t615).bind fun t618 => (some t618))) else (some ([] : List Int)))
end Go.Proofs.Ytkedkinojeoeaaa.P
end
