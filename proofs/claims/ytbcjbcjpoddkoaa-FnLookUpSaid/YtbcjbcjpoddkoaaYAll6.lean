/- One part of the proofs on this program: functions of the program as plain functions, that the code comes to them, and facts on them. -/
import Derived.Test.YtbcjbcjpoddkoaaYAll1
import Derived.Test.YtbcjbcjpoddkoaaYAll3
import Derived.Test.YtbcjbcjpoddkoaaYAll4
import Derived.Test.YtbcjbcjpoddkoaaYAll5
import Derived.Test.YtbcjbcjpoddkoaaYWAuto
section
namespace Go.Proofs.Ytbcjbcjpoddkoaa.P
open Go.RowKit Go.Proofs.YtbcjbcjpoddkoaaW.PrintWords Go.Proofs.YtbcjbcjpoddkoaaW.PrintLast Go.Proofs.YtbcjbcjpoddkoaaW.PrintMore
attribute [local go_sem] max2_int min2_int max_two min_two max_three min_three max_four min_four isSome_cell_setCell
set_option linter.unusedVariables false
set_option linter.unusedSimpArgs false
set_option maxHeartbeats 8000000 in
set_option maxRecDepth 100000 in
theorem spec_aTry.calls_of (k : Nat) (ih104 : ∀ k_, k_ < k → ∀ (g : Nat) (s0_0 : List Int) (s0_1 : Int) (A1_0 : Option Addr) (c1_0 : Nat) (l1_0 : List (S98)) (a2 : Int) (a3 : Bool) (r1 : List (S59)) (r2 : Int) (w0 w : World) (hI : IsS106 w0 w g s0_0 s0_1) (hB : Below w0.heap.size w0 w) (hr1_0 : ∀ W_, KeepBut w W_ g none → Kd.C k98 W_ A1_0 l1_0.length l1_0) (hc1_0 : l1_0.length ≤ c1_0) (h : spec_aStatement.f k_ s0_0 s0_1 l1_0 a2 a3 = some (r1, r2)), Calls Try.prog 104 #[.pointer (some ⟨g, 0, none⟩), .agg #[.slice A1_0 l1_0.length c1_0], .int .i64 a2, .bool a3] w fun e w' => ∃ v0_ : Value, e = .returned (v0_) ∧ Kd.R k59 59 w' w.heap.size (fun _ => True) v0_ r1 ∧ IsS106 w0 w' g s0_0 r2 ∧ Below w0.heap.size w0 w' ∧ KeepBut w w' g none) (ih98 : ∀ k_, k_ < k → ∀ (g : Nat) (s0_0 : List Int) (s0_1 : Int) (A1_0 : Option Addr) (c1_0 : Nat) (l1_0 : List (S98)) (a2 : Int) (a3 : Bool) (r1 : List (S59)) (r2 : Int) (w0 w : World) (hI : IsS106 w0 w g s0_0 s0_1) (hB : Below w0.heap.size w0 w) (hr1_0 : ∀ W_, KeepBut w W_ g none → Kd.C k98 W_ A1_0 l1_0.length l1_0) (hc1_0 : l1_0.length ≤ c1_0) (h : spec_aBlock.f k_ s0_0 s0_1 l1_0 a2 a3 = some (r1, r2)), Calls Try.prog 98 #[.pointer (some ⟨g, 0, none⟩), .agg #[.slice A1_0 l1_0.length c1_0], .int .i64 a2, .bool a3] w fun e w' => ∃ v0_ : Value, e = .returned (v0_) ∧ Kd.R k59 59 w' w.heap.size (fun _ => True) v0_ r1 ∧ IsS106 w0 w' g s0_0 r2 ∧ Below w0.heap.size w0 w' ∧ KeepBut w w' g none) (ih97 : ∀ k_, k_ < k → ∀ (g : Nat) (s0_0 : List Int) (s0_1 : Int) (A1_0 : Option Addr) (c1_0 : Nat) (l1_0 : List (S98)) (a2 : Int) (a3 : Bool) (r1 : List (S59)) (r2 : Int) (w0 w : World) (hI : IsS106 w0 w g s0_0 s0_1) (hB : Below w0.heap.size w0 w) (hr1_0 : ∀ W_, KeepBut w W_ g none → Kd.C k98 W_ A1_0 l1_0.length l1_0) (hc1_0 : l1_0.length ≤ c1_0) (h : spec_aTry.f k_ s0_0 s0_1 l1_0 a2 a3 = some (r1, r2)), Calls Try.prog 97 #[.pointer (some ⟨g, 0, none⟩), .agg #[.slice A1_0 l1_0.length c1_0], .int .i64 a2, .bool a3] w fun e w' => ∃ v0_ : Value, e = .returned (v0_) ∧ Kd.R k59 59 w' w.heap.size (fun _ => True) v0_ r1 ∧ IsS106 w0 w' g s0_0 r2 ∧ Below w0.heap.size w0 w' ∧ KeepBut w w' g none) : ∀ (g : Nat) (s0_0 : List Int) (s0_1 : Int) (A1_0 : Option Addr) (c1_0 : Nat) (l1_0 : List (S98)) (a2 : Int) (a3 : Bool) (r1 : List (S59)) (r2 : Int) (w0 w : World) (hI : IsS106 w0 w g s0_0 s0_1) (hB : Below w0.heap.size w0 w) (hr1_0 : ∀ W_, KeepBut w W_ g none → Kd.C k98 W_ A1_0 l1_0.length l1_0) (hc1_0 : l1_0.length ≤ c1_0) (h : spec_aTry.f k s0_0 s0_1 l1_0 a2 a3 = some (r1, r2)),
  Calls Try.prog 97 #[.pointer (some ⟨g, 0, none⟩), .agg #[.slice A1_0 l1_0.length c1_0], .int .i64 a2, .bool a3] w fun e w' => ∃ v0_ : Value, e = .returned (v0_) ∧ Kd.R k59 59 w' w.heap.size (fun _ => True) v0_ r1 ∧ IsS106 w0 w' g s0_0 r2 ∧ Below w0.heap.size w0 w' ∧ KeepBut w w' g none := by
 intro g s0_0 s0_1 A1_0 c1_0 l1_0 a2 a3 r1 r2 w0 w hI hB hr1_0 hc1_0 h
 cases k with
 | zero => exact absurd h (by simp [spec_aTry.f])
 | succ k =>
 simp only [spec_aTry.f] at h
 have hu32 := Try.underlying32
 have hu59 := Try.underlying59
 have HR1_0 := am hr1_0
 have HC1_0 := am hc1_0
 clear hr1_0 hc1_0
 have HI0 := am hI
 have HK := am (KeepBut.refl w g none)
 have HL := am hB.size
 clear hI
 have HW0 := am hB.size
 have HB := am hB
 clear hB
 have H : ((some (([(⟨a2, 7, 0, 0⟩ : S59)] : List (S59)) : List (S59))).bind fun y485 => ((spec_aBlock.f k s0_0 s0_1 l1_0 (wrap64 (a2 + 1)) a3).bind fun bt488 => (if y485.length + bt488.1.length < 4398046511104 then ((spec_reader_one.f k s0_0 bt488.2 (([1, 2, 0, 1] : List Int))).bind fun bt498 => (spec_aTry.l0 k a2 a3 (y485 ++ bt488.1) bt498.1 bt498.1 s0_0 bt498.2 l1_0)) else (none)))) = some (r1, r2) := h
 clear h
 obtain ⟨y485, hy485⟩ : ∃ y_ : List (S59), y_ = (([(⟨a2, 7, 0, 0⟩ : S59)] : List (S59))) := ⟨_, rfl⟩
 replace H : ((spec_aBlock.f k s0_0 s0_1 l1_0 (wrap64 (a2 + 1)) a3).bind fun bt488 => (if y485.length + bt488.1.length < 4398046511104 then ((spec_reader_one.f k s0_0 bt488.2 (([1, 2, 0, 1] : List Int))).bind fun bt498 => (spec_aTry.l0 k a2 a3 (y485 ++ bt488.1) bt498.1 bt498.1 s0_0 bt498.2 l1_0)) else (none))) = some (r1, r2) := by first | (rw [hy485]; with_reducible exact H) | (have H2_ := (Option.bind_some _ _).symm.trans H; rw [hy485]; with_reducible exact H2_) | (have H2_ := (Option.bind_some _ _).symm.trans H; with_reducible exact H2_) | with_reducible exact H | (rw [hy485]; exact H) | exact H
 have Ny485 := am hy485
 clear hy485
 replace H := Option.bind_eq_some_iff.mp H
 obtain ⟨⟨t488, t491⟩, A50, H⟩ := H
 replace H : (if y485.length + t488.length < 4398046511104 then ((spec_reader_one.f k s0_0 t491 (([1, 2, 0, 1] : List Int))).bind fun bt498 => (spec_aTry.l0 k a2 a3 (y485 ++ t488) bt498.1 bt498.1 s0_0 bt498.2 l1_0)) else (none)) = some (r1, r2) := H
 have A5 := am A50
 clear A50
 by_cases c6 : y485.length + t488.length < 4398046511104
 ·rw [if_pos c6] at H
  have LMc6 := am c6
  clear c6
  obtain ⟨y492, hy492⟩ : ∃ y_ : List (S59), y_ = (y485 ++ t488) := ⟨_, rfl⟩
  replace H : ((spec_reader_one.f k s0_0 t491 (([1, 2, 0, 1] : List Int))).bind fun bt498 => (spec_aTry.l0 k a2 a3 y492 bt498.1 bt498.1 s0_0 bt498.2 l1_0)) = some (r1, r2) := by first | (rw [hy492]; with_reducible exact H) | (have H2_ := (Option.bind_some _ _).symm.trans H; rw [hy492]; with_reducible exact H2_) | (have H2_ := (Option.bind_some _ _).symm.trans H; with_reducible exact H2_) | with_reducible exact H | (rw [hy492]; exact H) | exact H
  have Ny492 := am hy492
  clear hy492
  obtain ⟨y495, hy495⟩ : ∃ y_ : List Int, y_ = (([1, 2, 0, 1] : List Int)) := ⟨_, rfl⟩
  replace H : ((spec_reader_one.f k s0_0 t491 y495).bind fun bt498 => (spec_aTry.l0 k a2 a3 y492 bt498.1 bt498.1 s0_0 bt498.2 l1_0)) = some (r1, r2) := by first | (rw [hy495]; with_reducible exact H) | (have H2_ := (Option.bind_some _ _).symm.trans H; rw [hy495]; with_reducible exact H2_) | (have H2_ := (Option.bind_some _ _).symm.trans H; with_reducible exact H2_) | with_reducible exact H | (rw [hy495]; exact H) | exact H
  have Ny495 := am hy495
  clear hy495
  replace H := Option.bind_eq_some_iff.mp H
  obtain ⟨⟨t498, t499⟩, A70, H⟩ := H
  replace H : (spec_aTry.l0 k a2 a3 y492 t498 t498 s0_0 t499 l1_0) = some (r1, r2) := H
  have A7 := am A70
  clear A70
  have H' := am H
  clear H
  go_enter Try.func97, Try.ntmps97
  go_wp2_with (first | ((with_reducible refine gate_dst (N := 5) rfl ?_); refine bE (N := 5) (cs := #[.slice A1_0 l1_0.length c1_0]) (t := 32) ?_; intro gb484 hg w8 hbox hb; have BK484 := am (hbox); have GW484 := am ((Y10 : w.heap.size ≤ gb484)); have GE484 := am ((Nat.le_trans HW0.out (Y10 : w.heap.size ≤ gb484) : w0.heap.size ≤ gb484)); have NB0_484 := am ((Y22 : g ≠ gb484)); have NB484_0 := am ((Y23 : gb484 ≠ g)); replace HK := am (KeepBut.trans (Y14) (KeepBut.of_below hb g none) (.inl rfl)); replace HB := am (below_step (Y15) hb); replace HI0 := am (IsS106.below (Y13) hb); clear hb hbox hg) | ((with_reducible refine gate_dst (N := 14) rfl ?_); refine Kd.R_lit k59 _ 59 ?hg (N := 14) ?hd (xs := ([(⟨a2, 7, 0, 0⟩ : S59)] : List (S59))) (inner := [.int .i64 a2, .int .i64 7, .int .i64 0, .int .i64 0]) (ok := fun _ => True) (okp := fun _ => True) ?hr ?hp (fun _ hk => hk) trivial (Below.refl _ _) (Nat.le_refl _) (by simp) ?_; (case hd => rfl); (case hg => rfl); (case hr => exact Y5); (case hp => exact (Reps.c4 (show Kd.M k59 _ _ _ (⟨a2, 7, 0, 0⟩ : S59) [.int .i64 a2, .int .i64 7, .int .i64 0, .int .i64 0] from (k59_mkM _ _ _ (⟨a2, 7, 0, 0⟩ : S59) )) (Reps.none _ _))); intro v486 w9 ho10 hb hg_ hnew_; clear hg_ hnew_; (first | rw [← Ny485.out] at ho10 | (simp only [Int.reduceToNat] at ho10; rw [← Ny485.out] at ho10)); have HO487 := am (Kd.R_lower ho10 (keep_size (w := w) (g := g) (row := none) (Y4))); replace BK484 := am (blk_below (g := gb484) (o := .cells #[.slice A1_0 l1_0.length c1_0] 32 (0, 0)) (kq BK484.out) hb); replace HK := am (KeepBut.trans (Y4) (KeepBut.of_below hb g none) (.inl rfl)); replace HB := am (below_step (Y12) hb); replace HI0 := am (IsS106.below (Y7) hb); clear hb ho10; have hnb11 := NB484_0.out; have hnc11 := NB0_484.out; have hcz12_0 := bc0 BK484.out; have hfz12_0 := blk_frozen BK484.out 0) | ((with_reducible refine gate_callee (f := 98) rfl ?_); refine gL (some 20) Try.func98 #[.pointer (some ⟨g, 0, none⟩), .agg #[.slice A1_0 l1_0.length c1_0], .int .i64 (wrap64 (a2 + 1)), .bool a3] ?_; (with_reducible refine (ih98 k (by omega) g s0_0 s0_1 _ _ l1_0 (wrap64 (a2 + 1)) a3 t488 t491 w0 _ ?side1 ?side2 ?side3 ?side4 A5.out).mono ?_); (case side1 => exact Y7); (case side2 => exact Y12); (case side3 => exact Kd.C_foot_step HR1_0.out (Y4)); (case side4 => exact HC1_0.out); rintro e w13 ⟨v489, rfl, ho0, hi, hb, hk⟩; refine ⟨_, rfl, ?_⟩; have HO490 := am (Kd.R_lower (Kd.R_new' ho0 (Kd.R_lt (rq HO487.out))) (keep_size (w := w) (g := g) (row := none) (Y4))); replace BK484 := am (KeepBut.blk hk (g' := gb484) (o := .cells #[.slice A1_0 l1_0.length c1_0] 32 (0, 0)) (kq BK484.out) NB484_0.out (by simp)); replace HO487 := am (Kd.R_mono (Kd.R_told (Kd.R_oldK (IsS106.apart (show IsS106 w0 _ g s0_0 s0_1 from Y7) (rq HO487.out) (by decide)) hk) (Kd.R_base ho0)) (fun _ h_ => h_.1)); replace HK := am (KeepBut.trans (Y4) hk (.inl rfl)); replace HB := am (hb); replace HI0 := am (hi); (try clear hb); (try clear hb2); (try clear hk); (try clear hi); (try clear ho0); obtain ⟨Ao15, co15, eo15⟩ := Kd.R_slice HO490.out; subst eo15) | ((with_reducible refine gate_builtin (b := .append) (xs := #[.tmp 14, .tmp 20]) rfl ?_); at_builtin; refine Kd.R_append_rows k59 w.heap.size rfl (.tmp 14) (.tmp 20) 34 59 (.agg #[(.int .i64 0), (.int .i64 0), (.int .i64 0), (.int .i64 0)]) 32 rfl Try.underlying34 info59 rfl (by decide) (by omega) v486 y485 t488 _ _ _ (fun k_ => some k_ ≠ (.slice Ao15 t488.length co15 : Value).ownBlock) (fun _ => False) rfl rfl ?aO ?aR (fun _ _ h => h) (fun _ h => h.elim) ?aF (Below.refl _ _) ?aS ?aL ?_; (case aR => repeat (first | exact (Kd.R_reads' HO490.out).2.2 | (with_reducible refine Kd.C_alloc ?_ _) | (with_reducible refine Kd.C_drewN ?_ _) | (with_reducible refine Kd.C_drew ?_))); (case aF => exact (fun k_ hk => Kd.fresh' (Kd.R_lt (rq HO490.out)) k_ hk)); (case aO => exact (by (with_reducible repeat (first | apply Kd.R_alloc | apply Kd.R_drewN | apply Kd.R_drew)); exact Kd.R_mono HO487.out (fun _ hk => hk.2))); (case aS => exact (keep_size (w := w) (g := g) (row := none) (Y4))); (case aL => have := LMc6.out; omega); intro v493 w14 ho hb hg hat; rw [← Ny492.out] at ho; have n0_ := am (IsS106.grown (Y7) hg (IsS106.own_ne HI0.out HO487.out (by decide))); have n1_ := am (blk_grown (g := gb484) (o := .cells #[.slice A1_0 l1_0.length c1_0] 32 (0, 0)) (kq BK484.out) hg (Kd.R_ne HO487.out BK484.out (by decide))); have n2_ := am (Kd.R_after (ok := (fun _ => True)) (rq HO490.out) hg hat); have n3_ := am (below_weaken (Y12) HL.out hb); have n4_ := am (KeepBut.trans (Y4) (KeepBut.of_grown hg g) (Kd.R_base2 HO487.out)); have n5_ := am (ho); clear HI0 BK484 HO490 HB HK HO487; have HI0 := n0_; have BK484 := n1_; have HO490 := n2_; have HB := n3_; have HK := n4_; have HO494 := n5_; clear n0_ n1_ n2_ n3_ n4_ n5_ ho hb hg hat) | ((with_reducible refine gate_dst (N := 23) rfl ?_); refine Kd.R_lit (Kd.int .i64) _ 3 ?hg (N := 23) ?hd (xs := ([1, 2, 0, 1] : List Int)) (inner := [.int .i64 1, .int .i64 2, .int .i64 0, .int .i64 1]) (ok := fun _ => True) (okp := fun _ => True) ?hr ?hp (fun _ hk => hk) trivial (Below.refl _ _) (Nat.le_refl _) (by simp) ?_; (case hd => rfl); (case hg => rfl); (case hr => exact Y5); (case hp => exact (Reps.one (show Kd.M (Kd.int .i64) _ _ _ 1 [.int .i64 1] from rfl) (Reps.one (show Kd.M (Kd.int .i64) _ _ _ 2 [.int .i64 2] from rfl) (Reps.one (show Kd.M (Kd.int .i64) _ _ _ 0 [.int .i64 0] from rfl) (Reps.one (show Kd.M (Kd.int .i64) _ _ _ 1 [.int .i64 1] from rfl) (Reps.none _ _)))))); intro v496 w16 ho17 hb hg_ hnew_; clear hg_ hnew_; (first | rw [← Ny495.out] at ho17 | (simp only [Int.reduceToNat] at ho17; rw [← Ny495.out] at ho17)); have HO497 := am (Kd.R_lower ho17 (keep_size (w := w) (g := g) (row := none) (Y4))); replace HO490 := am (Kd.R_below (rq HO490.out) hb); replace HO494 := am (Kd.R_below (rq HO494.out) hb); replace BK484 := am (blk_below (g := gb484) (o := .cells #[.slice A1_0 l1_0.length c1_0] 32 (0, 0)) (kq BK484.out) hb); replace HK := am (KeepBut.trans (Y4) (KeepBut.of_below hb g none) (.inl rfl)); replace HB := am (below_step (Y12) hb); replace HI0 := am (IsS106.below (Y7) hb); clear hb ho17; obtain ⟨Ao18, co18, eo18⟩ := Kd.R_slice HO497.out; subst eo18) | ((with_reducible refine gate_callee (f := 56) rfl ?_); refine gL (some 24) Try.func56 #[.pointer (some ⟨g, 0, none⟩), .slice Ao18 y495.length co18] ?_; (with_reducible refine (spec_reader_one.calls k g s0_0 t491 _ _ y495 t498 t499 w0 _ ?side1 ?side2 ?side3 ?side4 ?side5 A7.out).mono ?_); (case side1 => exact Y7); (case side2 => exact Y12); (case side3 => exact cq (Kd.R_reads' HO497.out).2.2); (case side4 => exact (Kd.R_reads' HO497.out).2.1); (case side5 => exact far_slice (IsS106.own_ne HI0.out HO497.out (by decide))); rintro e w19 ⟨rfl, hi, hb, hk⟩; refine ⟨_, rfl, ?_⟩; replace BK484 := am (KeepBut.blk hk (g' := gb484) (o := .cells #[.slice A1_0 l1_0.length c1_0] 32 (0, 0)) (kq BK484.out) NB484_0.out (by simp)); replace HO490 := am (Kd.R_mono (Kd.R_keep (IsS106.apart (show IsS106 w0 _ g s0_0 t491 from Y7) (rq HO490.out) (by decide)) hk (fun _ h => h.2)) (fun _ h => h.1)); replace HO494 := am (Kd.R_mono (Kd.R_keep (IsS106.apart (show IsS106 w0 _ g s0_0 t491 from Y7) (rq HO494.out) (by decide)) hk (fun _ h => h.2)) (fun _ h => h.1)); replace HO497 := am (Kd.R_mono (Kd.R_keep (IsS106.apart (show IsS106 w0 _ g s0_0 t491 from Y7) (rq HO497.out) (by decide)) hk (fun _ h => h.2)) (fun _ h => h.1)); replace HK := am (KeepBut.trans (Y4) hk (.inl rfl)); replace HB := am (hb); replace HI0 := am (hi); (try clear hb); (try clear hb2); (try clear hk); (try clear hi)))
  go_loopg [9, 11] k (fun kq v9 v11 w' => ∃ (x9_1 : List (S59)) (x11_1 : Int) (x1001_1 : Int), v11 = .int .i64 x11_1 ∧ Aside0 (spec_aTry.l0 kq a2 a3 x9_1 t498 x11_1 s0_0 x1001_1 l1_0 = some (r1, r2)) ∧ Aside0 (kq ≤ k) ∧ Aside0 (Kd.R k59 59 w' w.heap.size (fun _ => True) v9 x9_1) ∧ Aside0 (w'.heap[gb484]? = some (.cells #[(.slice A1_0 l1_0.length c1_0)] 32 (0, 0))) ∧ Aside0 (IsS106 w0 w' g s0_0 x1001_1) ∧ Aside0 (KeepBut w w' g none) ∧ Aside0 (Below w0.heap.size w0 w'))
  case atStart => exact ⟨(y492), (t498), (t499), (sq), H', ⟨Nat.le_refl _⟩, ⟨by (with_reducible repeat (first | apply Kd.R_alloc | apply Kd.R_drewN | apply Kd.R_drew)); exact Kd.R_mono HO494.out (fun _ hk => trivial)⟩, ⟨kq BK484.out⟩, ⟨Y7⟩, ⟨Y4⟩, ⟨Y12⟩⟩
  case round =>
   clear H'
   try clear c1
   try clear p2
   try clear c4
   try clear c5
   try clear c6
   try clear p6
   try clear c9
   try clear c11
   try clear hcz12_0
   try clear hfz12_0
   obtain ⟨x9_1, x11_1, x1001_1, rfl, HA, HK1, HO_9, BK484, HI0, HK, HB⟩ := hrel
   cases gk with
   | zero => exact absurd HA.out (by simp [spec_aTry.l0])
   | succ k1 =>
    have H := HA.out
    clear HA
    simp only [spec_aTry.l0] at H
    by_cases c20 : x11_1 > 0
    ·rw [if_pos c20] at H
     have c20b0 : decide (0 < x11_1) = true := decide_eq_true c20
     clear c20
     replace H := Option.bind_eq_some_iff.mp H
     obtain ⟨⟨t500, t501⟩, A210, H⟩ := H
     replace H : ((spec_reader_one.f k1 s0_0 t501 (([t500, 0] : List Int))).bind fun bt505 => (if x9_1.length < 4398046511104 then ((some (x9_1 ++ [(⟨a2, 8, bt505.1, 0⟩ : S59)] : List (S59))).bind fun y507 => ((spec_aBlock.f k1 s0_0 bt505.2 l1_0 (wrap64 (a2 + 1)) a3).bind fun bt510 => (if y507.length + bt510.1.length < 4398046511104 then (spec_aTry.l0 k1 a2 a3 (y507 ++ bt510.1) t498 (wrap64 (x11_1 - 1)) s0_0 bt510.2 l1_0) else (none)))) else (none))) = some (r1, r2) := H
     have A21 := am A210
     clear A210
     obtain ⟨y502, hy502⟩ : ∃ y_ : List Int, y_ = (([t500, 0] : List Int)) := ⟨_, rfl⟩
     replace H : ((spec_reader_one.f k1 s0_0 t501 y502).bind fun bt505 => (if x9_1.length < 4398046511104 then ((some (x9_1 ++ [(⟨a2, 8, bt505.1, 0⟩ : S59)] : List (S59))).bind fun y507 => ((spec_aBlock.f k1 s0_0 bt505.2 l1_0 (wrap64 (a2 + 1)) a3).bind fun bt510 => (if y507.length + bt510.1.length < 4398046511104 then (spec_aTry.l0 k1 a2 a3 (y507 ++ bt510.1) t498 (wrap64 (x11_1 - 1)) s0_0 bt510.2 l1_0) else (none)))) else (none))) = some (r1, r2) := by first | (rw [hy502]; with_reducible exact H) | (have H2_ := (Option.bind_some _ _).symm.trans H; rw [hy502]; with_reducible exact H2_) | (have H2_ := (Option.bind_some _ _).symm.trans H; with_reducible exact H2_) | with_reducible exact H | (rw [hy502]; exact H) | exact H
     have Ny502 := am hy502
     clear hy502
     replace H := Option.bind_eq_some_iff.mp H
     obtain ⟨⟨t505, t506⟩, A220, H⟩ := H
     replace H : (if x9_1.length < 4398046511104 then ((some (x9_1 ++ [(⟨a2, 8, t505, 0⟩ : S59)] : List (S59))).bind fun y507 => ((spec_aBlock.f k1 s0_0 t506 l1_0 (wrap64 (a2 + 1)) a3).bind fun bt510 => (if y507.length + bt510.1.length < 4398046511104 then (spec_aTry.l0 k1 a2 a3 (y507 ++ bt510.1) t498 (wrap64 (x11_1 - 1)) s0_0 bt510.2 l1_0) else (none)))) else (none)) = some (r1, r2) := H
     have A22 := am A220
     clear A220
     by_cases c23 : x9_1.length < 4398046511104
     ·rw [if_pos c23] at H
      have LMc23 := am c23
      clear c23
      obtain ⟨y507, hy507⟩ : ∃ y_ : List (S59), y_ = (x9_1 ++ [(⟨a2, 8, t505, 0⟩ : S59)]) := ⟨_, rfl⟩
      replace H : ((spec_aBlock.f k1 s0_0 t506 l1_0 (wrap64 (a2 + 1)) a3).bind fun bt510 => (if y507.length + bt510.1.length < 4398046511104 then (spec_aTry.l0 k1 a2 a3 (y507 ++ bt510.1) t498 (wrap64 (x11_1 - 1)) s0_0 bt510.2 l1_0) else (none))) = some (r1, r2) := by first | (rw [hy507]; with_reducible exact H) | (have H2_ := (Option.bind_some _ _).symm.trans H; rw [hy507]; with_reducible exact H2_) | (have H2_ := (Option.bind_some _ _).symm.trans H; with_reducible exact H2_) | with_reducible exact H | (rw [hy507]; exact H) | exact H
      have Ny507 := am hy507
      clear hy507
      replace H := Option.bind_eq_some_iff.mp H
      obtain ⟨⟨t510, t513⟩, A240, H⟩ := H
      replace H : (if y507.length + t510.length < 4398046511104 then (spec_aTry.l0 k1 a2 a3 (y507 ++ t510) t498 (wrap64 (x11_1 - 1)) s0_0 t513 l1_0) else (none)) = some (r1, r2) := H
      have A24 := am A240
      clear A240
      by_cases c25 : y507.length + t510.length < 4398046511104
      ·rw [if_pos c25] at H
       have LMc25 := am c25
       clear c25
       obtain ⟨y514, hy514⟩ : ∃ y_ : List (S59), y_ = (y507 ++ t510) := ⟨_, rfl⟩
       replace H : (spec_aTry.l0 k1 a2 a3 y514 t498 (wrap64 (x11_1 - 1)) s0_0 t513 l1_0) = some (r1, r2) := by first | (rw [hy514]; with_reducible exact H) | (have H2_ := (Option.bind_some _ _).symm.trans H; rw [hy514]; with_reducible exact H2_) | (have H2_ := (Option.bind_some _ _).symm.trans H; with_reducible exact H2_) | with_reducible exact H | (rw [hy514]; exact H) | exact H
       have Ny514 := am hy514
       clear hy514
       have H' := am H
       clear H
       have hnb26 := NB484_0.out
       have hnc26 := NB0_484.out
       have hcz27_0 := bc0 BK484.out
       have hfz27_0 := blk_frozen BK484.out 0
       go_wp2_with (first | ((with_reducible refine gate_callee (f := 55) rfl ?_); refine gL (some 37) Try.func55 #[.pointer (some ⟨g, 0, none⟩), .int .i64 (l1_0.length : Int)] ?_; (with_reducible refine (spec_reader_pick.calls k1 g s0_0 x1001_1 (l1_0.length : Int) t500 t501 w0 _ ?side1 ?side2 A21.out).mono ?_); (case side1 => exact Y7); (case side2 => exact Y12); rintro e w28 ⟨rfl, hi, hb, hk⟩; refine ⟨_, rfl, ?_⟩; replace HO_9 := am (Kd.R_mono (Kd.R_keep (IsS106.apart (show IsS106 w0 _ g s0_0 x1001_1 from Y7) (rq HO_9.out) (by decide)) hk (fun _ h => h.2)) (fun _ h => h.1)); replace BK484 := am (KeepBut.blk hk (g' := gb484) (o := .cells #[.slice A1_0 l1_0.length c1_0] 32 (0, 0)) (kq BK484.out) NB484_0.out (by simp)); replace HK := am (KeepBut.trans (Y4) hk (.inl rfl)); replace HB := am (hb); replace HI0 := am (hi); (try clear hb); (try clear hb2); (try clear hk); (try clear hi)) | ((with_reducible refine gate_dst (N := 38) rfl ?_); refine Kd.R_lit (Kd.int .i64) _ 3 ?hg (N := 38) ?hd (xs := ([t500, 0] : List Int)) (inner := [.int .i64 t500, .int .i64 0]) (ok := fun _ => True) (okp := fun _ => True) ?hr ?hp (fun _ hk => hk) trivial (Below.refl _ _) (Nat.le_refl _) (by simp) ?_; (case hd => rfl); (case hg => rfl); (case hr => exact Y5); (case hp => exact (Reps.one (show Kd.M (Kd.int .i64) _ _ _ t500 [.int .i64 t500] from rfl) (Reps.one (show Kd.M (Kd.int .i64) _ _ _ 0 [.int .i64 0] from rfl) (Reps.none _ _)))); intro v503 w29 ho30 hb hg_ hnew_; clear hg_ hnew_; (first | rw [← Ny502.out] at ho30 | (simp only [Int.reduceToNat] at ho30; rw [← Ny502.out] at ho30)); have HO504 := am (Kd.R_lower ho30 (keep_size (w := w) (g := g) (row := none) (Y4))); replace HO_9 := am (Kd.R_below (rq HO_9.out) hb); replace BK484 := am (blk_below (g := gb484) (o := .cells #[.slice A1_0 l1_0.length c1_0] 32 (0, 0)) (kq BK484.out) hb); replace HK := am (KeepBut.trans (Y4) (KeepBut.of_below hb g none) (.inl rfl)); replace HB := am (below_step (Y12) hb); replace HI0 := am (IsS106.below (Y7) hb); clear hb ho30; obtain ⟨Ao31, co31, eo31⟩ := Kd.R_slice HO504.out; subst eo31) | ((with_reducible refine gate_callee (f := 56) rfl ?_); refine gL (some 39) Try.func56 #[.pointer (some ⟨g, 0, none⟩), .slice Ao31 y502.length co31] ?_; (with_reducible refine (spec_reader_one.calls k1 g s0_0 t501 _ _ y502 t505 t506 w0 _ ?side1 ?side2 ?side3 ?side4 ?side5 A22.out).mono ?_); (case side1 => exact Y7); (case side2 => exact Y12); (case side3 => exact cq (Kd.R_reads' HO504.out).2.2); (case side4 => exact (Kd.R_reads' HO504.out).2.1); (case side5 => exact far_slice (IsS106.own_ne HI0.out HO504.out (by decide))); rintro e w32 ⟨rfl, hi, hb, hk⟩; refine ⟨_, rfl, ?_⟩; replace HO_9 := am (Kd.R_mono (Kd.R_keep (IsS106.apart (show IsS106 w0 _ g s0_0 t501 from Y7) (rq HO_9.out) (by decide)) hk (fun _ h => h.2)) (fun _ h => h.1)); replace BK484 := am (KeepBut.blk hk (g' := gb484) (o := .cells #[.slice A1_0 l1_0.length c1_0] 32 (0, 0)) (kq BK484.out) NB484_0.out (by simp)); replace HO504 := am (Kd.R_mono (Kd.R_keep (IsS106.apart (show IsS106 w0 _ g s0_0 t501 from Y7) (rq HO504.out) (by decide)) hk (fun _ h => h.2)) (fun _ h => h.1)); replace HK := am (KeepBut.trans (Y4) hk (.inl rfl)); replace HB := am (hb); replace HI0 := am (hi); (try clear hb); (try clear hb2); (try clear hk); (try clear hi)) | ((with_reducible refine gate_builtin (b := .append) (xs := #[.tmp 30, .tmp 41]) rfl ?_); at_builtin; refine Kd.R_append k59 w.heap.size rfl (.tmp 30) (.tmp 41) 34 59 (.agg #[(.int .i64 0), (.int .i64 0), (.int .i64 0), (.int .i64 0)]) 32 rfl Try.underlying34 info59 rfl (by decide) (by omega) u9 x9_1 (⟨a2, 8, t505, 0⟩ : S59) [.int .i64 a2, .int .i64 8, .int .i64 t505, .int .i64 0] (fun _ => True) (fun _ => False) rfl rfl ?aP (fun _ hk => hk.elim) ?aF ?aO (Below.refl _ _) ?aS ?aL ?_; (case aP => exact k59_mkM _ _ _ (⟨a2, 8, t505, 0⟩ : S59)); (case aF => exact (fun _ _ => trivial)); (case aO => exact (rq HO_9.out)); (case aS => exact (keep_size (w := w) (g := g) (row := none) (Y4))); (case aL => have := LMc23.out; omega); intro v508 w33 ho hb hg hat; rw [← Ny507.out] at ho; have n0_ := am (blk_grown (g := gb484) (o := .cells #[.slice A1_0 l1_0.length c1_0] 32 (0, 0)) (kq BK484.out) hg (Kd.R_ne HO_9.out BK484.out (by decide))); have n1_ := am (IsS106.grown (Y7) hg (IsS106.own_ne HI0.out HO_9.out (by decide))); have n2_ := am (Kd.R_over' (rq HO504.out) (Kd.R_typed (rq HO_9.out)) (by decide) hg); have n3_ := am (below_weaken (Y12) HL.out hb); have n4_ := am (KeepBut.trans (Y4) (KeepBut.of_grown hg g) (Kd.R_base2 HO_9.out)); have n5_ := am (ho); clear BK484 HI0 HO504 HB HK HO_9; have BK484 := n0_; have HI0 := n1_; have HO504 := n2_; have HB := n3_; have HK := n4_; have HO509 := n5_; clear n0_ n1_ n2_ n3_ n4_ n5_ ho hb hg hat; have hcz34_0 := bc0 BK484.out; have hfz34_0 := blk_frozen BK484.out 0) | ((with_reducible refine gate_callee (f := 98) rfl ?_); refine gL (some 49) Try.func98 #[.pointer (some ⟨g, 0, none⟩), .agg #[.slice A1_0 l1_0.length c1_0], .int .i64 (wrap64 (a2 + 1)), .bool a3] ?_; (with_reducible refine (ih98 k1 (by have := HK1.out; omega) g s0_0 t506 _ _ l1_0 (wrap64 (a2 + 1)) a3 t510 t513 w0 _ ?side1 ?side2 ?side3 ?side4 A24.out).mono ?_); (case side1 => exact Y7); (case side2 => exact Y12); (case side3 => exact Kd.C_foot_step HR1_0.out (Y4)); (case side4 => exact HC1_0.out); rintro e w35 ⟨v511, rfl, ho0, hi, hb, hk⟩; refine ⟨_, rfl, ?_⟩; have HO512 := am (Kd.R_lower (Kd.R_new' ho0 (Kd.R_lt (rq HO509.out))) (keep_size (w := w) (g := g) (row := none) (Y4))); replace BK484 := am (KeepBut.blk hk (g' := gb484) (o := .cells #[.slice A1_0 l1_0.length c1_0] 32 (0, 0)) (kq BK484.out) NB484_0.out (by simp)); replace HO504 := am (Kd.R_mono (Kd.R_keep (IsS106.apart (show IsS106 w0 _ g s0_0 t506 from Y7) (rq HO504.out) (by decide)) hk (fun _ h => h.2)) (fun _ h => h.1)); replace HO509 := am (Kd.R_mono (Kd.R_told (Kd.R_oldK (IsS106.apart (show IsS106 w0 _ g s0_0 t506 from Y7) (rq HO509.out) (by decide)) hk) (Kd.R_base ho0)) (fun _ h_ => h_.1)); replace HK := am (KeepBut.trans (Y4) hk (.inl rfl)); replace HB := am (hb); replace HI0 := am (hi); (try clear hb); (try clear hb2); (try clear hk); (try clear hi); (try clear ho0); obtain ⟨Ao37, co37, eo37⟩ := Kd.R_slice HO512.out; subst eo37) | ((with_reducible refine gate_builtin (b := .append) (xs := #[.tmp 43, .tmp 49]) rfl ?_); at_builtin; refine Kd.R_append_rows k59 w.heap.size rfl (.tmp 43) (.tmp 49) 34 59 (.agg #[(.int .i64 0), (.int .i64 0), (.int .i64 0), (.int .i64 0)]) 32 rfl Try.underlying34 info59 rfl (by decide) (by omega) v508 y507 t510 _ _ _ (fun k_ => some k_ ≠ (.slice Ao37 t510.length co37 : Value).ownBlock) (fun _ => False) rfl rfl ?aO ?aR (fun _ _ h => h) (fun _ h => h.elim) ?aF (Below.refl _ _) ?aS ?aL ?_; (case aR => repeat (first | exact (Kd.R_reads' HO512.out).2.2 | (with_reducible refine Kd.C_alloc ?_ _) | (with_reducible refine Kd.C_drewN ?_ _) | (with_reducible refine Kd.C_drew ?_))); (case aF => exact (fun k_ hk => Kd.fresh' (Kd.R_lt (rq HO512.out)) k_ hk)); (case aO => exact (by (with_reducible repeat (first | apply Kd.R_alloc | apply Kd.R_drewN | apply Kd.R_drew)); exact Kd.R_mono HO509.out (fun _ hk => hk.2))); (case aS => exact (keep_size (w := w) (g := g) (row := none) (Y4))); (case aL => have := LMc25.out; omega); intro v515 w36 ho hb hg hat; rw [← Ny514.out] at ho; have n0_ := am (blk_grown (g := gb484) (o := .cells #[.slice A1_0 l1_0.length c1_0] 32 (0, 0)) (kq BK484.out) hg (Kd.R_ne HO509.out BK484.out (by decide))); have n1_ := am (IsS106.grown (Y7) hg (IsS106.own_ne HI0.out HO509.out (by decide))); have n2_ := am (Kd.R_over' (rq HO504.out) (Kd.R_typed (rq HO509.out)) (by decide) hg); have n3_ := am (Kd.R_after (ok := (fun _ => True)) (rq HO512.out) hg hat); have n4_ := am (below_weaken (Y12) HL.out hb); have n5_ := am (KeepBut.trans (Y4) (KeepBut.of_grown hg g) (Kd.R_base2 HO509.out)); have n6_ := am (ho); clear BK484 HI0 HO504 HO512 HB HK HO509; have BK484 := n0_; have HI0 := n1_; have HO504 := n2_; have HO512 := n3_; have HB := n4_; have HK := n5_; have HO516 := n6_; clear n0_ n1_ n2_ n3_ n4_ n5_ n6_ ho hb hg hat))
       go_roundg k1
       case measure => have := HK1.out; omega
       case rel => exact ⟨(y514), (wrap64 (x11_1 - 1)), (t513), (sq), H', ⟨by have := HK1.out; omega⟩, ⟨by (with_reducible repeat (first | apply Kd.R_alloc | apply Kd.R_drewN | apply Kd.R_drew)); exact Kd.R_mono HO516.out (fun _ hk => trivial)⟩, ⟨kq BK484.out⟩, ⟨Y7⟩, ⟨Y4⟩, ⟨Y12⟩⟩
      ·rw [if_neg c25] at H
       exact absurd H (by simp)
     ·rw [if_neg c23] at H
      exact absurd H (by simp)
    ·rw [if_neg c20] at H
     have c20b0 : decide (0 < x11_1) = false := decide_eq_false c20
     clear c20
     have HC38 := am H
     clear H
     go_upto_region 8 with (fail)
     go_cut [57] (fun v57 wc => ∃ (kq : Nat) (x57_37 : Bool) (x1001_37 : Int), v57 = .bool x57_37 ∧ Aside0 (spec_aTry.j1 kq a2 a3 x9_1 t498 x57_37 s0_0 x1001_37 l1_0 = some (r1, r2)) ∧ Aside0 (kq ≤ k1) ∧ Aside0 (Kd.R k59 59 wc w.heap.size (fun _ => True) u9 x9_1) ∧ Aside0 (wc.heap[gb484]? = some (.cells #[(.slice A1_0 l1_0.length c1_0)] 32 (0, 0))) ∧ Aside0 (IsS106 w0 wc g s0_0 x1001_37) ∧ Aside0 (KeepBut w wc g none) ∧ Aside0 (Below w0.heap.size w0 wc))
     case first =>
      have H := HC38.out
      clear HC38
      by_cases c39 : t498 > 0
      ·rw [if_pos c39] at H
       have c39b0 : decide (0 < t498) = true := decide_eq_true c39
       clear c39
       (first | rw [c39b0] | (simp only [i64_w, i32_w]; rw [c39b0]) | skip)
       replace H := Option.bind_eq_some_iff.mp H
       obtain ⟨⟨t517, t518⟩, A400, H⟩ := H
       replace H : (spec_aTry.j1 k1 a2 a3 x9_1 t498 (t517 == 0) s0_0 t518 l1_0) = some (r1, r2) := H
       have A40 := am A400
       clear A400
       have H' := am H
       clear H
       go_wp2_with (first | (go_at_call 55; (with_reducible refine (spec_reader_pick.calls k1 g s0_0 x1001_1 3 t517 t518 w0 _ ?side1 ?side2 A40.out).mono ?_); (case side1 => exact Y7); (case side2 => exact Y12); rintro e w41 ⟨rfl, hi, hb, hk⟩; replace HO_9 := am (Kd.R_mono (Kd.R_keep (IsS106.apart (show IsS106 w0 _ g s0_0 x1001_1 from Y7) (rq HO_9.out) (by decide)) hk (fun _ h => h.2)) (fun _ h => h.1)); replace BK484 := am (KeepBut.blk hk (g' := gb484) (o := .cells #[.slice A1_0 l1_0.length c1_0] 32 (0, 0)) (kq BK484.out) NB484_0.out (by simp)); replace HK := am (KeepBut.trans (Y4) hk (.inl rfl)); replace HB := am (hb); replace HI0 := am (hi); (try clear hb); (try clear hb2); (try clear hk); (try clear hi)))
       go_meet
       case rel => exact ⟨_, ((t517 == 0)), (t518), (sq), H', ⟨by have := HK1.out; first | omega | exact Nat.le_refl _⟩, ⟨rq HO_9.out⟩, ⟨kq BK484.out⟩, ⟨Y7⟩, ⟨Y4⟩, ⟨Y12⟩⟩
      ·rw [if_neg c39] at H
       have c39b0 : decide (0 < t498) = false := decide_eq_false c39
       clear c39
       (first | rw [c39b0] | (simp only [i64_w, i32_w]; rw [c39b0]) | skip)
       have H' := am H
       clear H
       go_wp2
       go_meet
       case rel => exact ⟨_, (false), (x1001_1), (sq), H', ⟨by have := HK1.out; first | omega | exact Nat.le_refl _⟩, ⟨rq HO_9.out⟩, ⟨kq BK484.out⟩, ⟨Y7⟩, ⟨Y4⟩, ⟨Y12⟩⟩
     case rest =>
      clear HC38
      try clear c1
      try clear c2
      try clear p2
      try clear c3
      try clear c4
      try clear c5
      try clear c6
      try clear p6
      try clear c9
      try clear c11
      try clear c20
      try clear c20b0
      try clear c23
      try clear c25
      try clear c26
      try clear c39
      try clear c39b0
      try clear hcz12_0
      try clear hcz27_0
      try clear hcz34_0
      try clear hfz12_0
      try clear hfz27_0
      try clear hfz34_0
      try clear p2
      try clear p6
      obtain ⟨kq, x57_37, x1001_37, rfl, HA, HJ37, HO_9, BK484, HI0, HK, HB⟩ := hcut
      cases kq with
      | zero => exact absurd HA.out (by simp [spec_aTry.j1])
      | succ kj37 =>
       have H := HA.out
       clear HA
       simp only [spec_aTry.j1] at H
       have HC42 := am H
       clear H
       go_upto_if 57 with (fail)
       go_cut [9] (fun v9 wc => ∃ (kq : Nat) (x9_41 : List (S59)) (x1001_41 : Int), Aside0 (spec_aTry.j2 kq a2 a3 x9_41 t498 s0_0 x1001_41 l1_0 = some (r1, r2)) ∧ Aside0 (kq ≤ kj37) ∧ Aside0 (Kd.R k59 59 wc w.heap.size (fun _ => True) v9 x9_41) ∧ Aside0 (wc.heap[gb484]? = some (.cells #[(.slice A1_0 l1_0.length c1_0)] 32 (0, 0))) ∧ Aside0 (IsS106 w0 wc g s0_0 x1001_41) ∧ Aside0 (KeepBut w wc g none) ∧ Aside0 (Below w0.heap.size w0 wc))
       case first =>
        have H := HC42.out
        clear HC42
        by_cases c43 : x57_37 = true
        ·subst c43
         have H1 : (if x9_1.length < 4398046511104 then ((some (x9_1 ++ [(⟨a2, 9, 0, 0⟩ : S59)] : List (S59))).bind fun y519 => ((spec_aBlock.f kj37 s0_0 x1001_37 l1_0 (wrap64 (a2 + 1)) a3).bind fun bt522 => (if y519.length + bt522.1.length < 4398046511104 then (spec_aTry.j2 kj37 a2 a3 (y519 ++ bt522.1) t498 s0_0 bt522.2 l1_0) else (none)))) else (none)) = some (r1, r2) := by rw [if_pos rfl] at H; exact H
         clear H
         have H := H1
         clear H1
         by_cases c44 : x9_1.length < 4398046511104
         ·rw [if_pos c44] at H
          have LMc44 := am c44
          clear c44
          obtain ⟨y519, hy519⟩ : ∃ y_ : List (S59), y_ = (x9_1 ++ [(⟨a2, 9, 0, 0⟩ : S59)]) := ⟨_, rfl⟩
          replace H : ((spec_aBlock.f kj37 s0_0 x1001_37 l1_0 (wrap64 (a2 + 1)) a3).bind fun bt522 => (if y519.length + bt522.1.length < 4398046511104 then (spec_aTry.j2 kj37 a2 a3 (y519 ++ bt522.1) t498 s0_0 bt522.2 l1_0) else (none))) = some (r1, r2) := by first | (rw [hy519]; with_reducible exact H) | (have H2_ := (Option.bind_some _ _).symm.trans H; rw [hy519]; with_reducible exact H2_) | (have H2_ := (Option.bind_some _ _).symm.trans H; with_reducible exact H2_) | with_reducible exact H | (rw [hy519]; exact H) | exact H
          have Ny519 := am hy519
          clear hy519
          replace H := Option.bind_eq_some_iff.mp H
          obtain ⟨⟨t522, t525⟩, A450, H⟩ := H
          replace H : (if y519.length + t522.length < 4398046511104 then (spec_aTry.j2 kj37 a2 a3 (y519 ++ t522) t498 s0_0 t525 l1_0) else (none)) = some (r1, r2) := H
          have A45 := am A450
          clear A450
          by_cases c46 : y519.length + t522.length < 4398046511104
          ·rw [if_pos c46] at H
           have LMc46 := am c46
           clear c46
           obtain ⟨y526, hy526⟩ : ∃ y_ : List (S59), y_ = (y519 ++ t522) := ⟨_, rfl⟩
           replace H : (spec_aTry.j2 kj37 a2 a3 y526 t498 s0_0 t525 l1_0) = some (r1, r2) := by first | (rw [hy526]; with_reducible exact H) | (have H2_ := (Option.bind_some _ _).symm.trans H; rw [hy526]; with_reducible exact H2_) | (have H2_ := (Option.bind_some _ _).symm.trans H; with_reducible exact H2_) | with_reducible exact H | (rw [hy526]; exact H) | exact H
           have Ny526 := am hy526
           clear hy526
           have H' := am H
           clear H
           go_wp2_with (first | ((with_reducible refine gate_builtin (b := .append) (xs := #[.tmp 58, .tmp 61]) rfl ?_); at_builtin; refine Kd.R_append k59 w.heap.size rfl (.tmp 58) (.tmp 61) 34 59 (.agg #[(.int .i64 0), (.int .i64 0), (.int .i64 0), (.int .i64 0)]) 32 rfl Try.underlying34 info59 rfl (by decide) (by omega) u9 x9_1 (⟨a2, 9, 0, 0⟩ : S59) [.int .i64 a2, .int .i64 9, .int .i64 0, .int .i64 0] (fun _ => True) (fun _ => False) rfl rfl ?aP (fun _ hk => hk.elim) ?aF ?aO (Below.refl _ _) ?aS ?aL ?_; (case aP => exact k59_mkM _ _ _ (⟨a2, 9, 0, 0⟩ : S59)); (case aF => exact (fun _ _ => trivial)); (case aO => exact (rq HO_9.out)); (case aS => exact (keep_size (w := w) (g := g) (row := none) (Y4))); (case aL => have := LMc44.out; omega); intro v520 w47 ho hb hg hat; rw [← Ny519.out] at ho; have n0_ := am (blk_grown (g := gb484) (o := .cells #[.slice A1_0 l1_0.length c1_0] 32 (0, 0)) (kq BK484.out) hg (Kd.R_ne HO_9.out BK484.out (by decide))); have n1_ := am (IsS106.grown (Y7) hg (IsS106.own_ne HI0.out HO_9.out (by decide))); have n2_ := am (below_weaken (Y12) HL.out hb); have n3_ := am (KeepBut.trans (Y4) (KeepBut.of_grown hg g) (Kd.R_base2 HO_9.out)); have n4_ := am (ho); clear BK484 HI0 HB HK HO_9; have BK484 := n0_; have HI0 := n1_; have HB := n2_; have HK := n3_; have HO521 := n4_; clear n0_ n1_ n2_ n3_ n4_ ho hb hg hat; have hnb48 := NB484_0.out; have hnc48 := NB0_484.out; have hcz49_0 := bc0 BK484.out; have hfz49_0 := blk_frozen BK484.out 0) | ((with_reducible refine gate_callee (f := 98) rfl ?_); refine gL (some 69) Try.func98 #[.pointer (some ⟨g, 0, none⟩), .agg #[.slice A1_0 l1_0.length c1_0], .int .i64 (wrap64 (a2 + 1)), .bool a3] ?_; (with_reducible refine (ih98 kj37 (by have := HK1.out; have := HJ37.out; omega) g s0_0 x1001_37 _ _ l1_0 (wrap64 (a2 + 1)) a3 t522 t525 w0 _ ?side1 ?side2 ?side3 ?side4 A45.out).mono ?_); (case side1 => exact Y7); (case side2 => exact Y12); (case side3 => exact Kd.C_foot_step HR1_0.out (Y4)); (case side4 => exact HC1_0.out); rintro e w50 ⟨v523, rfl, ho0, hi, hb, hk⟩; refine ⟨_, rfl, ?_⟩; have HO524 := am (Kd.R_lower (Kd.R_new' ho0 (Kd.R_lt (rq HO521.out))) (keep_size (w := w) (g := g) (row := none) (Y4))); replace BK484 := am (KeepBut.blk hk (g' := gb484) (o := .cells #[.slice A1_0 l1_0.length c1_0] 32 (0, 0)) (kq BK484.out) NB484_0.out (by simp)); replace HO521 := am (Kd.R_mono (Kd.R_told (Kd.R_oldK (IsS106.apart (show IsS106 w0 _ g s0_0 x1001_37 from Y7) (rq HO521.out) (by decide)) hk) (Kd.R_base ho0)) (fun _ h_ => h_.1)); replace HK := am (KeepBut.trans (Y4) hk (.inl rfl)); replace HB := am (hb); replace HI0 := am (hi); (try clear hb); (try clear hb2); (try clear hk); (try clear hi); (try clear ho0); obtain ⟨Ao52, co52, eo52⟩ := Kd.R_slice HO524.out; subst eo52) | ((with_reducible refine gate_builtin (b := .append) (xs := #[.tmp 63, .tmp 69]) rfl ?_); at_builtin; refine Kd.R_append_rows k59 w.heap.size rfl (.tmp 63) (.tmp 69) 34 59 (.agg #[(.int .i64 0), (.int .i64 0), (.int .i64 0), (.int .i64 0)]) 32 rfl Try.underlying34 info59 rfl (by decide) (by omega) v520 y519 t522 _ _ _ (fun k_ => some k_ ≠ (.slice Ao52 t522.length co52 : Value).ownBlock) (fun _ => False) rfl rfl ?aO ?aR (fun _ _ h => h) (fun _ h => h.elim) ?aF (Below.refl _ _) ?aS ?aL ?_; (case aR => repeat (first | exact (Kd.R_reads' HO524.out).2.2 | (with_reducible refine Kd.C_alloc ?_ _) | (with_reducible refine Kd.C_drewN ?_ _) | (with_reducible refine Kd.C_drew ?_))); (case aF => exact (fun k_ hk => Kd.fresh' (Kd.R_lt (rq HO524.out)) k_ hk)); (case aO => exact (by (with_reducible repeat (first | apply Kd.R_alloc | apply Kd.R_drewN | apply Kd.R_drew)); exact Kd.R_mono HO521.out (fun _ hk => hk.2))); (case aS => exact (keep_size (w := w) (g := g) (row := none) (Y4))); (case aL => have := LMc46.out; omega); intro v527 w51 ho hb hg hat; rw [← Ny526.out] at ho; have n0_ := am (blk_grown (g := gb484) (o := .cells #[.slice A1_0 l1_0.length c1_0] 32 (0, 0)) (kq BK484.out) hg (Kd.R_ne HO521.out BK484.out (by decide))); have n1_ := am (IsS106.grown (Y7) hg (IsS106.own_ne HI0.out HO521.out (by decide))); have n2_ := am (Kd.R_after (ok := (fun _ => True)) (rq HO524.out) hg hat); have n3_ := am (below_weaken (Y12) HL.out hb); have n4_ := am (KeepBut.trans (Y4) (KeepBut.of_grown hg g) (Kd.R_base2 HO521.out)); have n5_ := am (ho); clear BK484 HI0 HO524 HB HK HO521; have BK484 := n0_; have HI0 := n1_; have HO524 := n2_; have HB := n3_; have HK := n4_; have HO528 := n5_; clear n0_ n1_ n2_ n3_ n4_ n5_ ho hb hg hat))
           go_meet
           case rel => exact ⟨_, (y526), (t525), H', ⟨by have := HK1.out; have := HJ37.out; first | omega | exact Nat.le_refl _⟩, ⟨by (with_reducible repeat (first | apply Kd.R_alloc | apply Kd.R_drewN | apply Kd.R_drew)); exact Kd.R_mono HO528.out (fun _ hk => trivial)⟩, ⟨kq BK484.out⟩, ⟨Y7⟩, ⟨Y4⟩, ⟨Y12⟩⟩
          ·rw [if_neg c46] at H
           exact absurd H (by simp)
         ·rw [if_neg c44] at H
          exact absurd H (by simp)
        ·replace c43 := Bool.eq_false_iff.mpr c43
         subst c43
         have H1 : (spec_aTry.j2 kj37 a2 a3 x9_1 t498 s0_0 x1001_37 l1_0) = some (r1, r2) := by rw [if_neg (show ¬ (false = true) by decide)] at H; exact H
         clear H
         have H := H1
         clear H1
         have H' := am H
         clear H
         go_wp2
         go_meet
         case rel => exact ⟨_, (x9_1), (x1001_37), H', ⟨by have := HK1.out; have := HJ37.out; first | omega | exact Nat.le_refl _⟩, ⟨rq HO_9.out⟩, ⟨kq BK484.out⟩, ⟨Y7⟩, ⟨Y4⟩, ⟨Y12⟩⟩
       case rest =>
        clear HC42
        try clear c1
        try clear c2
        try clear p2
        try clear c3
        try clear c4
        try clear c5
        try clear c6
        try clear p6
        try clear c9
        try clear c11
        try clear c20
        try clear c20b0
        try clear c23
        try clear c25
        try clear c26
        try clear c39
        try clear c39b0
        try clear c43
        try clear c44
        try clear c46
        try clear c48
        try clear hcz12_0
        try clear hcz27_0
        try clear hcz34_0
        try clear hcz49_0
        try clear hfz12_0
        try clear hfz27_0
        try clear hfz34_0
        try clear hfz49_0
        try clear p2
        try clear p6
        obtain ⟨kq, x9_41, x1001_41, HA, HJ41, HO_9, BK484, HI0, HK, HB⟩ := hcut
        cases kq with
        | zero => exact absurd HA.out (by simp [spec_aTry.j2])
        | succ kj41 =>
         have H := HA.out
         clear HA
         simp only [spec_aTry.j2] at H
         by_cases c53 : t498 = 0
         ·rw [if_pos c53] at H
          have c53b0 : (t498 == 0) = true := beq_iff_eq.mpr c53
          have c53b1 : (t498 != 0) = false := bne_eq_false_iff_eq.mpr c53
          clear c53
          by_cases c54 : x9_41.length < 4398046511104
          ·rw [if_pos c54] at H
           have LMc54 := am c54
           clear c54
           obtain ⟨y531, hy531⟩ : ∃ y_ : List (S59), y_ = (x9_41 ++ [(⟨a2, 10, 0, 0⟩ : S59)]) := ⟨_, rfl⟩
           replace H : ((spec_aBlock.f kj41 s0_0 x1001_41 l1_0 (wrap64 (a2 + 1)) a3).bind fun bt534 => (if y531.length + bt534.1.length < 4398046511104 then (some ((y531 ++ bt534.1), bt534.2)) else (none))) = some (r1, r2) := by first | (rw [hy531]; with_reducible exact H) | (have H2_ := (Option.bind_some _ _).symm.trans H; rw [hy531]; with_reducible exact H2_) | (have H2_ := (Option.bind_some _ _).symm.trans H; with_reducible exact H2_) | with_reducible exact H | (rw [hy531]; exact H) | exact H
           have Ny531 := am hy531
           clear hy531
           replace H := Option.bind_eq_some_iff.mp H
           obtain ⟨⟨t534, t537⟩, A550, H⟩ := H
           replace H : (if y531.length + t534.length < 4398046511104 then (some ((y531 ++ t534), t537)) else (none)) = some (r1, r2) := H
           have A55 := am A550
           clear A550
           by_cases c56 : y531.length + t534.length < 4398046511104
           ·rw [if_pos c56] at H
            have LMc56 := am c56
            clear c56
            obtain ⟨y538, hy538⟩ : ∃ y_ : List (S59), y_ = (y531 ++ t534) := ⟨_, rfl⟩
            replace H : (some (y538, t537)) = some (r1, r2) := by first | (rw [hy538]; with_reducible exact H) | (have H2_ := (Option.bind_some _ _).symm.trans H; rw [hy538]; with_reducible exact H2_) | (have H2_ := (Option.bind_some _ _).symm.trans H; with_reducible exact H2_) | with_reducible exact H | (rw [hy538]; exact H) | exact H
            have Ny538 := am hy538
            clear hy538
            simp only [Option.some.injEq, Prod.mk.injEq] at H
            obtain ⟨rfl, rfl⟩ := H
            go_wp2_with (first | ((with_reducible refine gate_builtin (b := .append) (xs := #[.tmp 78, .tmp 81]) rfl ?_); at_builtin; refine Kd.R_append k59 w.heap.size rfl (.tmp 78) (.tmp 81) 34 59 (.agg #[(.int .i64 0), (.int .i64 0), (.int .i64 0), (.int .i64 0)]) 32 rfl Try.underlying34 info59 rfl (by decide) (by omega) u9 x9_41 (⟨a2, 10, 0, 0⟩ : S59) [.int .i64 a2, .int .i64 10, .int .i64 0, .int .i64 0] (fun _ => True) (fun _ => False) rfl rfl ?aP (fun _ hk => hk.elim) ?aF ?aO (Below.refl _ _) ?aS ?aL ?_; (case aP => exact k59_mkM _ _ _ (⟨a2, 10, 0, 0⟩ : S59)); (case aF => exact (fun _ _ => trivial)); (case aO => exact (rq HO_9.out)); (case aS => exact (keep_size (w := w) (g := g) (row := none) (Y4))); (case aL => have := LMc54.out; omega); intro v532 w57 ho hb hg hat; rw [← Ny531.out] at ho; have n0_ := am (blk_grown (g := gb484) (o := .cells #[.slice A1_0 l1_0.length c1_0] 32 (0, 0)) (kq BK484.out) hg (Kd.R_ne HO_9.out BK484.out (by decide))); have n1_ := am (IsS106.grown (Y7) hg (IsS106.own_ne HI0.out HO_9.out (by decide))); have n2_ := am (below_weaken (Y12) HL.out hb); have n3_ := am (KeepBut.trans (Y4) (KeepBut.of_grown hg g) (Kd.R_base2 HO_9.out)); have n4_ := am (ho); clear BK484 HI0 HB HK HO_9; have BK484 := n0_; have HI0 := n1_; have HB := n2_; have HK := n3_; have HO533 := n4_; clear n0_ n1_ n2_ n3_ n4_ ho hb hg hat; have hnb58 := NB484_0.out; have hnc58 := NB0_484.out; have hcz59_0 := bc0 BK484.out; have hfz59_0 := blk_frozen BK484.out 0) | ((with_reducible refine gate_callee (f := 98) rfl ?_); refine gL (some 89) Try.func98 #[.pointer (some ⟨g, 0, none⟩), .agg #[.slice A1_0 l1_0.length c1_0], .int .i64 (wrap64 (a2 + 1)), .bool a3] ?_; (with_reducible refine (ih98 kj41 (by have := HK1.out; have := HJ37.out; have := HJ41.out; omega) g s0_0 x1001_41 _ _ l1_0 (wrap64 (a2 + 1)) a3 t534 t537 w0 _ ?side1 ?side2 ?side3 ?side4 A55.out).mono ?_); (case side1 => exact Y7); (case side2 => exact Y12); (case side3 => exact Kd.C_foot_step HR1_0.out (Y4)); (case side4 => exact HC1_0.out); rintro e w60 ⟨v535, rfl, ho0, hi, hb, hk⟩; refine ⟨_, rfl, ?_⟩; have HO536 := am (Kd.R_lower (Kd.R_new' ho0 (Kd.R_lt (rq HO533.out))) (keep_size (w := w) (g := g) (row := none) (Y4))); replace BK484 := am (KeepBut.blk hk (g' := gb484) (o := .cells #[.slice A1_0 l1_0.length c1_0] 32 (0, 0)) (kq BK484.out) NB484_0.out (by simp)); replace HO533 := am (Kd.R_mono (Kd.R_told (Kd.R_oldK (IsS106.apart (show IsS106 w0 _ g s0_0 x1001_41 from Y7) (rq HO533.out) (by decide)) hk) (Kd.R_base ho0)) (fun _ h_ => h_.1)); replace HK := am (KeepBut.trans (Y4) hk (.inl rfl)); replace HB := am (hb); replace HI0 := am (hi); (try clear hb); (try clear hb2); (try clear hk); (try clear hi); (try clear ho0); obtain ⟨Ao62, co62, eo62⟩ := Kd.R_slice HO536.out; subst eo62) | ((with_reducible refine gate_builtin (b := .append) (xs := #[.tmp 83, .tmp 89]) rfl ?_); at_builtin; refine Kd.R_append_rows k59 w.heap.size rfl (.tmp 83) (.tmp 89) 34 59 (.agg #[(.int .i64 0), (.int .i64 0), (.int .i64 0), (.int .i64 0)]) 32 rfl Try.underlying34 info59 rfl (by decide) (by omega) v532 y531 t534 _ _ _ (fun k_ => some k_ ≠ (.slice Ao62 t534.length co62 : Value).ownBlock) (fun _ => False) rfl rfl ?aO ?aR (fun _ _ h => h) (fun _ h => h.elim) ?aF (Below.refl _ _) ?aS ?aL ?_; (case aR => repeat (first | exact (Kd.R_reads' HO536.out).2.2 | (with_reducible refine Kd.C_alloc ?_ _) | (with_reducible refine Kd.C_drewN ?_ _) | (with_reducible refine Kd.C_drew ?_))); (case aF => exact (fun k_ hk => Kd.fresh' (Kd.R_lt (rq HO536.out)) k_ hk)); (case aO => exact (by (with_reducible repeat (first | apply Kd.R_alloc | apply Kd.R_drewN | apply Kd.R_drew)); exact Kd.R_mono HO533.out (fun _ hk => hk.2))); (case aS => exact (keep_size (w := w) (g := g) (row := none) (Y4))); (case aL => have := LMc56.out; omega); intro v539 w61 ho hb hg hat; rw [← Ny538.out] at ho; have n0_ := am (blk_grown (g := gb484) (o := .cells #[.slice A1_0 l1_0.length c1_0] 32 (0, 0)) (kq BK484.out) hg (Kd.R_ne HO533.out BK484.out (by decide))); have n1_ := am (IsS106.grown (Y7) hg (IsS106.own_ne HI0.out HO533.out (by decide))); have n2_ := am (Kd.R_after (ok := (fun _ => True)) (rq HO536.out) hg hat); have n3_ := am (below_weaken (Y12) HL.out hb); have n4_ := am (KeepBut.trans (Y4) (KeepBut.of_grown hg g) (Kd.R_base2 HO533.out)); have n5_ := am (ho); clear BK484 HI0 HO536 HB HK HO533; have BK484 := n0_; have HI0 := n1_; have HO536 := n2_; have HB := n3_; have HK := n4_; have HO540 := n5_; clear n0_ n1_ n2_ n3_ n4_ n5_ ho hb hg hat))
            go_ret
            exact ⟨_, Y0, by (with_reducible repeat (first | apply Kd.R_alloc | apply Kd.R_drewN | apply Kd.R_drew)); exact Kd.R_mono HO540.out (fun _ hk => trivial), Y7, Y12, Y4⟩
           ·rw [if_neg c56] at H
            exact absurd H (by simp)
          ·rw [if_neg c54] at H
           exact absurd H (by simp)
         ·rw [if_neg c53] at H
          have c53b0 : (t498 == 0) = false := beq_eq_false_iff_ne.mpr c53
          have c53b1 : (t498 != 0) = true := bne_iff_ne.mpr c53
          replace H := Option.bind_eq_some_iff.mp H
          obtain ⟨⟨t529, t530⟩, A630, H⟩ := H
          replace H : (if t529 = 0 then (if x9_41.length < 4398046511104 then ((some (x9_41 ++ [(⟨a2, 10, 0, 0⟩ : S59)] : List (S59))).bind fun y541 => ((spec_aBlock.f kj41 s0_0 t530 l1_0 (wrap64 (a2 + 1)) a3).bind fun bt544 => (if y541.length + bt544.1.length < 4398046511104 then (some ((y541 ++ bt544.1), bt544.2)) else (none)))) else (none)) else (some (x9_41, t530))) = some (r1, r2) := H
          have A63 := am A630
          clear A630
          by_cases c64 : t529 = 0
          ·rw [if_pos c64] at H
           have c64b0 : (t529 == 0) = true := beq_iff_eq.mpr c64
           have c64b1 : (t529 != 0) = false := bne_eq_false_iff_eq.mpr c64
           clear c64
           by_cases c65 : x9_41.length < 4398046511104
           ·rw [if_pos c65] at H
            have LMc65 := am c65
            clear c65
            obtain ⟨y541, hy541⟩ : ∃ y_ : List (S59), y_ = (x9_41 ++ [(⟨a2, 10, 0, 0⟩ : S59)]) := ⟨_, rfl⟩
            replace H : ((spec_aBlock.f kj41 s0_0 t530 l1_0 (wrap64 (a2 + 1)) a3).bind fun bt544 => (if y541.length + bt544.1.length < 4398046511104 then (some ((y541 ++ bt544.1), bt544.2)) else (none))) = some (r1, r2) := by first | (rw [hy541]; with_reducible exact H) | (have H2_ := (Option.bind_some _ _).symm.trans H; rw [hy541]; with_reducible exact H2_) | (have H2_ := (Option.bind_some _ _).symm.trans H; with_reducible exact H2_) | with_reducible exact H | (rw [hy541]; exact H) | exact H
            have Ny541 := am hy541
            clear hy541
            replace H := Option.bind_eq_some_iff.mp H
            obtain ⟨⟨t544, t547⟩, A660, H⟩ := H
            replace H : (if y541.length + t544.length < 4398046511104 then (some ((y541 ++ t544), t547)) else (none)) = some (r1, r2) := H
            have A66 := am A660
            clear A660
            by_cases c67 : y541.length + t544.length < 4398046511104
            ·rw [if_pos c67] at H
             have LMc67 := am c67
             clear c67
             obtain ⟨y548, hy548⟩ : ∃ y_ : List (S59), y_ = (y541 ++ t544) := ⟨_, rfl⟩
             replace H : (some (y548, t547)) = some (r1, r2) := by first | (rw [hy548]; with_reducible exact H) | (have H2_ := (Option.bind_some _ _).symm.trans H; rw [hy548]; with_reducible exact H2_) | (have H2_ := (Option.bind_some _ _).symm.trans H; with_reducible exact H2_) | with_reducible exact H | (rw [hy548]; exact H) | exact H
             have Ny548 := am hy548
             clear hy548
             simp only [Option.some.injEq, Prod.mk.injEq] at H
             obtain ⟨rfl, rfl⟩ := H
             go_wp2_with (first | (go_at_call 55; (with_reducible refine (spec_reader_pick.calls kj41 g s0_0 x1001_41 2 t529 t530 w0 _ ?side1 ?side2 A63.out).mono ?_); (case side1 => exact Y7); (case side2 => exact Y12); rintro e w68 ⟨rfl, hi, hb, hk⟩; replace HO_9 := am (Kd.R_mono (Kd.R_keep (IsS106.apart (show IsS106 w0 _ g s0_0 x1001_41 from Y7) (rq HO_9.out) (by decide)) hk (fun _ h => h.2)) (fun _ h => h.1)); replace BK484 := am (KeepBut.blk hk (g' := gb484) (o := .cells #[.slice A1_0 l1_0.length c1_0] 32 (0, 0)) (kq BK484.out) NB484_0.out (by simp)); replace HK := am (KeepBut.trans (Y4) hk (.inl rfl)); replace HB := am (hb); replace HI0 := am (hi); (try clear hb); (try clear hb2); (try clear hk); (try clear hi)) | ((with_reducible refine gate_builtin (b := .append) (xs := #[.tmp 78, .tmp 81]) rfl ?_); at_builtin; refine Kd.R_append k59 w.heap.size rfl (.tmp 78) (.tmp 81) 34 59 (.agg #[(.int .i64 0), (.int .i64 0), (.int .i64 0), (.int .i64 0)]) 32 rfl Try.underlying34 info59 rfl (by decide) (by omega) u9 x9_41 (⟨a2, 10, 0, 0⟩ : S59) [.int .i64 a2, .int .i64 10, .int .i64 0, .int .i64 0] (fun _ => True) (fun _ => False) rfl rfl ?aP (fun _ hk => hk.elim) ?aF ?aO (Below.refl _ _) ?aS ?aL ?_; (case aP => exact k59_mkM _ _ _ (⟨a2, 10, 0, 0⟩ : S59)); (case aF => exact (fun _ _ => trivial)); (case aO => exact (rq HO_9.out)); (case aS => exact (keep_size (w := w) (g := g) (row := none) (Y4))); (case aL => have := LMc65.out; omega); intro v542 w69 ho hb hg hat; rw [← Ny541.out] at ho; have n0_ := am (blk_grown (g := gb484) (o := .cells #[.slice A1_0 l1_0.length c1_0] 32 (0, 0)) (kq BK484.out) hg (Kd.R_ne HO_9.out BK484.out (by decide))); have n1_ := am (IsS106.grown (Y7) hg (IsS106.own_ne HI0.out HO_9.out (by decide))); have n2_ := am (below_weaken (Y12) HL.out hb); have n3_ := am (KeepBut.trans (Y4) (KeepBut.of_grown hg g) (Kd.R_base2 HO_9.out)); have n4_ := am (ho); clear BK484 HI0 HB HK HO_9; have BK484 := n0_; have HI0 := n1_; have HB := n2_; have HK := n3_; have HO543 := n4_; clear n0_ n1_ n2_ n3_ n4_ ho hb hg hat; have hnb70 := NB484_0.out; have hnc70 := NB0_484.out; have hcz71_0 := bc0 BK484.out; have hfz71_0 := blk_frozen BK484.out 0) | ((with_reducible refine gate_callee (f := 98) rfl ?_); refine gL (some 89) Try.func98 #[.pointer (some ⟨g, 0, none⟩), .agg #[.slice A1_0 l1_0.length c1_0], .int .i64 (wrap64 (a2 + 1)), .bool a3] ?_; (with_reducible refine (ih98 kj41 (by have := HK1.out; have := HJ37.out; have := HJ41.out; omega) g s0_0 t530 _ _ l1_0 (wrap64 (a2 + 1)) a3 t544 t547 w0 _ ?side1 ?side2 ?side3 ?side4 A66.out).mono ?_); (case side1 => exact Y7); (case side2 => exact Y12); (case side3 => exact Kd.C_foot_step HR1_0.out (Y4)); (case side4 => exact HC1_0.out); rintro e w72 ⟨v545, rfl, ho0, hi, hb, hk⟩; refine ⟨_, rfl, ?_⟩; have HO546 := am (Kd.R_lower (Kd.R_new' ho0 (Kd.R_lt (rq HO543.out))) (keep_size (w := w) (g := g) (row := none) (Y4))); replace BK484 := am (KeepBut.blk hk (g' := gb484) (o := .cells #[.slice A1_0 l1_0.length c1_0] 32 (0, 0)) (kq BK484.out) NB484_0.out (by simp)); replace HO543 := am (Kd.R_mono (Kd.R_told (Kd.R_oldK (IsS106.apart (show IsS106 w0 _ g s0_0 t530 from Y7) (rq HO543.out) (by decide)) hk) (Kd.R_base ho0)) (fun _ h_ => h_.1)); replace HK := am (KeepBut.trans (Y4) hk (.inl rfl)); replace HB := am (hb); replace HI0 := am (hi); (try clear hb); (try clear hb2); (try clear hk); (try clear hi); (try clear ho0); obtain ⟨Ao74, co74, eo74⟩ := Kd.R_slice HO546.out; subst eo74) | ((with_reducible refine gate_builtin (b := .append) (xs := #[.tmp 83, .tmp 89]) rfl ?_); at_builtin; refine Kd.R_append_rows k59 w.heap.size rfl (.tmp 83) (.tmp 89) 34 59 (.agg #[(.int .i64 0), (.int .i64 0), (.int .i64 0), (.int .i64 0)]) 32 rfl Try.underlying34 info59 rfl (by decide) (by omega) v542 y541 t544 _ _ _ (fun k_ => some k_ ≠ (.slice Ao74 t544.length co74 : Value).ownBlock) (fun _ => False) rfl rfl ?aO ?aR (fun _ _ h => h) (fun _ h => h.elim) ?aF (Below.refl _ _) ?aS ?aL ?_; (case aR => repeat (first | exact (Kd.R_reads' HO546.out).2.2 | (with_reducible refine Kd.C_alloc ?_ _) | (with_reducible refine Kd.C_drewN ?_ _) | (with_reducible refine Kd.C_drew ?_))); (case aF => exact (fun k_ hk => Kd.fresh' (Kd.R_lt (rq HO546.out)) k_ hk)); (case aO => exact (by (with_reducible repeat (first | apply Kd.R_alloc | apply Kd.R_drewN | apply Kd.R_drew)); exact Kd.R_mono HO543.out (fun _ hk => hk.2))); (case aS => exact (keep_size (w := w) (g := g) (row := none) (Y4))); (case aL => have := LMc67.out; omega); intro v549 w73 ho hb hg hat; rw [← Ny548.out] at ho; have n0_ := am (blk_grown (g := gb484) (o := .cells #[.slice A1_0 l1_0.length c1_0] 32 (0, 0)) (kq BK484.out) hg (Kd.R_ne HO543.out BK484.out (by decide))); have n1_ := am (IsS106.grown (Y7) hg (IsS106.own_ne HI0.out HO543.out (by decide))); have n2_ := am (Kd.R_after (ok := (fun _ => True)) (rq HO546.out) hg hat); have n3_ := am (below_weaken (Y12) HL.out hb); have n4_ := am (KeepBut.trans (Y4) (KeepBut.of_grown hg g) (Kd.R_base2 HO543.out)); have n5_ := am (ho); clear BK484 HI0 HO546 HB HK HO543; have BK484 := n0_; have HI0 := n1_; have HO546 := n2_; have HB := n3_; have HK := n4_; have HO550 := n5_; clear n0_ n1_ n2_ n3_ n4_ n5_ ho hb hg hat))
             go_ret
             exact ⟨_, Y0, by (with_reducible repeat (first | apply Kd.R_alloc | apply Kd.R_drewN | apply Kd.R_drew)); exact Kd.R_mono HO550.out (fun _ hk => trivial), Y7, Y12, Y4⟩
            ·rw [if_neg c67] at H
             exact absurd H (by simp)
           ·rw [if_neg c65] at H
            exact absurd H (by simp)
          ·rw [if_neg c64] at H
           have c64b0 : (t529 == 0) = false := beq_eq_false_iff_ne.mpr c64
           have c64b1 : (t529 != 0) = true := bne_iff_ne.mpr c64
           simp only [Option.some.injEq, Prod.mk.injEq] at H
           obtain ⟨rfl, rfl⟩ := H
           go_wp2_with (first | (go_at_call 55; (with_reducible refine (spec_reader_pick.calls kj41 g s0_0 x1001_41 2 t529 t530 w0 _ ?side1 ?side2 A63.out).mono ?_); (case side1 => exact Y7); (case side2 => exact Y12); rintro e w75 ⟨rfl, hi, hb, hk⟩; replace HO_9 := am (Kd.R_mono (Kd.R_keep (IsS106.apart (show IsS106 w0 _ g s0_0 x1001_41 from Y7) (rq HO_9.out) (by decide)) hk (fun _ h => h.2)) (fun _ h => h.1)); replace BK484 := am (KeepBut.blk hk (g' := gb484) (o := .cells #[.slice A1_0 l1_0.length c1_0] 32 (0, 0)) (kq BK484.out) NB484_0.out (by simp)); replace HK := am (KeepBut.trans (Y4) hk (.inl rfl)); replace HB := am (hb); replace HI0 := am (hi); (try clear hb); (try clear hb2); (try clear hk); (try clear hi)))
           go_ret
           exact ⟨_, Y0, rq HO_9.out, Y7, Y12, Y4⟩
 ·rw [if_neg c6] at H
  exact absurd H (by simp)
set_option maxHeartbeats 8000000 in
set_option maxRecDepth 100000 in
theorem spec_aStatement.calls_all : ∀ k, (∀ (g : Nat) (s0_0 : List Int) (s0_1 : Int) (A1_0 : Option Addr) (c1_0 : Nat) (l1_0 : List (S98)) (a2 : Int) (a3 : Bool) (r1 : List (S59)) (r2 : Int) (w0 w : World) (hI : IsS106 w0 w g s0_0 s0_1) (hB : Below w0.heap.size w0 w) (hr1_0 : ∀ W_, KeepBut w W_ g none → Kd.C k98 W_ A1_0 l1_0.length l1_0) (hc1_0 : l1_0.length ≤ c1_0) (h : spec_aStatement.f k s0_0 s0_1 l1_0 a2 a3 = some (r1, r2)), Calls Try.prog 104 #[.pointer (some ⟨g, 0, none⟩), .agg #[.slice A1_0 l1_0.length c1_0], .int .i64 a2, .bool a3] w fun e w' => ∃ v0_ : Value, e = .returned (v0_) ∧ Kd.R k59 59 w' w.heap.size (fun _ => True) v0_ r1 ∧ IsS106 w0 w' g s0_0 r2 ∧ Below w0.heap.size w0 w' ∧ KeepBut w w' g none) ∧ (∀ (g : Nat) (s0_0 : List Int) (s0_1 : Int) (A1_0 : Option Addr) (c1_0 : Nat) (l1_0 : List (S98)) (a2 : Int) (a3 : Bool) (r1 : List (S59)) (r2 : Int) (w0 w : World) (hI : IsS106 w0 w g s0_0 s0_1) (hB : Below w0.heap.size w0 w) (hr1_0 : ∀ W_, KeepBut w W_ g none → Kd.C k98 W_ A1_0 l1_0.length l1_0) (hc1_0 : l1_0.length ≤ c1_0) (h : spec_aBlock.f k s0_0 s0_1 l1_0 a2 a3 = some (r1, r2)), Calls Try.prog 98 #[.pointer (some ⟨g, 0, none⟩), .agg #[.slice A1_0 l1_0.length c1_0], .int .i64 a2, .bool a3] w fun e w' => ∃ v0_ : Value, e = .returned (v0_) ∧ Kd.R k59 59 w' w.heap.size (fun _ => True) v0_ r1 ∧ IsS106 w0 w' g s0_0 r2 ∧ Below w0.heap.size w0 w' ∧ KeepBut w w' g none) ∧ (∀ (g : Nat) (s0_0 : List Int) (s0_1 : Int) (A1_0 : Option Addr) (c1_0 : Nat) (l1_0 : List (S98)) (a2 : Int) (a3 : Bool) (r1 : List (S59)) (r2 : Int) (w0 w : World) (hI : IsS106 w0 w g s0_0 s0_1) (hB : Below w0.heap.size w0 w) (hr1_0 : ∀ W_, KeepBut w W_ g none → Kd.C k98 W_ A1_0 l1_0.length l1_0) (hc1_0 : l1_0.length ≤ c1_0) (h : spec_aTry.f k s0_0 s0_1 l1_0 a2 a3 = some (r1, r2)), Calls Try.prog 97 #[.pointer (some ⟨g, 0, none⟩), .agg #[.slice A1_0 l1_0.length c1_0], .int .i64 a2, .bool a3] w fun e w' => ∃ v0_ : Value, e = .returned (v0_) ∧ Kd.R k59 59 w' w.heap.size (fun _ => True) v0_ r1 ∧ IsS106 w0 w' g s0_0 r2 ∧ Below w0.heap.size w0 w' ∧ KeepBut w w' g none) := by
 intro k
 induction k using Nat.strongRecOn with
 | _ k ih =>
 exact ⟨spec_aStatement.calls_of k (fun k_ hk_ => (ih k_ hk_).1) (fun k_ hk_ => (ih k_ hk_).2.1) (fun k_ hk_ => (ih k_ hk_).2.2), spec_aBlock.calls_of k (fun k_ hk_ => (ih k_ hk_).1) (fun k_ hk_ => (ih k_ hk_).2.1) (fun k_ hk_ => (ih k_ hk_).2.2), spec_aTry.calls_of k (fun k_ hk_ => (ih k_ hk_).1) (fun k_ hk_ => (ih k_ hk_).2.1) (fun k_ hk_ => (ih k_ hk_).2.2)⟩
theorem spec_aBlock.calls (k : Nat) : ∀ (g : Nat) (s0_0 : List Int) (s0_1 : Int) (A1_0 : Option Addr) (c1_0 : Nat) (l1_0 : List (S98)) (a2 : Int) (a3 : Bool) (r1 : List (S59)) (r2 : Int) (w0 w : World) (hI : IsS106 w0 w g s0_0 s0_1) (hB : Below w0.heap.size w0 w) (hr1_0 : ∀ W_, KeepBut w W_ g none → Kd.C k98 W_ A1_0 l1_0.length l1_0) (hc1_0 : l1_0.length ≤ c1_0) (h : spec_aBlock.f k s0_0 s0_1 l1_0 a2 a3 = some (r1, r2)), Calls Try.prog 98 #[.pointer (some ⟨g, 0, none⟩), .agg #[.slice A1_0 l1_0.length c1_0], .int .i64 a2, .bool a3] w fun e w' => ∃ v0_ : Value, e = .returned (v0_) ∧ Kd.R k59 59 w' w.heap.size (fun _ => True) v0_ r1 ∧ IsS106 w0 w' g s0_0 r2 ∧ Below w0.heap.size w0 w' ∧ KeepBut w w' g none := (spec_aStatement.calls_all k).2.1
theorem spec_aTry.calls (k : Nat) : ∀ (g : Nat) (s0_0 : List Int) (s0_1 : Int) (A1_0 : Option Addr) (c1_0 : Nat) (l1_0 : List (S98)) (a2 : Int) (a3 : Bool) (r1 : List (S59)) (r2 : Int) (w0 w : World) (hI : IsS106 w0 w g s0_0 s0_1) (hB : Below w0.heap.size w0 w) (hr1_0 : ∀ W_, KeepBut w W_ g none → Kd.C k98 W_ A1_0 l1_0.length l1_0) (hc1_0 : l1_0.length ≤ c1_0) (h : spec_aTry.f k s0_0 s0_1 l1_0 a2 a3 = some (r1, r2)), Calls Try.prog 97 #[.pointer (some ⟨g, 0, none⟩), .agg #[.slice A1_0 l1_0.length c1_0], .int .i64 a2, .bool a3] w fun e w' => ∃ v0_ : Value, e = .returned (v0_) ∧ Kd.R k59 59 w' w.heap.size (fun _ => True) v0_ r1 ∧ IsS106 w0 w' g s0_0 r2 ∧ Below w0.heap.size w0 w' ∧ KeepBut w w' g none := (spec_aStatement.calls_all k).2.2
mutual
def spec_goodProgram.l0 : Nat → Int → List Int → Int → List (S98) → Option ((List (S59)) × Int)
 | 0, _, _, _, _ => none
 | k + 1, x5, x1000, x1001, x552000 => if x5 < 4 then ((spec_aTry.f k x1000 x1001 x552000 0 false).bind fun bt555 => ((spec_reader_pick.f k x1000 bt555.2 3).bind fun bt559 => (if bt559.1 = 0 then ((spec_aBlock.f k x1000 bt559.2 x552000 0 false).bind fun bt561 => (if bt555.1.length + bt561.1.length < 4398046511104 then (spec_goodProgram.j1 k x5 (bt555.1 ++ bt561.1) x1000 bt561.2 x552000) else (none))) else (spec_goodProgram.j1 k x5 bt555.1 x1000 bt559.2 x552000)))) else (some ((([(⟨0, 7, 0, 0⟩ : S59), (⟨1, 2, 0, 1⟩ : S59), (⟨0, 10, 0, 0⟩ : S59), (⟨1, 1, 1, 0⟩ : S59)] : List (S59))), x1001))
def spec_goodProgram.j1 : Nat → Int → List (S59) → List Int → Int → List (S98) → Option ((List (S59)) × Int)
 | 0, _, _, _, _, _ => none
 | k + 1, x5, x6, x1000, x1001, x552000 => (spec_reader_pick.f k x1000 x1001 4).bind fun bt568 => (if bt568.1 = 0 then ((spec_aBlock.f k x1000 bt568.2 x552000 0 false).bind fun bt570 => (spec_goodProgram.j2 k x5 bt570.1 x1000 bt570.2 x552000)) else (spec_goodProgram.j2 k x5 x6 x1000 bt568.2 x552000))
def spec_goodProgram.j2 : Nat → Int → List (S59) → List Int → Int → List (S98) → Option ((List (S59)) × Int)
 | 0, _, _, _, _, _ => none
 | k + 1, x5, x6, x1000, x1001, x552000 => if (x6.length : Int) ≤ 24 then (some (x6, x1001)) else (spec_goodProgram.l0 k (wrap64 (x5 + 1)) x1000 x1001 x552000)
end
def spec_goodProgram.f (k : Nat) (s0_0 : List Int) (s0_1 : Int) (l1_0 : List (S98)) : Option ((List (S59)) × Int) := spec_goodProgram.l0 k 0 s0_0 s0_1 l1_0
set_option maxHeartbeats 8000000 in
set_option maxRecDepth 100000 in
theorem spec_goodProgram.calls (k : Nat) (g : Nat) (s0_0 : List Int) (s0_1 : Int) (A1_0 : Option Addr) (c1_0 : Nat) (l1_0 : List (S98)) (r1 : List (S59)) (r2 : Int) (w0 w : World) (hI : IsS106 w0 w g s0_0 s0_1) (hB : Below w0.heap.size w0 w) (hr1_0 : ∀ W_, KeepBut w W_ g none → Kd.C k98 W_ A1_0 l1_0.length l1_0) (hc1_0 : l1_0.length ≤ c1_0) (h : spec_goodProgram.f k s0_0 s0_1 l1_0 = some (r1, r2)) :
  Calls Try.prog 72 #[.pointer (some ⟨g, 0, none⟩), .agg #[.slice A1_0 l1_0.length c1_0]] w fun e w' => ∃ v0_ : Value, e = .returned (v0_) ∧ Kd.R k59 59 w' w.heap.size (fun _ => True) v0_ r1 ∧ IsS106 w0 w' g s0_0 r2 ∧ Below w0.heap.size w0 w' ∧ KeepBut w w' g none := by
 have hu32 := Try.underlying32
 have hu59 := Try.underlying59
 have HR1_0 := am hr1_0
 have HC1_0 := am hc1_0
 clear hr1_0 hc1_0
 have HI0 := am hI
 have HK := am (KeepBut.refl w g none)
 have HL := am hB.size
 clear hI
 have HW0 := am hB.size
 have HB := am hB
 clear hB
 have H : (spec_goodProgram.l0 k 0 s0_0 s0_1 l1_0) = some (r1, r2) := h
 clear h
 have H' := am H
 clear H
 go_enter Try.func72, Try.ntmps72
 go_wp2_with (first | ((with_reducible refine gate_dst (N := 3) rfl ?_); refine bE (N := 3) (cs := #[.slice A1_0 l1_0.length c1_0]) (t := 32) ?_; intro gb551 hg w3 hbox hb; have BK551 := am (hbox); have GW551 := am ((Y10 : w.heap.size ≤ gb551)); have GE551 := am ((Nat.le_trans HW0.out (Y10 : w.heap.size ≤ gb551) : w0.heap.size ≤ gb551)); have NB0_551 := am ((Y22 : g ≠ gb551)); have NB551_0 := am ((Y23 : gb551 ≠ g)); replace HK := am (KeepBut.trans (Y14) (KeepBut.of_below hb g none) (.inl rfl)); replace HB := am (below_step (Y15) hb); replace HI0 := am (IsS106.below (Y13) hb); clear hb hbox hg))
 go_loopg [5] k (fun kq v5 w' => ∃ (x5_1 : Int) (x1001_1 : Int), v5 = .int .i64 x5_1 ∧ Aside0 (spec_goodProgram.l0 kq x5_1 s0_0 x1001_1 l1_0 = some (r1, r2)) ∧ Aside0 (kq ≤ k) ∧ Aside0 (w'.heap[gb551]? = some (.cells #[(.slice A1_0 l1_0.length c1_0)] 32 (0, 0))) ∧ Aside0 (IsS106 w0 w' g s0_0 x1001_1) ∧ Aside0 (KeepBut w w' g none) ∧ Aside0 (Below w0.heap.size w0 w'))
 case atStart => exact ⟨(0), (s0_1), (sq), H', ⟨Nat.le_refl _⟩, ⟨kq BK551.out⟩, ⟨Y24⟩, ⟨Y19⟩, ⟨Y32⟩⟩
 case round =>
  clear H'
  try clear c1
  try clear p2
  obtain ⟨x5_1, x1001_1, rfl, HA, HK1, BK551, HI0, HK, HB⟩ := hrel
  cases gk with
  | zero => exact absurd HA.out (by simp [spec_goodProgram.l0])
  | succ k1 =>
   have H := HA.out
   clear HA
   simp only [spec_goodProgram.l0] at H
   by_cases c4 : x5_1 < 4
   ·rw [if_pos c4] at H
    have c4b0 : decide (x5_1 < 4) = true := decide_eq_true c4
    clear c4
    replace H := Option.bind_eq_some_iff.mp H
    obtain ⟨⟨t555, t558⟩, A50, H⟩ := H
    replace H : ((spec_reader_pick.f k1 s0_0 t558 3).bind fun bt559 => (if bt559.1 = 0 then ((spec_aBlock.f k1 s0_0 bt559.2 l1_0 0 false).bind fun bt561 => (if t555.length + bt561.1.length < 4398046511104 then (spec_goodProgram.j1 k1 x5_1 (t555 ++ bt561.1) s0_0 bt561.2 l1_0) else (none))) else (spec_goodProgram.j1 k1 x5_1 t555 s0_0 bt559.2 l1_0))) = some (r1, r2) := H
    have A5 := am A50
    clear A50
    replace H := Option.bind_eq_some_iff.mp H
    obtain ⟨⟨t559, t560⟩, A60, H⟩ := H
    replace H : (if t559 = 0 then ((spec_aBlock.f k1 s0_0 t560 l1_0 0 false).bind fun bt561 => (if t555.length + bt561.1.length < 4398046511104 then (spec_goodProgram.j1 k1 x5_1 (t555 ++ bt561.1) s0_0 bt561.2 l1_0) else (none))) else (spec_goodProgram.j1 k1 x5_1 t555 s0_0 t560 l1_0)) = some (r1, r2) := H
    have A6 := am A60
    clear A60
    have HC7 := am H
    clear H
    have hnb8 := NB551_0.out
    have hnc8 := NB0_551.out
    have hcz9_0 := bc0 BK551.out
    have hfz9_0 := blk_frozen BK551.out 0
    go_upto_if 16 with (first | ((with_reducible refine gate_callee (f := 97) rfl ?_); refine gL (some 13) Try.func97 #[.pointer (some ⟨g, 0, none⟩), .agg #[.slice A1_0 l1_0.length c1_0], .int .i64 0, .bool false] ?_; (with_reducible refine (spec_aTry.calls k1 g s0_0 x1001_1 _ _ l1_0 0 false t555 t558 w0 _ ?side1 ?side2 ?side3 ?side4 A5.out).mono ?_); (case side1 => exact Y24); (case side2 => exact Y32); (case side3 => exact Kd.C_foot_step HR1_0.out (Y19)); (case side4 => exact HC1_0.out); rintro e w10 ⟨v556, rfl, ho0, hi, hb, hk⟩; refine ⟨_, rfl, ?_⟩; have HO557 := am (Kd.R_lower ho0 (keep_size (w := w) (g := g) (row := none) (Y19))); replace BK551 := am (KeepBut.blk hk (g' := gb551) (o := .cells #[.slice A1_0 l1_0.length c1_0] 32 (0, 0)) (kq BK551.out) NB551_0.out (by simp)); replace HK := am (KeepBut.trans (Y19) hk (.inl rfl)); replace HB := am (hb); replace HI0 := am (hi); (try clear hb); (try clear hb2); (try clear hk); (try clear hi); (try clear ho0)) | ((with_reducible refine gate_callee (f := 55) rfl ?_); refine gL (some 15) Try.func55 #[.pointer (some ⟨g, 0, none⟩), .int .i64 3] ?_; (with_reducible refine (spec_reader_pick.calls k1 g s0_0 t558 3 t559 t560 w0 _ ?side1 ?side2 A6.out).mono ?_); (case side1 => exact Y24); (case side2 => exact Y32); rintro e w11 ⟨rfl, hi, hb, hk⟩; refine ⟨_, rfl, ?_⟩; replace BK551 := am (KeepBut.blk hk (g' := gb551) (o := .cells #[.slice A1_0 l1_0.length c1_0] 32 (0, 0)) (kq BK551.out) NB551_0.out (by simp)); replace HO557 := am (Kd.R_mono (Kd.R_keep (IsS106.apart (show IsS106 w0 _ g s0_0 t558 from Y24) (rq HO557.out) (by decide)) hk (fun _ h => h.2)) (fun _ h => h.1)); replace HK := am (KeepBut.trans (Y19) hk (.inl rfl)); replace HB := am (hb); replace HI0 := am (hi); (try clear hb); (try clear hb2); (try clear hk); (try clear hi)))
    (try simp only [Act.put, List.setIfInBounds_toArray, List.set_cons_zero, List.set_cons_succ])
    go_cut [6] (fun v6 wc => ∃ (kq : Nat) (x6_6 : List (S59)) (x1001_6 : Int), Aside0 (spec_goodProgram.j1 kq x5_1 x6_6 s0_0 x1001_6 l1_0 = some (r1, r2)) ∧ Aside0 (kq ≤ k1) ∧ Aside0 (Kd.R k59 59 wc w.heap.size (fun _ => True) v6 x6_6) ∧ Aside0 (wc.heap[gb551]? = some (.cells #[(.slice A1_0 l1_0.length c1_0)] 32 (0, 0))) ∧ Aside0 (IsS106 w0 wc g s0_0 x1001_6) ∧ Aside0 (KeepBut w wc g none) ∧ Aside0 (Below w0.heap.size w0 wc))
    case first =>
     have H := HC7.out
     clear HC7
     by_cases c12 : t559 = 0
     ·rw [if_pos c12] at H
      have c12b0 : (t559 == 0) = true := beq_iff_eq.mpr c12
      have c12b1 : (t559 != 0) = false := bne_eq_false_iff_eq.mpr c12
      clear c12
      (first | rw [c12b0] | (simp only [i64_w, i32_w]; rw [c12b0]) | skip)
      replace H := Option.bind_eq_some_iff.mp H
      obtain ⟨⟨t561, t564⟩, A130, H⟩ := H
      replace H : (if t555.length + t561.length < 4398046511104 then (spec_goodProgram.j1 k1 x5_1 (t555 ++ t561) s0_0 t564 l1_0) else (none)) = some (r1, r2) := H
      have A13 := am A130
      clear A130
      by_cases c14 : t555.length + t561.length < 4398046511104
      ·rw [if_pos c14] at H
       have LMc14 := am c14
       clear c14
       obtain ⟨y565, hy565⟩ : ∃ y_ : List (S59), y_ = (t555 ++ t561) := ⟨_, rfl⟩
       replace H : (spec_goodProgram.j1 k1 x5_1 y565 s0_0 t564 l1_0) = some (r1, r2) := by first | (rw [hy565]; with_reducible exact H) | (have H2_ := (Option.bind_some _ _).symm.trans H; rw [hy565]; with_reducible exact H2_) | (have H2_ := (Option.bind_some _ _).symm.trans H; with_reducible exact H2_) | with_reducible exact H | (rw [hy565]; exact H) | exact H
       have Ny565 := am hy565
       clear hy565
       have H' := am H
       clear H
       have hnb15 := NB551_0.out
       have hnc15 := NB0_551.out
       have hcz16_0 := bc0 BK551.out
       have hfz16_0 := blk_frozen BK551.out 0
       go_wp2_with (first | ((with_reducible refine gate_callee (f := 98) rfl ?_); refine gL (some 20) Try.func98 #[.pointer (some ⟨g, 0, none⟩), .agg #[.slice A1_0 l1_0.length c1_0], .int .i64 0, .bool false] ?_; (with_reducible refine (spec_aBlock.calls k1 g s0_0 t560 _ _ l1_0 0 false t561 t564 w0 _ ?side1 ?side2 ?side3 ?side4 A13.out).mono ?_); (case side1 => exact Y24); (case side2 => exact Y32); (case side3 => exact Kd.C_foot_step HR1_0.out (Y19)); (case side4 => exact HC1_0.out); rintro e w17 ⟨v562, rfl, ho0, hi, hb, hk⟩; refine ⟨_, rfl, ?_⟩; have HO563 := am (Kd.R_lower (Kd.R_new' ho0 (Kd.R_lt (rq HO557.out))) (keep_size (w := w) (g := g) (row := none) (Y19))); replace BK551 := am (KeepBut.blk hk (g' := gb551) (o := .cells #[.slice A1_0 l1_0.length c1_0] 32 (0, 0)) (kq BK551.out) NB551_0.out (by simp)); replace HO557 := am (Kd.R_mono (Kd.R_told (Kd.R_oldK (IsS106.apart (show IsS106 w0 _ g s0_0 t560 from Y24) (rq HO557.out) (by decide)) hk) (Kd.R_base ho0)) (fun _ h_ => h_.1)); replace HK := am (KeepBut.trans (Y19) hk (.inl rfl)); replace HB := am (hb); replace HI0 := am (hi); (try clear hb); (try clear hb2); (try clear hk); (try clear hi); (try clear ho0); obtain ⟨Ao19, co19, eo19⟩ := Kd.R_slice HO563.out; subst eo19) | ((with_reducible refine gate_builtin (b := .append) (xs := #[.tmp 17, .tmp 20]) rfl ?_); at_builtin; refine Kd.R_append_rows k59 w.heap.size rfl (.tmp 17) (.tmp 20) 34 59 (.agg #[(.int .i64 0), (.int .i64 0), (.int .i64 0), (.int .i64 0)]) 32 rfl Try.underlying34 info59 rfl (by decide) (by omega) v556 t555 t561 _ _ _ (fun k_ => some k_ ≠ (.slice Ao19 t561.length co19 : Value).ownBlock) (fun _ => False) rfl rfl ?aO ?aR (fun _ _ h => h) (fun _ h => h.elim) ?aF (Below.refl _ _) ?aS ?aL ?_; (case aR => repeat (first | exact (Kd.R_reads' HO563.out).2.2 | (with_reducible refine Kd.C_alloc ?_ _) | (with_reducible refine Kd.C_drewN ?_ _) | (with_reducible refine Kd.C_drew ?_))); (case aF => exact (fun k_ hk => Kd.fresh' (Kd.R_lt (rq HO563.out)) k_ hk)); (case aO => exact (by (with_reducible repeat (first | apply Kd.R_alloc | apply Kd.R_drewN | apply Kd.R_drew)); exact Kd.R_mono HO557.out (fun _ hk => hk.2))); (case aS => exact (keep_size (w := w) (g := g) (row := none) (Y19))); (case aL => have := LMc14.out; omega); intro v566 w18 ho hb hg hat; rw [← Ny565.out] at ho; have n0_ := am (blk_grown (g := gb551) (o := .cells #[.slice A1_0 l1_0.length c1_0] 32 (0, 0)) (kq BK551.out) hg (Kd.R_ne HO557.out BK551.out (by decide))); have n1_ := am (IsS106.grown (Y24) hg (IsS106.own_ne HI0.out HO557.out (by decide))); have n2_ := am (Kd.R_after (ok := (fun _ => True)) (rq HO563.out) hg hat); have n3_ := am (below_weaken (Y32) HL.out hb); have n4_ := am (KeepBut.trans (Y19) (KeepBut.of_grown hg g) (Kd.R_base2 HO557.out)); have n5_ := am (ho); clear BK551 HI0 HO563 HB HK HO557; have BK551 := n0_; have HI0 := n1_; have HO563 := n2_; have HB := n3_; have HK := n4_; have HO567 := n5_; clear n0_ n1_ n2_ n3_ n4_ n5_ ho hb hg hat))
       go_meet
       case rel => exact ⟨_, (y565), (t564), H', ⟨by have := HK1.out; first | omega | exact Nat.le_refl _⟩, ⟨by (with_reducible repeat (first | apply Kd.R_alloc | apply Kd.R_drewN | apply Kd.R_drew)); exact Kd.R_mono HO567.out (fun _ hk => trivial)⟩, ⟨kq BK551.out⟩, ⟨Y24⟩, ⟨Y19⟩, ⟨Y32⟩⟩
      ·rw [if_neg c14] at H
       exact absurd H (by simp)
     ·rw [if_neg c12] at H
      have c12b0 : (t559 == 0) = false := beq_eq_false_iff_ne.mpr c12
      have c12b1 : (t559 != 0) = true := bne_iff_ne.mpr c12
      (first | rw [c12b0] | (simp only [i64_w, i32_w]; rw [c12b0]) | skip)
      have H' := am H
      clear H
      go_wp2
      go_meet
      case rel => exact ⟨_, (t555), (t560), H', ⟨by have := HK1.out; first | omega | exact Nat.le_refl _⟩, ⟨rq HO557.out⟩, ⟨kq BK551.out⟩, ⟨Y24⟩, ⟨Y19⟩, ⟨Y32⟩⟩
    case rest =>
     clear HC7
     try clear c1
     try clear p2
     try clear c4
     try clear c4b0
     try clear c5
     try clear c7
     try clear c8
     try clear c9
     try clear c12
     try clear c12b0
     try clear c12b1
     try clear c14
     try clear c15
     try clear hcz16_0
     try clear hcz9_0
     try clear hfz16_0
     try clear hfz9_0
     try clear p2
     obtain ⟨kq, x6_6, x1001_6, HA, HJ6, HO_6, BK551, HI0, HK, HB⟩ := hcut
     cases kq with
     | zero => exact absurd HA.out (by simp [spec_goodProgram.j1])
     | succ kj6 =>
      have H := HA.out
      clear HA
      simp only [spec_goodProgram.j1] at H
      replace H := Option.bind_eq_some_iff.mp H
      obtain ⟨⟨t568, t569⟩, A200, H⟩ := H
      replace H : (if t568 = 0 then ((spec_aBlock.f kj6 s0_0 t569 l1_0 0 false).bind fun bt570 => (spec_goodProgram.j2 kj6 x5_1 bt570.1 s0_0 bt570.2 l1_0)) else (spec_goodProgram.j2 kj6 x5_1 x6_6 s0_0 t569 l1_0)) = some (r1, r2) := H
      have A20 := am A200
      clear A200
      have HC21 := am H
      clear H
      go_upto_if 24 with (first | ((with_reducible refine gate_callee (f := 55) rfl ?_); refine gL (some 23) Try.func55 #[.pointer (some ⟨g, 0, none⟩), .int .i64 4] ?_; (with_reducible refine (spec_reader_pick.calls kj6 g s0_0 x1001_6 4 t568 t569 w0 _ ?side1 ?side2 A20.out).mono ?_); (case side1 => exact Y24); (case side2 => exact Y32); rintro e w22 ⟨rfl, hi, hb, hk⟩; refine ⟨_, rfl, ?_⟩; replace HO_6 := am (Kd.R_mono (Kd.R_keep (IsS106.apart (show IsS106 w0 _ g s0_0 x1001_6 from Y24) (rq HO_6.out) (by decide)) hk (fun _ h => h.2)) (fun _ h => h.1)); replace BK551 := am (KeepBut.blk hk (g' := gb551) (o := .cells #[.slice A1_0 l1_0.length c1_0] 32 (0, 0)) (kq BK551.out) NB551_0.out (by simp)); replace HK := am (KeepBut.trans (Y19) hk (.inl rfl)); replace HB := am (hb); replace HI0 := am (hi); (try clear hb); (try clear hb2); (try clear hk); (try clear hi)))
      (try simp only [Act.put, List.setIfInBounds_toArray, List.set_cons_zero, List.set_cons_succ])
      go_cut [6] (fun v6 wc => ∃ (kq : Nat) (x6_20 : List (S59)) (x1001_20 : Int), Aside0 (spec_goodProgram.j2 kq x5_1 x6_20 s0_0 x1001_20 l1_0 = some (r1, r2)) ∧ Aside0 (kq ≤ kj6) ∧ Aside0 (Kd.R k59 59 wc w.heap.size (fun _ => True) v6 x6_20) ∧ Aside0 (wc.heap[gb551]? = some (.cells #[(.slice A1_0 l1_0.length c1_0)] 32 (0, 0))) ∧ Aside0 (IsS106 w0 wc g s0_0 x1001_20) ∧ Aside0 (KeepBut w wc g none) ∧ Aside0 (Below w0.heap.size w0 wc))
      case first =>
       have H := HC21.out
       clear HC21
       by_cases c23 : t568 = 0
       ·rw [if_pos c23] at H
        have c23b0 : (t568 == 0) = true := beq_iff_eq.mpr c23
        have c23b1 : (t568 != 0) = false := bne_eq_false_iff_eq.mpr c23
        clear c23
        (first | rw [c23b0] | (simp only [i64_w, i32_w]; rw [c23b0]) | skip)
        replace H := Option.bind_eq_some_iff.mp H
        obtain ⟨⟨t570, t573⟩, A240, H⟩ := H
        replace H : (spec_goodProgram.j2 kj6 x5_1 t570 s0_0 t573 l1_0) = some (r1, r2) := H
        have A24 := am A240
        clear A240
        have H' := am H
        clear H
        have hnb25 := NB551_0.out
        have hnc25 := NB0_551.out
        have hcz26_0 := bc0 BK551.out
        have hfz26_0 := blk_frozen BK551.out 0
        go_wp2_with (first | ((with_reducible refine gate_callee (f := 98) rfl ?_); refine gL (some 27) Try.func98 #[.pointer (some ⟨g, 0, none⟩), .agg #[.slice A1_0 l1_0.length c1_0], .int .i64 0, .bool false] ?_; (with_reducible refine (spec_aBlock.calls kj6 g s0_0 t569 _ _ l1_0 0 false t570 t573 w0 _ ?side1 ?side2 ?side3 ?side4 A24.out).mono ?_); (case side1 => exact Y24); (case side2 => exact Y32); (case side3 => exact Kd.C_foot_step HR1_0.out (Y19)); (case side4 => exact HC1_0.out); rintro e w27 ⟨v571, rfl, ho0, hi, hb, hk⟩; refine ⟨_, rfl, ?_⟩; have HO572 := am (Kd.R_lower (Kd.R_new' ho0 (Kd.R_lt (rq HO_6.out))) (keep_size (w := w) (g := g) (row := none) (Y19))); replace HO_6 := am (Kd.R_mono (Kd.R_told (Kd.R_oldK (IsS106.apart (show IsS106 w0 _ g s0_0 t569 from Y24) (rq HO_6.out) (by decide)) hk) (Kd.R_base ho0)) (fun _ h_ => h_.1)); replace BK551 := am (KeepBut.blk hk (g' := gb551) (o := .cells #[.slice A1_0 l1_0.length c1_0] 32 (0, 0)) (kq BK551.out) NB551_0.out (by simp)); replace HK := am (KeepBut.trans (Y19) hk (.inl rfl)); replace HB := am (hb); replace HI0 := am (hi); (try clear hb); (try clear hb2); (try clear hk); (try clear hi); (try clear ho0)))
        go_meet
        case rel => exact ⟨_, (t570), (t573), H', ⟨by have := HK1.out; have := HJ6.out; first | omega | exact Nat.le_refl _⟩, ⟨by (with_reducible repeat (first | apply Kd.R_alloc | apply Kd.R_drewN | apply Kd.R_drew)); exact Kd.R_mono HO572.out (fun _ hk => trivial)⟩, ⟨kq BK551.out⟩, ⟨Y24⟩, ⟨Y19⟩, ⟨Y32⟩⟩
       ·rw [if_neg c23] at H
        have c23b0 : (t568 == 0) = false := beq_eq_false_iff_ne.mpr c23
        have c23b1 : (t568 != 0) = true := bne_iff_ne.mpr c23
        (first | rw [c23b0] | (simp only [i64_w, i32_w]; rw [c23b0]) | skip)
        have H' := am H
        clear H
        go_wp2
        go_meet
        case rel => exact ⟨_, (x6_6), (t569), H', ⟨by have := HK1.out; have := HJ6.out; first | omega | exact Nat.le_refl _⟩, ⟨rq HO_6.out⟩, ⟨kq BK551.out⟩, ⟨Y24⟩, ⟨Y19⟩, ⟨Y32⟩⟩
      case rest =>
       clear HC21
       try clear c1
       try clear c2
       try clear p2
       try clear c4
       try clear c4b0
       try clear c5
       try clear c7
       try clear c8
       try clear c9
       try clear c12
       try clear c12b0
       try clear c12b1
       try clear c14
       try clear c15
       try clear c23
       try clear c23b0
       try clear c23b1
       try clear c25
       try clear hcz16_0
       try clear hcz26_0
       try clear hcz9_0
       try clear hfz16_0
       try clear hfz26_0
       try clear hfz9_0
       try clear p2
       obtain ⟨kq, x6_20, x1001_20, HA, HJ20, HO_6, BK551, HI0, HK, HB⟩ := hcut
       cases kq with
       | zero => exact absurd HA.out (by simp [spec_goodProgram.j2])
       | succ kj20 =>
        have H := HA.out
        clear HA
        simp only [spec_goodProgram.j2] at H
        by_cases c28 : (x6_20.length : Int) ≤ 24
        ·rw [if_pos c28] at H
         have c28b0 : decide ((x6_20.length : Int) ≤ 24) = true := decide_eq_true c28
         have c28b1 : decide (x6_20.length ≤ 24) = true := decide_eq_true (by omega)
         clear c28
         simp only [Option.some.injEq, Prod.mk.injEq] at H
         obtain ⟨rfl, rfl⟩ := H
         obtain ⟨Ao29, co29, eo29⟩ := Kd.R_slice HO_6.out
         subst eo29
         go_wp2
         go_ret
         exact ⟨_, Y0, rq HO_6.out, Y24, Y32, Y19⟩
        ·rw [if_neg c28] at H
         have c28b0 : decide ((x6_20.length : Int) ≤ 24) = false := decide_eq_false c28
         have c28b1 : decide (x6_20.length ≤ 24) = false := decide_eq_false (by omega)
         clear c28
         have H' := am H
         clear H
         obtain ⟨Ao30, co30, eo30⟩ := Kd.R_slice HO_6.out
         subst eo30
         go_wp2
         go_roundg kj20
         case measure => have := HK1.out; have := HJ6.out; have := HJ20.out; omega
         case rel => exact ⟨(wrap64 (x5_1 + 1)), (x1001_20), (sq), H', ⟨by have := HK1.out; have := HJ6.out; have := HJ20.out; omega⟩, ⟨kq BK551.out⟩, ⟨Y24⟩, ⟨Y19⟩, ⟨Y32⟩⟩
   ·rw [if_neg c4] at H
    have c4b0 : decide (x5_1 < 4) = false := decide_eq_false c4
    clear c4
    obtain ⟨y552, hy552⟩ : ∃ y_ : List (S59), y_ = (([(⟨0, 7, 0, 0⟩ : S59), (⟨1, 2, 0, 1⟩ : S59), (⟨0, 10, 0, 0⟩ : S59), (⟨1, 1, 1, 0⟩ : S59)] : List (S59))) := ⟨_, rfl⟩
    replace H : (some (y552, x1001_1)) = some (r1, r2) := by first | (rw [hy552]; with_reducible exact H) | (have H2_ := (Option.bind_some _ _).symm.trans H; rw [hy552]; with_reducible exact H2_) | (have H2_ := (Option.bind_some _ _).symm.trans H; with_reducible exact H2_) | with_reducible exact H | (rw [hy552]; exact H) | exact H
    have Ny552 := am hy552
    clear hy552
    simp only [Option.some.injEq, Prod.mk.injEq] at H
    obtain ⟨rfl, rfl⟩ := H
    go_wp2_with (first | ((with_reducible refine gate_dst (N := 36) rfl ?_); refine Kd.R_lit k59 _ 59 ?hg (N := 36) ?hd (xs := ([(⟨0, 7, 0, 0⟩ : S59), (⟨1, 2, 0, 1⟩ : S59), (⟨0, 10, 0, 0⟩ : S59), (⟨1, 1, 1, 0⟩ : S59)] : List (S59))) (inner := [.int .i64 0, .int .i64 7, .int .i64 0, .int .i64 0, .int .i64 1, .int .i64 2, .int .i64 0, .int .i64 1, .int .i64 0, .int .i64 10, .int .i64 0, .int .i64 0, .int .i64 1, .int .i64 1, .int .i64 1, .int .i64 0]) (ok := fun _ => True) (okp := fun _ => True) ?hr ?hp (fun _ hk => hk) trivial (Below.refl _ _) (Nat.le_refl _) (by simp) ?_; (case hd => rfl); (case hg => rfl); (case hr => exact Y5); (case hp => exact (Reps.c4 (show Kd.M k59 _ _ _ (⟨0, 7, 0, 0⟩ : S59) [.int .i64 0, .int .i64 7, .int .i64 0, .int .i64 0] from (k59_mkM _ _ _ (⟨0, 7, 0, 0⟩ : S59) )) (Reps.c4 (show Kd.M k59 _ _ _ (⟨1, 2, 0, 1⟩ : S59) [.int .i64 1, .int .i64 2, .int .i64 0, .int .i64 1] from (k59_mkM _ _ _ (⟨1, 2, 0, 1⟩ : S59) )) (Reps.c4 (show Kd.M k59 _ _ _ (⟨0, 10, 0, 0⟩ : S59) [.int .i64 0, .int .i64 10, .int .i64 0, .int .i64 0] from (k59_mkM _ _ _ (⟨0, 10, 0, 0⟩ : S59) )) (Reps.c4 (show Kd.M k59 _ _ _ (⟨1, 1, 1, 0⟩ : S59) [.int .i64 1, .int .i64 1, .int .i64 1, .int .i64 0] from (k59_mkM _ _ _ (⟨1, 1, 1, 0⟩ : S59) )) (Reps.none _ _)))))); intro v553 w31 ho32 hb hg_ hnew_; clear hg_ hnew_; (first | rw [← Ny552.out] at ho32 | (simp only [Int.reduceToNat] at ho32; rw [← Ny552.out] at ho32)); have HO554 := am (Kd.R_lower ho32 (keep_size (w := w) (g := g) (row := none) (Y19))); replace BK551 := am (blk_below (g := gb551) (o := .cells #[.slice A1_0 l1_0.length c1_0] 32 (0, 0)) (kq BK551.out) hb); replace HK := am (KeepBut.trans (Y19) (KeepBut.of_below hb g none) (.inl rfl)); replace HB := am (below_step (Y32) hb); replace HI0 := am (IsS106.below (Y24) hb); clear hb ho32))
    go_ret
    exact ⟨_, Y0, rq HO554.out, Y24, Y32, Y19⟩
end Go.Proofs.Ytbcjbcjpoddkoaa.P
end
