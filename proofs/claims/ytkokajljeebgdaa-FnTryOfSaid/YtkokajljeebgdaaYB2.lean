/- One part of the proofs on this program: functions of the program as plain functions, that the code comes to them, and facts on them. -/
import Derived.Test.YtkokajljeebgdaaYAll1
import Derived.Test.YtkokajljeebgdaaYB1
import Derived.Test.YtkokajljeebgdaaYWAuto
section
namespace Go.Proofs.Ytkokajljeebgdaa.P
open Go.RowKit Go.Proofs.YtkokajljeebgdaaW.PrintWords Go.Proofs.YtkokajljeebgdaaW.PrintLast Go.Proofs.YtkokajljeebgdaaW.PrintMore
attribute [local go_sem] max2_int min2_int max_two min_two max_three min_three max_four min_four isSome_cell_setCell
set_option linter.unusedVariables false
set_option linter.unusedSimpArgs false
def spec_aStatement.T26 : Bool × List (List Nat × List Nat) := (true, [([], []), ([0], [0]), ([], []), ([], []), ([], []), ([4], [4]), ([], []), ([2, 3, 5, 6], [2, 3, 5, 6]), ([1, 7, 7], [1, 7]), ([8, 8, 0, 1, 2, 3, 4, 5, 6, 7, 8], [8])])
def spec_aStatement.B26 : List Nat := [0, 1, 0, 0, 0, 16, 0, 124, 255, 511]
theorem spec_aStatement.tab26 : rtab .any (opsOf Try.f119 26) = spec_aStatement.T26 := by kernel_rfl
theorem spec_aStatement.bits26 : waitsOk spec_aStatement.T26.2 spec_aStatement.B26 = true := by kernel_rfl
def spec_aStatement.T30 : Bool × List (List Nat × List Nat) := (true, [([], []), ([0], [0]), ([], []), ([], []), ([], []), ([4], [4]), ([2, 3, 5], [2, 3, 5]), ([1, 6, 6], [1, 6]), ([7, 7, 0, 1, 2, 3, 4, 5, 6, 7], [7])])
def spec_aStatement.B30 : List Nat := [0, 1, 0, 0, 0, 16, 60, 127, 255]
theorem spec_aStatement.tab30 : rtab .any (opsOf Try.f119 30) = spec_aStatement.T30 := by kernel_rfl
theorem spec_aStatement.bits30 : waitsOk spec_aStatement.T30.2 spec_aStatement.B30 = true := by kernel_rfl
set_option maxHeartbeats 8000000 in
set_option maxRecDepth 100000 in
theorem spec_aStatement.calls_of (k : Nat) (ih119 : ∀ k_, k_ < k → ∀ (g : Nat) (s0_0 : List Int) (s0_1 : Int) (A1_0 : Option Addr) (c1_0 : Nat) (l1_0 : List (S87)) (a2 : Int) (a3 : Bool) (r1 : List (S52)) (r2 : Int) (w0 w : World) (hI : IsS97 w0 w g s0_0 s0_1) (hB : Below w0.heap.size w0 w) (hr1_0 : ∀ W_, KeepBut w W_ g none → Kd.C k87 W_ A1_0 l1_0.length l1_0) (hc1_0 : l1_0.length ≤ c1_0) (h : spec_aStatement.f k_ s0_0 s0_1 l1_0 a2 a3 = some (r1, r2)), Calls Try.prog 119 #[.pointer (some ⟨g, 0, none⟩), .agg #[.slice A1_0 l1_0.length c1_0], .int .i64 a2, .bool a3] w fun e w' => ∃ v0_ : Value, e = .returned (v0_) ∧ Kd.R k52 52 w' w.heap.size (fun _ => True) v0_ r1 ∧ IsS97 w0 w' g s0_0 r2 ∧ Below w0.heap.size w0 w' ∧ KeepBut w w' g none) (ih118 : ∀ k_, k_ < k → ∀ (g : Nat) (s0_0 : List Int) (s0_1 : Int) (A1_0 : Option Addr) (c1_0 : Nat) (l1_0 : List (S87)) (a2 : Int) (a3 : Bool) (r1 : List (S52)) (r2 : Int) (w0 w : World) (hI : IsS97 w0 w g s0_0 s0_1) (hB : Below w0.heap.size w0 w) (hr1_0 : ∀ W_, KeepBut w W_ g none → Kd.C k87 W_ A1_0 l1_0.length l1_0) (hc1_0 : l1_0.length ≤ c1_0) (h : spec_aBlock.f k_ s0_0 s0_1 l1_0 a2 a3 = some (r1, r2)), Calls Try.prog 118 #[.pointer (some ⟨g, 0, none⟩), .agg #[.slice A1_0 l1_0.length c1_0], .int .i64 a2, .bool a3] w fun e w' => ∃ v0_ : Value, e = .returned (v0_) ∧ Kd.R k52 52 w' w.heap.size (fun _ => True) v0_ r1 ∧ IsS97 w0 w' g s0_0 r2 ∧ Below w0.heap.size w0 w' ∧ KeepBut w w' g none) (ih117 : ∀ k_, k_ < k → ∀ (g : Nat) (s0_0 : List Int) (s0_1 : Int) (A1_0 : Option Addr) (c1_0 : Nat) (l1_0 : List (S87)) (a2 : Int) (a3 : Bool) (r1 : List (S52)) (r2 : Int) (w0 w : World) (hI : IsS97 w0 w g s0_0 s0_1) (hB : Below w0.heap.size w0 w) (hr1_0 : ∀ W_, KeepBut w W_ g none → Kd.C k87 W_ A1_0 l1_0.length l1_0) (hc1_0 : l1_0.length ≤ c1_0) (h : spec_aTry.f k_ s0_0 s0_1 l1_0 a2 a3 = some (r1, r2)), Calls Try.prog 117 #[.pointer (some ⟨g, 0, none⟩), .agg #[.slice A1_0 l1_0.length c1_0], .int .i64 a2, .bool a3] w fun e w' => ∃ v0_ : Value, e = .returned (v0_) ∧ Kd.R k52 52 w' w.heap.size (fun _ => True) v0_ r1 ∧ IsS97 w0 w' g s0_0 r2 ∧ Below w0.heap.size w0 w' ∧ KeepBut w w' g none) : ∀ (g : Nat) (s0_0 : List Int) (s0_1 : Int) (A1_0 : Option Addr) (c1_0 : Nat) (l1_0 : List (S87)) (a2 : Int) (a3 : Bool) (r1 : List (S52)) (r2 : Int) (w0 w : World) (hI : IsS97 w0 w g s0_0 s0_1) (hB : Below w0.heap.size w0 w) (hr1_0 : ∀ W_, KeepBut w W_ g none → Kd.C k87 W_ A1_0 l1_0.length l1_0) (hc1_0 : l1_0.length ≤ c1_0) (h : spec_aStatement.f k s0_0 s0_1 l1_0 a2 a3 = some (r1, r2)),
  Calls Try.prog 119 #[.pointer (some ⟨g, 0, none⟩), .agg #[.slice A1_0 l1_0.length c1_0], .int .i64 a2, .bool a3] w fun e w' => ∃ v0_ : Value, e = .returned (v0_) ∧ Kd.R k52 52 w' w.heap.size (fun _ => True) v0_ r1 ∧ IsS97 w0 w' g s0_0 r2 ∧ Below w0.heap.size w0 w' ∧ KeepBut w w' g none := by
 intro g s0_0 s0_1 A1_0 c1_0 l1_0 a2 a3 r1 r2 w0 w hI hB hr1_0 hc1_0 h
 cases k with
 | zero => exact absurd h (by simp [spec_aStatement.f])
 | succ k =>
 simp only [spec_aStatement.f] at h
 have hu32 := Try.underlying32
 have hu52 := Try.underlying52
 have HR1_0 := am hr1_0
 have HC1_0 := am hc1_0
 clear hr1_0 hc1_0
 have HI0 := am hI
 have HK := am (KeepBut.refl w g none)
 have HL := am hB.size
 clear hI
 have HW0 := am hB.size
 have HB := am hB
 clear hB
 have H : ((spec_reader_pick.f k s0_0 s0_1 16).bind fun bt711 => (if a2 ≥ 3 then ((spec_reader_pick.f k s0_0 bt711.2 9).bind fun bt713 => (spec_aStatement.j0 k a2 a3 bt713.1 s0_0 bt713.2 l1_0)) else (spec_aStatement.j0 k a2 a3 bt711.1 s0_0 bt711.2 l1_0))) = some (r1, r2) := h
 clear h
 replace H := Option.bind_eq_some_iff.mp H
 obtain ⟨⟨t711, t712⟩, A50, H⟩ := H
 replace H : (if a2 ≥ 3 then ((spec_reader_pick.f k s0_0 t712 9).bind fun bt713 => (spec_aStatement.j0 k a2 a3 bt713.1 s0_0 bt713.2 l1_0)) else (spec_aStatement.j0 k a2 a3 t711 s0_0 t712 l1_0)) = some (r1, r2) := H
 have A5 := am A50
 clear A50
 have HC6 := am H
 clear H
 go_enter Try.func119, Try.ntmps119
 go_upto_if 14 with (first | ((with_reducible refine gate_dst (N := 5) rfl ?_); refine bE (N := 5) (cs := #[.slice A1_0 l1_0.length c1_0]) (t := 32) ?_; intro gb710 hg w7 hbox hb; have BK710 := am (hbox); have GW710 := am ((Y13 : w.heap.size ≤ gb710)); have GE710 := am ((Nat.le_trans HW0.out (Y13 : w.heap.size ≤ gb710) : w0.heap.size ≤ gb710)); have NB0_710 := am ((Y29 : g ≠ gb710)); have NB710_0 := am ((Y30 : gb710 ≠ g)); replace HK := am (KeepBut.trans (Y18) (KeepBut.of_below hb g none) (.inl rfl)); replace HB := am (below_step (Y19) hb); replace HI0 := am (IsS97.below (Y17) hb); clear hb hbox hg) | ((with_reducible refine gate_callee (f := 71) rfl ?_); refine gL (some 12) Try.func71 #[.pointer (some ⟨g, 0, none⟩), .int .i64 16] ?_; (with_reducible refine (spec_reader_pick.calls k g s0_0 s0_1 16 t711 t712 w0 _ ?side1 ?side2 A5.out).mono ?_); (case side1 => exact Y63); (case side2 => exact Y64); rintro e w8 ⟨rfl, hi, hb, hk⟩; refine ⟨_, rfl, ?_⟩; replace BK710 := am (KeepBut.blk hk (g' := gb710) (o := .cells #[.slice A1_0 l1_0.length c1_0] 32 (0, 0)) (kq BK710.out) NB710_0.out (by simp)); replace HK := am (KeepBut.trans (Y65) hk (.inl rfl)); replace HB := am (hb); replace HI0 := am (hi); (try clear hb); (try clear hb2); (try clear hk); (try clear hi)))
 (try simp only [Act.put, List.setIfInBounds_toArray, List.set_cons_zero, List.set_cons_succ])
 go_cut [9] (fun v9 wc => ∃ (kq : Nat) (x9_5 : Int) (x1001_5 : Int), v9 = .int .i64 x9_5 ∧ Aside0 (spec_aStatement.j0 kq a2 a3 x9_5 s0_0 x1001_5 l1_0 = some (r1, r2)) ∧ Aside0 (kq ≤ k) ∧ Aside0 (wc.heap[gb710]? = some (.cells #[(.slice A1_0 l1_0.length c1_0)] 32 (0, 0))) ∧ Aside0 (IsS97 w0 wc g s0_0 x1001_5) ∧ Aside0 (KeepBut w wc g none) ∧ Aside0 (Below w0.heap.size w0 wc))
 case first =>
  have H := HC6.out
  clear HC6
  by_cases c9 : a2 ≥ 3
  ·rw [if_pos c9] at H
   have c9b0 : decide (3 ≤ a2) = true := decide_eq_true c9
   clear c9
   (first | rw [c9b0] | (simp only [i64_w, i32_w]; rw [c9b0]) | skip)
   replace H := Option.bind_eq_some_iff.mp H
   obtain ⟨⟨t713, t714⟩, A100, H⟩ := H
   replace H : (spec_aStatement.j0 k a2 a3 t713 s0_0 t714 l1_0) = some (r1, r2) := H
   have A10 := am A100
   clear A100
   have H' := am H
   clear H
   go_wp2_with (first | ((with_reducible refine gate_callee (f := 71) rfl ?_); refine gL (some 16) Try.func71 #[.pointer (some ⟨g, 0, none⟩), .int .i64 9] ?_; (with_reducible refine (spec_reader_pick.calls k g s0_0 t712 9 t713 t714 w0 _ ?side1 ?side2 A10.out).mono ?_); (case side1 => exact Y63); (case side2 => exact Y64); rintro e w11 ⟨rfl, hi, hb, hk⟩; refine ⟨_, rfl, ?_⟩; replace BK710 := am (KeepBut.blk hk (g' := gb710) (o := .cells #[.slice A1_0 l1_0.length c1_0] 32 (0, 0)) (kq BK710.out) NB710_0.out (by simp)); replace HK := am (KeepBut.trans (Y65) hk (.inl rfl)); replace HB := am (hb); replace HI0 := am (hi); (try clear hb); (try clear hb2); (try clear hk); (try clear hi)))
   go_meet
   case rel => exact ⟨_, (t713), (t714), (sq), H', ⟨Y35⟩, ⟨kq BK710.out⟩, ⟨Y63⟩, ⟨Y65⟩, ⟨Y64⟩⟩
  ·rw [if_neg c9] at H
   have c9b0 : decide (3 ≤ a2) = false := decide_eq_false c9
   clear c9
   (first | rw [c9b0] | (simp only [i64_w, i32_w]; rw [c9b0]) | skip)
   have H' := am H
   clear H
   go_wp2
   go_meet
   case rel => exact ⟨_, (t711), (t712), (sq), H', ⟨Y35⟩, ⟨kq BK710.out⟩, ⟨Y63⟩, ⟨Y65⟩, ⟨Y64⟩⟩
 case rest =>
  clear HC6
  try clear c1
  try clear p2
  try clear c7
  try clear c9
  try clear c9b0
  try clear c11
  obtain ⟨kq, x9_5, x1001_5, rfl, HA, HJ5, BK710, HI0, HK, HB⟩ := hcut
  cases kq with
  | zero => exact absurd HA.out (by simp [spec_aStatement.j0])
  | succ kj5 =>
   have H := HA.out
   clear HA
   simp only [spec_aStatement.j0] at H
   by_cases c12 : x9_5 < 4
   ·rw [if_pos c12] at H
    have c12b0 : decide (x9_5 < 4) = true := decide_eq_true c12
    clear c12
    obtain ⟨y716, hy716⟩ : ∃ y_ : List Int, y_ = (([1, 2, 3, 4, 5] : List Int)) := ⟨_, rfl⟩
    replace H : ((spec_reader_one.f kj5 s0_0 x1001_5 y716).bind fun bt719 => (some ((([(⟨a2, 1, bt719.1, 0⟩ : S52)] : List (S52))), bt719.2))) = some (r1, r2) := by first | (rw [hy716]; with_reducible exact H) | (have H2_ := (Option.bind_some _ _).symm.trans H; rw [hy716]; with_reducible exact H2_) | (have H2_ := (Option.bind_some _ _).symm.trans H; with_reducible exact H2_) | with_reducible exact H | (rw [hy716]; exact H) | exact H
    have Ny716 := am hy716
    clear hy716
    replace H := Option.bind_eq_some_iff.mp H
    obtain ⟨⟨t719, t720⟩, A130, H⟩ := H
    replace H : (some ((([(⟨a2, 1, t719, 0⟩ : S52)] : List (S52))), t720)) = some (r1, r2) := H
    have A13 := am A130
    clear A130
    obtain ⟨y721, hy721⟩ : ∃ y_ : List (S52), y_ = (([(⟨a2, 1, t719, 0⟩ : S52)] : List (S52))) := ⟨_, rfl⟩
    replace H : (some (y721, t720)) = some (r1, r2) := by first | (rw [hy721]; with_reducible exact H) | (have H2_ := (Option.bind_some _ _).symm.trans H; rw [hy721]; with_reducible exact H2_) | (have H2_ := (Option.bind_some _ _).symm.trans H; with_reducible exact H2_) | with_reducible exact H | (rw [hy721]; exact H) | exact H
    have Ny721 := am hy721
    clear hy721
    simp only [Option.some.injEq, Prod.mk.injEq] at H
    obtain ⟨rfl, rfl⟩ := H
    go_wp2_with (first | ((with_reducible refine gate_dst (N := 10) rfl ?_); refine bE (N := 10) (cs := #[.int .i64 0, .int .i64 0, .int .i64 0, .int .i64 0]) (t := 52) ?_; intro gb715 hg w14 hbox hb; have BK715 := am (hbox); have GW715 := am ((Y66 : w.heap.size ≤ gb715)); have GE715 := am ((Nat.le_trans HW0.out (Y66 : w.heap.size ≤ gb715) : w0.heap.size ≤ gb715)); have NB710_715 := am ((Y105 : gb710 ≠ gb715)); have NB715_710 := am ((Y106 : gb715 ≠ gb710)); have NB0_715 := am ((Y107 : g ≠ gb715)); have NB715_0 := am ((Y108 : gb715 ≠ g)); replace BK710 := am (blk_below (g := gb710) (o := .cells #[.slice A1_0 l1_0.length c1_0] 32 (0, 0)) (kq BK710.out) hb); replace HK := am (KeepBut.trans (Y65) (KeepBut.of_below hb g none) (.inl rfl)); replace HB := am (below_step (Y64) hb); replace HI0 := am (IsS97.below (Y63) hb); clear hb hbox hg; have hnb15 := NB715_710.out; have hnc15 := NB710_715.out; have hnb16 := NB715_0.out; have hnc16 := NB0_715.out; have hcz17_0 := bc0 BK715.out; have hcz17_1 := bc1 BK715.out; have hcz17_2 := bc2 BK715.out; have hcz17_3 := bc3 BK715.out; have hfz17_0 := blk_frozen BK715.out 0; have hfz17_1 := blk_frozen BK715.out 1; have hfz17_2 := blk_frozen BK715.out 2; have hfz17_3 := blk_frozen BK715.out 3) | ((with_reducible refine gate_dst (N := 29) rfl ?_); refine Kd.R_lit (Kd.int .i64) _ 3 ?hg (N := 29) ?hd (xs := ([1, 2, 3, 4, 5] : List Int)) (inner := [.int .i64 1, .int .i64 2, .int .i64 3, .int .i64 4, .int .i64 5]) (ok := fun _ => True) (okp := fun _ => True) ?hr ?hp (fun _ hk => hk) trivial (Below.refl _ _) (Nat.le_refl _) (by simp) ?_; (case hd => rfl); (case hg => rfl); (case hr => exact Y5); (case hp => exact (Reps.one (show Kd.M (Kd.int .i64) _ _ _ 1 [.int .i64 1] from rfl) (Reps.one (show Kd.M (Kd.int .i64) _ _ _ 2 [.int .i64 2] from rfl) (Reps.one (show Kd.M (Kd.int .i64) _ _ _ 3 [.int .i64 3] from rfl) (Reps.one (show Kd.M (Kd.int .i64) _ _ _ 4 [.int .i64 4] from rfl) (Reps.one (show Kd.M (Kd.int .i64) _ _ _ 5 [.int .i64 5] from rfl) (Reps.none _ _))))))); intro v717 w18 ho19 hb hg_ hnew_; clear hg_ hnew_; (first | rw [← Ny716.out] at ho19 | (simp only [Int.reduceToNat] at ho19; rw [← Ny716.out] at ho19)); have HO718 := am (Kd.R_lower ho19 (keep_size (w := w) (g := g) (row := none) (Y2))); replace BK710 := am (blk_below (g := gb710) (o := .cells #[.slice A1_0 l1_0.length c1_0] 32 (0, 0)) (Y128) hb); replace BK715 := am (blk_below (g := gb715) (o := .cells #[.int .i64 a2, .int .i64 1, .int .i64 0, .int .i64 0] 52 (0, 0)) (Y109) hb); replace HK := am (KeepBut.trans (Y2) (KeepBut.of_below hb g none) (.inl rfl)); replace HB := am (below_step (Y8) hb); replace HI0 := am (IsS97.below (show IsS97 w0 (((((w14.setCell ⟨gb715, 0, none⟩ (.int .i64 a2)).setCell ⟨gb715, 1, none⟩ (.int .i64 0)).setCell ⟨gb715, 2, none⟩ (.int .i64 0)).setCell ⟨gb715, 3, none⟩ (.int .i64 0)).setCell ⟨gb715, 1, none⟩ (.int .i64 1)) g s0_0 x1001_5 from Y6) hb); clear hb ho19; obtain ⟨Ao20, co20, eo20⟩ := Kd.R_slice HO718.out; subst eo20) | ((with_reducible refine gate_callee (f := 91) rfl ?_); refine gL (some 30) Try.func91 #[.pointer (some ⟨g, 0, none⟩), .slice Ao20 y716.length co20] ?_; (with_reducible refine (spec_reader_one.calls kj5 g s0_0 x1001_5 _ _ y716 t719 t720 w0 _ ?side1 ?side2 ?side3 ?side4 ?side5 A13.out).mono ?_); (case side1 => exact Y6); (case side2 => exact Y8); (case side3 => exact cq (Kd.R_reads' HO718.out).2.2); (case side4 => exact (Kd.R_reads' HO718.out).2.1); (case side5 => exact far_slice (IsS97.own_ne HI0.out HO718.out (by decide))); rintro e w21 ⟨rfl, hi, hb, hk⟩; refine ⟨_, rfl, ?_⟩; replace BK710 := am (KeepBut.blk hk (g' := gb710) (o := .cells #[.slice A1_0 l1_0.length c1_0] 32 (0, 0)) (kq BK710.out) NB710_0.out (by simp)); replace BK715 := am (KeepBut.blk hk (g' := gb715) (o := .cells #[.int .i64 a2, .int .i64 1, .int .i64 0, .int .i64 0] 52 (0, 0)) (kq BK715.out) NB715_0.out (by simp)); replace HO718 := am (Kd.R_mono (Kd.R_keep (IsS97.apart (show IsS97 w0 _ g s0_0 x1001_5 from Y6) (rq HO718.out) (by decide)) hk (fun _ h => h.2)) (fun _ h => h.1)); replace HK := am (KeepBut.trans (Y2) hk (.inl rfl)); replace HB := am (hb); replace HI0 := am (hi); (try clear hb); (try clear hb2); (try clear hk); (try clear hi); have hcz22_0 := bc0 BK715.out; have hcz22_1 := bc1 BK715.out; have hcz22_2 := bc2 BK715.out; have hcz22_3 := bc3 BK715.out; have hfz22_0 := blk_frozen BK715.out 0; have hfz22_1 := blk_frozen BK715.out 1; have hfz22_2 := blk_frozen BK715.out 2; have hfz22_3 := blk_frozen BK715.out 3) | ((with_reducible refine gate_dst (N := 108) rfl ?_); refine Kd.R_lit k52 _ 52 ?hg (N := 108) ?hd (xs := ([(⟨a2, 1, t719, 0⟩ : S52)] : List (S52))) (inner := [.int .i64 a2, .int .i64 1, .int .i64 t719, .int .i64 0]) (ok := fun _ => True) (okp := fun _ => True) ?hr ?hp (fun _ hk => hk) trivial (Below.refl _ _) (Nat.le_refl _) (by simp) ?_; (case hd => rfl); (case hg => rfl); (case hr => exact Y5); (case hp => exact (Reps.c4 (show Kd.M k52 _ _ _ (⟨a2, 1, t719, 0⟩ : S52) [.int .i64 a2, .int .i64 1, .int .i64 t719, .int .i64 0] from (k52_mkM _ _ _ (⟨a2, 1, t719, 0⟩ : S52) )) (Reps.none _ _))); intro v722 w23 ho24 hb hg_ hnew_; clear hg_ hnew_; (first | rw [← Ny721.out] at ho24 | (simp only [Int.reduceToNat] at ho24; rw [← Ny721.out] at ho24)); have HO723 := am (Kd.R_lower (Kd.R_newB ho24 (g := gb715) (o := .cells #[.int .i64 a2, .int .i64 1, .int .i64 t719, .int .i64 0] 52 (0, 0)) (Y153)) (keep_size (w := w) (g := g) (row := none) (Y2))); replace HO718 := am (Kd.R_below (by (with_reducible repeat (first | apply Kd.R_alloc | apply Kd.R_drewN | apply Kd.R_drew)); exact (Kd.R_mono (Kd.R_far (p := ⟨gb715, 2, none⟩) (Kd.R_types HO718.out BK715.out (by decide)) (fun _ hk => hk.2) (.int .i64 t719)) (fun _ h_ => h_.1))) hb); replace BK710 := am (blk_below (g := gb710) (o := .cells #[.slice A1_0 l1_0.length c1_0] 32 (0, 0)) (Y53) hb); replace BK715 := am (blk_below (g := gb715) (o := .cells #[.int .i64 a2, .int .i64 1, .int .i64 t719, .int .i64 0] 52 (0, 0)) (Y153) hb); replace HK := am (KeepBut.trans (Y2) (KeepBut.of_below hb g none) (.inl rfl)); replace HB := am (below_step (Y8) hb); replace HI0 := am (IsS97.below (show IsS97 w0 (w21.setCell ⟨gb715, 2, none⟩ (.int .i64 t719)) g s0_0 t720 from Y6) hb); clear hb ho24))
    go_ret
    exact ⟨_, Y0, by (with_reducible repeat (first | apply Kd.R_alloc | apply Kd.R_drewN | apply Kd.R_drew)); exact Kd.R_mono HO723.out (fun _ hk => trivial), Y6, Y8, Y2⟩
   ·rw [if_neg c12] at H
    have c12b0 : decide (x9_5 < 4) = false := decide_eq_false c12
    clear c12
    by_cases c25 : x9_5 < 6
    ·rw [if_pos c25] at H
     have c25b0 : decide (x9_5 < 6) = true := decide_eq_true c25
     clear c25
     replace H := Option.bind_eq_some_iff.mp H
     obtain ⟨⟨t724, t725⟩, A260, H⟩ := H
     replace H : ((spec_reader_one.f kj5 s0_0 t725 (([1, 2, 3] : List Int))).bind fun bt729 => (some ((([(⟨a2, 2, t724, bt729.1⟩ : S52)] : List (S52))), bt729.2))) = some (r1, r2) := H
     have A26 := am A260
     clear A260
     obtain ⟨y726, hy726⟩ : ∃ y_ : List Int, y_ = (([1, 2, 3] : List Int)) := ⟨_, rfl⟩
     replace H : ((spec_reader_one.f kj5 s0_0 t725 y726).bind fun bt729 => (some ((([(⟨a2, 2, t724, bt729.1⟩ : S52)] : List (S52))), bt729.2))) = some (r1, r2) := by first | (rw [hy726]; with_reducible exact H) | (have H2_ := (Option.bind_some _ _).symm.trans H; rw [hy726]; with_reducible exact H2_) | (have H2_ := (Option.bind_some _ _).symm.trans H; with_reducible exact H2_) | with_reducible exact H | (rw [hy726]; exact H) | exact H
     have Ny726 := am hy726
     clear hy726
     replace H := Option.bind_eq_some_iff.mp H
     obtain ⟨⟨t729, t730⟩, A270, H⟩ := H
     replace H : (some ((([(⟨a2, 2, t724, t729⟩ : S52)] : List (S52))), t730)) = some (r1, r2) := H
     have A27 := am A270
     clear A270
     obtain ⟨y731, hy731⟩ : ∃ y_ : List (S52), y_ = (([(⟨a2, 2, t724, t729⟩ : S52)] : List (S52))) := ⟨_, rfl⟩
     replace H : (some (y731, t730)) = some (r1, r2) := by first | (rw [hy731]; with_reducible exact H) | (have H2_ := (Option.bind_some _ _).symm.trans H; rw [hy731]; with_reducible exact H2_) | (have H2_ := (Option.bind_some _ _).symm.trans H; with_reducible exact H2_) | with_reducible exact H | (rw [hy731]; exact H) | exact H
     have Ny731 := am hy731
     clear hy731
     simp only [Option.some.injEq, Prod.mk.injEq] at H
     obtain ⟨rfl, rfl⟩ := H
     go_wp2_with (first | ((with_reducible refine gate_dst (N := 10) rfl ?_); refine bE (N := 10) (cs := #[.int .i64 0, .int .i64 0, .int .i64 0, .int .i64 0]) (t := 52) ?_; intro gb715 hg w28 hbox hb; have BK715 := am (hbox); have GW715 := am ((Y66 : w.heap.size ≤ gb715)); have GE715 := am ((Nat.le_trans HW0.out (Y66 : w.heap.size ≤ gb715) : w0.heap.size ≤ gb715)); have NB710_715 := am ((Y105 : gb710 ≠ gb715)); have NB715_710 := am ((Y106 : gb715 ≠ gb710)); have NB0_715 := am ((Y107 : g ≠ gb715)); have NB715_0 := am ((Y108 : gb715 ≠ g)); replace BK710 := am (blk_below (g := gb710) (o := .cells #[.slice A1_0 l1_0.length c1_0] 32 (0, 0)) (kq BK710.out) hb); replace HK := am (KeepBut.trans (Y65) (KeepBut.of_below hb g none) (.inl rfl)); replace HB := am (below_step (Y64) hb); replace HI0 := am (IsS97.below (Y63) hb); clear hb hbox hg; have hnb29 := NB715_710.out; have hnc29 := NB710_715.out; have hnb30 := NB715_0.out; have hnc30 := NB0_715.out; have hcz31_0 := bc0 BK715.out; have hcz31_1 := bc1 BK715.out; have hcz31_2 := bc2 BK715.out; have hcz31_3 := bc3 BK715.out; have hfz31_0 := blk_frozen BK715.out 0; have hfz31_1 := blk_frozen BK715.out 1; have hfz31_2 := blk_frozen BK715.out 2; have hfz31_3 := blk_frozen BK715.out 3; have hnb32 := NB710_0.out; have hnc32 := NB0_710.out; have hcz33_0 := bc0 BK710.out; have hfz33_0 := blk_frozen BK710.out 0) | ((with_reducible refine gate_callee (f := 71) rfl ?_); refine gL (some 40) Try.func71 #[.pointer (some ⟨g, 0, none⟩), .int .i64 (l1_0.length : Int)] ?_; (with_reducible refine (spec_reader_pick.calls kj5 g s0_0 x1001_5 (l1_0.length : Int) t724 t725 w0 _ ?side1 ?side2 A26.out).mono ?_); (case side1 => exact Y6); (case side2 => exact Y8); rintro e w34 ⟨rfl, hi, hb, hk⟩; refine ⟨_, rfl, ?_⟩; replace BK710 := am (KeepBut.blk hk (g' := gb710) (o := .cells #[.slice A1_0 l1_0.length c1_0] 32 (0, 0)) (Y128) NB710_0.out (by simp)); replace BK715 := am (KeepBut.blk hk (g' := gb715) (o := .cells #[.int .i64 a2, .int .i64 2, .int .i64 0, .int .i64 0] 52 (0, 0)) (Y109) NB715_0.out (by simp)); replace HK := am (KeepBut.trans (Y2) hk (.inl rfl)); replace HB := am (hb); replace HI0 := am (hi); (try clear hb); (try clear hb2); (try clear hk); (try clear hi); have hcz35_0 := bc0 BK715.out; have hcz35_1 := bc1 BK715.out; have hcz35_2 := bc2 BK715.out; have hcz35_3 := bc3 BK715.out; have hfz35_0 := blk_frozen BK715.out 0; have hfz35_1 := blk_frozen BK715.out 1; have hfz35_2 := blk_frozen BK715.out 2; have hfz35_3 := blk_frozen BK715.out 3) | ((with_reducible refine gate_dst (N := 43) rfl ?_); refine Kd.R_lit (Kd.int .i64) _ 3 ?hg (N := 43) ?hd (xs := ([1, 2, 3] : List Int)) (inner := [.int .i64 1, .int .i64 2, .int .i64 3]) (ok := fun _ => True) (okp := fun _ => True) ?hr ?hp (fun _ hk => hk) trivial (Below.refl _ _) (Nat.le_refl _) (by simp) ?_; (case hd => rfl); (case hg => rfl); (case hr => exact Y5); (case hp => exact (Reps.one (show Kd.M (Kd.int .i64) _ _ _ 1 [.int .i64 1] from rfl) (Reps.one (show Kd.M (Kd.int .i64) _ _ _ 2 [.int .i64 2] from rfl) (Reps.one (show Kd.M (Kd.int .i64) _ _ _ 3 [.int .i64 3] from rfl) (Reps.none _ _))))); intro v727 w36 ho37 hb hg_ hnew_; clear hg_ hnew_; (first | rw [← Ny726.out] at ho37 | (simp only [Int.reduceToNat] at ho37; rw [← Ny726.out] at ho37)); have HO728 := am (Kd.R_lower ho37 (keep_size (w := w) (g := g) (row := none) (Y2))); replace BK710 := am (blk_below (g := gb710) (o := .cells #[.slice A1_0 l1_0.length c1_0] 32 (0, 0)) (Y53) hb); replace BK715 := am (blk_below (g := gb715) (o := .cells #[.int .i64 a2, .int .i64 2, .int .i64 t724, .int .i64 0] 52 (0, 0)) (by (with_reducible repeat (first | refine blk_drewN ?_ _ | refine blk_drew ?_ | refine blk_alloc ?_ _)); refine blk_put (cs := #[.int .i64 a2, .int .i64 2, .int .i64 0, .int .i64 0]) ?_ 2 _ rfl; (with_reducible repeat (first | refine blk_drewN ?_ _ | refine blk_drew ?_ | refine blk_alloc ?_ _)); exact BK715.out) hb); replace HK := am (KeepBut.trans (Y2) (KeepBut.of_below hb g none) (.inl rfl)); replace HB := am (below_step (Y8) hb); replace HI0 := am (IsS97.below (show IsS97 w0 (w34.setCell ⟨gb715, 2, none⟩ (.int .i64 t724)) g s0_0 t725 from Y6) hb); clear hb ho37; obtain ⟨Ao38, co38, eo38⟩ := Kd.R_slice HO728.out; subst eo38) | ((with_reducible refine gate_callee (f := 91) rfl ?_); refine gL (some 44) Try.func91 #[.pointer (some ⟨g, 0, none⟩), .slice Ao38 y726.length co38] ?_; (with_reducible refine (spec_reader_one.calls kj5 g s0_0 t725 _ _ y726 t729 t730 w0 _ ?side1 ?side2 ?side3 ?side4 ?side5 A27.out).mono ?_); (case side1 => exact Y6); (case side2 => exact Y8); (case side3 => exact cq (Kd.R_reads' HO728.out).2.2); (case side4 => exact (Kd.R_reads' HO728.out).2.1); (case side5 => exact far_slice (IsS97.own_ne HI0.out HO728.out (by decide))); rintro e w39 ⟨rfl, hi, hb, hk⟩; refine ⟨_, rfl, ?_⟩; replace BK710 := am (KeepBut.blk hk (g' := gb710) (o := .cells #[.slice A1_0 l1_0.length c1_0] 32 (0, 0)) (kq BK710.out) NB710_0.out (by simp)); replace BK715 := am (KeepBut.blk hk (g' := gb715) (o := .cells #[.int .i64 a2, .int .i64 2, .int .i64 t724, .int .i64 0] 52 (0, 0)) (kq BK715.out) NB715_0.out (by simp)); replace HO728 := am (Kd.R_mono (Kd.R_keep (IsS97.apart (show IsS97 w0 _ g s0_0 t725 from Y6) (rq HO728.out) (by decide)) hk (fun _ h => h.2)) (fun _ h => h.1)); replace HK := am (KeepBut.trans (Y2) hk (.inl rfl)); replace HB := am (hb); replace HI0 := am (hi); (try clear hb); (try clear hb2); (try clear hk); (try clear hi); have hcz40_0 := bc0 BK715.out; have hcz40_1 := bc1 BK715.out; have hcz40_2 := bc2 BK715.out; have hcz40_3 := bc3 BK715.out; have hfz40_0 := blk_frozen BK715.out 0; have hfz40_1 := blk_frozen BK715.out 1; have hfz40_2 := blk_frozen BK715.out 2; have hfz40_3 := blk_frozen BK715.out 3) | ((with_reducible refine gate_dst (N := 108) rfl ?_); refine Kd.R_lit k52 _ 52 ?hg (N := 108) ?hd (xs := ([(⟨a2, 2, t724, t729⟩ : S52)] : List (S52))) (inner := [.int .i64 a2, .int .i64 2, .int .i64 t724, .int .i64 t729]) (ok := fun _ => True) (okp := fun _ => True) ?hr ?hp (fun _ hk => hk) trivial (Below.refl _ _) (Nat.le_refl _) (by simp) ?_; (case hd => rfl); (case hg => rfl); (case hr => exact Y5); (case hp => exact (Reps.c4 (show Kd.M k52 _ _ _ (⟨a2, 2, t724, t729⟩ : S52) [.int .i64 a2, .int .i64 2, .int .i64 t724, .int .i64 t729] from (k52_mkM _ _ _ (⟨a2, 2, t724, t729⟩ : S52) )) (Reps.none _ _))); intro v732 w41 ho42 hb hg_ hnew_; clear hg_ hnew_; (first | rw [← Ny731.out] at ho42 | (simp only [Int.reduceToNat] at ho42; rw [← Ny731.out] at ho42)); have HO733 := am (Kd.R_lower (Kd.R_newB ho42 (g := gb715) (o := .cells #[.int .i64 a2, .int .i64 2, .int .i64 t724, .int .i64 t729] 52 (0, 0)) (Y154)) (keep_size (w := w) (g := g) (row := none) (Y2))); replace HO728 := am (Kd.R_below (by (with_reducible repeat (first | apply Kd.R_alloc | apply Kd.R_drewN | apply Kd.R_drew)); exact (Kd.R_mono (Kd.R_far (p := ⟨gb715, 3, none⟩) (Kd.R_types HO728.out BK715.out (by decide)) (fun _ hk => hk.2) (.int .i64 t729)) (fun _ h_ => h_.1))) hb); replace BK710 := am (blk_below (g := gb710) (o := .cells #[.slice A1_0 l1_0.length c1_0] 32 (0, 0)) (Y53) hb); replace BK715 := am (blk_below (g := gb715) (o := .cells #[.int .i64 a2, .int .i64 2, .int .i64 t724, .int .i64 t729] 52 (0, 0)) (Y154) hb); replace HK := am (KeepBut.trans (Y2) (KeepBut.of_below hb g none) (.inl rfl)); replace HB := am (below_step (Y8) hb); replace HI0 := am (IsS97.below (show IsS97 w0 (w39.setCell ⟨gb715, 3, none⟩ (.int .i64 t729)) g s0_0 t730 from Y6) hb); clear hb ho42))
     go_ret
     exact ⟨_, Y0, by (with_reducible repeat (first | apply Kd.R_alloc | apply Kd.R_drewN | apply Kd.R_drew)); exact Kd.R_mono HO733.out (fun _ hk => trivial), Y6, Y8, Y2⟩
    ·rw [if_neg c25] at H
     have c25b0 : decide (x9_5 < 6) = false := decide_eq_false c25
     clear c25
     by_cases c43 : x9_5 = 6
     ·rw [if_pos c43] at H
      have c43b0 : (x9_5 == 6) = true := beq_iff_eq.mpr c43
      have c43b1 : (x9_5 != 6) = false := bne_eq_false_iff_eq.mpr c43
      clear c43
      obtain ⟨y734, hy734⟩ : ∃ y_ : List (S52), y_ = (([(⟨a2, 3, 0, 0⟩ : S52)] : List (S52))) := ⟨_, rfl⟩
      replace H : (some (y734, x1001_5)) = some (r1, r2) := by first | (rw [hy734]; with_reducible exact H) | (have H2_ := (Option.bind_some _ _).symm.trans H; rw [hy734]; with_reducible exact H2_) | (have H2_ := (Option.bind_some _ _).symm.trans H; with_reducible exact H2_) | with_reducible exact H | (rw [hy734]; exact H) | exact H
      have Ny734 := am hy734
      clear hy734
      simp only [Option.some.injEq, Prod.mk.injEq] at H
      obtain ⟨rfl, rfl⟩ := H
      go_wp2_with (first | ((with_reducible refine gate_dst (N := 10) rfl ?_); refine bE (N := 10) (cs := #[.int .i64 0, .int .i64 0, .int .i64 0, .int .i64 0]) (t := 52) ?_; intro gb715 hg w44 hbox hb; have BK715 := am (hbox); have GW715 := am ((Y66 : w.heap.size ≤ gb715)); have GE715 := am ((Nat.le_trans HW0.out (Y66 : w.heap.size ≤ gb715) : w0.heap.size ≤ gb715)); have NB710_715 := am ((Y105 : gb710 ≠ gb715)); have NB715_710 := am ((Y106 : gb715 ≠ gb710)); have NB0_715 := am ((Y107 : g ≠ gb715)); have NB715_0 := am ((Y108 : gb715 ≠ g)); replace BK710 := am (blk_below (g := gb710) (o := .cells #[.slice A1_0 l1_0.length c1_0] 32 (0, 0)) (kq BK710.out) hb); replace HK := am (KeepBut.trans (Y65) (KeepBut.of_below hb g none) (.inl rfl)); replace HB := am (below_step (Y64) hb); replace HI0 := am (IsS97.below (Y63) hb); clear hb hbox hg; have hnb45 := NB715_710.out; have hnc45 := NB710_715.out; have hnb46 := NB715_0.out; have hnc46 := NB0_715.out; have hcz47_0 := bc0 BK715.out; have hcz47_1 := bc1 BK715.out; have hcz47_2 := bc2 BK715.out; have hcz47_3 := bc3 BK715.out; have hfz47_0 := blk_frozen BK715.out 0; have hfz47_1 := blk_frozen BK715.out 1; have hfz47_2 := blk_frozen BK715.out 2; have hfz47_3 := blk_frozen BK715.out 3) | ((with_reducible refine gate_dst (N := 108) rfl ?_); refine Kd.R_lit k52 _ 52 ?hg (N := 108) ?hd (xs := ([(⟨a2, 3, 0, 0⟩ : S52)] : List (S52))) (inner := [.int .i64 a2, .int .i64 3, .int .i64 0, .int .i64 0]) (ok := fun _ => True) (okp := fun _ => True) ?hr ?hp (fun _ hk => hk) trivial (Below.refl _ _) (Nat.le_refl _) (by simp) ?_; (case hd => rfl); (case hg => rfl); (case hr => exact Y5); (case hp => exact (Reps.c4 (show Kd.M k52 _ _ _ (⟨a2, 3, 0, 0⟩ : S52) [.int .i64 a2, .int .i64 3, .int .i64 0, .int .i64 0] from (k52_mkM _ _ _ (⟨a2, 3, 0, 0⟩ : S52) )) (Reps.none _ _))); intro v735 w48 ho49 hb hg_ hnew_; clear hg_ hnew_; (first | rw [← Ny734.out] at ho49 | (simp only [Int.reduceToNat] at ho49; rw [← Ny734.out] at ho49)); have HO736 := am (Kd.R_lower (Kd.R_newB ho49 (g := gb715) (o := .cells #[.int .i64 a2, .int .i64 3, .int .i64 0, .int .i64 0] 52 (0, 0)) (Y109)) (keep_size (w := w) (g := g) (row := none) (Y2))); replace BK710 := am (blk_below (g := gb710) (o := .cells #[.slice A1_0 l1_0.length c1_0] 32 (0, 0)) (Y128) hb); replace BK715 := am (blk_below (g := gb715) (o := .cells #[.int .i64 a2, .int .i64 3, .int .i64 0, .int .i64 0] 52 (0, 0)) (Y109) hb); replace HK := am (KeepBut.trans (Y2) (KeepBut.of_below hb g none) (.inl rfl)); replace HB := am (below_step (Y8) hb); replace HI0 := am (IsS97.below (show IsS97 w0 (((((w44.setCell ⟨gb715, 0, none⟩ (.int .i64 a2)).setCell ⟨gb715, 1, none⟩ (.int .i64 0)).setCell ⟨gb715, 2, none⟩ (.int .i64 0)).setCell ⟨gb715, 3, none⟩ (.int .i64 0)).setCell ⟨gb715, 1, none⟩ (.int .i64 3)) g s0_0 x1001_5 from Y6) hb); clear hb ho49))
      go_ret
      exact ⟨_, Y0, by (with_reducible repeat (first | apply Kd.R_alloc | apply Kd.R_drewN | apply Kd.R_drew)); exact Kd.R_mono HO736.out (fun _ hk => trivial), Y6, Y8, Y2⟩
     ·rw [if_neg c43] at H
      have c43b0 : (x9_5 == 6) = false := beq_eq_false_iff_ne.mpr c43
      have c43b1 : (x9_5 != 6) = true := bne_iff_ne.mpr c43
      have HC50 := am H
      clear H
      go_upto_region 15 with (first | ((with_reducible refine gate_dst (N := 10) rfl ?_); refine bE (N := 10) (cs := #[.int .i64 0, .int .i64 0, .int .i64 0, .int .i64 0]) (t := 52) ?_; intro gb715 hg w51 hbox hb; have BK715 := am (hbox); have GW715 := am ((Y66 : w.heap.size ≤ gb715)); have GE715 := am ((Nat.le_trans HW0.out (Y66 : w.heap.size ≤ gb715) : w0.heap.size ≤ gb715)); have NB710_715 := am ((Y105 : gb710 ≠ gb715)); have NB715_710 := am ((Y106 : gb715 ≠ gb710)); have NB0_715 := am ((Y107 : g ≠ gb715)); have NB715_0 := am ((Y108 : gb715 ≠ g)); replace BK710 := am (blk_below (g := gb710) (o := .cells #[.slice A1_0 l1_0.length c1_0] 32 (0, 0)) (kq BK710.out) hb); replace HK := am (KeepBut.trans (Y65) (KeepBut.of_below hb g none) (.inl rfl)); replace HB := am (below_step (Y64) hb); replace HI0 := am (IsS97.below (Y63) hb); clear hb hbox hg; have hnb52 := NB715_710.out; have hnc52 := NB710_715.out; have hnb53 := NB715_0.out; have hnc53 := NB0_715.out; have hcz54_0 := bc0 BK715.out; have hcz54_1 := bc1 BK715.out; have hcz54_2 := bc2 BK715.out; have hcz54_3 := bc3 BK715.out; have hfz54_0 := blk_frozen BK715.out 0; have hfz54_1 := blk_frozen BK715.out 1; have hfz54_2 := blk_frozen BK715.out 2; have hfz54_3 := blk_frozen BK715.out 3))
      (try simp only [Act.put, List.setIfInBounds_toArray, List.set_cons_zero, List.set_cons_succ])
      go_cut [50] (fun v50 wc => ∃ (kq : Nat) (x50_49 : Bool), v50 = .bool x50_49 ∧ Aside0 (spec_aStatement.j1 kq a2 a3 x9_5 x50_49 s0_0 x1001_5 l1_0 a2 0 0 0 = some (r1, r2)) ∧ Aside0 (kq ≤ kj5) ∧ Aside0 (wc.heap[gb710]? = some (.cells #[(.slice A1_0 l1_0.length c1_0)] 32 (0, 0))) ∧ Aside0 (wc.heap[gb715]? = some (.cells #[.int .i64 a2, .int .i64 0, .int .i64 0, .int .i64 0] 52 (0, 0))) ∧ Aside0 (IsS97 w0 wc g s0_0 x1001_5) ∧ Aside0 (KeepBut w wc g none) ∧ Aside0 (Below w0.heap.size w0 wc))
      case first =>
       have H := HC50.out
       clear HC50
       by_cases c55 : x9_5 = 7
       ·rw [if_pos c55] at H
        have c55b0 : (x9_5 == 7) = true := beq_iff_eq.mpr c55
        have c55b1 : (x9_5 != 7) = false := bne_eq_false_iff_eq.mpr c55
        clear c55
        (first | rw [c55b0] | (simp only [i64_w, i32_w]; rw [c55b0]) | skip)
        have H' := am H
        clear H
        go_wp2
        go_meet
        case rel => exact ⟨_, (a3), (sq), H', ⟨by have := HJ5.out; first | omega | exact Nat.le_refl _⟩, ⟨by (with_reducible repeat (first | refine blk_drewN ?_ _ | refine blk_drew ?_ | refine blk_alloc ?_ _)); refine blk_far ?_ NB710_715.out _; (with_reducible repeat (first | refine blk_drewN ?_ _ | refine blk_drew ?_ | refine blk_alloc ?_ _)); refine blk_far ?_ NB710_715.out _; (with_reducible repeat (first | refine blk_drewN ?_ _ | refine blk_drew ?_ | refine blk_alloc ?_ _)); refine blk_far ?_ NB710_715.out _; (with_reducible repeat (first | refine blk_drewN ?_ _ | refine blk_drew ?_ | refine blk_alloc ?_ _)); refine blk_far ?_ NB710_715.out _; (with_reducible repeat (first | refine blk_drewN ?_ _ | refine blk_drew ?_ | refine blk_alloc ?_ _)); exact BK710.out⟩, ⟨by (with_reducible repeat (first | refine blk_drewN ?_ _ | refine blk_drew ?_ | refine blk_alloc ?_ _)); refine blk_put (cs := #[.int .i64 a2, .int .i64 0, .int .i64 0, .int .i64 0]) ?_ 3 _ rfl; (with_reducible repeat (first | refine blk_drewN ?_ _ | refine blk_drew ?_ | refine blk_alloc ?_ _)); refine blk_put (cs := #[.int .i64 a2, .int .i64 0, .int .i64 0, .int .i64 0]) ?_ 2 _ rfl; (with_reducible repeat (first | refine blk_drewN ?_ _ | refine blk_drew ?_ | refine blk_alloc ?_ _)); refine blk_put (cs := #[.int .i64 a2, .int .i64 0, .int .i64 0, .int .i64 0]) ?_ 1 _ rfl; (with_reducible repeat (first | refine blk_drewN ?_ _ | refine blk_drew ?_ | refine blk_alloc ?_ _)); refine blk_put (cs := #[.int .i64 0, .int .i64 0, .int .i64 0, .int .i64 0]) ?_ 0 _ rfl; (with_reducible repeat (first | refine blk_drewN ?_ _ | refine blk_drew ?_ | refine blk_alloc ?_ _)); exact BK715.out⟩, ⟨Y6⟩, ⟨Y2⟩, ⟨Y8⟩⟩
       ·rw [if_neg c55] at H
        have c55b0 : (x9_5 == 7) = false := beq_eq_false_iff_ne.mpr c55
        have c55b1 : (x9_5 != 7) = true := bne_iff_ne.mpr c55
        (first | rw [c55b0] | (simp only [i64_w, i32_w]; rw [c55b0]) | skip)
        have H' := am H
        clear H
        go_wp2
        go_meet
        case rel => exact ⟨_, (false), (sq), H', ⟨by have := HJ5.out; first | omega | exact Nat.le_refl _⟩, ⟨by (with_reducible repeat (first | refine blk_drewN ?_ _ | refine blk_drew ?_ | refine blk_alloc ?_ _)); refine blk_far ?_ NB710_715.out _; (with_reducible repeat (first | refine blk_drewN ?_ _ | refine blk_drew ?_ | refine blk_alloc ?_ _)); refine blk_far ?_ NB710_715.out _; (with_reducible repeat (first | refine blk_drewN ?_ _ | refine blk_drew ?_ | refine blk_alloc ?_ _)); refine blk_far ?_ NB710_715.out _; (with_reducible repeat (first | refine blk_drewN ?_ _ | refine blk_drew ?_ | refine blk_alloc ?_ _)); refine blk_far ?_ NB710_715.out _; (with_reducible repeat (first | refine blk_drewN ?_ _ | refine blk_drew ?_ | refine blk_alloc ?_ _)); exact BK710.out⟩, ⟨by (with_reducible repeat (first | refine blk_drewN ?_ _ | refine blk_drew ?_ | refine blk_alloc ?_ _)); refine blk_put (cs := #[.int .i64 a2, .int .i64 0, .int .i64 0, .int .i64 0]) ?_ 3 _ rfl; (with_reducible repeat (first | refine blk_drewN ?_ _ | refine blk_drew ?_ | refine blk_alloc ?_ _)); refine blk_put (cs := #[.int .i64 a2, .int .i64 0, .int .i64 0, .int .i64 0]) ?_ 2 _ rfl; (with_reducible repeat (first | refine blk_drewN ?_ _ | refine blk_drew ?_ | refine blk_alloc ?_ _)); refine blk_put (cs := #[.int .i64 a2, .int .i64 0, .int .i64 0, .int .i64 0]) ?_ 1 _ rfl; (with_reducible repeat (first | refine blk_drewN ?_ _ | refine blk_drew ?_ | refine blk_alloc ?_ _)); refine blk_put (cs := #[.int .i64 0, .int .i64 0, .int .i64 0, .int .i64 0]) ?_ 0 _ rfl; (with_reducible repeat (first | refine blk_drewN ?_ _ | refine blk_drew ?_ | refine blk_alloc ?_ _)); exact BK715.out⟩, ⟨Y6⟩, ⟨Y2⟩, ⟨Y8⟩⟩
      case rest =>
       clear HC50
       try clear c1
       try clear c2
       try clear p2
       try clear c3
       try clear c4
       try clear c5
       try clear c7
       try clear c9
       try clear c9b0
       try clear c11
       try clear c12
       try clear c12b0
       try clear c15
       try clear c16
       try clear c25
       try clear c25b0
       try clear c29
       try clear c30
       try clear c32
       try clear c43
       try clear c43b0
       try clear c43b1
       try clear c45
       try clear c46
       try clear c52
       try clear c53
       try clear c55
       try clear c55b0
       try clear c55b1
       try clear hcz17_0
       try clear hcz17_1
       try clear hcz17_2
       try clear hcz17_3
       try clear hcz22_0
       try clear hcz22_1
       try clear hcz22_2
       try clear hcz22_3
       try clear hcz31_0
       try clear hcz31_1
       try clear hcz31_2
       try clear hcz31_3
       try clear hcz33_0
       try clear hcz35_0
       try clear hcz35_1
       try clear hcz35_2
       try clear hcz35_3
       try clear hcz40_0
       try clear hcz40_1
       try clear hcz40_2
       try clear hcz40_3
       try clear hcz47_0
       try clear hcz47_1
       try clear hcz47_2
       try clear hcz47_3
       try clear hcz54_0
       try clear hcz54_1
       try clear hcz54_2
       try clear hcz54_3
       try clear hfz17_0
       try clear hfz17_1
       try clear hfz17_2
       try clear hfz17_3
       try clear hfz22_0
       try clear hfz22_1
       try clear hfz22_2
       try clear hfz22_3
       try clear hfz31_0
       try clear hfz31_1
       try clear hfz31_2
       try clear hfz31_3
       try clear hfz33_0
       try clear hfz35_0
       try clear hfz35_1
       try clear hfz35_2
       try clear hfz35_3
       try clear hfz40_0
       try clear hfz40_1
       try clear hfz40_2
       try clear hfz40_3
       try clear hfz47_0
       try clear hfz47_1
       try clear hfz47_2
       try clear hfz47_3
       try clear hfz54_0
       try clear hfz54_1
       try clear hfz54_2
       try clear hfz54_3
       try clear p2
       obtain ⟨kq, x50_49, rfl, HA, HJ49, BK710, BK715, HI0, HK, HB⟩ := hcut
       cases kq with
       | zero => exact absurd HA.out (by simp [spec_aStatement.j1])
       | succ kj49 =>
        have H := HA.out
        clear HA
        simp only [spec_aStatement.j1] at H
        by_cases c56 : x50_49 = true
        ·subst c56
         have H1 : ((spec_reader_one.f kj49 s0_0 x1001_5 (([5, 6] : List Int))).bind fun bt740 => (some ((([(⟨a2, bt740.1, 0, 0⟩ : S52)] : List (S52))), bt740.2))) = some (r1, r2) := by rw [if_pos rfl] at H; exact H
         clear H
         have H := H1
         clear H1
         obtain ⟨y737, hy737⟩ : ∃ y_ : List Int, y_ = (([5, 6] : List Int)) := ⟨_, rfl⟩
         replace H : ((spec_reader_one.f kj49 s0_0 x1001_5 y737).bind fun bt740 => (some ((([(⟨a2, bt740.1, 0, 0⟩ : S52)] : List (S52))), bt740.2))) = some (r1, r2) := by first | (rw [hy737]; with_reducible exact H) | (have H2_ := (Option.bind_some _ _).symm.trans H; rw [hy737]; with_reducible exact H2_) | (have H2_ := (Option.bind_some _ _).symm.trans H; with_reducible exact H2_) | with_reducible exact H | (rw [hy737]; exact H) | exact H
         have Ny737 := am hy737
         clear hy737
         replace H := Option.bind_eq_some_iff.mp H
         obtain ⟨⟨t740, t741⟩, A570, H⟩ := H
         replace H : (some ((([(⟨a2, t740, 0, 0⟩ : S52)] : List (S52))), t741)) = some (r1, r2) := H
         have A57 := am A570
         clear A570
         obtain ⟨y742, hy742⟩ : ∃ y_ : List (S52), y_ = (([(⟨a2, t740, 0, 0⟩ : S52)] : List (S52))) := ⟨_, rfl⟩
         replace H : (some (y742, t741)) = some (r1, r2) := by first | (rw [hy742]; with_reducible exact H) | (have H2_ := (Option.bind_some _ _).symm.trans H; rw [hy742]; with_reducible exact H2_) | (have H2_ := (Option.bind_some _ _).symm.trans H; with_reducible exact H2_) | with_reducible exact H | (rw [hy742]; exact H) | exact H
         have Ny742 := am hy742
         clear hy742
         simp only [Option.some.injEq, Prod.mk.injEq] at H
         obtain ⟨rfl, rfl⟩ := H
         go_wp2_with (first | ((with_reducible refine gate_dst (N := 57) rfl ?_); refine Kd.R_lit (Kd.int .i64) _ 3 ?hg (N := 57) ?hd (xs := ([5, 6] : List Int)) (inner := [.int .i64 5, .int .i64 6]) (ok := fun _ => True) (okp := fun _ => True) ?hr ?hp (fun _ hk => hk) trivial (Below.refl _ _) (Nat.le_refl _) (by simp) ?_; (case hd => rfl); (case hg => rfl); (case hr => exact Y5); (case hp => exact (Reps.one (show Kd.M (Kd.int .i64) _ _ _ 5 [.int .i64 5] from rfl) (Reps.one (show Kd.M (Kd.int .i64) _ _ _ 6 [.int .i64 6] from rfl) (Reps.none _ _)))); intro v738 w58 ho59 hb hg_ hnew_; clear hg_ hnew_; (first | rw [← Ny737.out] at ho59 | (simp only [Int.reduceToNat] at ho59; rw [← Ny737.out] at ho59)); have HO739 := am (Kd.R_lower ho59 (keep_size (w := w) (g := g) (row := none) (Y2))); replace BK710 := am (blk_below (g := gb710) (o := .cells #[.slice A1_0 l1_0.length c1_0] 32 (0, 0)) (kq BK710.out) hb); replace BK715 := am (blk_below (g := gb715) (o := .cells #[.int .i64 a2, .int .i64 0, .int .i64 0, .int .i64 0] 52 (0, 0)) (kq BK715.out) hb); replace HK := am (KeepBut.trans (Y2) (KeepBut.of_below hb g none) (.inl rfl)); replace HB := am (below_step (Y8) hb); replace HI0 := am (IsS97.below (Y6) hb); clear hb ho59; obtain ⟨Ao60, co60, eo60⟩ := Kd.R_slice HO739.out; subst eo60) | ((with_reducible refine gate_callee (f := 91) rfl ?_); refine gL (some 58) Try.func91 #[.pointer (some ⟨g, 0, none⟩), .slice Ao60 y737.length co60] ?_; (with_reducible refine (spec_reader_one.calls kj49 g s0_0 x1001_5 _ _ y737 t740 t741 w0 _ ?side1 ?side2 ?side3 ?side4 ?side5 A57.out).mono ?_); (case side1 => exact Y6); (case side2 => exact Y8); (case side3 => exact cq (Kd.R_reads' HO739.out).2.2); (case side4 => exact (Kd.R_reads' HO739.out).2.1); (case side5 => exact far_slice (IsS97.own_ne HI0.out HO739.out (by decide))); rintro e w61 ⟨rfl, hi, hb, hk⟩; refine ⟨_, rfl, ?_⟩; replace BK710 := am (KeepBut.blk hk (g' := gb710) (o := .cells #[.slice A1_0 l1_0.length c1_0] 32 (0, 0)) (kq BK710.out) NB710_0.out (by simp)); replace BK715 := am (KeepBut.blk hk (g' := gb715) (o := .cells #[.int .i64 a2, .int .i64 0, .int .i64 0, .int .i64 0] 52 (0, 0)) (kq BK715.out) NB715_0.out (by simp)); replace HO739 := am (Kd.R_mono (Kd.R_keep (IsS97.apart (show IsS97 w0 _ g s0_0 x1001_5 from Y6) (rq HO739.out) (by decide)) hk (fun _ h => h.2)) (fun _ h => h.1)); replace HK := am (KeepBut.trans (Y2) hk (.inl rfl)); replace HB := am (hb); replace HI0 := am (hi); (try clear hb); (try clear hb2); (try clear hk); (try clear hi); have hnb62 := NB715_710.out; have hnc62 := NB710_715.out; have hnb63 := NB715_0.out; have hnc63 := NB0_715.out; have hcz64_0 := bc0 BK715.out; have hcz64_1 := bc1 BK715.out; have hcz64_2 := bc2 BK715.out; have hcz64_3 := bc3 BK715.out; have hfz64_0 := blk_frozen BK715.out 0; have hfz64_1 := blk_frozen BK715.out 1; have hfz64_2 := blk_frozen BK715.out 2; have hfz64_3 := blk_frozen BK715.out 3) | ((with_reducible refine gate_dst (N := 108) rfl ?_); refine Kd.R_lit k52 _ 52 ?hg (N := 108) ?hd (xs := ([(⟨a2, t740, 0, 0⟩ : S52)] : List (S52))) (inner := [.int .i64 a2, .int .i64 t740, .int .i64 0, .int .i64 0]) (ok := fun _ => True) (okp := fun _ => True) ?hr ?hp (fun _ hk => hk) trivial (Below.refl _ _) (Nat.le_refl _) (by simp) ?_; (case hd => rfl); (case hg => rfl); (case hr => exact Y5); (case hp => exact (Reps.c4 (show Kd.M k52 _ _ _ (⟨a2, t740, 0, 0⟩ : S52) [.int .i64 a2, .int .i64 t740, .int .i64 0, .int .i64 0] from (k52_mkM _ _ _ (⟨a2, t740, 0, 0⟩ : S52) )) (Reps.none _ _))); intro v743 w65 ho66 hb hg_ hnew_; clear hg_ hnew_; (first | rw [← Ny742.out] at ho66 | (simp only [Int.reduceToNat] at ho66; rw [← Ny742.out] at ho66)); have HO744 := am (Kd.R_lower (Kd.R_newB ho66 (g := gb715) (o := .cells #[.int .i64 a2, .int .i64 t740, .int .i64 0, .int .i64 0] 52 (0, 0)) (Y72)) (keep_size (w := w) (g := g) (row := none) (Y2))); replace HO739 := am (Kd.R_below (by (with_reducible repeat (first | apply Kd.R_alloc | apply Kd.R_drewN | apply Kd.R_drew)); exact (Kd.R_mono (Kd.R_far (p := ⟨gb715, 1, none⟩) (Kd.R_types HO739.out BK715.out (by decide)) (fun _ hk => hk.2) (.int .i64 t740)) (fun _ h_ => h_.1))) hb); replace BK710 := am (blk_below (g := gb710) (o := .cells #[.slice A1_0 l1_0.length c1_0] 32 (0, 0)) (Y53) hb); replace BK715 := am (blk_below (g := gb715) (o := .cells #[.int .i64 a2, .int .i64 t740, .int .i64 0, .int .i64 0] 52 (0, 0)) (Y72) hb); replace HK := am (KeepBut.trans (Y2) (KeepBut.of_below hb g none) (.inl rfl)); replace HB := am (below_step (Y8) hb); replace HI0 := am (IsS97.below (show IsS97 w0 (w61.setCell ⟨gb715, 1, none⟩ (.int .i64 t740)) g s0_0 t741 from Y6) hb); clear hb ho66))
         go_ret
         exact ⟨_, Y0, by (with_reducible repeat (first | apply Kd.R_alloc | apply Kd.R_drewN | apply Kd.R_drew)); exact Kd.R_mono HO744.out (fun _ hk => trivial), Y6, Y8, Y2⟩
        ·replace c56 := Bool.eq_false_iff.mpr c56
         subst c56
         have H1 : (if x9_5 = 7 then ((spec_reader_one.f kj49 s0_0 x1001_5 (([7, 8] : List Int))).bind fun bt748 => (some ((([(⟨a2, 4, bt748.1, 0⟩ : S52)] : List (S52))), bt748.2))) else (if x9_5 = 8 then (some ((([(⟨a2, 0, 0, 0⟩ : S52)] : List (S52))), x1001_5)) else (if x9_5 < 11 then ((spec_reader_pick.f kj49 s0_0 x1001_5 4).bind fun bt756 => ((spec_reader_pick.f kj49 s0_0 bt756.2 2).bind fun bt758 => ((some (([(⟨a2, 11, bt756.1, bt758.1⟩ : S52)] : List (S52)) : List (S52))).bind fun y760 => ((spec_aBlock.f kj49 s0_0 bt758.2 l1_0 (wrap64 (a2 + 1)) a3).bind fun bt763 => (if y760.length + bt763.1.length < 4398046511104 then (some ((y760 ++ bt763.1), bt763.2)) else (none)))))) else (if x9_5 = 11 then ((spec_reader_one.f kj49 s0_0 x1001_5 (([2, 1, 3, 0] : List Int))).bind fun bt773 => ((some (([(⟨a2, 12, bt773.1, 0⟩ : S52)] : List (S52)) : List (S52))).bind fun y775 => ((spec_aBlock.f kj49 s0_0 bt773.2 l1_0 (wrap64 (a2 + 1)) true).bind fun bt778 => (if y775.length + bt778.1.length < 4398046511104 then (some ((y775 ++ bt778.1), bt778.2)) else (none))))) else ((spec_aTry.f kj49 s0_0 x1001_5 l1_0 a2 a3).bind fun bt785 => (some (bt785.1, bt785.2))))))) = some (r1, r2) := by rw [if_neg (show ¬ (false = true) by decide)] at H; exact H
         clear H
         have H := H1
         clear H1
         by_cases c67 : x9_5 = 7
         ·rw [if_pos c67] at H
          have c67b0 : (x9_5 == 7) = true := beq_iff_eq.mpr c67
          have c67b1 : (x9_5 != 7) = false := bne_eq_false_iff_eq.mpr c67
          clear c67
          obtain ⟨y745, hy745⟩ : ∃ y_ : List Int, y_ = (([7, 8] : List Int)) := ⟨_, rfl⟩
          replace H : ((spec_reader_one.f kj49 s0_0 x1001_5 y745).bind fun bt748 => (some ((([(⟨a2, 4, bt748.1, 0⟩ : S52)] : List (S52))), bt748.2))) = some (r1, r2) := by first | (rw [hy745]; with_reducible exact H) | (have H2_ := (Option.bind_some _ _).symm.trans H; rw [hy745]; with_reducible exact H2_) | (have H2_ := (Option.bind_some _ _).symm.trans H; with_reducible exact H2_) | with_reducible exact H | (rw [hy745]; exact H) | exact H
          have Ny745 := am hy745
          clear hy745
          replace H := Option.bind_eq_some_iff.mp H
          obtain ⟨⟨t748, t749⟩, A680, H⟩ := H
          replace H : (some ((([(⟨a2, 4, t748, 0⟩ : S52)] : List (S52))), t749)) = some (r1, r2) := H
          have A68 := am A680
          clear A680
          obtain ⟨y750, hy750⟩ : ∃ y_ : List (S52), y_ = (([(⟨a2, 4, t748, 0⟩ : S52)] : List (S52))) := ⟨_, rfl⟩
          replace H : (some (y750, t749)) = some (r1, r2) := by first | (rw [hy750]; with_reducible exact H) | (have H2_ := (Option.bind_some _ _).symm.trans H; rw [hy750]; with_reducible exact H2_) | (have H2_ := (Option.bind_some _ _).symm.trans H; with_reducible exact H2_) | with_reducible exact H | (rw [hy750]; exact H) | exact H
          have Ny750 := am hy750
          clear hy750
          simp only [Option.some.injEq, Prod.mk.injEq] at H
          obtain ⟨rfl, rfl⟩ := H
          have hnb69 := NB715_710.out
          have hnc69 := NB710_715.out
          have hnb70 := NB715_0.out
          have hnc70 := NB0_715.out
          have hcz71_0 := bc0 BK715.out
          have hcz71_1 := bc1 BK715.out
          have hcz71_2 := bc2 BK715.out
          have hcz71_3 := bc3 BK715.out
          have hfz71_0 := blk_frozen BK715.out 0
          have hfz71_1 := blk_frozen BK715.out 1
          have hfz71_2 := blk_frozen BK715.out 2
          have hfz71_3 := blk_frozen BK715.out 3
          go_wp2_with (first | ((with_reducible refine gate_dst (N := 65) rfl ?_); refine Kd.R_lit (Kd.int .i64) _ 3 ?hg (N := 65) ?hd (xs := ([7, 8] : List Int)) (inner := [.int .i64 7, .int .i64 8]) (ok := fun _ => True) (okp := fun _ => True) ?hr ?hp (fun _ hk => hk) trivial (Below.refl _ _) (Nat.le_refl _) (by simp) ?_; (case hd => rfl); (case hg => rfl); (case hr => exact Y5); (case hp => exact (Reps.one (show Kd.M (Kd.int .i64) _ _ _ 7 [.int .i64 7] from rfl) (Reps.one (show Kd.M (Kd.int .i64) _ _ _ 8 [.int .i64 8] from rfl) (Reps.none _ _)))); intro v746 w72 ho73 hb hg_ hnew_; clear hg_ hnew_; (first | rw [← Ny745.out] at ho73 | (simp only [Int.reduceToNat] at ho73; rw [← Ny745.out] at ho73)); have HO747 := am (Kd.R_lower ho73 (keep_size (w := w) (g := g) (row := none) (Y2))); replace BK710 := am (blk_below (g := gb710) (o := .cells #[.slice A1_0 l1_0.length c1_0] 32 (0, 0)) (Y53) hb); replace BK715 := am (blk_below (g := gb715) (o := .cells #[.int .i64 a2, .int .i64 4, .int .i64 0, .int .i64 0] 52 (0, 0)) (Y72) hb); replace HK := am (KeepBut.trans (Y2) (KeepBut.of_below hb g none) (.inl rfl)); replace HB := am (below_step (Y8) hb); replace HI0 := am (IsS97.below (show IsS97 w0 (wc.setCell ⟨gb715, 1, none⟩ (.int .i64 4)) g s0_0 x1001_5 from Y6) hb); clear hb ho73; obtain ⟨Ao74, co74, eo74⟩ := Kd.R_slice HO747.out; subst eo74) | ((with_reducible refine gate_callee (f := 91) rfl ?_); refine gL (some 66) Try.func91 #[.pointer (some ⟨g, 0, none⟩), .slice Ao74 y745.length co74] ?_; (with_reducible refine (spec_reader_one.calls kj49 g s0_0 x1001_5 _ _ y745 t748 t749 w0 _ ?side1 ?side2 ?side3 ?side4 ?side5 A68.out).mono ?_); (case side1 => exact Y6); (case side2 => exact Y8); (case side3 => exact cq (Kd.R_reads' HO747.out).2.2); (case side4 => exact (Kd.R_reads' HO747.out).2.1); (case side5 => exact far_slice (IsS97.own_ne HI0.out HO747.out (by decide))); rintro e w75 ⟨rfl, hi, hb, hk⟩; refine ⟨_, rfl, ?_⟩; replace BK710 := am (KeepBut.blk hk (g' := gb710) (o := .cells #[.slice A1_0 l1_0.length c1_0] 32 (0, 0)) (kq BK710.out) NB710_0.out (by simp)); replace BK715 := am (KeepBut.blk hk (g' := gb715) (o := .cells #[.int .i64 a2, .int .i64 4, .int .i64 0, .int .i64 0] 52 (0, 0)) (kq BK715.out) NB715_0.out (by simp)); replace HO747 := am (Kd.R_mono (Kd.R_keep (IsS97.apart (show IsS97 w0 _ g s0_0 x1001_5 from Y6) (rq HO747.out) (by decide)) hk (fun _ h => h.2)) (fun _ h => h.1)); replace HK := am (KeepBut.trans (Y2) hk (.inl rfl)); replace HB := am (hb); replace HI0 := am (hi); (try clear hb); (try clear hb2); (try clear hk); (try clear hi); have hcz76_0 := bc0 BK715.out; have hcz76_1 := bc1 BK715.out; have hcz76_2 := bc2 BK715.out; have hcz76_3 := bc3 BK715.out; have hfz76_0 := blk_frozen BK715.out 0; have hfz76_1 := blk_frozen BK715.out 1; have hfz76_2 := blk_frozen BK715.out 2; have hfz76_3 := blk_frozen BK715.out 3) | ((with_reducible refine gate_dst (N := 108) rfl ?_); refine Kd.R_lit k52 _ 52 ?hg (N := 108) ?hd (xs := ([(⟨a2, 4, t748, 0⟩ : S52)] : List (S52))) (inner := [.int .i64 a2, .int .i64 4, .int .i64 t748, .int .i64 0]) (ok := fun _ => True) (okp := fun _ => True) ?hr ?hp (fun _ hk => hk) trivial (Below.refl _ _) (Nat.le_refl _) (by simp) ?_; (case hd => rfl); (case hg => rfl); (case hr => exact Y5); (case hp => exact (Reps.c4 (show Kd.M k52 _ _ _ (⟨a2, 4, t748, 0⟩ : S52) [.int .i64 a2, .int .i64 4, .int .i64 t748, .int .i64 0] from (k52_mkM _ _ _ (⟨a2, 4, t748, 0⟩ : S52) )) (Reps.none _ _))); intro v751 w77 ho78 hb hg_ hnew_; clear hg_ hnew_; (first | rw [← Ny750.out] at ho78 | (simp only [Int.reduceToNat] at ho78; rw [← Ny750.out] at ho78)); have HO752 := am (Kd.R_lower (Kd.R_newB ho78 (g := gb715) (o := .cells #[.int .i64 a2, .int .i64 4, .int .i64 t748, .int .i64 0] 52 (0, 0)) (Y155)) (keep_size (w := w) (g := g) (row := none) (Y2))); replace HO747 := am (Kd.R_below (by (with_reducible repeat (first | apply Kd.R_alloc | apply Kd.R_drewN | apply Kd.R_drew)); exact (Kd.R_mono (Kd.R_far (p := ⟨gb715, 2, none⟩) (Kd.R_types HO747.out BK715.out (by decide)) (fun _ hk => hk.2) (.int .i64 t748)) (fun _ h_ => h_.1))) hb); replace BK710 := am (blk_below (g := gb710) (o := .cells #[.slice A1_0 l1_0.length c1_0] 32 (0, 0)) (Y53) hb); replace BK715 := am (blk_below (g := gb715) (o := .cells #[.int .i64 a2, .int .i64 4, .int .i64 t748, .int .i64 0] 52 (0, 0)) (Y155) hb); replace HK := am (KeepBut.trans (Y2) (KeepBut.of_below hb g none) (.inl rfl)); replace HB := am (below_step (Y8) hb); replace HI0 := am (IsS97.below (show IsS97 w0 (w75.setCell ⟨gb715, 2, none⟩ (.int .i64 t748)) g s0_0 t749 from Y6) hb); clear hb ho78))
          go_ret
          exact ⟨_, Y0, by (with_reducible repeat (first | apply Kd.R_alloc | apply Kd.R_drewN | apply Kd.R_drew)); exact Kd.R_mono HO752.out (fun _ hk => trivial), Y6, Y8, Y2⟩
         ·rw [if_neg c67] at H
          have c67b0 : (x9_5 == 7) = false := beq_eq_false_iff_ne.mpr c67
          have c67b1 : (x9_5 != 7) = true := bne_iff_ne.mpr c67
          by_cases c79 : x9_5 = 8
          ·rw [if_pos c79] at H
           have c79b0 : (x9_5 == 8) = true := beq_iff_eq.mpr c79
           have c79b1 : (x9_5 != 8) = false := bne_eq_false_iff_eq.mpr c79
           clear c79
           obtain ⟨y753, hy753⟩ : ∃ y_ : List (S52), y_ = (([(⟨a2, 0, 0, 0⟩ : S52)] : List (S52))) := ⟨_, rfl⟩
           replace H : (some (y753, x1001_5)) = some (r1, r2) := by first | (rw [hy753]; with_reducible exact H) | (have H2_ := (Option.bind_some _ _).symm.trans H; rw [hy753]; with_reducible exact H2_) | (have H2_ := (Option.bind_some _ _).symm.trans H; with_reducible exact H2_) | with_reducible exact H | (rw [hy753]; exact H) | exact H
           have Ny753 := am hy753
           clear hy753
           simp only [Option.some.injEq, Prod.mk.injEq] at H
           obtain ⟨rfl, rfl⟩ := H
           have hnb80 := NB715_710.out
           have hnc80 := NB710_715.out
           have hnb81 := NB715_0.out
           have hnc81 := NB0_715.out
           have hcz82_0 := bc0 BK715.out
           have hcz82_1 := bc1 BK715.out
           have hcz82_2 := bc2 BK715.out
           have hcz82_3 := bc3 BK715.out
           have hfz82_0 := blk_frozen BK715.out 0
           have hfz82_1 := blk_frozen BK715.out 1
           have hfz82_2 := blk_frozen BK715.out 2
           have hfz82_3 := blk_frozen BK715.out 3
           go_wp2_with (first | ((with_reducible refine gate_dst (N := 108) rfl ?_); refine Kd.R_lit k52 _ 52 ?hg (N := 108) ?hd (xs := ([(⟨a2, 0, 0, 0⟩ : S52)] : List (S52))) (inner := [.int .i64 a2, .int .i64 0, .int .i64 0, .int .i64 0]) (ok := fun _ => True) (okp := fun _ => True) ?hr ?hp (fun _ hk => hk) trivial (Below.refl _ _) (Nat.le_refl _) (by simp) ?_; (case hd => rfl); (case hg => rfl); (case hr => exact Y5); (case hp => exact (Reps.c4 (show Kd.M k52 _ _ _ (⟨a2, 0, 0, 0⟩ : S52) [.int .i64 a2, .int .i64 0, .int .i64 0, .int .i64 0] from (k52_mkM _ _ _ (⟨a2, 0, 0, 0⟩ : S52) )) (Reps.none _ _))); intro v754 w83 ho84 hb hg_ hnew_; clear hg_ hnew_; (first | rw [← Ny753.out] at ho84 | (simp only [Int.reduceToNat] at ho84; rw [← Ny753.out] at ho84)); have HO755 := am (Kd.R_lower (Kd.R_newB ho84 (g := gb715) (o := .cells #[.int .i64 a2, .int .i64 0, .int .i64 0, .int .i64 0] 52 (0, 0)) (Y72)) (keep_size (w := w) (g := g) (row := none) (Y2))); replace BK710 := am (blk_below (g := gb710) (o := .cells #[.slice A1_0 l1_0.length c1_0] 32 (0, 0)) (Y53) hb); replace BK715 := am (blk_below (g := gb715) (o := .cells #[.int .i64 a2, .int .i64 0, .int .i64 0, .int .i64 0] 52 (0, 0)) (Y72) hb); replace HK := am (KeepBut.trans (Y2) (KeepBut.of_below hb g none) (.inl rfl)); replace HB := am (below_step (Y8) hb); replace HI0 := am (IsS97.below (show IsS97 w0 (wc.setCell ⟨gb715, 1, none⟩ (.int .i64 0)) g s0_0 x1001_5 from Y6) hb); clear hb ho84))
           go_ret
           exact ⟨_, Y0, by (with_reducible repeat (first | apply Kd.R_alloc | apply Kd.R_drewN | apply Kd.R_drew)); exact Kd.R_mono HO755.out (fun _ hk => trivial), Y6, Y8, Y2⟩
          ·rw [if_neg c79] at H
           have c79b0 : (x9_5 == 8) = false := beq_eq_false_iff_ne.mpr c79
           have c79b1 : (x9_5 != 8) = true := bne_iff_ne.mpr c79
           by_cases c85 : x9_5 < 11
           ·rw [if_pos c85] at H
            have c85b0 : decide (x9_5 < 11) = true := decide_eq_true c85
            clear c85
            replace H := Option.bind_eq_some_iff.mp H
            obtain ⟨⟨t756, t757⟩, A860, H⟩ := H
            replace H : ((spec_reader_pick.f kj49 s0_0 t757 2).bind fun bt758 => ((some (([(⟨a2, 11, t756, bt758.1⟩ : S52)] : List (S52)) : List (S52))).bind fun y760 => ((spec_aBlock.f kj49 s0_0 bt758.2 l1_0 (wrap64 (a2 + 1)) a3).bind fun bt763 => (if y760.length + bt763.1.length < 4398046511104 then (some ((y760 ++ bt763.1), bt763.2)) else (none))))) = some (r1, r2) := H
            have A86 := am A860
            clear A860
            replace H := Option.bind_eq_some_iff.mp H
            obtain ⟨⟨t758, t759⟩, A870, H⟩ := H
            replace H : ((some (([(⟨a2, 11, t756, t758⟩ : S52)] : List (S52)) : List (S52))).bind fun y760 => ((spec_aBlock.f kj49 s0_0 t759 l1_0 (wrap64 (a2 + 1)) a3).bind fun bt763 => (if y760.length + bt763.1.length < 4398046511104 then (some ((y760 ++ bt763.1), bt763.2)) else (none)))) = some (r1, r2) := H
            have A87 := am A870
            clear A870
            obtain ⟨y760, hy760⟩ : ∃ y_ : List (S52), y_ = (([(⟨a2, 11, t756, t758⟩ : S52)] : List (S52))) := ⟨_, rfl⟩
            replace H : ((spec_aBlock.f kj49 s0_0 t759 l1_0 (wrap64 (a2 + 1)) a3).bind fun bt763 => (if y760.length + bt763.1.length < 4398046511104 then (some ((y760 ++ bt763.1), bt763.2)) else (none))) = some (r1, r2) := by first | (rw [hy760]; with_reducible exact H) | (have H2_ := (Option.bind_some _ _).symm.trans H; rw [hy760]; with_reducible exact H2_) | (have H2_ := (Option.bind_some _ _).symm.trans H; with_reducible exact H2_) | with_reducible exact H | (rw [hy760]; exact H) | exact H
            have Ny760 := am hy760
            clear hy760
            replace H := Option.bind_eq_some_iff.mp H
            obtain ⟨⟨t763, t766⟩, A880, H⟩ := H
            replace H : (if y760.length + t763.length < 4398046511104 then (some ((y760 ++ t763), t766)) else (none)) = some (r1, r2) := H
            have A88 := am A880
            clear A880
            by_cases c89 : y760.length + t763.length < 4398046511104
            ·rw [if_pos c89] at H
             have LMc89 := am c89
             clear c89
             obtain ⟨y767, hy767⟩ : ∃ y_ : List (S52), y_ = (y760 ++ t763) := ⟨_, rfl⟩
             replace H : (some (y767, t766)) = some (r1, r2) := by first | (rw [hy767]; with_reducible exact H) | (have H2_ := (Option.bind_some _ _).symm.trans H; rw [hy767]; with_reducible exact H2_) | (have H2_ := (Option.bind_some _ _).symm.trans H; with_reducible exact H2_) | with_reducible exact H | (rw [hy767]; exact H) | exact H
             have Ny767 := am hy767
             clear hy767
             simp only [Option.some.injEq, Prod.mk.injEq] at H
             obtain ⟨rfl, rfl⟩ := H
             have hnb90 := NB715_710.out
             have hnc90 := NB710_715.out
             have hnb91 := NB715_0.out
             have hnc91 := NB0_715.out
             have hcz92_0 := bc0 BK715.out
             have hcz92_1 := bc1 BK715.out
             have hcz92_2 := bc2 BK715.out
             have hcz92_3 := bc3 BK715.out
             have hfz92_0 := blk_frozen BK715.out 0
             have hfz92_1 := blk_frozen BK715.out 1
             have hfz92_2 := blk_frozen BK715.out 2
             have hfz92_3 := blk_frozen BK715.out 3
             try go_wp2_with (first | ((with_reducible refine gate_callee (f := 71) rfl ?_); refine gL (some 77) Try.func71 #[.pointer (some ⟨g, 0, none⟩), .int .i64 4] ?_; (with_reducible refine (spec_reader_pick.calls kj49 g s0_0 x1001_5 4 t756 t757 w0 _ ?side1 ?side2 A86.out).mono ?_); (case side1 => exact Y6); (case side2 => exact Y8); rintro e w93 ⟨rfl, hi, hb, hk⟩; refine ⟨_, rfl, ?_⟩; replace BK710 := am (KeepBut.blk hk (g' := gb710) (o := .cells #[.slice A1_0 l1_0.length c1_0] 32 (0, 0)) (Y53) NB710_0.out (by simp)); replace BK715 := am (KeepBut.blk hk (g' := gb715) (o := .cells #[.int .i64 a2, .int .i64 11, .int .i64 0, .int .i64 0] 52 (0, 0)) (Y72) NB715_0.out (by simp)); replace HK := am (KeepBut.trans (Y2) hk (.inl rfl)); replace HB := am (hb); replace HI0 := am (hi); (try clear hb); (try clear hb2); (try clear hk); (try clear hi); have hcz94_0 := bc0 BK715.out; have hcz94_1 := bc1 BK715.out; have hcz94_2 := bc2 BK715.out; have hcz94_3 := bc3 BK715.out; have hfz94_0 := blk_frozen BK715.out 0; have hfz94_1 := blk_frozen BK715.out 1; have hfz94_2 := blk_frozen BK715.out 2; have hfz94_3 := blk_frozen BK715.out 3) | ((with_reducible refine gate_callee (f := 71) rfl ?_); refine gL (some 80) Try.func71 #[.pointer (some ⟨g, 0, none⟩), .int .i64 2] ?_; (with_reducible refine (spec_reader_pick.calls kj49 g s0_0 t757 2 t758 t759 w0 _ ?side1 ?side2 A87.out).mono ?_); (case side1 => exact Y6); (case side2 => exact Y8); rintro e w95 ⟨rfl, hi, hb, hk⟩; refine ⟨_, rfl, ?_⟩; replace BK710 := am (KeepBut.blk hk (g' := gb710) (o := .cells #[.slice A1_0 l1_0.length c1_0] 32 (0, 0)) (Y53) NB710_0.out (by simp)); replace BK715 := am (KeepBut.blk hk (g' := gb715) (o := .cells #[.int .i64 a2, .int .i64 11, .int .i64 t756, .int .i64 0] 52 (0, 0)) (by (with_reducible repeat (first | refine blk_drewN ?_ _ | refine blk_drew ?_ | refine blk_alloc ?_ _)); refine blk_put (cs := #[.int .i64 a2, .int .i64 11, .int .i64 0, .int .i64 0]) ?_ 2 _ rfl; (with_reducible repeat (first | refine blk_drewN ?_ _ | refine blk_drew ?_ | refine blk_alloc ?_ _)); exact BK715.out) NB715_0.out (by simp)); replace HK := am (KeepBut.trans (Y2) hk (.inl rfl)); replace HB := am (hb); replace HI0 := am (hi); (try clear hb); (try clear hb2); (try clear hk); (try clear hi); have hcz96_0 := bc0 BK715.out; have hcz96_1 := bc1 BK715.out; have hcz96_2 := bc2 BK715.out; have hcz96_3 := bc3 BK715.out; have hfz96_0 := blk_frozen BK715.out 0; have hfz96_1 := blk_frozen BK715.out 1; have hfz96_2 := blk_frozen BK715.out 2; have hfz96_3 := blk_frozen BK715.out 3))
             have n0_ : Aside0 ((w95.setCell ⟨gb715, 3, none⟩ (.int .i64 t758)).heap[gb710]? = some (.cells #[.slice A1_0 l1_0.length c1_0] 32 (0, 0))) := ⟨by (with_reducible repeat (first | refine blk_drewN ?_ _ | refine blk_drew ?_ | refine blk_alloc ?_ _)); refine blk_far ?_ NB710_715.out _; (with_reducible repeat (first | refine blk_drewN ?_ _ | refine blk_drew ?_ | refine blk_alloc ?_ _)); exact BK710.out⟩
             have n1_ : Aside0 ((w95.setCell ⟨gb715, 3, none⟩ (.int .i64 t758)).heap[gb715]? = some (.cells #[.int .i64 a2, .int .i64 11, .int .i64 t756, .int .i64 t758] 52 (0, 0))) := ⟨by (with_reducible repeat (first | refine blk_drewN ?_ _ | refine blk_drew ?_ | refine blk_alloc ?_ _)); refine blk_put (cs := #[.int .i64 a2, .int .i64 11, .int .i64 t756, .int .i64 0]) ?_ 3 _ rfl; (with_reducible repeat (first | refine blk_drewN ?_ _ | refine blk_drew ?_ | refine blk_alloc ?_ _)); exact BK715.out⟩
             have n2_ : Aside0 (IsS97 w0 (w95.setCell ⟨gb715, 3, none⟩ (.int .i64 t758)) g s0_0 t759) := ⟨Y6⟩
             have n3_ : Aside0 (KeepBut w (w95.setCell ⟨gb715, 3, none⟩ (.int .i64 t758)) g none) := ⟨Y2⟩
             have n4_ : Aside0 (Below w0.heap.size w0 (w95.setCell ⟨gb715, 3, none⟩ (.int .i64 t758))) := ⟨Y8⟩
             (try clear BK710)
             (try clear BK715)
             (try clear HI0)
             (try clear HK)
             (try clear HB)
             generalize (w95.setCell ⟨gb715, 3, none⟩ (.int .i64 t758)) = w97 at n0_ n1_ n2_ n3_ n4_ ⊢
             have BK710 := n0_
             have BK715 := n1_
             have HI0 := n2_
             have HK := n3_
             have HB := n4_
             clear n0_ n1_ n2_ n3_ n4_
             replace BK710 := am (blk_drew BK710.out)
             replace BK715 := am (blk_drew BK715.out)
             replace HI0 := am (IsS97.drew HI0.out)
             replace HK := am (keep_drew HK.out)
             replace HB := am (below_drew1 HB.out)
             refine start_ (n := 10) (S := fun w' => w'.cell? ⟨gb715, 0, none⟩ = some (.int .i64 a2) ∧ w'.cell? ⟨gb715, 1, none⟩ = some (.int .i64 11) ∧ w'.cell? ⟨gb715, 2, none⟩ = some (.int .i64 t756) ∧ w'.cell? ⟨gb715, 3, none⟩ = some (.int .i64 t758) ∧ w'.cell? ⟨gb710, 0, none⟩ = some (.slice A1_0 l1_0.length c1_0)) (ds := []) #[false, false, false, false, false, false, false, false, false, false] (by kernel_rfl) rfl rfl ⟨(blk_cell BK715.out 0).trans rfl, (blk_cell BK715.out 1).trans rfl, (blk_cell BK715.out 2).trans rfl, (blk_cell BK715.out 3).trans rfl, (blk_cell BK710.out 0).trans rfl⟩ (fun hHeld => ?_); refine with_tabW spec_aStatement.tab26 spec_aStatement.bits26 (fun HT_ HW_ => ?_)
             generalize w97.drew = w98 at BK710 BK715 HI0 HK HB hHeld ⊢
             refine pq (i := 2) (N := some 84) #[false, false, true, false, false, false, false, false, false, false] ?_
             refine pq (i := 4) (N := some 86) #[false, false, true, false, true, false, false, false, false, false] ?_
             refine pq (i := 5) (N := some 87) #[false, false, true, false, true, true, false, false, false, false] ?_
             refine pq (i := 6) (N := some 88) #[false, false, true, false, true, true, true, false, false, false] ?_
             refine take_ (i := 0) (N := some 82) (v := ?_) (a' := ?_) #[true, false, true, false, true, true, true, false, false, false] rfl rfl (take_ofW HT_.out HW_.out (by kernel_rfl)) (fun _ _ _ h => h) (Or.inl ⟨by rfl, ?_⟩) hHeld ?_ ?_
             rotate_left
             ·rintro w' ⟨s0, s1, s2, s3, s4⟩
              go_simp
              with_reducible rfl
             rotate_left
             ·exact sa
             refine take_ (i := 3) (N := some 85) (v := ?_) (a' := ?_) #[true, false, true, true, true, true, true, false, false, false] rfl rfl (take_ofW HT_.out HW_.out (by kernel_rfl)) (fun _ _ _ h => h) (Or.inl ⟨by rfl, ?_⟩) hHeld ?_ ?_
             rotate_left
             ·rintro w' ⟨s0, s1, s2, s3, s4⟩
              go_simp
              with_reducible rfl
             rotate_left
             ·exact sa
             refine join_ (σ := Value × Value) 2 #[true, true, true, true, true, true, true, true, false, false] (fun s_ => [(83, s_.1), (89, s_.2)]) (fun s_ w' => (w'.cell? ⟨gb715, 0, none⟩ = some (.int .i64 a2) ∧ w'.cell? ⟨gb715, 1, none⟩ = some (.int .i64 11) ∧ w'.cell? ⟨gb715, 2, none⟩ = some (.int .i64 t756) ∧ w'.cell? ⟨gb715, 3, none⟩ = some (.int .i64 t758) ∧ w'.cell? ⟨gb710, 0, none⟩ = some (.slice A1_0 l1_0.length c1_0)) ∧ (Kd.R k52 52 w' w.heap.size (fun k_ => some k_ ≠ (s_.2 : Value).ownBlock ∧ k_ ≠ gb715) s_.1 y760) ∧ (Kd.R k52 52 w' w.heap.size (fun k_ => some k_ ≠ (s_.1 : Value).ownBlock ∧ k_ ≠ gb715) s_.2 t763) ∧ (w'.heap[gb710]? = some (.cells #[.slice A1_0 l1_0.length c1_0] 32 (0, 0))) ∧ (w'.heap[gb715]? = some (.cells #[.int .i64 a2, .int .i64 11, .int .i64 t756, .int .i64 t758] 52 (0, 0))) ∧ (IsS97 w0 w' g s0_0 t766) ∧ (KeepBut w w' g none) ∧ (Below w0.heap.size w0 w')) ?_ ?_
             rotate_left
             ·intro hCont
              refine two_ (i := 1) (j := 7) (Ni := some 83) (Nj := some 89) #[true, true, true, true, true, true, true, false, false, false] #[true, false, true, true, true, true, true, true, false, false] rfl rfl rfl rfl (two_of HT_.out (by kernel_rfl)) (by decide) (by decide) (fun K hK => ?_) (fun K hK => ?_)
              ·skip
               refine Kd.R_lit_step k52 _ 52 ?hg (N := 83) ?hd (xs := ([(⟨a2, 11, t756, t758⟩ : S52)] : List (S52))) (inner := [.int .i64 a2, .int .i64 11, .int .i64 t756, .int .i64 t758]) (ok := fun _ => True) (okp := fun _ => True) ?hr ?hp (fun _ hk => hk) trivial (Below.refl _ _) (Nat.le_refl _) (by simp) ?_; (case hd => rfl); (case hg => rfl); (case hr => exact Y5); (case hp => exact (Reps.c4 (show Kd.M k52 _ _ _ (⟨a2, 11, t756, t758⟩ : S52) [.int .i64 a2, .int .i64 11, .int .i64 t756, .int .i64 t758] from (k52_mkM _ _ _ (⟨a2, 11, t756, t758⟩ : S52) )) (Reps.none _ _)))
               intro v761 w99 ho100 hb hg_ hnew_
               clear hg_ hnew_
               (first | rw [← Ny760.out] at ho100 | (simp only [Int.reduceToNat] at ho100; rw [← Ny760.out] at ho100))
               have HO762 := am (Kd.R_lower (Kd.R_newB ho100 (g := gb715) (o := .cells #[.int .i64 a2, .int .i64 11, .int .i64 t756, .int .i64 t758] 52 (0, 0)) (kq BK715.out)) (keep_size (w := w) (g := g) (row := none) (Y2)))
               replace BK710 := am (blk_below (g := gb710) (o := .cells #[.slice A1_0 l1_0.length c1_0] 32 (0, 0)) (kq BK710.out) hb)
               replace BK715 := am (blk_below (g := gb715) (o := .cells #[.int .i64 a2, .int .i64 11, .int .i64 t756, .int .i64 t758] 52 (0, 0)) (kq BK715.out) hb)
               replace HK := am (KeepBut.trans (Y2) (KeepBut.of_below hb g none) (.inl rfl))
               replace HB := am (below_step (Y8) hb)
               replace HI0 := am (IsS97.below (Y6) hb)
               clear hb ho100
               refine hK.out _ _ ⟨(blk_cell BK715.out 0).trans rfl, (blk_cell BK715.out 1).trans rfl, (blk_cell BK715.out 2).trans rfl, (blk_cell BK715.out 3).trans rfl, (blk_cell BK710.out 0).trans rfl⟩ (fun hHeld => ?_)
               clear hK K
               refine norm_ (a' := ?_) ?_ ?_
               rotate_left
               ·show Act.put _ (some 83) _ = _
                simp only [Act.put, List.setIfInBounds_toArray, List.set_cons_zero, List.set_cons_succ, i64_w, i32_w]
                rfl
               refine one_ (i := 7) (N := some 89) #[true, true, true, true, true, true, true, true, false, false] rfl rfl (one_of HT_.out (by kernel_rfl)) (by decide) (fun K hK => ?_)
               refine goes_ Try.func118 (by kernel_rfl) rfl #[.pointer (some ⟨g, 0, none⟩), .agg #[.slice A1_0 l1_0.length c1_0], .int .i64 (wrap64 (a2 + 1)), .bool a3] (by rfl) rfl rfl (aq) ?_
               with_reducible refine (ih118 kj49 (by have := HJ5.out; have := HJ49.out; omega) g s0_0 t759 _ _ l1_0 (wrap64 (a2 + 1)) a3 t763 t766 w0 _ ?side1 ?side2 ?side3 ?side4 A88.out).mono ?_
               (case side1 => exact Y6)
               (case side2 => exact Y8)
               (case side3 => exact Kd.C_foot_step HR1_0.out (Y2))
               (case side4 => exact HC1_0.out)
               rintro e w101 ⟨v764, rfl, ho0, hi, hb, hk⟩
               refine ⟨_, rfl, ?_⟩
               have HO765 := am (Kd.R_lower (Kd.R_newB (Kd.R_new' ho0 (Kd.R_lt (rq HO762.out))) (g := gb715) (o := .cells #[.int .i64 a2, .int .i64 11, .int .i64 t756, .int .i64 t758] 52 (0, 0)) (kq BK715.out)) (keep_size (w := w) (g := g) (row := none) (Y2)))
               replace BK710 := am (KeepBut.blk hk (g' := gb710) (o := .cells #[.slice A1_0 l1_0.length c1_0] 32 (0, 0)) (kq BK710.out) NB710_0.out (by simp))
               replace BK715 := am (KeepBut.blk hk (g' := gb715) (o := .cells #[.int .i64 a2, .int .i64 11, .int .i64 t756, .int .i64 t758] 52 (0, 0)) (kq BK715.out) NB715_0.out (by simp))
               replace HO762 := am (Kd.R_mono (Kd.R_told (Kd.R_oldK (IsS97.apart (show IsS97 w0 _ g s0_0 t759 from Y6) (rq HO762.out) (by decide)) hk) (Kd.R_base ho0)) (fun _ h_ => h_.1))
               replace HK := am (KeepBut.trans (Y2) hk (.inl rfl))
               replace HB := am (hb)
               replace HI0 := am (hi)
               (try clear hb)
               (try clear hb2)
               (try clear hk)
               (try clear hi)
               (try clear ho0)
               refine hK.out _ _ ⟨(blk_cell BK715.out 0).trans rfl, (blk_cell BK715.out 1).trans rfl, (blk_cell BK715.out 2).trans rfl, (blk_cell BK715.out 3).trans rfl, (blk_cell BK710.out 0).trans rfl⟩ (fun hHeld => ?_)
               clear hK K
               refine norm_ (a' := ?_) ?_ ?_
               rotate_left
               ·show Act.put _ (some 89) _ = _
                simp only [Act.put, List.setIfInBounds_toArray, List.set_cons_zero, List.set_cons_succ, i64_w, i32_w]
                rfl
               exact norm_ (by simp only [putAll, Act.put, List.setIfInBounds_toArray, List.set_cons_zero, List.set_cons_succ]) (hCont (v761, v764) _ ⟨hHeld, (by (with_reducible repeat (first | apply Kd.R_alloc | apply Kd.R_drewN | apply Kd.R_drew)); exact Kd.R_mono HO762.out (fun _ hk => ⟨hk.2, hk.1.2⟩)), (by (with_reducible repeat (first | apply Kd.R_alloc | apply Kd.R_drewN | apply Kd.R_drew)); exact Kd.R_mono HO765.out (fun _ hk => ⟨hk.1.2, hk.2⟩)), (kq BK710.out), (kq BK715.out), (Y6), (Y2), (Y8)⟩)
              ·skip
               refine goes_ Try.func118 (by kernel_rfl) rfl #[.pointer (some ⟨g, 0, none⟩), .agg #[.slice A1_0 l1_0.length c1_0], .int .i64 (wrap64 (a2 + 1)), .bool a3] (by rfl) rfl rfl (aq) ?_
               with_reducible refine (ih118 kj49 (by have := HJ5.out; have := HJ49.out; omega) g s0_0 t759 _ _ l1_0 (wrap64 (a2 + 1)) a3 t763 t766 w0 _ ?side1 ?side2 ?side3 ?side4 A88.out).mono ?_
               (case side1 => exact Y6)
               (case side2 => exact Y8)
               (case side3 => exact Kd.C_foot_step HR1_0.out (Y2))
               (case side4 => exact HC1_0.out)
               rintro e w99 ⟨v764, rfl, ho0, hi, hb, hk⟩
               refine ⟨_, rfl, ?_⟩
               have HO765 := am (Kd.R_lower (Kd.R_newB ho0 (g := gb715) (o := .cells #[.int .i64 a2, .int .i64 11, .int .i64 t756, .int .i64 t758] 52 (0, 0)) (kq BK715.out)) (keep_size (w := w) (g := g) (row := none) (Y2)))
               replace BK710 := am (KeepBut.blk hk (g' := gb710) (o := .cells #[.slice A1_0 l1_0.length c1_0] 32 (0, 0)) (kq BK710.out) NB710_0.out (by simp))
               replace BK715 := am (KeepBut.blk hk (g' := gb715) (o := .cells #[.int .i64 a2, .int .i64 11, .int .i64 t756, .int .i64 t758] 52 (0, 0)) (kq BK715.out) NB715_0.out (by simp))
               replace HK := am (KeepBut.trans (Y2) hk (.inl rfl))
               replace HB := am (hb)
               replace HI0 := am (hi)
               (try clear hb)
               (try clear hb2)
               (try clear hk)
               (try clear hi)
               (try clear ho0)
               refine hK.out _ _ ⟨(blk_cell BK715.out 0).trans rfl, (blk_cell BK715.out 1).trans rfl, (blk_cell BK715.out 2).trans rfl, (blk_cell BK715.out 3).trans rfl, (blk_cell BK710.out 0).trans rfl⟩ (fun hHeld => ?_)
               clear hK K
               refine norm_ (a' := ?_) ?_ ?_
               rotate_left
               ·show Act.put _ (some 89) _ = _
                simp only [Act.put, List.setIfInBounds_toArray, List.set_cons_zero, List.set_cons_succ, i64_w, i32_w]
                rfl
               refine one_ (i := 1) (N := some 83) #[true, true, true, true, true, true, true, true, false, false] rfl rfl (one_of HT_.out (by kernel_rfl)) (by decide) (fun K hK => ?_)
               refine Kd.R_lit_step k52 _ 52 ?hg (N := 83) ?hd (xs := ([(⟨a2, 11, t756, t758⟩ : S52)] : List (S52))) (inner := [.int .i64 a2, .int .i64 11, .int .i64 t756, .int .i64 t758]) (ok := fun _ => True) (okp := fun _ => True) ?hr ?hp (fun _ hk => hk) trivial (Below.refl _ _) (Nat.le_refl _) (by simp) ?_; (case hd => rfl); (case hg => rfl); (case hr => exact Y5); (case hp => exact (Reps.c4 (show Kd.M k52 _ _ _ (⟨a2, 11, t756, t758⟩ : S52) [.int .i64 a2, .int .i64 11, .int .i64 t756, .int .i64 t758] from (k52_mkM _ _ _ (⟨a2, 11, t756, t758⟩ : S52) )) (Reps.none _ _)))
               intro v761 w100 ho101 hb hg_ hnew_
               clear hg_ hnew_
               (first | rw [← Ny760.out] at ho101 | (simp only [Int.reduceToNat] at ho101; rw [← Ny760.out] at ho101))
               have HO762 := am (Kd.R_lower (Kd.R_newB (Kd.R_new' ho101 (Kd.R_lt (rq HO765.out))) (g := gb715) (o := .cells #[.int .i64 a2, .int .i64 11, .int .i64 t756, .int .i64 t758] 52 (0, 0)) (kq BK715.out)) (keep_size (w := w) (g := g) (row := none) (Y2)))
               replace HO765 := am (Kd.R_elder' (rq HO765.out) (Kd.R_base ho101) hb)
               replace BK710 := am (blk_below (g := gb710) (o := .cells #[.slice A1_0 l1_0.length c1_0] 32 (0, 0)) (kq BK710.out) hb)
               replace BK715 := am (blk_below (g := gb715) (o := .cells #[.int .i64 a2, .int .i64 11, .int .i64 t756, .int .i64 t758] 52 (0, 0)) (kq BK715.out) hb)
               replace HK := am (KeepBut.trans (Y2) (KeepBut.of_below hb g none) (.inl rfl))
               replace HB := am (below_step (Y8) hb)
               replace HI0 := am (IsS97.below (Y6) hb)
               clear hb ho101
               refine hK.out _ _ ⟨(blk_cell BK715.out 0).trans rfl, (blk_cell BK715.out 1).trans rfl, (blk_cell BK715.out 2).trans rfl, (blk_cell BK715.out 3).trans rfl, (blk_cell BK710.out 0).trans rfl⟩ (fun hHeld => ?_)
               clear hK K
               refine norm_ (a' := ?_) ?_ ?_
               rotate_left
               ·show Act.put _ (some 83) _ = _
                simp only [Act.put, List.setIfInBounds_toArray, List.set_cons_zero, List.set_cons_succ, i64_w, i32_w]
                rfl
               exact norm_ (by simp only [putAll, Act.put, List.setIfInBounds_toArray, List.set_cons_zero, List.set_cons_succ]) (hCont (v761, v764) _ ⟨hHeld, (by (with_reducible repeat (first | apply Kd.R_alloc | apply Kd.R_drewN | apply Kd.R_drew)); exact Kd.R_mono HO762.out (fun _ hk => ⟨hk.1.2, hk.2⟩)), (by (with_reducible repeat (first | apply Kd.R_alloc | apply Kd.R_drewN | apply Kd.R_drew)); exact Kd.R_mono HO765.out (fun _ hk => ⟨hk.2, hk.1.2⟩)), (kq BK710.out), (kq BK715.out), (Y6), (Y2), (Y8)⟩)
             rintro ⟨v761, v764⟩ w102 ⟨hS_, h0_, h1_, h2_, h3_, h4_, h5_, h6_⟩
             have n0_ : Aside0 (Kd.R k52 52 w102 w.heap.size (fun k_ => some k_ ≠ (v764 : Value).ownBlock ∧ k_ ≠ gb715) v761 y760) := ⟨h0_⟩
             have n1_ : Aside0 (Kd.R k52 52 w102 w.heap.size (fun k_ => some k_ ≠ (v761 : Value).ownBlock ∧ k_ ≠ gb715) v764 t763) := ⟨h1_⟩
             have n2_ : Aside0 (w102.heap[gb710]? = some (.cells #[.slice A1_0 l1_0.length c1_0] 32 (0, 0))) := ⟨h2_⟩
             have n3_ : Aside0 (w102.heap[gb715]? = some (.cells #[.int .i64 a2, .int .i64 11, .int .i64 t756, .int .i64 t758] 52 (0, 0))) := ⟨h3_⟩
             have n4_ : Aside0 (IsS97 w0 w102 g s0_0 t766) := ⟨h4_⟩
             have n5_ : Aside0 (KeepBut w w102 g none) := ⟨h5_⟩
             have n6_ : Aside0 (Below w0.heap.size w0 w102) := ⟨h6_⟩
             clear BK710
             clear BK715
             clear HI0
             clear HK
             clear HB
             clear h0_ h1_ h2_ h3_ h4_ h5_ h6_
             have HO762 := n0_
             have HO765 := n1_
             have BK710 := n2_
             have BK715 := n3_
             have HI0 := n4_
             have HK := n5_
             have HB := n6_
             clear n0_ n1_ n2_ n3_ n4_ n5_ n6_
             have hHeld : w102.cell? ⟨gb715, 0, none⟩ = some (.int .i64 a2) ∧ w102.cell? ⟨gb715, 1, none⟩ = some (.int .i64 11) ∧ w102.cell? ⟨gb715, 2, none⟩ = some (.int .i64 t756) ∧ w102.cell? ⟨gb715, 3, none⟩ = some (.int .i64 t758) ∧ w102.cell? ⟨gb710, 0, none⟩ = some (.slice A1_0 l1_0.length c1_0) := hS_
             obtain ⟨Ao104, co104, eo104⟩ := Kd.R_slice HO765.out
             (first | subst eo104 | (injection eo104 with f1_ f2_ f3_; have f4_ := f1_.symm; have f5_ := f3_.symm; clear f1_ f2_ f3_; subst f4_; subst f5_))
             refine norm_ (a' := ?_) ?_ ?_
             rotate_left
             ·simp only [putAll, Act.put, List.setIfInBounds_toArray, List.set_cons_zero, List.set_cons_succ]
              rfl
             refine one_ (i := 8) (N := some 90) #[true, true, true, true, true, true, true, true, true, false] rfl rfl (one_of HT_.out (by kernel_rfl)) (by decide) (fun K hK => ?_)
             refine Kd.R_append_rows_step k52 w.heap.size (by rfl) (.tmp 83) (.tmp 89) 34 52 (.agg #[(.int .i64 0), (.int .i64 0), (.int .i64 0), (.int .i64 0)]) 32 rfl Try.underlying34 info52 rfl (by decide) (by omega) v761 y760 t763 _ _ _ (fun k_ => some k_ ≠ (.slice Ao104 t763.length co104 : Value).ownBlock ∧ k_ ≠ gb715) (fun _ => False) rfl rfl ?aO ?aR (fun _ _ h => h) (fun _ h => h.elim) ?aF (Below.refl _ _) ?aS ?aL ?_
             (case aR => repeat (first | exact (Kd.R_reads' HO765.out).2.2 | (with_reducible refine Kd.C_alloc ?_ _) | (with_reducible refine Kd.C_drewN ?_ _) | (with_reducible refine Kd.C_drew ?_)))
             (case aF => exact (fun k_ hk => ⟨Kd.fresh' (Kd.R_lt (rq HO765.out)) k_ hk, Kd.freshB (g := gb715) (o := .cells #[.int .i64 a2, .int .i64 11, .int .i64 t756, .int .i64 t758] 52 (0, 0)) (kq BK715.out) k_ hk⟩))
             (case aO => exact (rq HO762.out))
             (case aS => exact (keep_size (w := w) (g := g) (row := none) (Y2)))
             (case aL => have := LMc89.out; omega)
             intro v768 w103 ho hb hg hat
             rw [← Ny767.out] at ho
             have n0_ := am (blk_grown (g := gb710) (o := .cells #[.slice A1_0 l1_0.length c1_0] 32 (0, 0)) (kq BK710.out) hg (Kd.R_ne HO762.out BK710.out (by decide)))
             have n1_ := am (blk_grown (g := gb715) (o := .cells #[.int .i64 a2, .int .i64 11, .int .i64 t756, .int .i64 t758] 52 (0, 0)) (kq BK715.out) hg (Kd.R_away HO762.out (fun _ hk => hk.2)))
             have n2_ := am (IsS97.grown (Y6) hg (IsS97.own_ne HI0.out HO762.out (by decide)))
             have n3_ := am (Kd.R_after (ok := (fun k_ => k_ ≠ gb715)) (by (with_reducible repeat (first | apply Kd.R_alloc | apply Kd.R_drewN | apply Kd.R_drew)); exact Kd.R_mono HO765.out (fun _ hk => ⟨hk.2, hk.1⟩)) hg hat)
             have n4_ := am (below_weaken (Y8) HL.out hb)
             have n5_ := am (KeepBut.trans (Y2) (KeepBut.of_grown hg g) (Kd.R_base2 HO762.out))
             have n6_ := am (ho)
             clear BK710
             clear BK715
             clear HI0
             clear HO765
             clear HB
             clear HK
             clear HO762
             have BK710 := n0_
             have BK715 := n1_
             have HI0 := n2_
             have HO765 := n3_
             have HB := n4_
             have HK := n5_
             have HO769 := n6_
             clear n0_ n1_ n2_ n3_ n4_ n5_ n6_
             clear ho hb hg hat
             refine hK.out _ _ ⟨(blk_cell BK715.out 0).trans rfl, (blk_cell BK715.out 1).trans rfl, (blk_cell BK715.out 2).trans rfl, (blk_cell BK715.out 3).trans rfl, (blk_cell BK710.out 0).trans rfl⟩ (fun hHeld => ?_)
             clear hK K
             refine norm_ (a' := ?_) ?_ ?_
             rotate_left
             ·show Act.put _ (some 90) _ = _
              simp only [Act.put, List.setIfInBounds_toArray, List.set_cons_zero, List.set_cons_succ, i64_w, i32_w]
              rfl
             refine pq (i := 9) (N := some 8) #[true, true, true, true, true, true, true, true, true, true] ?_
             refine done_ (done_of HT_.out (by kernel_rfl)) ?_
             try go_wp2
             go_ret
             exact ⟨_, Y0, by (with_reducible repeat (first | apply Kd.R_alloc | apply Kd.R_drewN | apply Kd.R_drew)); exact Kd.R_mono HO769.out (fun _ hk => trivial), Y6, Y8, Y2⟩
            ·rw [if_neg c89] at H
             exact absurd H (by simp)
           ·rw [if_neg c85] at H
            have c85b0 : decide (x9_5 < 11) = false := decide_eq_false c85
            clear c85
            by_cases c105 : x9_5 = 11
            ·rw [if_pos c105] at H
             have c105b0 : (x9_5 == 11) = true := beq_iff_eq.mpr c105
             have c105b1 : (x9_5 != 11) = false := bne_eq_false_iff_eq.mpr c105
             clear c105
             obtain ⟨y770, hy770⟩ : ∃ y_ : List Int, y_ = (([2, 1, 3, 0] : List Int)) := ⟨_, rfl⟩
             replace H : ((spec_reader_one.f kj49 s0_0 x1001_5 y770).bind fun bt773 => ((some (([(⟨a2, 12, bt773.1, 0⟩ : S52)] : List (S52)) : List (S52))).bind fun y775 => ((spec_aBlock.f kj49 s0_0 bt773.2 l1_0 (wrap64 (a2 + 1)) true).bind fun bt778 => (if y775.length + bt778.1.length < 4398046511104 then (some ((y775 ++ bt778.1), bt778.2)) else (none))))) = some (r1, r2) := by first | (rw [hy770]; with_reducible exact H) | (have H2_ := (Option.bind_some _ _).symm.trans H; rw [hy770]; with_reducible exact H2_) | (have H2_ := (Option.bind_some _ _).symm.trans H; with_reducible exact H2_) | with_reducible exact H | (rw [hy770]; exact H) | exact H
             have Ny770 := am hy770
             clear hy770
             replace H := Option.bind_eq_some_iff.mp H
             obtain ⟨⟨t773, t774⟩, A1060, H⟩ := H
             replace H : ((some (([(⟨a2, 12, t773, 0⟩ : S52)] : List (S52)) : List (S52))).bind fun y775 => ((spec_aBlock.f kj49 s0_0 t774 l1_0 (wrap64 (a2 + 1)) true).bind fun bt778 => (if y775.length + bt778.1.length < 4398046511104 then (some ((y775 ++ bt778.1), bt778.2)) else (none)))) = some (r1, r2) := H
             have A106 := am A1060
             clear A1060
             obtain ⟨y775, hy775⟩ : ∃ y_ : List (S52), y_ = (([(⟨a2, 12, t773, 0⟩ : S52)] : List (S52))) := ⟨_, rfl⟩
             replace H : ((spec_aBlock.f kj49 s0_0 t774 l1_0 (wrap64 (a2 + 1)) true).bind fun bt778 => (if y775.length + bt778.1.length < 4398046511104 then (some ((y775 ++ bt778.1), bt778.2)) else (none))) = some (r1, r2) := by first | (rw [hy775]; with_reducible exact H) | (have H2_ := (Option.bind_some _ _).symm.trans H; rw [hy775]; with_reducible exact H2_) | (have H2_ := (Option.bind_some _ _).symm.trans H; with_reducible exact H2_) | with_reducible exact H | (rw [hy775]; exact H) | exact H
             have Ny775 := am hy775
             clear hy775
             replace H := Option.bind_eq_some_iff.mp H
             obtain ⟨⟨t778, t781⟩, A1070, H⟩ := H
             replace H : (if y775.length + t778.length < 4398046511104 then (some ((y775 ++ t778), t781)) else (none)) = some (r1, r2) := H
             have A107 := am A1070
             clear A1070
             by_cases c108 : y775.length + t778.length < 4398046511104
             ·rw [if_pos c108] at H
              have LMc108 := am c108
              clear c108
              obtain ⟨y782, hy782⟩ : ∃ y_ : List (S52), y_ = (y775 ++ t778) := ⟨_, rfl⟩
              replace H : (some (y782, t781)) = some (r1, r2) := by first | (rw [hy782]; with_reducible exact H) | (have H2_ := (Option.bind_some _ _).symm.trans H; rw [hy782]; with_reducible exact H2_) | (have H2_ := (Option.bind_some _ _).symm.trans H; with_reducible exact H2_) | with_reducible exact H | (rw [hy782]; exact H) | exact H
              have Ny782 := am hy782
              clear hy782
              simp only [Option.some.injEq, Prod.mk.injEq] at H
              obtain ⟨rfl, rfl⟩ := H
              have hnb109 := NB715_710.out
              have hnc109 := NB710_715.out
              have hnb110 := NB715_0.out
              have hnc110 := NB0_715.out
              have hcz111_0 := bc0 BK715.out
              have hcz111_1 := bc1 BK715.out
              have hcz111_2 := bc2 BK715.out
              have hcz111_3 := bc3 BK715.out
              have hfz111_0 := blk_frozen BK715.out 0
              have hfz111_1 := blk_frozen BK715.out 1
              have hfz111_2 := blk_frozen BK715.out 2
              have hfz111_3 := blk_frozen BK715.out 3
              try go_wp2_with (first | ((with_reducible refine gate_dst (N := 96) rfl ?_); refine Kd.R_lit (Kd.int .i64) _ 3 ?hg (N := 96) ?hd (xs := ([2, 1, 3, 0] : List Int)) (inner := [.int .i64 2, .int .i64 1, .int .i64 3, .int .i64 0]) (ok := fun _ => True) (okp := fun _ => True) ?hr ?hp (fun _ hk => hk) trivial (Below.refl _ _) (Nat.le_refl _) (by simp) ?_; (case hd => rfl); (case hg => rfl); (case hr => exact Y5); (case hp => exact (Reps.one (show Kd.M (Kd.int .i64) _ _ _ 2 [.int .i64 2] from rfl) (Reps.one (show Kd.M (Kd.int .i64) _ _ _ 1 [.int .i64 1] from rfl) (Reps.one (show Kd.M (Kd.int .i64) _ _ _ 3 [.int .i64 3] from rfl) (Reps.one (show Kd.M (Kd.int .i64) _ _ _ 0 [.int .i64 0] from rfl) (Reps.none _ _)))))); intro v771 w112 ho113 hb hg_ hnew_; clear hg_ hnew_; (first | rw [← Ny770.out] at ho113 | (simp only [Int.reduceToNat] at ho113; rw [← Ny770.out] at ho113)); have HO772 := am (Kd.R_lower ho113 (keep_size (w := w) (g := g) (row := none) (Y2))); replace BK710 := am (blk_below (g := gb710) (o := .cells #[.slice A1_0 l1_0.length c1_0] 32 (0, 0)) (Y53) hb); replace BK715 := am (blk_below (g := gb715) (o := .cells #[.int .i64 a2, .int .i64 12, .int .i64 0, .int .i64 0] 52 (0, 0)) (Y72) hb); replace HK := am (KeepBut.trans (Y2) (KeepBut.of_below hb g none) (.inl rfl)); replace HB := am (below_step (Y8) hb); replace HI0 := am (IsS97.below (show IsS97 w0 (wc.setCell ⟨gb715, 1, none⟩ (.int .i64 12)) g s0_0 x1001_5 from Y6) hb); clear hb ho113; obtain ⟨Ao114, co114, eo114⟩ := Kd.R_slice HO772.out; subst eo114) | ((with_reducible refine gate_callee (f := 91) rfl ?_); refine gL (some 97) Try.func91 #[.pointer (some ⟨g, 0, none⟩), .slice Ao114 y770.length co114] ?_; (with_reducible refine (spec_reader_one.calls kj49 g s0_0 x1001_5 _ _ y770 t773 t774 w0 _ ?side1 ?side2 ?side3 ?side4 ?side5 A106.out).mono ?_); (case side1 => exact Y6); (case side2 => exact Y8); (case side3 => exact cq (Kd.R_reads' HO772.out).2.2); (case side4 => exact (Kd.R_reads' HO772.out).2.1); (case side5 => exact far_slice (IsS97.own_ne HI0.out HO772.out (by decide))); rintro e w115 ⟨rfl, hi, hb, hk⟩; refine ⟨_, rfl, ?_⟩; replace BK710 := am (KeepBut.blk hk (g' := gb710) (o := .cells #[.slice A1_0 l1_0.length c1_0] 32 (0, 0)) (kq BK710.out) NB710_0.out (by simp)); replace BK715 := am (KeepBut.blk hk (g' := gb715) (o := .cells #[.int .i64 a2, .int .i64 12, .int .i64 0, .int .i64 0] 52 (0, 0)) (kq BK715.out) NB715_0.out (by simp)); replace HO772 := am (Kd.R_mono (Kd.R_keep (IsS97.apart (show IsS97 w0 _ g s0_0 x1001_5 from Y6) (rq HO772.out) (by decide)) hk (fun _ h => h.2)) (fun _ h => h.1)); replace HK := am (KeepBut.trans (Y2) hk (.inl rfl)); replace HB := am (hb); replace HI0 := am (hi); (try clear hb); (try clear hb2); (try clear hk); (try clear hi); have hcz116_0 := bc0 BK715.out; have hcz116_1 := bc1 BK715.out; have hcz116_2 := bc2 BK715.out; have hcz116_3 := bc3 BK715.out; have hfz116_0 := blk_frozen BK715.out 0; have hfz116_1 := blk_frozen BK715.out 1; have hfz116_2 := blk_frozen BK715.out 2; have hfz116_3 := blk_frozen BK715.out 3))
              have n0_ : Aside0 (Kd.R (Kd.int .i64) 3 (w115.setCell ⟨gb715, 2, none⟩ (.int .i64 t773)) w.heap.size (fun _ => True) (.slice Ao114 y770.length co114) y770) := ⟨by (with_reducible repeat (first | apply Kd.R_alloc | apply Kd.R_drewN | apply Kd.R_drew)); exact Kd.R_mono (Kd.R_far (p := ⟨gb715, 2, none⟩) (Kd.R_types HO772.out BK715.out (by decide)) (fun _ hk => hk.2) (.int .i64 t773)) (fun _ hk => trivial)⟩
              have n1_ : Aside0 ((w115.setCell ⟨gb715, 2, none⟩ (.int .i64 t773)).heap[gb710]? = some (.cells #[.slice A1_0 l1_0.length c1_0] 32 (0, 0))) := ⟨by (with_reducible repeat (first | refine blk_drewN ?_ _ | refine blk_drew ?_ | refine blk_alloc ?_ _)); refine blk_far ?_ NB710_715.out _; (with_reducible repeat (first | refine blk_drewN ?_ _ | refine blk_drew ?_ | refine blk_alloc ?_ _)); exact BK710.out⟩
              have n2_ : Aside0 ((w115.setCell ⟨gb715, 2, none⟩ (.int .i64 t773)).heap[gb715]? = some (.cells #[.int .i64 a2, .int .i64 12, .int .i64 t773, .int .i64 0] 52 (0, 0))) := ⟨by (with_reducible repeat (first | refine blk_drewN ?_ _ | refine blk_drew ?_ | refine blk_alloc ?_ _)); refine blk_put (cs := #[.int .i64 a2, .int .i64 12, .int .i64 0, .int .i64 0]) ?_ 2 _ rfl; (with_reducible repeat (first | refine blk_drewN ?_ _ | refine blk_drew ?_ | refine blk_alloc ?_ _)); exact BK715.out⟩
              have n3_ : Aside0 (IsS97 w0 (w115.setCell ⟨gb715, 2, none⟩ (.int .i64 t773)) g s0_0 t774) := ⟨Y6⟩
              have n4_ : Aside0 (KeepBut w (w115.setCell ⟨gb715, 2, none⟩ (.int .i64 t773)) g none) := ⟨Y2⟩
              have n5_ : Aside0 (Below w0.heap.size w0 (w115.setCell ⟨gb715, 2, none⟩ (.int .i64 t773))) := ⟨Y8⟩
              (try clear HO772)
              (try clear BK710)
              (try clear BK715)
              (try clear HI0)
              (try clear HK)
              (try clear HB)
              generalize (w115.setCell ⟨gb715, 2, none⟩ (.int .i64 t773)) = w117 at n0_ n1_ n2_ n3_ n4_ n5_ ⊢
              have HO772 := n0_
              have BK710 := n1_
              have BK715 := n2_
              have HI0 := n3_
              have HK := n4_
              have HB := n5_
              clear n0_ n1_ n2_ n3_ n4_ n5_
              replace HO772 := am (Kd.R_drew HO772.out)
              replace BK710 := am (blk_drew BK710.out)
              replace BK715 := am (blk_drew BK715.out)
              replace HI0 := am (IsS97.drew HI0.out)
              replace HK := am (keep_drew HK.out)
              replace HB := am (below_drew1 HB.out)
              refine start_ (n := 9) (S := fun w' => w'.cell? ⟨gb715, 0, none⟩ = some (.int .i64 a2) ∧ w'.cell? ⟨gb715, 1, none⟩ = some (.int .i64 12) ∧ w'.cell? ⟨gb715, 2, none⟩ = some (.int .i64 t773) ∧ w'.cell? ⟨gb715, 3, none⟩ = some (.int .i64 0) ∧ w'.cell? ⟨gb710, 0, none⟩ = some (.slice A1_0 l1_0.length c1_0)) (ds := []) #[false, false, false, false, false, false, false, false, false] (by kernel_rfl) rfl rfl ⟨(blk_cell BK715.out 0).trans rfl, (blk_cell BK715.out 1).trans rfl, (blk_cell BK715.out 2).trans rfl, (blk_cell BK715.out 3).trans rfl, (blk_cell BK710.out 0).trans rfl⟩ (fun hHeld => ?_); refine with_tabW spec_aStatement.tab30 spec_aStatement.bits30 (fun HT_ HW_ => ?_)
              generalize w117.drew = w118 at HO772 BK710 BK715 HI0 HK HB hHeld ⊢
              refine pq (i := 2) (N := some 101) #[false, false, true, false, false, false, false, false, false] ?_
              refine pq (i := 4) (N := some 103) #[false, false, true, false, true, false, false, false, false] ?_
              refine pq (i := 5) (N := some 104) #[false, false, true, false, true, true, false, false, false] ?_
              refine take_ (i := 0) (N := some 99) (v := ?_) (a' := ?_) #[true, false, true, false, true, true, false, false, false] rfl rfl (take_ofW HT_.out HW_.out (by kernel_rfl)) (fun _ _ _ h => h) (Or.inl ⟨by rfl, ?_⟩) hHeld ?_ ?_
              rotate_left
              ·rintro w' ⟨s0, s1, s2, s3, s4⟩
               go_simp
               with_reducible rfl
              rotate_left
              ·exact sa
              refine take_ (i := 3) (N := some 102) (v := ?_) (a' := ?_) #[true, false, true, true, true, true, false, false, false] rfl rfl (take_ofW HT_.out HW_.out (by kernel_rfl)) (fun _ _ _ h => h) (Or.inl ⟨by rfl, ?_⟩) hHeld ?_ ?_
              rotate_left
              ·rintro w' ⟨s0, s1, s2, s3, s4⟩
               go_simp
               with_reducible rfl
              rotate_left
              ·exact sa
              refine join_ (σ := Value × Value) 2 #[true, true, true, true, true, true, true, false, false] (fun s_ => [(100, s_.1), (105, s_.2)]) (fun s_ w' => (w'.cell? ⟨gb715, 0, none⟩ = some (.int .i64 a2) ∧ w'.cell? ⟨gb715, 1, none⟩ = some (.int .i64 12) ∧ w'.cell? ⟨gb715, 2, none⟩ = some (.int .i64 t773) ∧ w'.cell? ⟨gb715, 3, none⟩ = some (.int .i64 0) ∧ w'.cell? ⟨gb710, 0, none⟩ = some (.slice A1_0 l1_0.length c1_0)) ∧ (Kd.R (Kd.int .i64) 3 w' w.heap.size (fun _ => True) (.slice Ao114 y770.length co114) y770) ∧ (Kd.R k52 52 w' w.heap.size (fun k_ => some k_ ≠ (s_.2 : Value).ownBlock ∧ k_ ≠ gb715) s_.1 y775) ∧ (Kd.R k52 52 w' w.heap.size (fun k_ => some k_ ≠ (s_.1 : Value).ownBlock ∧ k_ ≠ gb715) s_.2 t778) ∧ (w'.heap[gb710]? = some (.cells #[.slice A1_0 l1_0.length c1_0] 32 (0, 0))) ∧ (w'.heap[gb715]? = some (.cells #[.int .i64 a2, .int .i64 12, .int .i64 t773, .int .i64 0] 52 (0, 0))) ∧ (IsS97 w0 w' g s0_0 t781) ∧ (KeepBut w w' g none) ∧ (Below w0.heap.size w0 w')) ?_ ?_
              rotate_left
              ·intro hCont
               refine two_ (i := 1) (j := 6) (Ni := some 100) (Nj := some 105) #[true, true, true, true, true, true, false, false, false] #[true, false, true, true, true, true, true, false, false] rfl rfl rfl rfl (two_of HT_.out (by kernel_rfl)) (by decide) (by decide) (fun K hK => ?_) (fun K hK => ?_)
               ·skip
                refine Kd.R_lit_step k52 _ 52 ?hg (N := 100) ?hd (xs := ([(⟨a2, 12, t773, 0⟩ : S52)] : List (S52))) (inner := [.int .i64 a2, .int .i64 12, .int .i64 t773, .int .i64 0]) (ok := fun _ => True) (okp := fun _ => True) ?hr ?hp (fun _ hk => hk) trivial (Below.refl _ _) (Nat.le_refl _) (by simp) ?_; (case hd => rfl); (case hg => rfl); (case hr => exact Y5); (case hp => exact (Reps.c4 (show Kd.M k52 _ _ _ (⟨a2, 12, t773, 0⟩ : S52) [.int .i64 a2, .int .i64 12, .int .i64 t773, .int .i64 0] from (k52_mkM _ _ _ (⟨a2, 12, t773, 0⟩ : S52) )) (Reps.none _ _)))
                intro v776 w119 ho120 hb hg_ hnew_
                clear hg_ hnew_
                (first | rw [← Ny775.out] at ho120 | (simp only [Int.reduceToNat] at ho120; rw [← Ny775.out] at ho120))
                have HO777 := am (Kd.R_lower (Kd.R_newB ho120 (g := gb715) (o := .cells #[.int .i64 a2, .int .i64 12, .int .i64 t773, .int .i64 0] 52 (0, 0)) (kq BK715.out)) (keep_size (w := w) (g := g) (row := none) (Y2)))
                replace HO772 := am (Kd.R_below (rq HO772.out) hb)
                replace BK710 := am (blk_below (g := gb710) (o := .cells #[.slice A1_0 l1_0.length c1_0] 32 (0, 0)) (kq BK710.out) hb)
                replace BK715 := am (blk_below (g := gb715) (o := .cells #[.int .i64 a2, .int .i64 12, .int .i64 t773, .int .i64 0] 52 (0, 0)) (kq BK715.out) hb)
                replace HK := am (KeepBut.trans (Y2) (KeepBut.of_below hb g none) (.inl rfl))
                replace HB := am (below_step (Y8) hb)
                replace HI0 := am (IsS97.below (Y6) hb)
                clear hb ho120
                refine hK.out _ _ ⟨(blk_cell BK715.out 0).trans rfl, (blk_cell BK715.out 1).trans rfl, (blk_cell BK715.out 2).trans rfl, (blk_cell BK715.out 3).trans rfl, (blk_cell BK710.out 0).trans rfl⟩ (fun hHeld => ?_)
                clear hK K
                refine norm_ (a' := ?_) ?_ ?_
                rotate_left
                ·show Act.put _ (some 100) _ = _
                 simp only [Act.put, List.setIfInBounds_toArray, List.set_cons_zero, List.set_cons_succ, i64_w, i32_w]
                 rfl
                refine one_ (i := 6) (N := some 105) #[true, true, true, true, true, true, true, false, false] rfl rfl (one_of HT_.out (by kernel_rfl)) (by decide) (fun K hK => ?_)
                refine goes_ Try.func118 (by kernel_rfl) rfl #[.pointer (some ⟨g, 0, none⟩), .agg #[.slice A1_0 l1_0.length c1_0], .int .i64 (wrap64 (a2 + 1)), .bool true] (by rfl) rfl rfl (aq) ?_
                with_reducible refine (ih118 kj49 (by have := HJ5.out; have := HJ49.out; omega) g s0_0 t774 _ _ l1_0 (wrap64 (a2 + 1)) true t778 t781 w0 _ ?side1 ?side2 ?side3 ?side4 A107.out).mono ?_
                (case side1 => exact Y6)
                (case side2 => exact Y8)
                (case side3 => exact Kd.C_foot_step HR1_0.out (Y2))
                (case side4 => exact HC1_0.out)
                rintro e w121 ⟨v779, rfl, ho0, hi, hb, hk⟩
                refine ⟨_, rfl, ?_⟩
                have HO780 := am (Kd.R_lower (Kd.R_newB (Kd.R_new' ho0 (Kd.R_lt (rq HO777.out))) (g := gb715) (o := .cells #[.int .i64 a2, .int .i64 12, .int .i64 t773, .int .i64 0] 52 (0, 0)) (kq BK715.out)) (keep_size (w := w) (g := g) (row := none) (Y2)))
                replace BK710 := am (KeepBut.blk hk (g' := gb710) (o := .cells #[.slice A1_0 l1_0.length c1_0] 32 (0, 0)) (kq BK710.out) NB710_0.out (by simp))
                replace BK715 := am (KeepBut.blk hk (g' := gb715) (o := .cells #[.int .i64 a2, .int .i64 12, .int .i64 t773, .int .i64 0] 52 (0, 0)) (kq BK715.out) NB715_0.out (by simp))
                replace HO772 := am (Kd.R_mono (Kd.R_keep (IsS97.apart (show IsS97 w0 _ g s0_0 t774 from Y6) (rq HO772.out) (by decide)) hk (fun _ h => h.2)) (fun _ h => h.1))
                replace HO777 := am (Kd.R_mono (Kd.R_told (Kd.R_oldK (IsS97.apart (show IsS97 w0 _ g s0_0 t774 from Y6) (rq HO777.out) (by decide)) hk) (Kd.R_base ho0)) (fun _ h_ => h_.1))
                replace HK := am (KeepBut.trans (Y2) hk (.inl rfl))
                replace HB := am (hb)
                replace HI0 := am (hi)
                (try clear hb)
                (try clear hb2)
                (try clear hk)
                (try clear hi)
                (try clear ho0)
                refine hK.out _ _ ⟨(blk_cell BK715.out 0).trans rfl, (blk_cell BK715.out 1).trans rfl, (blk_cell BK715.out 2).trans rfl, (blk_cell BK715.out 3).trans rfl, (blk_cell BK710.out 0).trans rfl⟩ (fun hHeld => ?_)
                clear hK K
                refine norm_ (a' := ?_) ?_ ?_
                rotate_left
                ·show Act.put _ (some 105) _ = _
                 simp only [Act.put, List.setIfInBounds_toArray, List.set_cons_zero, List.set_cons_succ, i64_w, i32_w]
                 rfl
                exact norm_ (by simp only [putAll, Act.put, List.setIfInBounds_toArray, List.set_cons_zero, List.set_cons_succ]) (hCont (v776, v779) _ ⟨hHeld, (rq HO772.out), (by (with_reducible repeat (first | apply Kd.R_alloc | apply Kd.R_drewN | apply Kd.R_drew)); exact Kd.R_mono HO777.out (fun _ hk => ⟨hk.2, hk.1.2⟩)), (by (with_reducible repeat (first | apply Kd.R_alloc | apply Kd.R_drewN | apply Kd.R_drew)); exact Kd.R_mono HO780.out (fun _ hk => ⟨hk.1.2, hk.2⟩)), (kq BK710.out), (kq BK715.out), (Y6), (Y2), (Y8)⟩)
               ·skip
                refine goes_ Try.func118 (by kernel_rfl) rfl #[.pointer (some ⟨g, 0, none⟩), .agg #[.slice A1_0 l1_0.length c1_0], .int .i64 (wrap64 (a2 + 1)), .bool true] (by rfl) rfl rfl (aq) ?_
                with_reducible refine (ih118 kj49 (by have := HJ5.out; have := HJ49.out; omega) g s0_0 t774 _ _ l1_0 (wrap64 (a2 + 1)) true t778 t781 w0 _ ?side1 ?side2 ?side3 ?side4 A107.out).mono ?_
                (case side1 => exact Y6)
                (case side2 => exact Y8)
                (case side3 => exact Kd.C_foot_step HR1_0.out (Y2))
                (case side4 => exact HC1_0.out)
                rintro e w119 ⟨v779, rfl, ho0, hi, hb, hk⟩
                refine ⟨_, rfl, ?_⟩
                have HO780 := am (Kd.R_lower (Kd.R_newB ho0 (g := gb715) (o := .cells #[.int .i64 a2, .int .i64 12, .int .i64 t773, .int .i64 0] 52 (0, 0)) (kq BK715.out)) (keep_size (w := w) (g := g) (row := none) (Y2)))
                replace BK710 := am (KeepBut.blk hk (g' := gb710) (o := .cells #[.slice A1_0 l1_0.length c1_0] 32 (0, 0)) (kq BK710.out) NB710_0.out (by simp))
                replace BK715 := am (KeepBut.blk hk (g' := gb715) (o := .cells #[.int .i64 a2, .int .i64 12, .int .i64 t773, .int .i64 0] 52 (0, 0)) (kq BK715.out) NB715_0.out (by simp))
                replace HO772 := am (Kd.R_mono (Kd.R_keep (IsS97.apart (show IsS97 w0 _ g s0_0 t774 from Y6) (rq HO772.out) (by decide)) hk (fun _ h => h.2)) (fun _ h => h.1))
                replace HK := am (KeepBut.trans (Y2) hk (.inl rfl))
                replace HB := am (hb)
                replace HI0 := am (hi)
                (try clear hb)
                (try clear hb2)
                (try clear hk)
                (try clear hi)
                (try clear ho0)
                refine hK.out _ _ ⟨(blk_cell BK715.out 0).trans rfl, (blk_cell BK715.out 1).trans rfl, (blk_cell BK715.out 2).trans rfl, (blk_cell BK715.out 3).trans rfl, (blk_cell BK710.out 0).trans rfl⟩ (fun hHeld => ?_)
                clear hK K
                refine norm_ (a' := ?_) ?_ ?_
                rotate_left
                ·show Act.put _ (some 105) _ = _
                 simp only [Act.put, List.setIfInBounds_toArray, List.set_cons_zero, List.set_cons_succ, i64_w, i32_w]
                 rfl
                refine one_ (i := 1) (N := some 100) #[true, true, true, true, true, true, true, false, false] rfl rfl (one_of HT_.out (by kernel_rfl)) (by decide) (fun K hK => ?_)
                refine Kd.R_lit_step k52 _ 52 ?hg (N := 100) ?hd (xs := ([(⟨a2, 12, t773, 0⟩ : S52)] : List (S52))) (inner := [.int .i64 a2, .int .i64 12, .int .i64 t773, .int .i64 0]) (ok := fun _ => True) (okp := fun _ => True) ?hr ?hp (fun _ hk => hk) trivial (Below.refl _ _) (Nat.le_refl _) (by simp) ?_; (case hd => rfl); (case hg => rfl); (case hr => exact Y5); (case hp => exact (Reps.c4 (show Kd.M k52 _ _ _ (⟨a2, 12, t773, 0⟩ : S52) [.int .i64 a2, .int .i64 12, .int .i64 t773, .int .i64 0] from (k52_mkM _ _ _ (⟨a2, 12, t773, 0⟩ : S52) )) (Reps.none _ _)))
                intro v776 w120 ho121 hb hg_ hnew_
                clear hg_ hnew_
                (first | rw [← Ny775.out] at ho121 | (simp only [Int.reduceToNat] at ho121; rw [← Ny775.out] at ho121))
                have HO777 := am (Kd.R_lower (Kd.R_newB (Kd.R_new' ho121 (Kd.R_lt (rq HO780.out))) (g := gb715) (o := .cells #[.int .i64 a2, .int .i64 12, .int .i64 t773, .int .i64 0] 52 (0, 0)) (kq BK715.out)) (keep_size (w := w) (g := g) (row := none) (Y2)))
                replace HO772 := am (Kd.R_below (rq HO772.out) hb)
                replace HO780 := am (Kd.R_elder' (rq HO780.out) (Kd.R_base ho121) hb)
                replace BK710 := am (blk_below (g := gb710) (o := .cells #[.slice A1_0 l1_0.length c1_0] 32 (0, 0)) (kq BK710.out) hb)
                replace BK715 := am (blk_below (g := gb715) (o := .cells #[.int .i64 a2, .int .i64 12, .int .i64 t773, .int .i64 0] 52 (0, 0)) (kq BK715.out) hb)
                replace HK := am (KeepBut.trans (Y2) (KeepBut.of_below hb g none) (.inl rfl))
                replace HB := am (below_step (Y8) hb)
                replace HI0 := am (IsS97.below (Y6) hb)
                clear hb ho121
                refine hK.out _ _ ⟨(blk_cell BK715.out 0).trans rfl, (blk_cell BK715.out 1).trans rfl, (blk_cell BK715.out 2).trans rfl, (blk_cell BK715.out 3).trans rfl, (blk_cell BK710.out 0).trans rfl⟩ (fun hHeld => ?_)
                clear hK K
                refine norm_ (a' := ?_) ?_ ?_
                rotate_left
                ·show Act.put _ (some 100) _ = _
                 simp only [Act.put, List.setIfInBounds_toArray, List.set_cons_zero, List.set_cons_succ, i64_w, i32_w]
                 rfl
                exact norm_ (by simp only [putAll, Act.put, List.setIfInBounds_toArray, List.set_cons_zero, List.set_cons_succ]) (hCont (v776, v779) _ ⟨hHeld, (rq HO772.out), (by (with_reducible repeat (first | apply Kd.R_alloc | apply Kd.R_drewN | apply Kd.R_drew)); exact Kd.R_mono HO777.out (fun _ hk => ⟨hk.1.2, hk.2⟩)), (by (with_reducible repeat (first | apply Kd.R_alloc | apply Kd.R_drewN | apply Kd.R_drew)); exact Kd.R_mono HO780.out (fun _ hk => ⟨hk.2, hk.1.2⟩)), (kq BK710.out), (kq BK715.out), (Y6), (Y2), (Y8)⟩)
              rintro ⟨v776, v779⟩ w122 ⟨hS_, h0_, h1_, h2_, h3_, h4_, h5_, h6_, h7_⟩
              have n0_ : Aside0 (Kd.R (Kd.int .i64) 3 w122 w.heap.size (fun _ => True) (.slice Ao114 y770.length co114) y770) := ⟨h0_⟩
              have n1_ : Aside0 (Kd.R k52 52 w122 w.heap.size (fun k_ => some k_ ≠ (v779 : Value).ownBlock ∧ k_ ≠ gb715) v776 y775) := ⟨h1_⟩
              have n2_ : Aside0 (Kd.R k52 52 w122 w.heap.size (fun k_ => some k_ ≠ (v776 : Value).ownBlock ∧ k_ ≠ gb715) v779 t778) := ⟨h2_⟩
              have n3_ : Aside0 (w122.heap[gb710]? = some (.cells #[.slice A1_0 l1_0.length c1_0] 32 (0, 0))) := ⟨h3_⟩
              have n4_ : Aside0 (w122.heap[gb715]? = some (.cells #[.int .i64 a2, .int .i64 12, .int .i64 t773, .int .i64 0] 52 (0, 0))) := ⟨h4_⟩
              have n5_ : Aside0 (IsS97 w0 w122 g s0_0 t781) := ⟨h5_⟩
              have n6_ : Aside0 (KeepBut w w122 g none) := ⟨h6_⟩
              have n7_ : Aside0 (Below w0.heap.size w0 w122) := ⟨h7_⟩
              clear HO772
              clear BK710
              clear BK715
              clear HI0
              clear HK
              clear HB
              clear h0_ h1_ h2_ h3_ h4_ h5_ h6_ h7_
              have HO772 := n0_
              have HO777 := n1_
              have HO780 := n2_
              have BK710 := n3_
              have BK715 := n4_
              have HI0 := n5_
              have HK := n6_
              have HB := n7_
              clear n0_ n1_ n2_ n3_ n4_ n5_ n6_ n7_
              have hHeld : w122.cell? ⟨gb715, 0, none⟩ = some (.int .i64 a2) ∧ w122.cell? ⟨gb715, 1, none⟩ = some (.int .i64 12) ∧ w122.cell? ⟨gb715, 2, none⟩ = some (.int .i64 t773) ∧ w122.cell? ⟨gb715, 3, none⟩ = some (.int .i64 0) ∧ w122.cell? ⟨gb710, 0, none⟩ = some (.slice A1_0 l1_0.length c1_0) := hS_
              obtain ⟨Ao124, co124, eo124⟩ := Kd.R_slice HO780.out
              (first | subst eo124 | (injection eo124 with f1_ f2_ f3_; have f4_ := f1_.symm; have f5_ := f3_.symm; clear f1_ f2_ f3_; subst f4_; subst f5_))
              refine norm_ (a' := ?_) ?_ ?_
              rotate_left
              ·simp only [putAll, Act.put, List.setIfInBounds_toArray, List.set_cons_zero, List.set_cons_succ]
               rfl
              refine one_ (i := 7) (N := some 106) #[true, true, true, true, true, true, true, true, false] rfl rfl (one_of HT_.out (by kernel_rfl)) (by decide) (fun K hK => ?_)
              refine Kd.R_append_rows_step k52 w.heap.size (by rfl) (.tmp 100) (.tmp 105) 34 52 (.agg #[(.int .i64 0), (.int .i64 0), (.int .i64 0), (.int .i64 0)]) 32 rfl Try.underlying34 info52 rfl (by decide) (by omega) v776 y775 t778 _ _ _ (fun k_ => some k_ ≠ (.slice Ao124 t778.length co124 : Value).ownBlock ∧ k_ ≠ gb715) (fun _ => False) rfl rfl ?aO ?aR (fun _ _ h => h) (fun _ h => h.elim) ?aF (Below.refl _ _) ?aS ?aL ?_
              (case aR => repeat (first | exact (Kd.R_reads' HO780.out).2.2 | (with_reducible refine Kd.C_alloc ?_ _) | (with_reducible refine Kd.C_drewN ?_ _) | (with_reducible refine Kd.C_drew ?_)))
              (case aF => exact (fun k_ hk => ⟨Kd.fresh' (Kd.R_lt (rq HO780.out)) k_ hk, Kd.freshB (g := gb715) (o := .cells #[.int .i64 a2, .int .i64 12, .int .i64 t773, .int .i64 0] 52 (0, 0)) (kq BK715.out) k_ hk⟩))
              (case aO => exact (rq HO777.out))
              (case aS => exact (keep_size (w := w) (g := g) (row := none) (Y2)))
              (case aL => have := LMc108.out; omega)
              intro v783 w123 ho hb hg hat
              rw [← Ny782.out] at ho
              have n0_ := am (blk_grown (g := gb710) (o := .cells #[.slice A1_0 l1_0.length c1_0] 32 (0, 0)) (kq BK710.out) hg (Kd.R_ne HO777.out BK710.out (by decide)))
              have n1_ := am (blk_grown (g := gb715) (o := .cells #[.int .i64 a2, .int .i64 12, .int .i64 t773, .int .i64 0] 52 (0, 0)) (kq BK715.out) hg (Kd.R_away HO777.out (fun _ hk => hk.2)))
              have n2_ := am (IsS97.grown (Y6) hg (IsS97.own_ne HI0.out HO777.out (by decide)))
              have n3_ := am (Kd.R_over' (rq HO772.out) (Kd.R_typed (rq HO777.out)) (by decide) hg)
              have n4_ := am (Kd.R_after (ok := (fun k_ => k_ ≠ gb715)) (by (with_reducible repeat (first | apply Kd.R_alloc | apply Kd.R_drewN | apply Kd.R_drew)); exact Kd.R_mono HO780.out (fun _ hk => ⟨hk.2, hk.1⟩)) hg hat)
              have n5_ := am (below_weaken (Y8) HL.out hb)
              have n6_ := am (KeepBut.trans (Y2) (KeepBut.of_grown hg g) (Kd.R_base2 HO777.out))
              have n7_ := am (ho)
              clear BK710
              clear BK715
              clear HI0
              clear HO772
              clear HO780
              clear HB
              clear HK
              clear HO777
              have BK710 := n0_
              have BK715 := n1_
              have HI0 := n2_
              have HO772 := n3_
              have HO780 := n4_
              have HB := n5_
              have HK := n6_
              have HO784 := n7_
              clear n0_ n1_ n2_ n3_ n4_ n5_ n6_ n7_
              clear ho hb hg hat
              refine hK.out _ _ ⟨(blk_cell BK715.out 0).trans rfl, (blk_cell BK715.out 1).trans rfl, (blk_cell BK715.out 2).trans rfl, (blk_cell BK715.out 3).trans rfl, (blk_cell BK710.out 0).trans rfl⟩ (fun hHeld => ?_)
              clear hK K
              refine norm_ (a' := ?_) ?_ ?_
              rotate_left
              ·show Act.put _ (some 106) _ = _
               simp only [Act.put, List.setIfInBounds_toArray, List.set_cons_zero, List.set_cons_succ, i64_w, i32_w]
               rfl
              refine pq (i := 8) (N := some 8) #[true, true, true, true, true, true, true, true, true] ?_
              refine done_ (done_of HT_.out (by kernel_rfl)) ?_
              try go_wp2
              go_ret
              exact ⟨_, Y0, by (with_reducible repeat (first | apply Kd.R_alloc | apply Kd.R_drewN | apply Kd.R_drew)); exact Kd.R_mono HO784.out (fun _ hk => trivial), Y6, Y8, Y2⟩
             ·rw [if_neg c108] at H
              exact absurd H (by simp)
            ·rw [if_neg c105] at H
             have c105b0 : (x9_5 == 11) = false := beq_eq_false_iff_ne.mpr c105
             have c105b1 : (x9_5 != 11) = true := bne_iff_ne.mpr c105
             replace H := Option.bind_eq_some_iff.mp H
             obtain ⟨⟨t785, t788⟩, A1250, H⟩ := H
             replace H : (some (t785, t788)) = some (r1, r2) := H
             have A125 := am A1250
             clear A1250
             simp only [Option.some.injEq, Prod.mk.injEq] at H
             obtain ⟨rfl, rfl⟩ := H
             have hnb126 := NB710_715.out
             have hnc126 := NB715_710.out
             have hnb127 := NB710_0.out
             have hnc127 := NB0_710.out
             have hcz128_0 := bc0 BK710.out
             have hfz128_0 := blk_frozen BK710.out 0
             go_wp2_with (first | ((with_reducible refine gate_callee (f := 117) rfl ?_); refine gL (some 23) Try.func117 #[.pointer (some ⟨g, 0, none⟩), .agg #[.slice A1_0 l1_0.length c1_0], .int .i64 a2, .bool a3] ?_; (with_reducible refine (ih117 kj49 (by have := HJ5.out; have := HJ49.out; omega) g s0_0 x1001_5 _ _ l1_0 a2 a3 t785 t788 w0 _ ?side1 ?side2 ?side3 ?side4 A125.out).mono ?_); (case side1 => exact Y6); (case side2 => exact Y8); (case side3 => exact Kd.C_foot_step HR1_0.out (Y2)); (case side4 => exact HC1_0.out); rintro e w129 ⟨v786, rfl, ho0, hi, hb, hk⟩; refine ⟨_, rfl, ?_⟩; have HO787 := am (Kd.R_lower (Kd.R_newB ho0 (g := gb715) (o := .cells #[.int .i64 a2, .int .i64 0, .int .i64 0, .int .i64 0] 52 (0, 0)) (kq BK715.out)) (keep_size (w := w) (g := g) (row := none) (Y2))); replace BK710 := am (KeepBut.blk hk (g' := gb710) (o := .cells #[.slice A1_0 l1_0.length c1_0] 32 (0, 0)) (kq BK710.out) NB710_0.out (by simp)); replace BK715 := am (KeepBut.blk hk (g' := gb715) (o := .cells #[.int .i64 a2, .int .i64 0, .int .i64 0, .int .i64 0] 52 (0, 0)) (kq BK715.out) NB715_0.out (by simp)); replace HK := am (KeepBut.trans (Y2) hk (.inl rfl)); replace HB := am (hb); replace HI0 := am (hi); (try clear hb); (try clear hb2); (try clear hk); (try clear hi); (try clear ho0)))
             go_ret
             exact ⟨_, Y0, by (with_reducible repeat (first | apply Kd.R_alloc | apply Kd.R_drewN | apply Kd.R_drew)); exact Kd.R_mono HO787.out (fun _ hk => trivial), Y6, Y8, Y2⟩
set_option maxHeartbeats 8000000 in
set_option maxRecDepth 100000 in
theorem spec_aBlock.calls_of (k : Nat) (ih119 : ∀ k_, k_ < k → ∀ (g : Nat) (s0_0 : List Int) (s0_1 : Int) (A1_0 : Option Addr) (c1_0 : Nat) (l1_0 : List (S87)) (a2 : Int) (a3 : Bool) (r1 : List (S52)) (r2 : Int) (w0 w : World) (hI : IsS97 w0 w g s0_0 s0_1) (hB : Below w0.heap.size w0 w) (hr1_0 : ∀ W_, KeepBut w W_ g none → Kd.C k87 W_ A1_0 l1_0.length l1_0) (hc1_0 : l1_0.length ≤ c1_0) (h : spec_aStatement.f k_ s0_0 s0_1 l1_0 a2 a3 = some (r1, r2)), Calls Try.prog 119 #[.pointer (some ⟨g, 0, none⟩), .agg #[.slice A1_0 l1_0.length c1_0], .int .i64 a2, .bool a3] w fun e w' => ∃ v0_ : Value, e = .returned (v0_) ∧ Kd.R k52 52 w' w.heap.size (fun _ => True) v0_ r1 ∧ IsS97 w0 w' g s0_0 r2 ∧ Below w0.heap.size w0 w' ∧ KeepBut w w' g none) (ih118 : ∀ k_, k_ < k → ∀ (g : Nat) (s0_0 : List Int) (s0_1 : Int) (A1_0 : Option Addr) (c1_0 : Nat) (l1_0 : List (S87)) (a2 : Int) (a3 : Bool) (r1 : List (S52)) (r2 : Int) (w0 w : World) (hI : IsS97 w0 w g s0_0 s0_1) (hB : Below w0.heap.size w0 w) (hr1_0 : ∀ W_, KeepBut w W_ g none → Kd.C k87 W_ A1_0 l1_0.length l1_0) (hc1_0 : l1_0.length ≤ c1_0) (h : spec_aBlock.f k_ s0_0 s0_1 l1_0 a2 a3 = some (r1, r2)), Calls Try.prog 118 #[.pointer (some ⟨g, 0, none⟩), .agg #[.slice A1_0 l1_0.length c1_0], .int .i64 a2, .bool a3] w fun e w' => ∃ v0_ : Value, e = .returned (v0_) ∧ Kd.R k52 52 w' w.heap.size (fun _ => True) v0_ r1 ∧ IsS97 w0 w' g s0_0 r2 ∧ Below w0.heap.size w0 w' ∧ KeepBut w w' g none) (ih117 : ∀ k_, k_ < k → ∀ (g : Nat) (s0_0 : List Int) (s0_1 : Int) (A1_0 : Option Addr) (c1_0 : Nat) (l1_0 : List (S87)) (a2 : Int) (a3 : Bool) (r1 : List (S52)) (r2 : Int) (w0 w : World) (hI : IsS97 w0 w g s0_0 s0_1) (hB : Below w0.heap.size w0 w) (hr1_0 : ∀ W_, KeepBut w W_ g none → Kd.C k87 W_ A1_0 l1_0.length l1_0) (hc1_0 : l1_0.length ≤ c1_0) (h : spec_aTry.f k_ s0_0 s0_1 l1_0 a2 a3 = some (r1, r2)), Calls Try.prog 117 #[.pointer (some ⟨g, 0, none⟩), .agg #[.slice A1_0 l1_0.length c1_0], .int .i64 a2, .bool a3] w fun e w' => ∃ v0_ : Value, e = .returned (v0_) ∧ Kd.R k52 52 w' w.heap.size (fun _ => True) v0_ r1 ∧ IsS97 w0 w' g s0_0 r2 ∧ Below w0.heap.size w0 w' ∧ KeepBut w w' g none) : ∀ (g : Nat) (s0_0 : List Int) (s0_1 : Int) (A1_0 : Option Addr) (c1_0 : Nat) (l1_0 : List (S87)) (a2 : Int) (a3 : Bool) (r1 : List (S52)) (r2 : Int) (w0 w : World) (hI : IsS97 w0 w g s0_0 s0_1) (hB : Below w0.heap.size w0 w) (hr1_0 : ∀ W_, KeepBut w W_ g none → Kd.C k87 W_ A1_0 l1_0.length l1_0) (hc1_0 : l1_0.length ≤ c1_0) (h : spec_aBlock.f k s0_0 s0_1 l1_0 a2 a3 = some (r1, r2)),
  Calls Try.prog 118 #[.pointer (some ⟨g, 0, none⟩), .agg #[.slice A1_0 l1_0.length c1_0], .int .i64 a2, .bool a3] w fun e w' => ∃ v0_ : Value, e = .returned (v0_) ∧ Kd.R k52 52 w' w.heap.size (fun _ => True) v0_ r1 ∧ IsS97 w0 w' g s0_0 r2 ∧ Below w0.heap.size w0 w' ∧ KeepBut w w' g none := by
 intro g s0_0 s0_1 A1_0 c1_0 l1_0 a2 a3 r1 r2 w0 w hI hB hr1_0 hc1_0 h
 cases k with
 | zero => exact absurd h (by simp [spec_aBlock.f])
 | succ k =>
 simp only [spec_aBlock.f] at h
 have hu32 := Try.underlying32
 have HR1_0 := am hr1_0
 have HC1_0 := am hc1_0
 clear hr1_0 hc1_0
 have HI0 := am hI
 have HK := am (KeepBut.refl w g none)
 have HL := am hB.size
 clear hI
 have HW0 := am hB.size
 have HB := am hB
 clear hB
 have H : ((spec_reader_one.f k s0_0 s0_1 (([1, 2, 1, 2, 3] : List Int))).bind fun bt796 => (spec_aBlock.l0 k a2 a3 (([] : List (S52))) bt796.1 s0_0 bt796.2 l1_0)) = some (r1, r2) := h
 clear h
 obtain ⟨y790, hy790⟩ : ∃ y_ : List (S52), y_ = (([] : List (S52))) := ⟨_, rfl⟩
 replace H : ((spec_reader_one.f k s0_0 s0_1 (([1, 2, 1, 2, 3] : List Int))).bind fun bt796 => (spec_aBlock.l0 k a2 a3 y790 bt796.1 s0_0 bt796.2 l1_0)) = some (r1, r2) := by first | (rw [hy790]; with_reducible exact H) | (have H2_ := (Option.bind_some _ _).symm.trans H; rw [hy790]; with_reducible exact H2_) | (have H2_ := (Option.bind_some _ _).symm.trans H; with_reducible exact H2_) | with_reducible exact H | (rw [hy790]; exact H) | exact H
 have Ny790 := am hy790
 clear hy790
 obtain ⟨y793, hy793⟩ : ∃ y_ : List Int, y_ = (([1, 2, 1, 2, 3] : List Int)) := ⟨_, rfl⟩
 replace H : ((spec_reader_one.f k s0_0 s0_1 y793).bind fun bt796 => (spec_aBlock.l0 k a2 a3 y790 bt796.1 s0_0 bt796.2 l1_0)) = some (r1, r2) := by first | (rw [hy793]; with_reducible exact H) | (have H2_ := (Option.bind_some _ _).symm.trans H; rw [hy793]; with_reducible exact H2_) | (have H2_ := (Option.bind_some _ _).symm.trans H; with_reducible exact H2_) | with_reducible exact H | (rw [hy793]; exact H) | exact H
 have Ny793 := am hy793
 clear hy793
 replace H := Option.bind_eq_some_iff.mp H
 obtain ⟨⟨t796, t797⟩, A50, H⟩ := H
 replace H : (spec_aBlock.l0 k a2 a3 y790 t796 s0_0 t797 l1_0) = some (r1, r2) := H
 have A5 := am A50
 clear A50
 have H' := am H
 clear H
 go_enter Try.func118, Try.ntmps118
 go_wp2_with (first | ((with_reducible refine gate_dst (N := 5) rfl ?_); refine bE (N := 5) (cs := #[.slice A1_0 l1_0.length c1_0]) (t := 32) ?_; intro gb789 hg w6 hbox hb; have BK789 := am (hbox); have GW789 := am ((Y13 : w.heap.size ≤ gb789)); have GE789 := am ((Nat.le_trans HW0.out (Y13 : w.heap.size ≤ gb789) : w0.heap.size ≤ gb789)); have NB0_789 := am ((Y29 : g ≠ gb789)); have NB789_0 := am ((Y30 : gb789 ≠ g)); replace HK := am (KeepBut.trans (Y18) (KeepBut.of_below hb g none) (.inl rfl)); replace HB := am (below_step (Y19) hb); replace HI0 := am (IsS97.below (Y17) hb); clear hb hbox hg) | ((with_reducible refine gate_dst (N := 11) rfl ?_); refine Kd.R_lit k52 _ 52 ?hg (N := 11) ?hd (xs := ([] : List (S52))) (inner := []) (ok := fun _ => True) (okp := fun _ => True) ?hr ?hp (fun _ hk => hk) trivial (Below.refl _ _) (Nat.le_refl _) (by simp) ?_; (case hd => rfl); (case hg => rfl); (case hr => exact Y5); (case hp => exact (Reps.none _ _)); intro v791 w7 ho8 hb hg_ hnew_; clear hg_ hnew_; (first | rw [← Ny790.out] at ho8 | (simp only [Int.reduceToNat] at ho8; rw [← Ny790.out] at ho8)); have HO792 := am (Kd.R_lower ho8 (keep_size (w := w) (g := g) (row := none) (Y39))); replace BK789 := am (blk_below (g := gb789) (o := .cells #[.slice A1_0 l1_0.length c1_0] 32 (0, 0)) (kq BK789.out) hb); replace HK := am (KeepBut.trans (Y39) (KeepBut.of_below hb g none) (.inl rfl)); replace HB := am (below_step (Y67) hb); replace HI0 := am (IsS97.below (Y50) hb); clear hb ho8) | ((with_reducible refine gate_dst (N := 13) rfl ?_); refine Kd.R_lit (Kd.int .i64) _ 3 ?hg (N := 13) ?hd (xs := ([1, 2, 1, 2, 3] : List Int)) (inner := [.int .i64 1, .int .i64 2, .int .i64 1, .int .i64 2, .int .i64 3]) (ok := fun _ => True) (okp := fun _ => True) ?hr ?hp (fun _ hk => hk) trivial (Below.refl _ _) (Nat.le_refl _) (by simp) ?_; (case hd => rfl); (case hg => rfl); (case hr => exact Y5); (case hp => exact (Reps.one (show Kd.M (Kd.int .i64) _ _ _ 1 [.int .i64 1] from rfl) (Reps.one (show Kd.M (Kd.int .i64) _ _ _ 2 [.int .i64 2] from rfl) (Reps.one (show Kd.M (Kd.int .i64) _ _ _ 1 [.int .i64 1] from rfl) (Reps.one (show Kd.M (Kd.int .i64) _ _ _ 2 [.int .i64 2] from rfl) (Reps.one (show Kd.M (Kd.int .i64) _ _ _ 3 [.int .i64 3] from rfl) (Reps.none _ _))))))); intro v794 w9 ho10 hb hg_ hnew_; clear hg_ hnew_; (first | rw [← Ny793.out] at ho10 | (simp only [Int.reduceToNat] at ho10; rw [← Ny793.out] at ho10)); have HO795 := am (Kd.R_lower ho10 (keep_size (w := w) (g := g) (row := none) (Y39))); replace HO792 := am (Kd.R_below (rq HO792.out) hb); replace BK789 := am (blk_below (g := gb789) (o := .cells #[.slice A1_0 l1_0.length c1_0] 32 (0, 0)) (kq BK789.out) hb); replace HK := am (KeepBut.trans (Y39) (KeepBut.of_below hb g none) (.inl rfl)); replace HB := am (below_step (Y67) hb); replace HI0 := am (IsS97.below (Y50) hb); clear hb ho10; obtain ⟨Ao11, co11, eo11⟩ := Kd.R_slice HO795.out; subst eo11) | ((with_reducible refine gate_callee (f := 91) rfl ?_); refine gL (some 14) Try.func91 #[.pointer (some ⟨g, 0, none⟩), .slice Ao11 y793.length co11] ?_; (with_reducible refine (spec_reader_one.calls k g s0_0 s0_1 _ _ y793 t796 t797 w0 _ ?side1 ?side2 ?side3 ?side4 ?side5 A5.out).mono ?_); (case side1 => exact Y50); (case side2 => exact Y67); (case side3 => exact cq (Kd.R_reads' HO795.out).2.2); (case side4 => exact (Kd.R_reads' HO795.out).2.1); (case side5 => exact far_slice (IsS97.own_ne HI0.out HO795.out (by decide))); rintro e w12 ⟨rfl, hi, hb, hk⟩; refine ⟨_, rfl, ?_⟩; replace BK789 := am (KeepBut.blk hk (g' := gb789) (o := .cells #[.slice A1_0 l1_0.length c1_0] 32 (0, 0)) (kq BK789.out) NB789_0.out (by simp)); replace HO792 := am (Kd.R_mono (Kd.R_keep (IsS97.apart (show IsS97 w0 _ g s0_0 s0_1 from Y50) (rq HO792.out) (by decide)) hk (fun _ h => h.2)) (fun _ h => h.1)); replace HO795 := am (Kd.R_mono (Kd.R_keep (IsS97.apart (show IsS97 w0 _ g s0_0 s0_1 from Y50) (rq HO795.out) (by decide)) hk (fun _ h => h.2)) (fun _ h => h.1)); replace HK := am (KeepBut.trans (Y39) hk (.inl rfl)); replace HB := am (hb); replace HI0 := am (hi); (try clear hb); (try clear hb2); (try clear hk); (try clear hi)))
 go_loopg [9, 10] k (fun kq v9 v10 w' => ∃ (x9_1 : List (S52)) (x10_1 : Int) (x1001_1 : Int), v10 = .int .i64 x10_1 ∧ Aside0 (spec_aBlock.l0 kq a2 a3 x9_1 x10_1 s0_0 x1001_1 l1_0 = some (r1, r2)) ∧ Aside0 (kq ≤ k) ∧ Aside0 (Kd.R k52 52 w' w.heap.size (fun _ => True) v9 x9_1) ∧ Aside0 (w'.heap[gb789]? = some (.cells #[(.slice A1_0 l1_0.length c1_0)] 32 (0, 0))) ∧ Aside0 (IsS97 w0 w' g s0_0 x1001_1) ∧ Aside0 (KeepBut w w' g none) ∧ Aside0 (Below w0.heap.size w0 w'))
 case atStart => exact ⟨(y790), (t796), (t797), (sq), H', ⟨Nat.le_refl _⟩, ⟨rq HO792.out⟩, ⟨kq BK789.out⟩, ⟨Y50⟩, ⟨Y39⟩, ⟨Y67⟩⟩
 case round =>
  clear H'
  try clear c1
  try clear p2
  try clear c9
  try clear c11
  obtain ⟨x9_1, x10_1, x1001_1, rfl, HA, HK1, HO_9, BK789, HI0, HK, HB⟩ := hrel
  cases gk with
  | zero => exact absurd HA.out (by simp [spec_aBlock.l0])
  | succ k1 =>
   have H := HA.out
   clear HA
   simp only [spec_aBlock.l0] at H
   by_cases c13 : x10_1 > 0
   ·rw [if_pos c13] at H
    have c13b0 : decide (0 < x10_1) = true := decide_eq_true c13
    clear c13
    replace H := Option.bind_eq_some_iff.mp H
    obtain ⟨⟨t798, t801⟩, A140, H⟩ := H
    replace H : (if x9_1.length + t798.length < 4398046511104 then (spec_aBlock.l0 k1 a2 a3 (x9_1 ++ t798) (wrap64 (x10_1 - 1)) s0_0 t801 l1_0) else (none)) = some (r1, r2) := H
    have A14 := am A140
    clear A140
    by_cases c15 : x9_1.length + t798.length < 4398046511104
    ·rw [if_pos c15] at H
     have LMc15 := am c15
     clear c15
     obtain ⟨y802, hy802⟩ : ∃ y_ : List (S52), y_ = (x9_1 ++ t798) := ⟨_, rfl⟩
     replace H : (spec_aBlock.l0 k1 a2 a3 y802 (wrap64 (x10_1 - 1)) s0_0 t801 l1_0) = some (r1, r2) := by first | (rw [hy802]; with_reducible exact H) | (have H2_ := (Option.bind_some _ _).symm.trans H; rw [hy802]; with_reducible exact H2_) | (have H2_ := (Option.bind_some _ _).symm.trans H; with_reducible exact H2_) | with_reducible exact H | (rw [hy802]; exact H) | exact H
     have Ny802 := am hy802
     clear hy802
     have H' := am H
     clear H
     have hnb16 := NB789_0.out
     have hnc16 := NB0_789.out
     have hcz17_0 := bc0 BK789.out
     have hfz17_0 := blk_frozen BK789.out 0
     go_wp2_with (first | ((with_reducible refine gate_callee (f := 119) rfl ?_); refine gL (some 24) Try.func119 #[.pointer (some ⟨g, 0, none⟩), .agg #[.slice A1_0 l1_0.length c1_0], .int .i64 a2, .bool a3] ?_; (with_reducible refine (ih119 k1 (by have := HK1.out; omega) g s0_0 x1001_1 _ _ l1_0 a2 a3 t798 t801 w0 _ ?side1 ?side2 ?side3 ?side4 A14.out).mono ?_); (case side1 => exact Y50); (case side2 => exact Y67); (case side3 => exact Kd.C_foot_step HR1_0.out (Y39)); (case side4 => exact HC1_0.out); rintro e w18 ⟨v799, rfl, ho0, hi, hb, hk⟩; refine ⟨_, rfl, ?_⟩; have HO800 := am (Kd.R_lower (Kd.R_new' ho0 (Kd.R_lt (rq HO_9.out))) (keep_size (w := w) (g := g) (row := none) (Y39))); replace HO_9 := am (Kd.R_mono (Kd.R_told (Kd.R_oldK (IsS97.apart (show IsS97 w0 _ g s0_0 x1001_1 from Y50) (rq HO_9.out) (by decide)) hk) (Kd.R_base ho0)) (fun _ h_ => h_.1)); replace BK789 := am (KeepBut.blk hk (g' := gb789) (o := .cells #[.slice A1_0 l1_0.length c1_0] 32 (0, 0)) (kq BK789.out) NB789_0.out (by simp)); replace HK := am (KeepBut.trans (Y39) hk (.inl rfl)); replace HB := am (hb); replace HI0 := am (hi); (try clear hb); (try clear hb2); (try clear hk); (try clear hi); (try clear ho0); obtain ⟨Ao20, co20, eo20⟩ := Kd.R_slice HO800.out; subst eo20) | ((with_reducible refine gate_builtin (b := .append) (xs := #[.tmp 19, .tmp 24]) rfl ?_); at_builtin; refine Kd.R_append_rows k52 w.heap.size rfl (.tmp 19) (.tmp 24) 34 52 (.agg #[(.int .i64 0), (.int .i64 0), (.int .i64 0), (.int .i64 0)]) 32 rfl Try.underlying34 info52 rfl (by decide) (by omega) u9 x9_1 t798 _ _ _ (fun k_ => some k_ ≠ (.slice Ao20 t798.length co20 : Value).ownBlock) (fun _ => False) rfl rfl ?aO ?aR (fun _ _ h => h) (fun _ h => h.elim) ?aF (Below.refl _ _) ?aS ?aL ?_; (case aR => repeat (first | exact (Kd.R_reads' HO800.out).2.2 | (with_reducible refine Kd.C_alloc ?_ _) | (with_reducible refine Kd.C_drewN ?_ _) | (with_reducible refine Kd.C_drew ?_))); (case aF => exact (fun k_ hk => Kd.fresh' (Kd.R_lt (rq HO800.out)) k_ hk)); (case aO => exact (by (with_reducible repeat (first | apply Kd.R_alloc | apply Kd.R_drewN | apply Kd.R_drew)); exact Kd.R_mono HO_9.out (fun _ hk => hk.2))); (case aS => exact (keep_size (w := w) (g := g) (row := none) (Y39))); (case aL => have := LMc15.out; omega); intro v803 w19 ho hb hg hat; rw [← Ny802.out] at ho; have n0_ := am (blk_grown (g := gb789) (o := .cells #[.slice A1_0 l1_0.length c1_0] 32 (0, 0)) (kq BK789.out) hg (Kd.R_ne HO_9.out BK789.out (by decide))); have n1_ := am (IsS97.grown (Y50) hg (IsS97.own_ne HI0.out HO_9.out (by decide))); have n2_ := am (Kd.R_after (ok := (fun _ => True)) (rq HO800.out) hg hat); have n3_ := am (below_weaken (Y67) HL.out hb); have n4_ := am (KeepBut.trans (Y39) (KeepBut.of_grown hg g) (Kd.R_base2 HO_9.out)); have n5_ := am (ho); clear BK789 HI0 HO800 HB HK HO_9; have BK789 := n0_; have HI0 := n1_; have HO800 := n2_; have HB := n3_; have HK := n4_; have HO804 := n5_; clear n0_ n1_ n2_ n3_ n4_ n5_ ho hb hg hat))
     go_roundg k1
     case measure => have := HK1.out; omega
     case rel => exact ⟨(y802), (wrap64 (x10_1 - 1)), (t801), (sq), H', ⟨by have := HK1.out; omega⟩, ⟨by (with_reducible repeat (first | apply Kd.R_alloc | apply Kd.R_drewN | apply Kd.R_drew)); exact Kd.R_mono HO804.out (fun _ hk => trivial)⟩, ⟨kq BK789.out⟩, ⟨Y50⟩, ⟨Y39⟩, ⟨Y67⟩⟩
    ·rw [if_neg c15] at H
     exact absurd H (by simp)
   ·rw [if_neg c13] at H
    have c13b0 : decide (0 < x10_1) = false := decide_eq_false c13
    clear c13
    simp only [Option.some.injEq, Prod.mk.injEq] at H
    obtain ⟨rfl, rfl⟩ := H
    go_wp2
    go_ret
    exact ⟨_, Y0, rq HO_9.out, Y50, Y67, Y39⟩
end Go.Proofs.Ytkokajljeebgdaa.P
end
