/- One part of the proofs on this program: functions of the program as plain functions, that the code comes to them, and facts on them. -/
import Derived.Test.YtbcjbcjpoddkoaaYAll1
import Derived.Test.YtbcjbcjpoddkoaaYAll3
import Derived.Test.YtbcjbcjpoddkoaaYAll4
import Derived.Test.YtbcjbcjpoddkoaaYWAuto
section
namespace Go.Proofs.Ytbcjbcjpoddkoaa.P
open Go.RowKit Go.Proofs.YtbcjbcjpoddkoaaW.PrintWords Go.Proofs.YtbcjbcjpoddkoaaW.PrintLast Go.Proofs.YtbcjbcjpoddkoaaW.PrintMore
attribute [local go_sem] max2_int min2_int max_two min_two max_three min_three max_four min_four isSome_cell_setCell
set_option linter.unusedVariables false
set_option linter.unusedSimpArgs false
def spec_aStatement.T26 : Bool × List (List Nat × List Nat) := (true, [([], []), ([0], [0]), ([], []), ([], []), ([], []), ([4], [4]), ([], []), ([2, 3, 5, 6], [2, 3, 5, 6]), ([1, 7, 7], [1, 7]), ([8, 8, 0, 1, 2, 3, 4, 5, 6, 7, 8], [8])])
def spec_aStatement.B26 : List Nat := [0, 1, 0, 0, 0, 16, 0, 124, 255, 511]
theorem spec_aStatement.tab26 : rtab .any (opsOf Try.f104 26) = spec_aStatement.T26 := by kernel_rfl
theorem spec_aStatement.bits26 : waitsOk spec_aStatement.T26.2 spec_aStatement.B26 = true := by kernel_rfl
def spec_aStatement.T30 : Bool × List (List Nat × List Nat) := (true, [([], []), ([0], [0]), ([], []), ([], []), ([], []), ([4], [4]), ([2, 3, 5], [2, 3, 5]), ([1, 6, 6], [1, 6]), ([7, 7, 0, 1, 2, 3, 4, 5, 6, 7], [7])])
def spec_aStatement.B30 : List Nat := [0, 1, 0, 0, 0, 16, 60, 127, 255]
theorem spec_aStatement.tab30 : rtab .any (opsOf Try.f104 30) = spec_aStatement.T30 := by kernel_rfl
theorem spec_aStatement.bits30 : waitsOk spec_aStatement.T30.2 spec_aStatement.B30 = true := by kernel_rfl
set_option maxHeartbeats 8000000 in
set_option maxRecDepth 100000 in
theorem spec_aStatement.calls_of (k : Nat) (ih104 : ∀ k_, k_ < k → ∀ (g : Nat) (s0_0 : List Int) (s0_1 : Int) (A1_0 : Option Addr) (c1_0 : Nat) (l1_0 : List (S98)) (a2 : Int) (a3 : Bool) (r1 : List (S59)) (r2 : Int) (w0 w : World) (hI : IsS106 w0 w g s0_0 s0_1) (hB : Below w0.heap.size w0 w) (hr1_0 : ∀ W_, KeepBut w W_ g none → Kd.C k98 W_ A1_0 l1_0.length l1_0) (hc1_0 : l1_0.length ≤ c1_0) (h : spec_aStatement.f k_ s0_0 s0_1 l1_0 a2 a3 = some (r1, r2)), Calls Try.prog 104 #[.pointer (some ⟨g, 0, none⟩), .agg #[.slice A1_0 l1_0.length c1_0], .int .i64 a2, .bool a3] w fun e w' => ∃ v0_ : Value, e = .returned (v0_) ∧ Kd.R k59 59 w' w.heap.size (fun _ => True) v0_ r1 ∧ IsS106 w0 w' g s0_0 r2 ∧ Below w0.heap.size w0 w' ∧ KeepBut w w' g none) (ih98 : ∀ k_, k_ < k → ∀ (g : Nat) (s0_0 : List Int) (s0_1 : Int) (A1_0 : Option Addr) (c1_0 : Nat) (l1_0 : List (S98)) (a2 : Int) (a3 : Bool) (r1 : List (S59)) (r2 : Int) (w0 w : World) (hI : IsS106 w0 w g s0_0 s0_1) (hB : Below w0.heap.size w0 w) (hr1_0 : ∀ W_, KeepBut w W_ g none → Kd.C k98 W_ A1_0 l1_0.length l1_0) (hc1_0 : l1_0.length ≤ c1_0) (h : spec_aBlock.f k_ s0_0 s0_1 l1_0 a2 a3 = some (r1, r2)), Calls Try.prog 98 #[.pointer (some ⟨g, 0, none⟩), .agg #[.slice A1_0 l1_0.length c1_0], .int .i64 a2, .bool a3] w fun e w' => ∃ v0_ : Value, e = .returned (v0_) ∧ Kd.R k59 59 w' w.heap.size (fun _ => True) v0_ r1 ∧ IsS106 w0 w' g s0_0 r2 ∧ Below w0.heap.size w0 w' ∧ KeepBut w w' g none) (ih97 : ∀ k_, k_ < k → ∀ (g : Nat) (s0_0 : List Int) (s0_1 : Int) (A1_0 : Option Addr) (c1_0 : Nat) (l1_0 : List (S98)) (a2 : Int) (a3 : Bool) (r1 : List (S59)) (r2 : Int) (w0 w : World) (hI : IsS106 w0 w g s0_0 s0_1) (hB : Below w0.heap.size w0 w) (hr1_0 : ∀ W_, KeepBut w W_ g none → Kd.C k98 W_ A1_0 l1_0.length l1_0) (hc1_0 : l1_0.length ≤ c1_0) (h : spec_aTry.f k_ s0_0 s0_1 l1_0 a2 a3 = some (r1, r2)), Calls Try.prog 97 #[.pointer (some ⟨g, 0, none⟩), .agg #[.slice A1_0 l1_0.length c1_0], .int .i64 a2, .bool a3] w fun e w' => ∃ v0_ : Value, e = .returned (v0_) ∧ Kd.R k59 59 w' w.heap.size (fun _ => True) v0_ r1 ∧ IsS106 w0 w' g s0_0 r2 ∧ Below w0.heap.size w0 w' ∧ KeepBut w w' g none) : ∀ (g : Nat) (s0_0 : List Int) (s0_1 : Int) (A1_0 : Option Addr) (c1_0 : Nat) (l1_0 : List (S98)) (a2 : Int) (a3 : Bool) (r1 : List (S59)) (r2 : Int) (w0 w : World) (hI : IsS106 w0 w g s0_0 s0_1) (hB : Below w0.heap.size w0 w) (hr1_0 : ∀ W_, KeepBut w W_ g none → Kd.C k98 W_ A1_0 l1_0.length l1_0) (hc1_0 : l1_0.length ≤ c1_0) (h : spec_aStatement.f k s0_0 s0_1 l1_0 a2 a3 = some (r1, r2)),
  Calls Try.prog 104 #[.pointer (some ⟨g, 0, none⟩), .agg #[.slice A1_0 l1_0.length c1_0], .int .i64 a2, .bool a3] w fun e w' => ∃ v0_ : Value, e = .returned (v0_) ∧ Kd.R k59 59 w' w.heap.size (fun _ => True) v0_ r1 ∧ IsS106 w0 w' g s0_0 r2 ∧ Below w0.heap.size w0 w' ∧ KeepBut w w' g none := by
 intro g s0_0 s0_1 A1_0 c1_0 l1_0 a2 a3 r1 r2 w0 w hI hB hr1_0 hc1_0 h
 cases k with
 | zero => exact absurd h (by simp [spec_aStatement.f])
 | succ k =>
 simp only [spec_aStatement.f] at h
 have hu32 := Try.underlying32
 have hu59 := Try.underlying59
 have HR1_0 := am hr1_0
 have HC1_0 := am hc1_0
 clear hr1_0 hc1_0
 have HI0 := am hI
 have HK := am (KeepBut.refl w g none)
 have HL := am hB.size
 clear hI
 have HW0 := am hB.size
 have HB := am hB
 clear hB
 have H : ((spec_reader_pick.f k s0_0 s0_1 16).bind fun bt390 => (if a2 ≥ 3 then ((spec_reader_pick.f k s0_0 bt390.2 9).bind fun bt392 => (spec_aStatement.j0 k a2 a3 bt392.1 s0_0 bt392.2 l1_0)) else (spec_aStatement.j0 k a2 a3 bt390.1 s0_0 bt390.2 l1_0))) = some (r1, r2) := h
 clear h
 replace H := Option.bind_eq_some_iff.mp H
 obtain ⟨⟨t390, t391⟩, A50, H⟩ := H
 replace H : (if a2 ≥ 3 then ((spec_reader_pick.f k s0_0 t391 9).bind fun bt392 => (spec_aStatement.j0 k a2 a3 bt392.1 s0_0 bt392.2 l1_0)) else (spec_aStatement.j0 k a2 a3 t390 s0_0 t391 l1_0)) = some (r1, r2) := H
 have A5 := am A50
 clear A50
 have HC6 := am H
 clear H
 go_enter Try.func104, Try.ntmps104
 go_upto_if 14 with (first | ((with_reducible refine gate_dst (N := 5) rfl ?_); refine bE (N := 5) (cs := #[.slice A1_0 l1_0.length c1_0]) (t := 32) ?_; intro gb389 hg w7 hbox hb; have BK389 := am (hbox); have GW389 := am ((Y10 : w.heap.size ≤ gb389)); have GE389 := am ((Nat.le_trans HW0.out (Y10 : w.heap.size ≤ gb389) : w0.heap.size ≤ gb389)); have NB0_389 := am ((Y22 : g ≠ gb389)); have NB389_0 := am ((Y23 : gb389 ≠ g)); replace HK := am (KeepBut.trans (Y14) (KeepBut.of_below hb g none) (.inl rfl)); replace HB := am (below_step (Y15) hb); replace HI0 := am (IsS106.below (Y13) hb); clear hb hbox hg) | ((with_reducible refine gate_callee (f := 55) rfl ?_); refine gL (some 12) Try.func55 #[.pointer (some ⟨g, 0, none⟩), .int .i64 16] ?_; (with_reducible refine (spec_reader_pick.calls k g s0_0 s0_1 16 t390 t391 w0 _ ?side1 ?side2 A5.out).mono ?_); (case side1 => exact Y51); (case side2 => exact Y52); rintro e w8 ⟨rfl, hi, hb, hk⟩; refine ⟨_, rfl, ?_⟩; replace BK389 := am (KeepBut.blk hk (g' := gb389) (o := .cells #[.slice A1_0 l1_0.length c1_0] 32 (0, 0)) (kq BK389.out) NB389_0.out (by simp)); replace HK := am (KeepBut.trans (Y53) hk (.inl rfl)); replace HB := am (hb); replace HI0 := am (hi); (try clear hb); (try clear hb2); (try clear hk); (try clear hi)))
 (try simp only [Act.put, List.setIfInBounds_toArray, List.set_cons_zero, List.set_cons_succ])
 go_cut [9] (fun v9 wc => ∃ (kq : Nat) (x9_5 : Int) (x1001_5 : Int), v9 = .int .i64 x9_5 ∧ Aside0 (spec_aStatement.j0 kq a2 a3 x9_5 s0_0 x1001_5 l1_0 = some (r1, r2)) ∧ Aside0 (kq ≤ k) ∧ Aside0 (wc.heap[gb389]? = some (.cells #[(.slice A1_0 l1_0.length c1_0)] 32 (0, 0))) ∧ Aside0 (IsS106 w0 wc g s0_0 x1001_5) ∧ Aside0 (KeepBut w wc g none) ∧ Aside0 (Below w0.heap.size w0 wc))
 case first =>
  have H := HC6.out
  clear HC6
  by_cases c9 : a2 ≥ 3
  ·rw [if_pos c9] at H
   have c9b0 : decide (3 ≤ a2) = true := decide_eq_true c9
   clear c9
   (first | rw [c9b0] | (simp only [i64_w, i32_w]; rw [c9b0]) | skip)
   replace H := Option.bind_eq_some_iff.mp H
   obtain ⟨⟨t392, t393⟩, A100, H⟩ := H
   replace H : (spec_aStatement.j0 k a2 a3 t392 s0_0 t393 l1_0) = some (r1, r2) := H
   have A10 := am A100
   clear A100
   have H' := am H
   clear H
   go_wp2_with (first | ((with_reducible refine gate_callee (f := 55) rfl ?_); refine gL (some 16) Try.func55 #[.pointer (some ⟨g, 0, none⟩), .int .i64 9] ?_; (with_reducible refine (spec_reader_pick.calls k g s0_0 t391 9 t392 t393 w0 _ ?side1 ?side2 A10.out).mono ?_); (case side1 => exact Y51); (case side2 => exact Y52); rintro e w11 ⟨rfl, hi, hb, hk⟩; refine ⟨_, rfl, ?_⟩; replace BK389 := am (KeepBut.blk hk (g' := gb389) (o := .cells #[.slice A1_0 l1_0.length c1_0] 32 (0, 0)) (kq BK389.out) NB389_0.out (by simp)); replace HK := am (KeepBut.trans (Y53) hk (.inl rfl)); replace HB := am (hb); replace HI0 := am (hi); (try clear hb); (try clear hb2); (try clear hk); (try clear hi)))
   go_meet
   case rel => exact ⟨_, (t392), (t393), (sq), H', ⟨Y36⟩, ⟨kq BK389.out⟩, ⟨Y51⟩, ⟨Y53⟩, ⟨Y52⟩⟩
  ·rw [if_neg c9] at H
   have c9b0 : decide (3 ≤ a2) = false := decide_eq_false c9
   clear c9
   (first | rw [c9b0] | (simp only [i64_w, i32_w]; rw [c9b0]) | skip)
   have H' := am H
   clear H
   go_wp2
   go_meet
   case rel => exact ⟨_, (t390), (t391), (sq), H', ⟨Y36⟩, ⟨kq BK389.out⟩, ⟨Y51⟩, ⟨Y53⟩, ⟨Y52⟩⟩
 case rest =>
  clear HC6
  try clear c1
  try clear p2
  try clear c5
  try clear c9
  try clear c9b0
  try clear c10
  obtain ⟨kq, x9_5, x1001_5, rfl, HA, HJ5, BK389, HI0, HK, HB⟩ := hcut
  cases kq with
  | zero => exact absurd HA.out (by simp [spec_aStatement.j0])
  | succ kj5 =>
   have H := HA.out
   clear HA
   simp only [spec_aStatement.j0] at H
   by_cases c12 : x9_5 < 4
   ·rw [if_pos c12] at H
    have c12b0 : decide (x9_5 < 4) = true := decide_eq_true c12
    clear c12
    obtain ⟨y395, hy395⟩ : ∃ y_ : List Int, y_ = (([1, 2, 3, 4, 5] : List Int)) := ⟨_, rfl⟩
    replace H : ((spec_reader_one.f kj5 s0_0 x1001_5 y395).bind fun bt398 => (some ((([(⟨a2, 1, bt398.1, 0⟩ : S59)] : List (S59))), bt398.2))) = some (r1, r2) := by first | (rw [hy395]; with_reducible exact H) | (have H2_ := (Option.bind_some _ _).symm.trans H; rw [hy395]; with_reducible exact H2_) | (have H2_ := (Option.bind_some _ _).symm.trans H; with_reducible exact H2_) | with_reducible exact H | (rw [hy395]; exact H) | exact H
    have Ny395 := am hy395
    clear hy395
    replace H := Option.bind_eq_some_iff.mp H
    obtain ⟨⟨t398, t399⟩, A130, H⟩ := H
    replace H : (some ((([(⟨a2, 1, t398, 0⟩ : S59)] : List (S59))), t399)) = some (r1, r2) := H
    have A13 := am A130
    clear A130
    obtain ⟨y400, hy400⟩ : ∃ y_ : List (S59), y_ = (([(⟨a2, 1, t398, 0⟩ : S59)] : List (S59))) := ⟨_, rfl⟩
    replace H : (some (y400, t399)) = some (r1, r2) := by first | (rw [hy400]; with_reducible exact H) | (have H2_ := (Option.bind_some _ _).symm.trans H; rw [hy400]; with_reducible exact H2_) | (have H2_ := (Option.bind_some _ _).symm.trans H; with_reducible exact H2_) | with_reducible exact H | (rw [hy400]; exact H) | exact H
    have Ny400 := am hy400
    clear hy400
    simp only [Option.some.injEq, Prod.mk.injEq] at H
    obtain ⟨rfl, rfl⟩ := H
    go_wp2_with (first | ((with_reducible refine gate_dst (N := 10) rfl ?_); refine bE (N := 10) (cs := #[.int .i64 0, .int .i64 0, .int .i64 0, .int .i64 0]) (t := 59) ?_; intro gb394 hg w14 hbox hb; have BK394 := am (hbox); have GW394 := am ((Y54 : w.heap.size ≤ gb394)); have GE394 := am ((Nat.le_trans HW0.out (Y54 : w.heap.size ≤ gb394) : w0.heap.size ≤ gb394)); have NB389_394 := am ((Y87 : gb389 ≠ gb394)); have NB394_389 := am ((Y88 : gb394 ≠ gb389)); have NB0_394 := am ((Y89 : g ≠ gb394)); have NB394_0 := am ((Y90 : gb394 ≠ g)); replace BK389 := am (blk_below (g := gb389) (o := .cells #[.slice A1_0 l1_0.length c1_0] 32 (0, 0)) (kq BK389.out) hb); replace HK := am (KeepBut.trans (Y53) (KeepBut.of_below hb g none) (.inl rfl)); replace HB := am (below_step (Y52) hb); replace HI0 := am (IsS106.below (Y51) hb); clear hb hbox hg; have hnb15 := NB394_389.out; have hnc15 := NB389_394.out; have hnb16 := NB394_0.out; have hnc16 := NB0_394.out; have hcz17_0 := bc0 BK394.out; have hcz17_1 := bc1 BK394.out; have hcz17_2 := bc2 BK394.out; have hcz17_3 := bc3 BK394.out; have hfz17_0 := blk_frozen BK394.out 0; have hfz17_1 := blk_frozen BK394.out 1; have hfz17_2 := blk_frozen BK394.out 2; have hfz17_3 := blk_frozen BK394.out 3) | ((with_reducible refine gate_dst (N := 29) rfl ?_); refine Kd.R_lit (Kd.int .i64) _ 3 ?hg (N := 29) ?hd (xs := ([1, 2, 3, 4, 5] : List Int)) (inner := [.int .i64 1, .int .i64 2, .int .i64 3, .int .i64 4, .int .i64 5]) (ok := fun _ => True) (okp := fun _ => True) ?hr ?hp (fun _ hk => hk) trivial (Below.refl _ _) (Nat.le_refl _) (by simp) ?_; (case hd => rfl); (case hg => rfl); (case hr => exact Y5); (case hp => exact (Reps.one (show Kd.M (Kd.int .i64) _ _ _ 1 [.int .i64 1] from rfl) (Reps.one (show Kd.M (Kd.int .i64) _ _ _ 2 [.int .i64 2] from rfl) (Reps.one (show Kd.M (Kd.int .i64) _ _ _ 3 [.int .i64 3] from rfl) (Reps.one (show Kd.M (Kd.int .i64) _ _ _ 4 [.int .i64 4] from rfl) (Reps.one (show Kd.M (Kd.int .i64) _ _ _ 5 [.int .i64 5] from rfl) (Reps.none _ _))))))); intro v396 w18 ho19 hb hg_ hnew_; clear hg_ hnew_; (first | rw [← Ny395.out] at ho19 | (simp only [Int.reduceToNat] at ho19; rw [← Ny395.out] at ho19)); have HO397 := am (Kd.R_lower ho19 (keep_size (w := w) (g := g) (row := none) (Y1))); replace BK389 := am (blk_below (g := gb389) (o := .cells #[.slice A1_0 l1_0.length c1_0] 32 (0, 0)) (Y102) hb); replace BK394 := am (blk_below (g := gb394) (o := .cells #[.int .i64 a2, .int .i64 1, .int .i64 0, .int .i64 0] 59 (0, 0)) (Y91) hb); replace HK := am (KeepBut.trans (Y1) (KeepBut.of_below hb g none) (.inl rfl)); replace HB := am (below_step (Y6) hb); replace HI0 := am (IsS106.below (show IsS106 w0 (((((w14.setCell ⟨gb394, 0, none⟩ (.int .i64 a2)).setCell ⟨gb394, 1, none⟩ (.int .i64 0)).setCell ⟨gb394, 2, none⟩ (.int .i64 0)).setCell ⟨gb394, 3, none⟩ (.int .i64 0)).setCell ⟨gb394, 1, none⟩ (.int .i64 1)) g s0_0 x1001_5 from Y3) hb); clear hb ho19; obtain ⟨Ao20, co20, eo20⟩ := Kd.R_slice HO397.out; subst eo20) | ((with_reducible refine gate_callee (f := 56) rfl ?_); refine gL (some 30) Try.func56 #[.pointer (some ⟨g, 0, none⟩), .slice Ao20 y395.length co20] ?_; (with_reducible refine (spec_reader_one.calls kj5 g s0_0 x1001_5 _ _ y395 t398 t399 w0 _ ?side1 ?side2 ?side3 ?side4 ?side5 A13.out).mono ?_); (case side1 => exact Y3); (case side2 => exact Y6); (case side3 => exact cq (Kd.R_reads' HO397.out).2.2); (case side4 => exact (Kd.R_reads' HO397.out).2.1); (case side5 => exact far_slice (IsS106.own_ne HI0.out HO397.out (by decide))); rintro e w21 ⟨rfl, hi, hb, hk⟩; refine ⟨_, rfl, ?_⟩; replace BK389 := am (KeepBut.blk hk (g' := gb389) (o := .cells #[.slice A1_0 l1_0.length c1_0] 32 (0, 0)) (kq BK389.out) NB389_0.out (by simp)); replace BK394 := am (KeepBut.blk hk (g' := gb394) (o := .cells #[.int .i64 a2, .int .i64 1, .int .i64 0, .int .i64 0] 59 (0, 0)) (kq BK394.out) NB394_0.out (by simp)); replace HO397 := am (Kd.R_mono (Kd.R_keep (IsS106.apart (show IsS106 w0 _ g s0_0 x1001_5 from Y3) (rq HO397.out) (by decide)) hk (fun _ h => h.2)) (fun _ h => h.1)); replace HK := am (KeepBut.trans (Y1) hk (.inl rfl)); replace HB := am (hb); replace HI0 := am (hi); (try clear hb); (try clear hb2); (try clear hk); (try clear hi); have hcz22_0 := bc0 BK394.out; have hcz22_1 := bc1 BK394.out; have hcz22_2 := bc2 BK394.out; have hcz22_3 := bc3 BK394.out; have hfz22_0 := blk_frozen BK394.out 0; have hfz22_1 := blk_frozen BK394.out 1; have hfz22_2 := blk_frozen BK394.out 2; have hfz22_3 := blk_frozen BK394.out 3) | ((with_reducible refine gate_dst (N := 108) rfl ?_); refine Kd.R_lit k59 _ 59 ?hg (N := 108) ?hd (xs := ([(⟨a2, 1, t398, 0⟩ : S59)] : List (S59))) (inner := [.int .i64 a2, .int .i64 1, .int .i64 t398, .int .i64 0]) (ok := fun _ => True) (okp := fun _ => True) ?hr ?hp (fun _ hk => hk) trivial (Below.refl _ _) (Nat.le_refl _) (by simp) ?_; (case hd => rfl); (case hg => rfl); (case hr => exact Y5); (case hp => exact (Reps.c4 (show Kd.M k59 _ _ _ (⟨a2, 1, t398, 0⟩ : S59) [.int .i64 a2, .int .i64 1, .int .i64 t398, .int .i64 0] from (k59_mkM _ _ _ (⟨a2, 1, t398, 0⟩ : S59) )) (Reps.none _ _))); intro v401 w23 ho24 hb hg_ hnew_; clear hg_ hnew_; (first | rw [← Ny400.out] at ho24 | (simp only [Int.reduceToNat] at ho24; rw [← Ny400.out] at ho24)); have HO402 := am (Kd.R_lower (Kd.R_newB ho24 (g := gb394) (o := .cells #[.int .i64 a2, .int .i64 1, .int .i64 t398, .int .i64 0] 59 (0, 0)) (Y110)) (keep_size (w := w) (g := g) (row := none) (Y1))); replace HO397 := am (Kd.R_below (by (with_reducible repeat (first | apply Kd.R_alloc | apply Kd.R_drewN | apply Kd.R_drew)); exact (Kd.R_mono (Kd.R_far (p := ⟨gb394, 2, none⟩) (Kd.R_types HO397.out BK394.out (by decide)) (fun _ hk => hk.2) (.int .i64 t398)) (fun _ h_ => h_.1))) hb); replace BK389 := am (blk_below (g := gb389) (o := .cells #[.slice A1_0 l1_0.length c1_0] 32 (0, 0)) (Y44) hb); replace BK394 := am (blk_below (g := gb394) (o := .cells #[.int .i64 a2, .int .i64 1, .int .i64 t398, .int .i64 0] 59 (0, 0)) (Y110) hb); replace HK := am (KeepBut.trans (Y1) (KeepBut.of_below hb g none) (.inl rfl)); replace HB := am (below_step (Y6) hb); replace HI0 := am (IsS106.below (show IsS106 w0 (w21.setCell ⟨gb394, 2, none⟩ (.int .i64 t398)) g s0_0 t399 from Y3) hb); clear hb ho24))
    go_ret
    exact ⟨_, Y0, by (with_reducible repeat (first | apply Kd.R_alloc | apply Kd.R_drewN | apply Kd.R_drew)); exact Kd.R_mono HO402.out (fun _ hk => trivial), Y3, Y6, Y1⟩
   ·rw [if_neg c12] at H
    have c12b0 : decide (x9_5 < 4) = false := decide_eq_false c12
    clear c12
    by_cases c25 : x9_5 < 6
    ·rw [if_pos c25] at H
     have c25b0 : decide (x9_5 < 6) = true := decide_eq_true c25
     clear c25
     replace H := Option.bind_eq_some_iff.mp H
     obtain ⟨⟨t403, t404⟩, A260, H⟩ := H
     replace H : ((spec_reader_one.f kj5 s0_0 t404 (([1, 2, 3] : List Int))).bind fun bt408 => (some ((([(⟨a2, 2, t403, bt408.1⟩ : S59)] : List (S59))), bt408.2))) = some (r1, r2) := H
     have A26 := am A260
     clear A260
     obtain ⟨y405, hy405⟩ : ∃ y_ : List Int, y_ = (([1, 2, 3] : List Int)) := ⟨_, rfl⟩
     replace H : ((spec_reader_one.f kj5 s0_0 t404 y405).bind fun bt408 => (some ((([(⟨a2, 2, t403, bt408.1⟩ : S59)] : List (S59))), bt408.2))) = some (r1, r2) := by first | (rw [hy405]; with_reducible exact H) | (have H2_ := (Option.bind_some _ _).symm.trans H; rw [hy405]; with_reducible exact H2_) | (have H2_ := (Option.bind_some _ _).symm.trans H; with_reducible exact H2_) | with_reducible exact H | (rw [hy405]; exact H) | exact H
     have Ny405 := am hy405
     clear hy405
     replace H := Option.bind_eq_some_iff.mp H
     obtain ⟨⟨t408, t409⟩, A270, H⟩ := H
     replace H : (some ((([(⟨a2, 2, t403, t408⟩ : S59)] : List (S59))), t409)) = some (r1, r2) := H
     have A27 := am A270
     clear A270
     obtain ⟨y410, hy410⟩ : ∃ y_ : List (S59), y_ = (([(⟨a2, 2, t403, t408⟩ : S59)] : List (S59))) := ⟨_, rfl⟩
     replace H : (some (y410, t409)) = some (r1, r2) := by first | (rw [hy410]; with_reducible exact H) | (have H2_ := (Option.bind_some _ _).symm.trans H; rw [hy410]; with_reducible exact H2_) | (have H2_ := (Option.bind_some _ _).symm.trans H; with_reducible exact H2_) | with_reducible exact H | (rw [hy410]; exact H) | exact H
     have Ny410 := am hy410
     clear hy410
     simp only [Option.some.injEq, Prod.mk.injEq] at H
     obtain ⟨rfl, rfl⟩ := H
     go_wp2_with (first | ((with_reducible refine gate_dst (N := 10) rfl ?_); refine bE (N := 10) (cs := #[.int .i64 0, .int .i64 0, .int .i64 0, .int .i64 0]) (t := 59) ?_; intro gb394 hg w28 hbox hb; have BK394 := am (hbox); have GW394 := am ((Y54 : w.heap.size ≤ gb394)); have GE394 := am ((Nat.le_trans HW0.out (Y54 : w.heap.size ≤ gb394) : w0.heap.size ≤ gb394)); have NB389_394 := am ((Y87 : gb389 ≠ gb394)); have NB394_389 := am ((Y88 : gb394 ≠ gb389)); have NB0_394 := am ((Y89 : g ≠ gb394)); have NB394_0 := am ((Y90 : gb394 ≠ g)); replace BK389 := am (blk_below (g := gb389) (o := .cells #[.slice A1_0 l1_0.length c1_0] 32 (0, 0)) (kq BK389.out) hb); replace HK := am (KeepBut.trans (Y53) (KeepBut.of_below hb g none) (.inl rfl)); replace HB := am (below_step (Y52) hb); replace HI0 := am (IsS106.below (Y51) hb); clear hb hbox hg; have hnb29 := NB394_389.out; have hnc29 := NB389_394.out; have hnb30 := NB394_0.out; have hnc30 := NB0_394.out; have hcz31_0 := bc0 BK394.out; have hcz31_1 := bc1 BK394.out; have hcz31_2 := bc2 BK394.out; have hcz31_3 := bc3 BK394.out; have hfz31_0 := blk_frozen BK394.out 0; have hfz31_1 := blk_frozen BK394.out 1; have hfz31_2 := blk_frozen BK394.out 2; have hfz31_3 := blk_frozen BK394.out 3; have hnb32 := NB389_0.out; have hnc32 := NB0_389.out; have hcz33_0 := bc0 BK389.out; have hfz33_0 := blk_frozen BK389.out 0) | ((with_reducible refine gate_callee (f := 55) rfl ?_); refine gL (some 40) Try.func55 #[.pointer (some ⟨g, 0, none⟩), .int .i64 (l1_0.length : Int)] ?_; (with_reducible refine (spec_reader_pick.calls kj5 g s0_0 x1001_5 (l1_0.length : Int) t403 t404 w0 _ ?side1 ?side2 A26.out).mono ?_); (case side1 => exact Y3); (case side2 => exact Y6); rintro e w34 ⟨rfl, hi, hb, hk⟩; refine ⟨_, rfl, ?_⟩; replace BK389 := am (KeepBut.blk hk (g' := gb389) (o := .cells #[.slice A1_0 l1_0.length c1_0] 32 (0, 0)) (Y102) NB389_0.out (by simp)); replace BK394 := am (KeepBut.blk hk (g' := gb394) (o := .cells #[.int .i64 a2, .int .i64 2, .int .i64 0, .int .i64 0] 59 (0, 0)) (Y91) NB394_0.out (by simp)); replace HK := am (KeepBut.trans (Y1) hk (.inl rfl)); replace HB := am (hb); replace HI0 := am (hi); (try clear hb); (try clear hb2); (try clear hk); (try clear hi); have hcz35_0 := bc0 BK394.out; have hcz35_1 := bc1 BK394.out; have hcz35_2 := bc2 BK394.out; have hcz35_3 := bc3 BK394.out; have hfz35_0 := blk_frozen BK394.out 0; have hfz35_1 := blk_frozen BK394.out 1; have hfz35_2 := blk_frozen BK394.out 2; have hfz35_3 := blk_frozen BK394.out 3) | ((with_reducible refine gate_dst (N := 43) rfl ?_); refine Kd.R_lit (Kd.int .i64) _ 3 ?hg (N := 43) ?hd (xs := ([1, 2, 3] : List Int)) (inner := [.int .i64 1, .int .i64 2, .int .i64 3]) (ok := fun _ => True) (okp := fun _ => True) ?hr ?hp (fun _ hk => hk) trivial (Below.refl _ _) (Nat.le_refl _) (by simp) ?_; (case hd => rfl); (case hg => rfl); (case hr => exact Y5); (case hp => exact (Reps.one (show Kd.M (Kd.int .i64) _ _ _ 1 [.int .i64 1] from rfl) (Reps.one (show Kd.M (Kd.int .i64) _ _ _ 2 [.int .i64 2] from rfl) (Reps.one (show Kd.M (Kd.int .i64) _ _ _ 3 [.int .i64 3] from rfl) (Reps.none _ _))))); intro v406 w36 ho37 hb hg_ hnew_; clear hg_ hnew_; (first | rw [← Ny405.out] at ho37 | (simp only [Int.reduceToNat] at ho37; rw [← Ny405.out] at ho37)); have HO407 := am (Kd.R_lower ho37 (keep_size (w := w) (g := g) (row := none) (Y1))); replace BK389 := am (blk_below (g := gb389) (o := .cells #[.slice A1_0 l1_0.length c1_0] 32 (0, 0)) (Y44) hb); replace BK394 := am (blk_below (g := gb394) (o := .cells #[.int .i64 a2, .int .i64 2, .int .i64 t403, .int .i64 0] 59 (0, 0)) (by (with_reducible repeat (first | refine blk_drewN ?_ _ | refine blk_drew ?_ | refine blk_alloc ?_ _)); refine blk_put (cs := #[.int .i64 a2, .int .i64 2, .int .i64 0, .int .i64 0]) ?_ 2 _ rfl; (with_reducible repeat (first | refine blk_drewN ?_ _ | refine blk_drew ?_ | refine blk_alloc ?_ _)); exact BK394.out) hb); replace HK := am (KeepBut.trans (Y1) (KeepBut.of_below hb g none) (.inl rfl)); replace HB := am (below_step (Y6) hb); replace HI0 := am (IsS106.below (show IsS106 w0 (w34.setCell ⟨gb394, 2, none⟩ (.int .i64 t403)) g s0_0 t404 from Y3) hb); clear hb ho37; obtain ⟨Ao38, co38, eo38⟩ := Kd.R_slice HO407.out; subst eo38) | ((with_reducible refine gate_callee (f := 56) rfl ?_); refine gL (some 44) Try.func56 #[.pointer (some ⟨g, 0, none⟩), .slice Ao38 y405.length co38] ?_; (with_reducible refine (spec_reader_one.calls kj5 g s0_0 t404 _ _ y405 t408 t409 w0 _ ?side1 ?side2 ?side3 ?side4 ?side5 A27.out).mono ?_); (case side1 => exact Y3); (case side2 => exact Y6); (case side3 => exact cq (Kd.R_reads' HO407.out).2.2); (case side4 => exact (Kd.R_reads' HO407.out).2.1); (case side5 => exact far_slice (IsS106.own_ne HI0.out HO407.out (by decide))); rintro e w39 ⟨rfl, hi, hb, hk⟩; refine ⟨_, rfl, ?_⟩; replace BK389 := am (KeepBut.blk hk (g' := gb389) (o := .cells #[.slice A1_0 l1_0.length c1_0] 32 (0, 0)) (kq BK389.out) NB389_0.out (by simp)); replace BK394 := am (KeepBut.blk hk (g' := gb394) (o := .cells #[.int .i64 a2, .int .i64 2, .int .i64 t403, .int .i64 0] 59 (0, 0)) (kq BK394.out) NB394_0.out (by simp)); replace HO407 := am (Kd.R_mono (Kd.R_keep (IsS106.apart (show IsS106 w0 _ g s0_0 t404 from Y3) (rq HO407.out) (by decide)) hk (fun _ h => h.2)) (fun _ h => h.1)); replace HK := am (KeepBut.trans (Y1) hk (.inl rfl)); replace HB := am (hb); replace HI0 := am (hi); (try clear hb); (try clear hb2); (try clear hk); (try clear hi); have hcz40_0 := bc0 BK394.out; have hcz40_1 := bc1 BK394.out; have hcz40_2 := bc2 BK394.out; have hcz40_3 := bc3 BK394.out; have hfz40_0 := blk_frozen BK394.out 0; have hfz40_1 := blk_frozen BK394.out 1; have hfz40_2 := blk_frozen BK394.out 2; have hfz40_3 := blk_frozen BK394.out 3) | ((with_reducible refine gate_dst (N := 108) rfl ?_); refine Kd.R_lit k59 _ 59 ?hg (N := 108) ?hd (xs := ([(⟨a2, 2, t403, t408⟩ : S59)] : List (S59))) (inner := [.int .i64 a2, .int .i64 2, .int .i64 t403, .int .i64 t408]) (ok := fun _ => True) (okp := fun _ => True) ?hr ?hp (fun _ hk => hk) trivial (Below.refl _ _) (Nat.le_refl _) (by simp) ?_; (case hd => rfl); (case hg => rfl); (case hr => exact Y5); (case hp => exact (Reps.c4 (show Kd.M k59 _ _ _ (⟨a2, 2, t403, t408⟩ : S59) [.int .i64 a2, .int .i64 2, .int .i64 t403, .int .i64 t408] from (k59_mkM _ _ _ (⟨a2, 2, t403, t408⟩ : S59) )) (Reps.none _ _))); intro v411 w41 ho42 hb hg_ hnew_; clear hg_ hnew_; (first | rw [← Ny410.out] at ho42 | (simp only [Int.reduceToNat] at ho42; rw [← Ny410.out] at ho42)); have HO412 := am (Kd.R_lower (Kd.R_newB ho42 (g := gb394) (o := .cells #[.int .i64 a2, .int .i64 2, .int .i64 t403, .int .i64 t408] 59 (0, 0)) (Y111)) (keep_size (w := w) (g := g) (row := none) (Y1))); replace HO407 := am (Kd.R_below (by (with_reducible repeat (first | apply Kd.R_alloc | apply Kd.R_drewN | apply Kd.R_drew)); exact (Kd.R_mono (Kd.R_far (p := ⟨gb394, 3, none⟩) (Kd.R_types HO407.out BK394.out (by decide)) (fun _ hk => hk.2) (.int .i64 t408)) (fun _ h_ => h_.1))) hb); replace BK389 := am (blk_below (g := gb389) (o := .cells #[.slice A1_0 l1_0.length c1_0] 32 (0, 0)) (Y44) hb); replace BK394 := am (blk_below (g := gb394) (o := .cells #[.int .i64 a2, .int .i64 2, .int .i64 t403, .int .i64 t408] 59 (0, 0)) (Y111) hb); replace HK := am (KeepBut.trans (Y1) (KeepBut.of_below hb g none) (.inl rfl)); replace HB := am (below_step (Y6) hb); replace HI0 := am (IsS106.below (show IsS106 w0 (w39.setCell ⟨gb394, 3, none⟩ (.int .i64 t408)) g s0_0 t409 from Y3) hb); clear hb ho42))
     go_ret
     exact ⟨_, Y0, by (with_reducible repeat (first | apply Kd.R_alloc | apply Kd.R_drewN | apply Kd.R_drew)); exact Kd.R_mono HO412.out (fun _ hk => trivial), Y3, Y6, Y1⟩
    ·rw [if_neg c25] at H
     have c25b0 : decide (x9_5 < 6) = false := decide_eq_false c25
     clear c25
     by_cases c43 : x9_5 = 6
     ·rw [if_pos c43] at H
      have c43b0 : (x9_5 == 6) = true := beq_iff_eq.mpr c43
      have c43b1 : (x9_5 != 6) = false := bne_eq_false_iff_eq.mpr c43
      clear c43
      obtain ⟨y413, hy413⟩ : ∃ y_ : List (S59), y_ = (([(⟨a2, 3, 0, 0⟩ : S59)] : List (S59))) := ⟨_, rfl⟩
      replace H : (some (y413, x1001_5)) = some (r1, r2) := by first | (rw [hy413]; with_reducible exact H) | (have H2_ := (Option.bind_some _ _).symm.trans H; rw [hy413]; with_reducible exact H2_) | (have H2_ := (Option.bind_some _ _).symm.trans H; with_reducible exact H2_) | with_reducible exact H | (rw [hy413]; exact H) | exact H
      have Ny413 := am hy413
      clear hy413
      simp only [Option.some.injEq, Prod.mk.injEq] at H
      obtain ⟨rfl, rfl⟩ := H
      go_wp2_with (first | ((with_reducible refine gate_dst (N := 10) rfl ?_); refine bE (N := 10) (cs := #[.int .i64 0, .int .i64 0, .int .i64 0, .int .i64 0]) (t := 59) ?_; intro gb394 hg w44 hbox hb; have BK394 := am (hbox); have GW394 := am ((Y54 : w.heap.size ≤ gb394)); have GE394 := am ((Nat.le_trans HW0.out (Y54 : w.heap.size ≤ gb394) : w0.heap.size ≤ gb394)); have NB389_394 := am ((Y87 : gb389 ≠ gb394)); have NB394_389 := am ((Y88 : gb394 ≠ gb389)); have NB0_394 := am ((Y89 : g ≠ gb394)); have NB394_0 := am ((Y90 : gb394 ≠ g)); replace BK389 := am (blk_below (g := gb389) (o := .cells #[.slice A1_0 l1_0.length c1_0] 32 (0, 0)) (kq BK389.out) hb); replace HK := am (KeepBut.trans (Y53) (KeepBut.of_below hb g none) (.inl rfl)); replace HB := am (below_step (Y52) hb); replace HI0 := am (IsS106.below (Y51) hb); clear hb hbox hg; have hnb45 := NB394_389.out; have hnc45 := NB389_394.out; have hnb46 := NB394_0.out; have hnc46 := NB0_394.out; have hcz47_0 := bc0 BK394.out; have hcz47_1 := bc1 BK394.out; have hcz47_2 := bc2 BK394.out; have hcz47_3 := bc3 BK394.out; have hfz47_0 := blk_frozen BK394.out 0; have hfz47_1 := blk_frozen BK394.out 1; have hfz47_2 := blk_frozen BK394.out 2; have hfz47_3 := blk_frozen BK394.out 3) | ((with_reducible refine gate_dst (N := 108) rfl ?_); refine Kd.R_lit k59 _ 59 ?hg (N := 108) ?hd (xs := ([(⟨a2, 3, 0, 0⟩ : S59)] : List (S59))) (inner := [.int .i64 a2, .int .i64 3, .int .i64 0, .int .i64 0]) (ok := fun _ => True) (okp := fun _ => True) ?hr ?hp (fun _ hk => hk) trivial (Below.refl _ _) (Nat.le_refl _) (by simp) ?_; (case hd => rfl); (case hg => rfl); (case hr => exact Y5); (case hp => exact (Reps.c4 (show Kd.M k59 _ _ _ (⟨a2, 3, 0, 0⟩ : S59) [.int .i64 a2, .int .i64 3, .int .i64 0, .int .i64 0] from (k59_mkM _ _ _ (⟨a2, 3, 0, 0⟩ : S59) )) (Reps.none _ _))); intro v414 w48 ho49 hb hg_ hnew_; clear hg_ hnew_; (first | rw [← Ny413.out] at ho49 | (simp only [Int.reduceToNat] at ho49; rw [← Ny413.out] at ho49)); have HO415 := am (Kd.R_lower (Kd.R_newB ho49 (g := gb394) (o := .cells #[.int .i64 a2, .int .i64 3, .int .i64 0, .int .i64 0] 59 (0, 0)) (Y91)) (keep_size (w := w) (g := g) (row := none) (Y1))); replace BK389 := am (blk_below (g := gb389) (o := .cells #[.slice A1_0 l1_0.length c1_0] 32 (0, 0)) (Y102) hb); replace BK394 := am (blk_below (g := gb394) (o := .cells #[.int .i64 a2, .int .i64 3, .int .i64 0, .int .i64 0] 59 (0, 0)) (Y91) hb); replace HK := am (KeepBut.trans (Y1) (KeepBut.of_below hb g none) (.inl rfl)); replace HB := am (below_step (Y6) hb); replace HI0 := am (IsS106.below (show IsS106 w0 (((((w44.setCell ⟨gb394, 0, none⟩ (.int .i64 a2)).setCell ⟨gb394, 1, none⟩ (.int .i64 0)).setCell ⟨gb394, 2, none⟩ (.int .i64 0)).setCell ⟨gb394, 3, none⟩ (.int .i64 0)).setCell ⟨gb394, 1, none⟩ (.int .i64 3)) g s0_0 x1001_5 from Y3) hb); clear hb ho49))
      go_ret
      exact ⟨_, Y0, by (with_reducible repeat (first | apply Kd.R_alloc | apply Kd.R_drewN | apply Kd.R_drew)); exact Kd.R_mono HO415.out (fun _ hk => trivial), Y3, Y6, Y1⟩
     ·rw [if_neg c43] at H
      have c43b0 : (x9_5 == 6) = false := beq_eq_false_iff_ne.mpr c43
      have c43b1 : (x9_5 != 6) = true := bne_iff_ne.mpr c43
      have HC50 := am H
      clear H
      go_upto_region 15 with (first | ((with_reducible refine gate_dst (N := 10) rfl ?_); refine bE (N := 10) (cs := #[.int .i64 0, .int .i64 0, .int .i64 0, .int .i64 0]) (t := 59) ?_; intro gb394 hg w51 hbox hb; have BK394 := am (hbox); have GW394 := am ((Y54 : w.heap.size ≤ gb394)); have GE394 := am ((Nat.le_trans HW0.out (Y54 : w.heap.size ≤ gb394) : w0.heap.size ≤ gb394)); have NB389_394 := am ((Y87 : gb389 ≠ gb394)); have NB394_389 := am ((Y88 : gb394 ≠ gb389)); have NB0_394 := am ((Y89 : g ≠ gb394)); have NB394_0 := am ((Y90 : gb394 ≠ g)); replace BK389 := am (blk_below (g := gb389) (o := .cells #[.slice A1_0 l1_0.length c1_0] 32 (0, 0)) (kq BK389.out) hb); replace HK := am (KeepBut.trans (Y53) (KeepBut.of_below hb g none) (.inl rfl)); replace HB := am (below_step (Y52) hb); replace HI0 := am (IsS106.below (Y51) hb); clear hb hbox hg; have hnb52 := NB394_389.out; have hnc52 := NB389_394.out; have hnb53 := NB394_0.out; have hnc53 := NB0_394.out; have hcz54_0 := bc0 BK394.out; have hcz54_1 := bc1 BK394.out; have hcz54_2 := bc2 BK394.out; have hcz54_3 := bc3 BK394.out; have hfz54_0 := blk_frozen BK394.out 0; have hfz54_1 := blk_frozen BK394.out 1; have hfz54_2 := blk_frozen BK394.out 2; have hfz54_3 := blk_frozen BK394.out 3))
      (try simp only [Act.put, List.setIfInBounds_toArray, List.set_cons_zero, List.set_cons_succ])
      go_cut [50] (fun v50 wc => ∃ (kq : Nat) (x50_49 : Bool), v50 = .bool x50_49 ∧ Aside0 (spec_aStatement.j1 kq a2 a3 x9_5 x50_49 s0_0 x1001_5 l1_0 a2 0 0 0 = some (r1, r2)) ∧ Aside0 (kq ≤ kj5) ∧ Aside0 (wc.heap[gb389]? = some (.cells #[(.slice A1_0 l1_0.length c1_0)] 32 (0, 0))) ∧ Aside0 (wc.heap[gb394]? = some (.cells #[.int .i64 a2, .int .i64 0, .int .i64 0, .int .i64 0] 59 (0, 0))) ∧ Aside0 (IsS106 w0 wc g s0_0 x1001_5) ∧ Aside0 (KeepBut w wc g none) ∧ Aside0 (Below w0.heap.size w0 wc))
      case first =>
       have H := HC50.out
       clear HC50
       by_cases c55 : x9_5 = 7
       ·rw [if_pos c55] at H
        have c55b0 : (x9_5 == 7) = true := beq_iff_eq.mpr c55
        have c55b1 : (x9_5 != 7) = false := bne_eq_false_iff_eq.mpr c55
        clear c55
        (first | rw [c55b0] | (simp only [i64_w, i32_w]; rw [c55b0]) | skip)
        have H' := am H
        clear H
        go_wp2
        go_meet
        case rel => exact ⟨_, (a3), (sq), H', ⟨by have := HJ5.out; first | omega | exact Nat.le_refl _⟩, ⟨by (with_reducible repeat (first | refine blk_drewN ?_ _ | refine blk_drew ?_ | refine blk_alloc ?_ _)); refine blk_far ?_ NB389_394.out _; (with_reducible repeat (first | refine blk_drewN ?_ _ | refine blk_drew ?_ | refine blk_alloc ?_ _)); refine blk_far ?_ NB389_394.out _; (with_reducible repeat (first | refine blk_drewN ?_ _ | refine blk_drew ?_ | refine blk_alloc ?_ _)); refine blk_far ?_ NB389_394.out _; (with_reducible repeat (first | refine blk_drewN ?_ _ | refine blk_drew ?_ | refine blk_alloc ?_ _)); refine blk_far ?_ NB389_394.out _; (with_reducible repeat (first | refine blk_drewN ?_ _ | refine blk_drew ?_ | refine blk_alloc ?_ _)); exact BK389.out⟩, ⟨by (with_reducible repeat (first | refine blk_drewN ?_ _ | refine blk_drew ?_ | refine blk_alloc ?_ _)); refine blk_put (cs := #[.int .i64 a2, .int .i64 0, .int .i64 0, .int .i64 0]) ?_ 3 _ rfl; (with_reducible repeat (first | refine blk_drewN ?_ _ | refine blk_drew ?_ | refine blk_alloc ?_ _)); refine blk_put (cs := #[.int .i64 a2, .int .i64 0, .int .i64 0, .int .i64 0]) ?_ 2 _ rfl; (with_reducible repeat (first | refine blk_drewN ?_ _ | refine blk_drew ?_ | refine blk_alloc ?_ _)); refine blk_put (cs := #[.int .i64 a2, .int .i64 0, .int .i64 0, .int .i64 0]) ?_ 1 _ rfl; (with_reducible repeat (first | refine blk_drewN ?_ _ | refine blk_drew ?_ | refine blk_alloc ?_ _)); refine blk_put (cs := #[.int .i64 0, .int .i64 0, .int .i64 0, .int .i64 0]) ?_ 0 _ rfl; (with_reducible repeat (first | refine blk_drewN ?_ _ | refine blk_drew ?_ | refine blk_alloc ?_ _)); exact BK394.out⟩, ⟨Y3⟩, ⟨Y1⟩, ⟨Y6⟩⟩
       ·rw [if_neg c55] at H
        have c55b0 : (x9_5 == 7) = false := beq_eq_false_iff_ne.mpr c55
        have c55b1 : (x9_5 != 7) = true := bne_iff_ne.mpr c55
        (first | rw [c55b0] | (simp only [i64_w, i32_w]; rw [c55b0]) | skip)
        have H' := am H
        clear H
        go_wp2
        go_meet
        case rel => exact ⟨_, (false), (sq), H', ⟨by have := HJ5.out; first | omega | exact Nat.le_refl _⟩, ⟨by (with_reducible repeat (first | refine blk_drewN ?_ _ | refine blk_drew ?_ | refine blk_alloc ?_ _)); refine blk_far ?_ NB389_394.out _; (with_reducible repeat (first | refine blk_drewN ?_ _ | refine blk_drew ?_ | refine blk_alloc ?_ _)); refine blk_far ?_ NB389_394.out _; (with_reducible repeat (first | refine blk_drewN ?_ _ | refine blk_drew ?_ | refine blk_alloc ?_ _)); refine blk_far ?_ NB389_394.out _; (with_reducible repeat (first | refine blk_drewN ?_ _ | refine blk_drew ?_ | refine blk_alloc ?_ _)); refine blk_far ?_ NB389_394.out _; (with_reducible repeat (first | refine blk_drewN ?_ _ | refine blk_drew ?_ | refine blk_alloc ?_ _)); exact BK389.out⟩, ⟨by (with_reducible repeat (first | refine blk_drewN ?_ _ | refine blk_drew ?_ | refine blk_alloc ?_ _)); refine blk_put (cs := #[.int .i64 a2, .int .i64 0, .int .i64 0, .int .i64 0]) ?_ 3 _ rfl; (with_reducible repeat (first | refine blk_drewN ?_ _ | refine blk_drew ?_ | refine blk_alloc ?_ _)); refine blk_put (cs := #[.int .i64 a2, .int .i64 0, .int .i64 0, .int .i64 0]) ?_ 2 _ rfl; (with_reducible repeat (first | refine blk_drewN ?_ _ | refine blk_drew ?_ | refine blk_alloc ?_ _)); refine blk_put (cs := #[.int .i64 a2, .int .i64 0, .int .i64 0, .int .i64 0]) ?_ 1 _ rfl; (with_reducible repeat (first | refine blk_drewN ?_ _ | refine blk_drew ?_ | refine blk_alloc ?_ _)); refine blk_put (cs := #[.int .i64 0, .int .i64 0, .int .i64 0, .int .i64 0]) ?_ 0 _ rfl; (with_reducible repeat (first | refine blk_drewN ?_ _ | refine blk_drew ?_ | refine blk_alloc ?_ _)); exact BK394.out⟩, ⟨Y3⟩, ⟨Y1⟩, ⟨Y6⟩⟩
      case rest =>
       clear HC50
       try clear c1
       try clear c2
       try clear p2
       try clear c3
       try clear c4
       try clear c5
       try clear c9
       try clear c9b0
       try clear c10
       try clear c12
       try clear c12b0
       try clear c15
       try clear c16
       try clear c25
       try clear c25b0
       try clear c29
       try clear c30
       try clear c32
       try clear c43
       try clear c43b0
       try clear c43b1
       try clear c45
       try clear c46
       try clear c52
       try clear c53
       try clear c55
       try clear c55b0
       try clear c55b1
       try clear hcz17_0
       try clear hcz17_1
       try clear hcz17_2
       try clear hcz17_3
       try clear hcz22_0
       try clear hcz22_1
       try clear hcz22_2
       try clear hcz22_3
       try clear hcz31_0
       try clear hcz31_1
       try clear hcz31_2
       try clear hcz31_3
       try clear hcz33_0
       try clear hcz35_0
       try clear hcz35_1
       try clear hcz35_2
       try clear hcz35_3
       try clear hcz40_0
       try clear hcz40_1
       try clear hcz40_2
       try clear hcz40_3
       try clear hcz47_0
       try clear hcz47_1
       try clear hcz47_2
       try clear hcz47_3
       try clear hcz54_0
       try clear hcz54_1
       try clear hcz54_2
       try clear hcz54_3
       try clear hfz17_0
       try clear hfz17_1
       try clear hfz17_2
       try clear hfz17_3
       try clear hfz22_0
       try clear hfz22_1
       try clear hfz22_2
       try clear hfz22_3
       try clear hfz31_0
       try clear hfz31_1
       try clear hfz31_2
       try clear hfz31_3
       try clear hfz33_0
       try clear hfz35_0
       try clear hfz35_1
       try clear hfz35_2
       try clear hfz35_3
       try clear hfz40_0
       try clear hfz40_1
       try clear hfz40_2
       try clear hfz40_3
       try clear hfz47_0
       try clear hfz47_1
       try clear hfz47_2
       try clear hfz47_3
       try clear hfz54_0
       try clear hfz54_1
       try clear hfz54_2
       try clear hfz54_3
       try clear p2
       obtain ⟨kq, x50_49, rfl, HA, HJ49, BK389, BK394, HI0, HK, HB⟩ := hcut
       cases kq with
       | zero => exact absurd HA.out (by simp [spec_aStatement.j1])
       | succ kj49 =>
        have H := HA.out
        clear HA
        simp only [spec_aStatement.j1] at H
        by_cases c56 : x50_49 = true
        ·subst c56
         have H1 : ((spec_reader_one.f kj49 s0_0 x1001_5 (([5, 6] : List Int))).bind fun bt419 => (some ((([(⟨a2, bt419.1, 0, 0⟩ : S59)] : List (S59))), bt419.2))) = some (r1, r2) := by rw [if_pos rfl] at H; exact H
         clear H
         have H := H1
         clear H1
         obtain ⟨y416, hy416⟩ : ∃ y_ : List Int, y_ = (([5, 6] : List Int)) := ⟨_, rfl⟩
         replace H : ((spec_reader_one.f kj49 s0_0 x1001_5 y416).bind fun bt419 => (some ((([(⟨a2, bt419.1, 0, 0⟩ : S59)] : List (S59))), bt419.2))) = some (r1, r2) := by first | (rw [hy416]; with_reducible exact H) | (have H2_ := (Option.bind_some _ _).symm.trans H; rw [hy416]; with_reducible exact H2_) | (have H2_ := (Option.bind_some _ _).symm.trans H; with_reducible exact H2_) | with_reducible exact H | (rw [hy416]; exact H) | exact H
         have Ny416 := am hy416
         clear hy416
         replace H := Option.bind_eq_some_iff.mp H
         obtain ⟨⟨t419, t420⟩, A570, H⟩ := H
         replace H : (some ((([(⟨a2, t419, 0, 0⟩ : S59)] : List (S59))), t420)) = some (r1, r2) := H
         have A57 := am A570
         clear A570
         obtain ⟨y421, hy421⟩ : ∃ y_ : List (S59), y_ = (([(⟨a2, t419, 0, 0⟩ : S59)] : List (S59))) := ⟨_, rfl⟩
         replace H : (some (y421, t420)) = some (r1, r2) := by first | (rw [hy421]; with_reducible exact H) | (have H2_ := (Option.bind_some _ _).symm.trans H; rw [hy421]; with_reducible exact H2_) | (have H2_ := (Option.bind_some _ _).symm.trans H; with_reducible exact H2_) | with_reducible exact H | (rw [hy421]; exact H) | exact H
         have Ny421 := am hy421
         clear hy421
         simp only [Option.some.injEq, Prod.mk.injEq] at H
         obtain ⟨rfl, rfl⟩ := H
         go_wp2_with (first | ((with_reducible refine gate_dst (N := 57) rfl ?_); refine Kd.R_lit (Kd.int .i64) _ 3 ?hg (N := 57) ?hd (xs := ([5, 6] : List Int)) (inner := [.int .i64 5, .int .i64 6]) (ok := fun _ => True) (okp := fun _ => True) ?hr ?hp (fun _ hk => hk) trivial (Below.refl _ _) (Nat.le_refl _) (by simp) ?_; (case hd => rfl); (case hg => rfl); (case hr => exact Y5); (case hp => exact (Reps.one (show Kd.M (Kd.int .i64) _ _ _ 5 [.int .i64 5] from rfl) (Reps.one (show Kd.M (Kd.int .i64) _ _ _ 6 [.int .i64 6] from rfl) (Reps.none _ _)))); intro v417 w58 ho59 hb hg_ hnew_; clear hg_ hnew_; (first | rw [← Ny416.out] at ho59 | (simp only [Int.reduceToNat] at ho59; rw [← Ny416.out] at ho59)); have HO418 := am (Kd.R_lower ho59 (keep_size (w := w) (g := g) (row := none) (Y1))); replace BK389 := am (blk_below (g := gb389) (o := .cells #[.slice A1_0 l1_0.length c1_0] 32 (0, 0)) (kq BK389.out) hb); replace BK394 := am (blk_below (g := gb394) (o := .cells #[.int .i64 a2, .int .i64 0, .int .i64 0, .int .i64 0] 59 (0, 0)) (kq BK394.out) hb); replace HK := am (KeepBut.trans (Y1) (KeepBut.of_below hb g none) (.inl rfl)); replace HB := am (below_step (Y6) hb); replace HI0 := am (IsS106.below (Y3) hb); clear hb ho59; obtain ⟨Ao60, co60, eo60⟩ := Kd.R_slice HO418.out; subst eo60) | ((with_reducible refine gate_callee (f := 56) rfl ?_); refine gL (some 58) Try.func56 #[.pointer (some ⟨g, 0, none⟩), .slice Ao60 y416.length co60] ?_; (with_reducible refine (spec_reader_one.calls kj49 g s0_0 x1001_5 _ _ y416 t419 t420 w0 _ ?side1 ?side2 ?side3 ?side4 ?side5 A57.out).mono ?_); (case side1 => exact Y3); (case side2 => exact Y6); (case side3 => exact cq (Kd.R_reads' HO418.out).2.2); (case side4 => exact (Kd.R_reads' HO418.out).2.1); (case side5 => exact far_slice (IsS106.own_ne HI0.out HO418.out (by decide))); rintro e w61 ⟨rfl, hi, hb, hk⟩; refine ⟨_, rfl, ?_⟩; replace BK389 := am (KeepBut.blk hk (g' := gb389) (o := .cells #[.slice A1_0 l1_0.length c1_0] 32 (0, 0)) (kq BK389.out) NB389_0.out (by simp)); replace BK394 := am (KeepBut.blk hk (g' := gb394) (o := .cells #[.int .i64 a2, .int .i64 0, .int .i64 0, .int .i64 0] 59 (0, 0)) (kq BK394.out) NB394_0.out (by simp)); replace HO418 := am (Kd.R_mono (Kd.R_keep (IsS106.apart (show IsS106 w0 _ g s0_0 x1001_5 from Y3) (rq HO418.out) (by decide)) hk (fun _ h => h.2)) (fun _ h => h.1)); replace HK := am (KeepBut.trans (Y1) hk (.inl rfl)); replace HB := am (hb); replace HI0 := am (hi); (try clear hb); (try clear hb2); (try clear hk); (try clear hi); have hnb62 := NB394_389.out; have hnc62 := NB389_394.out; have hnb63 := NB394_0.out; have hnc63 := NB0_394.out; have hcz64_0 := bc0 BK394.out; have hcz64_1 := bc1 BK394.out; have hcz64_2 := bc2 BK394.out; have hcz64_3 := bc3 BK394.out; have hfz64_0 := blk_frozen BK394.out 0; have hfz64_1 := blk_frozen BK394.out 1; have hfz64_2 := blk_frozen BK394.out 2; have hfz64_3 := blk_frozen BK394.out 3) | ((with_reducible refine gate_dst (N := 108) rfl ?_); refine Kd.R_lit k59 _ 59 ?hg (N := 108) ?hd (xs := ([(⟨a2, t419, 0, 0⟩ : S59)] : List (S59))) (inner := [.int .i64 a2, .int .i64 t419, .int .i64 0, .int .i64 0]) (ok := fun _ => True) (okp := fun _ => True) ?hr ?hp (fun _ hk => hk) trivial (Below.refl _ _) (Nat.le_refl _) (by simp) ?_; (case hd => rfl); (case hg => rfl); (case hr => exact Y5); (case hp => exact (Reps.c4 (show Kd.M k59 _ _ _ (⟨a2, t419, 0, 0⟩ : S59) [.int .i64 a2, .int .i64 t419, .int .i64 0, .int .i64 0] from (k59_mkM _ _ _ (⟨a2, t419, 0, 0⟩ : S59) )) (Reps.none _ _))); intro v422 w65 ho66 hb hg_ hnew_; clear hg_ hnew_; (first | rw [← Ny421.out] at ho66 | (simp only [Int.reduceToNat] at ho66; rw [← Ny421.out] at ho66)); have HO423 := am (Kd.R_lower (Kd.R_newB ho66 (g := gb394) (o := .cells #[.int .i64 a2, .int .i64 t419, .int .i64 0, .int .i64 0] 59 (0, 0)) (Y62)) (keep_size (w := w) (g := g) (row := none) (Y1))); replace HO418 := am (Kd.R_below (by (with_reducible repeat (first | apply Kd.R_alloc | apply Kd.R_drewN | apply Kd.R_drew)); exact (Kd.R_mono (Kd.R_far (p := ⟨gb394, 1, none⟩) (Kd.R_types HO418.out BK394.out (by decide)) (fun _ hk => hk.2) (.int .i64 t419)) (fun _ h_ => h_.1))) hb); replace BK389 := am (blk_below (g := gb389) (o := .cells #[.slice A1_0 l1_0.length c1_0] 32 (0, 0)) (Y44) hb); replace BK394 := am (blk_below (g := gb394) (o := .cells #[.int .i64 a2, .int .i64 t419, .int .i64 0, .int .i64 0] 59 (0, 0)) (Y62) hb); replace HK := am (KeepBut.trans (Y1) (KeepBut.of_below hb g none) (.inl rfl)); replace HB := am (below_step (Y6) hb); replace HI0 := am (IsS106.below (show IsS106 w0 (w61.setCell ⟨gb394, 1, none⟩ (.int .i64 t419)) g s0_0 t420 from Y3) hb); clear hb ho66))
         go_ret
         exact ⟨_, Y0, by (with_reducible repeat (first | apply Kd.R_alloc | apply Kd.R_drewN | apply Kd.R_drew)); exact Kd.R_mono HO423.out (fun _ hk => trivial), Y3, Y6, Y1⟩
        ·replace c56 := Bool.eq_false_iff.mpr c56
         subst c56
         have H1 : (if x9_5 = 7 then ((spec_reader_one.f kj49 s0_0 x1001_5 (([7, 8] : List Int))).bind fun bt427 => (some ((([(⟨a2, 4, bt427.1, 0⟩ : S59)] : List (S59))), bt427.2))) else (if x9_5 = 8 then (some ((([(⟨a2, 0, 0, 0⟩ : S59)] : List (S59))), x1001_5)) else (if x9_5 < 11 then ((spec_reader_pick.f kj49 s0_0 x1001_5 4).bind fun bt435 => ((spec_reader_pick.f kj49 s0_0 bt435.2 2).bind fun bt437 => ((some (([(⟨a2, 11, bt435.1, bt437.1⟩ : S59)] : List (S59)) : List (S59))).bind fun y439 => ((spec_aBlock.f kj49 s0_0 bt437.2 l1_0 (wrap64 (a2 + 1)) a3).bind fun bt442 => (if y439.length + bt442.1.length < 4398046511104 then (some ((y439 ++ bt442.1), bt442.2)) else (none)))))) else (if x9_5 = 11 then ((spec_reader_one.f kj49 s0_0 x1001_5 (([2, 1, 3, 0] : List Int))).bind fun bt452 => ((some (([(⟨a2, 12, bt452.1, 0⟩ : S59)] : List (S59)) : List (S59))).bind fun y454 => ((spec_aBlock.f kj49 s0_0 bt452.2 l1_0 (wrap64 (a2 + 1)) true).bind fun bt457 => (if y454.length + bt457.1.length < 4398046511104 then (some ((y454 ++ bt457.1), bt457.2)) else (none))))) else ((spec_aTry.f kj49 s0_0 x1001_5 l1_0 a2 a3).bind fun bt464 => (some (bt464.1, bt464.2))))))) = some (r1, r2) := by rw [if_neg (show ¬ (false = true) by decide)] at H; exact H
         clear H
         have H := H1
         clear H1
         by_cases c67 : x9_5 = 7
         ·rw [if_pos c67] at H
          have c67b0 : (x9_5 == 7) = true := beq_iff_eq.mpr c67
          have c67b1 : (x9_5 != 7) = false := bne_eq_false_iff_eq.mpr c67
          clear c67
          obtain ⟨y424, hy424⟩ : ∃ y_ : List Int, y_ = (([7, 8] : List Int)) := ⟨_, rfl⟩
          replace H : ((spec_reader_one.f kj49 s0_0 x1001_5 y424).bind fun bt427 => (some ((([(⟨a2, 4, bt427.1, 0⟩ : S59)] : List (S59))), bt427.2))) = some (r1, r2) := by first | (rw [hy424]; with_reducible exact H) | (have H2_ := (Option.bind_some _ _).symm.trans H; rw [hy424]; with_reducible exact H2_) | (have H2_ := (Option.bind_some _ _).symm.trans H; with_reducible exact H2_) | with_reducible exact H | (rw [hy424]; exact H) | exact H
          have Ny424 := am hy424
          clear hy424
          replace H := Option.bind_eq_some_iff.mp H
          obtain ⟨⟨t427, t428⟩, A680, H⟩ := H
          replace H : (some ((([(⟨a2, 4, t427, 0⟩ : S59)] : List (S59))), t428)) = some (r1, r2) := H
          have A68 := am A680
          clear A680
          obtain ⟨y429, hy429⟩ : ∃ y_ : List (S59), y_ = (([(⟨a2, 4, t427, 0⟩ : S59)] : List (S59))) := ⟨_, rfl⟩
          replace H : (some (y429, t428)) = some (r1, r2) := by first | (rw [hy429]; with_reducible exact H) | (have H2_ := (Option.bind_some _ _).symm.trans H; rw [hy429]; with_reducible exact H2_) | (have H2_ := (Option.bind_some _ _).symm.trans H; with_reducible exact H2_) | with_reducible exact H | (rw [hy429]; exact H) | exact H
          have Ny429 := am hy429
          clear hy429
          simp only [Option.some.injEq, Prod.mk.injEq] at H
          obtain ⟨rfl, rfl⟩ := H
          have hnb69 := NB394_389.out
          have hnc69 := NB389_394.out
          have hnb70 := NB394_0.out
          have hnc70 := NB0_394.out
          have hcz71_0 := bc0 BK394.out
          have hcz71_1 := bc1 BK394.out
          have hcz71_2 := bc2 BK394.out
          have hcz71_3 := bc3 BK394.out
          have hfz71_0 := blk_frozen BK394.out 0
          have hfz71_1 := blk_frozen BK394.out 1
          have hfz71_2 := blk_frozen BK394.out 2
          have hfz71_3 := blk_frozen BK394.out 3
          go_wp2_with (first | ((with_reducible refine gate_dst (N := 65) rfl ?_); refine Kd.R_lit (Kd.int .i64) _ 3 ?hg (N := 65) ?hd (xs := ([7, 8] : List Int)) (inner := [.int .i64 7, .int .i64 8]) (ok := fun _ => True) (okp := fun _ => True) ?hr ?hp (fun _ hk => hk) trivial (Below.refl _ _) (Nat.le_refl _) (by simp) ?_; (case hd => rfl); (case hg => rfl); (case hr => exact Y5); (case hp => exact (Reps.one (show Kd.M (Kd.int .i64) _ _ _ 7 [.int .i64 7] from rfl) (Reps.one (show Kd.M (Kd.int .i64) _ _ _ 8 [.int .i64 8] from rfl) (Reps.none _ _)))); intro v425 w72 ho73 hb hg_ hnew_; clear hg_ hnew_; (first | rw [← Ny424.out] at ho73 | (simp only [Int.reduceToNat] at ho73; rw [← Ny424.out] at ho73)); have HO426 := am (Kd.R_lower ho73 (keep_size (w := w) (g := g) (row := none) (Y1))); replace BK389 := am (blk_below (g := gb389) (o := .cells #[.slice A1_0 l1_0.length c1_0] 32 (0, 0)) (Y44) hb); replace BK394 := am (blk_below (g := gb394) (o := .cells #[.int .i64 a2, .int .i64 4, .int .i64 0, .int .i64 0] 59 (0, 0)) (Y62) hb); replace HK := am (KeepBut.trans (Y1) (KeepBut.of_below hb g none) (.inl rfl)); replace HB := am (below_step (Y6) hb); replace HI0 := am (IsS106.below (show IsS106 w0 (wc.setCell ⟨gb394, 1, none⟩ (.int .i64 4)) g s0_0 x1001_5 from Y3) hb); clear hb ho73; obtain ⟨Ao74, co74, eo74⟩ := Kd.R_slice HO426.out; subst eo74) | ((with_reducible refine gate_callee (f := 56) rfl ?_); refine gL (some 66) Try.func56 #[.pointer (some ⟨g, 0, none⟩), .slice Ao74 y424.length co74] ?_; (with_reducible refine (spec_reader_one.calls kj49 g s0_0 x1001_5 _ _ y424 t427 t428 w0 _ ?side1 ?side2 ?side3 ?side4 ?side5 A68.out).mono ?_); (case side1 => exact Y3); (case side2 => exact Y6); (case side3 => exact cq (Kd.R_reads' HO426.out).2.2); (case side4 => exact (Kd.R_reads' HO426.out).2.1); (case side5 => exact far_slice (IsS106.own_ne HI0.out HO426.out (by decide))); rintro e w75 ⟨rfl, hi, hb, hk⟩; refine ⟨_, rfl, ?_⟩; replace BK389 := am (KeepBut.blk hk (g' := gb389) (o := .cells #[.slice A1_0 l1_0.length c1_0] 32 (0, 0)) (kq BK389.out) NB389_0.out (by simp)); replace BK394 := am (KeepBut.blk hk (g' := gb394) (o := .cells #[.int .i64 a2, .int .i64 4, .int .i64 0, .int .i64 0] 59 (0, 0)) (kq BK394.out) NB394_0.out (by simp)); replace HO426 := am (Kd.R_mono (Kd.R_keep (IsS106.apart (show IsS106 w0 _ g s0_0 x1001_5 from Y3) (rq HO426.out) (by decide)) hk (fun _ h => h.2)) (fun _ h => h.1)); replace HK := am (KeepBut.trans (Y1) hk (.inl rfl)); replace HB := am (hb); replace HI0 := am (hi); (try clear hb); (try clear hb2); (try clear hk); (try clear hi); have hcz76_0 := bc0 BK394.out; have hcz76_1 := bc1 BK394.out; have hcz76_2 := bc2 BK394.out; have hcz76_3 := bc3 BK394.out; have hfz76_0 := blk_frozen BK394.out 0; have hfz76_1 := blk_frozen BK394.out 1; have hfz76_2 := blk_frozen BK394.out 2; have hfz76_3 := blk_frozen BK394.out 3) | ((with_reducible refine gate_dst (N := 108) rfl ?_); refine Kd.R_lit k59 _ 59 ?hg (N := 108) ?hd (xs := ([(⟨a2, 4, t427, 0⟩ : S59)] : List (S59))) (inner := [.int .i64 a2, .int .i64 4, .int .i64 t427, .int .i64 0]) (ok := fun _ => True) (okp := fun _ => True) ?hr ?hp (fun _ hk => hk) trivial (Below.refl _ _) (Nat.le_refl _) (by simp) ?_; (case hd => rfl); (case hg => rfl); (case hr => exact Y5); (case hp => exact (Reps.c4 (show Kd.M k59 _ _ _ (⟨a2, 4, t427, 0⟩ : S59) [.int .i64 a2, .int .i64 4, .int .i64 t427, .int .i64 0] from (k59_mkM _ _ _ (⟨a2, 4, t427, 0⟩ : S59) )) (Reps.none _ _))); intro v430 w77 ho78 hb hg_ hnew_; clear hg_ hnew_; (first | rw [← Ny429.out] at ho78 | (simp only [Int.reduceToNat] at ho78; rw [← Ny429.out] at ho78)); have HO431 := am (Kd.R_lower (Kd.R_newB ho78 (g := gb394) (o := .cells #[.int .i64 a2, .int .i64 4, .int .i64 t427, .int .i64 0] 59 (0, 0)) (Y112)) (keep_size (w := w) (g := g) (row := none) (Y1))); replace HO426 := am (Kd.R_below (by (with_reducible repeat (first | apply Kd.R_alloc | apply Kd.R_drewN | apply Kd.R_drew)); exact (Kd.R_mono (Kd.R_far (p := ⟨gb394, 2, none⟩) (Kd.R_types HO426.out BK394.out (by decide)) (fun _ hk => hk.2) (.int .i64 t427)) (fun _ h_ => h_.1))) hb); replace BK389 := am (blk_below (g := gb389) (o := .cells #[.slice A1_0 l1_0.length c1_0] 32 (0, 0)) (Y44) hb); replace BK394 := am (blk_below (g := gb394) (o := .cells #[.int .i64 a2, .int .i64 4, .int .i64 t427, .int .i64 0] 59 (0, 0)) (Y112) hb); replace HK := am (KeepBut.trans (Y1) (KeepBut.of_below hb g none) (.inl rfl)); replace HB := am (below_step (Y6) hb); replace HI0 := am (IsS106.below (show IsS106 w0 (w75.setCell ⟨gb394, 2, none⟩ (.int .i64 t427)) g s0_0 t428 from Y3) hb); clear hb ho78))
          go_ret
          exact ⟨_, Y0, by (with_reducible repeat (first | apply Kd.R_alloc | apply Kd.R_drewN | apply Kd.R_drew)); exact Kd.R_mono HO431.out (fun _ hk => trivial), Y3, Y6, Y1⟩
         ·rw [if_neg c67] at H
          have c67b0 : (x9_5 == 7) = false := beq_eq_false_iff_ne.mpr c67
          have c67b1 : (x9_5 != 7) = true := bne_iff_ne.mpr c67
          by_cases c79 : x9_5 = 8
          ·rw [if_pos c79] at H
           have c79b0 : (x9_5 == 8) = true := beq_iff_eq.mpr c79
           have c79b1 : (x9_5 != 8) = false := bne_eq_false_iff_eq.mpr c79
           clear c79
           obtain ⟨y432, hy432⟩ : ∃ y_ : List (S59), y_ = (([(⟨a2, 0, 0, 0⟩ : S59)] : List (S59))) := ⟨_, rfl⟩
           replace H : (some (y432, x1001_5)) = some (r1, r2) := by first | (rw [hy432]; with_reducible exact H) | (have H2_ := (Option.bind_some _ _).symm.trans H; rw [hy432]; with_reducible exact H2_) | (have H2_ := (Option.bind_some _ _).symm.trans H; with_reducible exact H2_) | with_reducible exact H | (rw [hy432]; exact H) | exact H
           have Ny432 := am hy432
           clear hy432
           simp only [Option.some.injEq, Prod.mk.injEq] at H
           obtain ⟨rfl, rfl⟩ := H
           have hnb80 := NB394_389.out
           have hnc80 := NB389_394.out
           have hnb81 := NB394_0.out
           have hnc81 := NB0_394.out
           have hcz82_0 := bc0 BK394.out
           have hcz82_1 := bc1 BK394.out
           have hcz82_2 := bc2 BK394.out
           have hcz82_3 := bc3 BK394.out
           have hfz82_0 := blk_frozen BK394.out 0
           have hfz82_1 := blk_frozen BK394.out 1
           have hfz82_2 := blk_frozen BK394.out 2
           have hfz82_3 := blk_frozen BK394.out 3
           go_wp2_with (first | ((with_reducible refine gate_dst (N := 108) rfl ?_); refine Kd.R_lit k59 _ 59 ?hg (N := 108) ?hd (xs := ([(⟨a2, 0, 0, 0⟩ : S59)] : List (S59))) (inner := [.int .i64 a2, .int .i64 0, .int .i64 0, .int .i64 0]) (ok := fun _ => True) (okp := fun _ => True) ?hr ?hp (fun _ hk => hk) trivial (Below.refl _ _) (Nat.le_refl _) (by simp) ?_; (case hd => rfl); (case hg => rfl); (case hr => exact Y5); (case hp => exact (Reps.c4 (show Kd.M k59 _ _ _ (⟨a2, 0, 0, 0⟩ : S59) [.int .i64 a2, .int .i64 0, .int .i64 0, .int .i64 0] from (k59_mkM _ _ _ (⟨a2, 0, 0, 0⟩ : S59) )) (Reps.none _ _))); intro v433 w83 ho84 hb hg_ hnew_; clear hg_ hnew_; (first | rw [← Ny432.out] at ho84 | (simp only [Int.reduceToNat] at ho84; rw [← Ny432.out] at ho84)); have HO434 := am (Kd.R_lower (Kd.R_newB ho84 (g := gb394) (o := .cells #[.int .i64 a2, .int .i64 0, .int .i64 0, .int .i64 0] 59 (0, 0)) (Y62)) (keep_size (w := w) (g := g) (row := none) (Y1))); replace BK389 := am (blk_below (g := gb389) (o := .cells #[.slice A1_0 l1_0.length c1_0] 32 (0, 0)) (Y44) hb); replace BK394 := am (blk_below (g := gb394) (o := .cells #[.int .i64 a2, .int .i64 0, .int .i64 0, .int .i64 0] 59 (0, 0)) (Y62) hb); replace HK := am (KeepBut.trans (Y1) (KeepBut.of_below hb g none) (.inl rfl)); replace HB := am (below_step (Y6) hb); replace HI0 := am (IsS106.below (show IsS106 w0 (wc.setCell ⟨gb394, 1, none⟩ (.int .i64 0)) g s0_0 x1001_5 from Y3) hb); clear hb ho84))
           go_ret
           exact ⟨_, Y0, by (with_reducible repeat (first | apply Kd.R_alloc | apply Kd.R_drewN | apply Kd.R_drew)); exact Kd.R_mono HO434.out (fun _ hk => trivial), Y3, Y6, Y1⟩
          ·rw [if_neg c79] at H
           have c79b0 : (x9_5 == 8) = false := beq_eq_false_iff_ne.mpr c79
           have c79b1 : (x9_5 != 8) = true := bne_iff_ne.mpr c79
           by_cases c85 : x9_5 < 11
           ·rw [if_pos c85] at H
            have c85b0 : decide (x9_5 < 11) = true := decide_eq_true c85
            clear c85
            replace H := Option.bind_eq_some_iff.mp H
            obtain ⟨⟨t435, t436⟩, A860, H⟩ := H
            replace H : ((spec_reader_pick.f kj49 s0_0 t436 2).bind fun bt437 => ((some (([(⟨a2, 11, t435, bt437.1⟩ : S59)] : List (S59)) : List (S59))).bind fun y439 => ((spec_aBlock.f kj49 s0_0 bt437.2 l1_0 (wrap64 (a2 + 1)) a3).bind fun bt442 => (if y439.length + bt442.1.length < 4398046511104 then (some ((y439 ++ bt442.1), bt442.2)) else (none))))) = some (r1, r2) := H
            have A86 := am A860
            clear A860
            replace H := Option.bind_eq_some_iff.mp H
            obtain ⟨⟨t437, t438⟩, A870, H⟩ := H
            replace H : ((some (([(⟨a2, 11, t435, t437⟩ : S59)] : List (S59)) : List (S59))).bind fun y439 => ((spec_aBlock.f kj49 s0_0 t438 l1_0 (wrap64 (a2 + 1)) a3).bind fun bt442 => (if y439.length + bt442.1.length < 4398046511104 then (some ((y439 ++ bt442.1), bt442.2)) else (none)))) = some (r1, r2) := H
            have A87 := am A870
            clear A870
            obtain ⟨y439, hy439⟩ : ∃ y_ : List (S59), y_ = (([(⟨a2, 11, t435, t437⟩ : S59)] : List (S59))) := ⟨_, rfl⟩
            replace H : ((spec_aBlock.f kj49 s0_0 t438 l1_0 (wrap64 (a2 + 1)) a3).bind fun bt442 => (if y439.length + bt442.1.length < 4398046511104 then (some ((y439 ++ bt442.1), bt442.2)) else (none))) = some (r1, r2) := by first | (rw [hy439]; with_reducible exact H) | (have H2_ := (Option.bind_some _ _).symm.trans H; rw [hy439]; with_reducible exact H2_) | (have H2_ := (Option.bind_some _ _).symm.trans H; with_reducible exact H2_) | with_reducible exact H | (rw [hy439]; exact H) | exact H
            have Ny439 := am hy439
            clear hy439
            replace H := Option.bind_eq_some_iff.mp H
            obtain ⟨⟨t442, t445⟩, A880, H⟩ := H
            replace H : (if y439.length + t442.length < 4398046511104 then (some ((y439 ++ t442), t445)) else (none)) = some (r1, r2) := H
            have A88 := am A880
            clear A880
            by_cases c89 : y439.length + t442.length < 4398046511104
            ·rw [if_pos c89] at H
             have LMc89 := am c89
             clear c89
             obtain ⟨y446, hy446⟩ : ∃ y_ : List (S59), y_ = (y439 ++ t442) := ⟨_, rfl⟩
             replace H : (some (y446, t445)) = some (r1, r2) := by first | (rw [hy446]; with_reducible exact H) | (have H2_ := (Option.bind_some _ _).symm.trans H; rw [hy446]; with_reducible exact H2_) | (have H2_ := (Option.bind_some _ _).symm.trans H; with_reducible exact H2_) | with_reducible exact H | (rw [hy446]; exact H) | exact H
             have Ny446 := am hy446
             clear hy446
             simp only [Option.some.injEq, Prod.mk.injEq] at H
             obtain ⟨rfl, rfl⟩ := H
             have hnb90 := NB394_389.out
             have hnc90 := NB389_394.out
             have hnb91 := NB394_0.out
             have hnc91 := NB0_394.out
             have hcz92_0 := bc0 BK394.out
             have hcz92_1 := bc1 BK394.out
             have hcz92_2 := bc2 BK394.out
             have hcz92_3 := bc3 BK394.out
             have hfz92_0 := blk_frozen BK394.out 0
             have hfz92_1 := blk_frozen BK394.out 1
             have hfz92_2 := blk_frozen BK394.out 2
             have hfz92_3 := blk_frozen BK394.out 3
             try go_wp2_with (first | ((with_reducible refine gate_callee (f := 55) rfl ?_); refine gL (some 77) Try.func55 #[.pointer (some ⟨g, 0, none⟩), .int .i64 4] ?_; (with_reducible refine (spec_reader_pick.calls kj49 g s0_0 x1001_5 4 t435 t436 w0 _ ?side1 ?side2 A86.out).mono ?_); (case side1 => exact Y3); (case side2 => exact Y6); rintro e w93 ⟨rfl, hi, hb, hk⟩; refine ⟨_, rfl, ?_⟩; replace BK389 := am (KeepBut.blk hk (g' := gb389) (o := .cells #[.slice A1_0 l1_0.length c1_0] 32 (0, 0)) (Y44) NB389_0.out (by simp)); replace BK394 := am (KeepBut.blk hk (g' := gb394) (o := .cells #[.int .i64 a2, .int .i64 11, .int .i64 0, .int .i64 0] 59 (0, 0)) (Y62) NB394_0.out (by simp)); replace HK := am (KeepBut.trans (Y1) hk (.inl rfl)); replace HB := am (hb); replace HI0 := am (hi); (try clear hb); (try clear hb2); (try clear hk); (try clear hi); have hcz94_0 := bc0 BK394.out; have hcz94_1 := bc1 BK394.out; have hcz94_2 := bc2 BK394.out; have hcz94_3 := bc3 BK394.out; have hfz94_0 := blk_frozen BK394.out 0; have hfz94_1 := blk_frozen BK394.out 1; have hfz94_2 := blk_frozen BK394.out 2; have hfz94_3 := blk_frozen BK394.out 3) | ((with_reducible refine gate_callee (f := 55) rfl ?_); refine gL (some 80) Try.func55 #[.pointer (some ⟨g, 0, none⟩), .int .i64 2] ?_; (with_reducible refine (spec_reader_pick.calls kj49 g s0_0 t436 2 t437 t438 w0 _ ?side1 ?side2 A87.out).mono ?_); (case side1 => exact Y3); (case side2 => exact Y6); rintro e w95 ⟨rfl, hi, hb, hk⟩; refine ⟨_, rfl, ?_⟩; replace BK389 := am (KeepBut.blk hk (g' := gb389) (o := .cells #[.slice A1_0 l1_0.length c1_0] 32 (0, 0)) (Y44) NB389_0.out (by simp)); replace BK394 := am (KeepBut.blk hk (g' := gb394) (o := .cells #[.int .i64 a2, .int .i64 11, .int .i64 t435, .int .i64 0] 59 (0, 0)) (by (with_reducible repeat (first | refine blk_drewN ?_ _ | refine blk_drew ?_ | refine blk_alloc ?_ _)); refine blk_put (cs := #[.int .i64 a2, .int .i64 11, .int .i64 0, .int .i64 0]) ?_ 2 _ rfl; (with_reducible repeat (first | refine blk_drewN ?_ _ | refine blk_drew ?_ | refine blk_alloc ?_ _)); exact BK394.out) NB394_0.out (by simp)); replace HK := am (KeepBut.trans (Y1) hk (.inl rfl)); replace HB := am (hb); replace HI0 := am (hi); (try clear hb); (try clear hb2); (try clear hk); (try clear hi); have hcz96_0 := bc0 BK394.out; have hcz96_1 := bc1 BK394.out; have hcz96_2 := bc2 BK394.out; have hcz96_3 := bc3 BK394.out; have hfz96_0 := blk_frozen BK394.out 0; have hfz96_1 := blk_frozen BK394.out 1; have hfz96_2 := blk_frozen BK394.out 2; have hfz96_3 := blk_frozen BK394.out 3))
             have n0_ : Aside0 ((w95.setCell ⟨gb394, 3, none⟩ (.int .i64 t437)).heap[gb389]? = some (.cells #[.slice A1_0 l1_0.length c1_0] 32 (0, 0))) := ⟨by (with_reducible repeat (first | refine blk_drewN ?_ _ | refine blk_drew ?_ | refine blk_alloc ?_ _)); refine blk_far ?_ NB389_394.out _; (with_reducible repeat (first | refine blk_drewN ?_ _ | refine blk_drew ?_ | refine blk_alloc ?_ _)); exact BK389.out⟩
             have n1_ : Aside0 ((w95.setCell ⟨gb394, 3, none⟩ (.int .i64 t437)).heap[gb394]? = some (.cells #[.int .i64 a2, .int .i64 11, .int .i64 t435, .int .i64 t437] 59 (0, 0))) := ⟨by (with_reducible repeat (first | refine blk_drewN ?_ _ | refine blk_drew ?_ | refine blk_alloc ?_ _)); refine blk_put (cs := #[.int .i64 a2, .int .i64 11, .int .i64 t435, .int .i64 0]) ?_ 3 _ rfl; (with_reducible repeat (first | refine blk_drewN ?_ _ | refine blk_drew ?_ | refine blk_alloc ?_ _)); exact BK394.out⟩
             have n2_ : Aside0 (IsS106 w0 (w95.setCell ⟨gb394, 3, none⟩ (.int .i64 t437)) g s0_0 t438) := ⟨Y3⟩
             have n3_ : Aside0 (KeepBut w (w95.setCell ⟨gb394, 3, none⟩ (.int .i64 t437)) g none) := ⟨Y1⟩
             have n4_ : Aside0 (Below w0.heap.size w0 (w95.setCell ⟨gb394, 3, none⟩ (.int .i64 t437))) := ⟨Y6⟩
             (try clear BK389)
             (try clear BK394)
             (try clear HI0)
             (try clear HK)
             (try clear HB)
             generalize (w95.setCell ⟨gb394, 3, none⟩ (.int .i64 t437)) = w97 at n0_ n1_ n2_ n3_ n4_ ⊢
             have BK389 := n0_
             have BK394 := n1_
             have HI0 := n2_
             have HK := n3_
             have HB := n4_
             clear n0_ n1_ n2_ n3_ n4_
             replace BK389 := am (blk_drew BK389.out)
             replace BK394 := am (blk_drew BK394.out)
             replace HI0 := am (IsS106.drew HI0.out)
             replace HK := am (keep_drew HK.out)
             replace HB := am (below_drew1 HB.out)
             refine start_ (n := 10) (S := fun w' => w'.cell? ⟨gb394, 0, none⟩ = some (.int .i64 a2) ∧ w'.cell? ⟨gb394, 1, none⟩ = some (.int .i64 11) ∧ w'.cell? ⟨gb394, 2, none⟩ = some (.int .i64 t435) ∧ w'.cell? ⟨gb394, 3, none⟩ = some (.int .i64 t437) ∧ w'.cell? ⟨gb389, 0, none⟩ = some (.slice A1_0 l1_0.length c1_0)) (ds := []) #[false, false, false, false, false, false, false, false, false, false] (by kernel_rfl) rfl rfl ⟨(blk_cell BK394.out 0).trans rfl, (blk_cell BK394.out 1).trans rfl, (blk_cell BK394.out 2).trans rfl, (blk_cell BK394.out 3).trans rfl, (blk_cell BK389.out 0).trans rfl⟩ (fun hHeld => ?_); refine with_tabW spec_aStatement.tab26 spec_aStatement.bits26 (fun HT_ HW_ => ?_)
             generalize w97.drew = w98 at BK389 BK394 HI0 HK HB hHeld ⊢
             refine pq (i := 2) (N := some 84) #[false, false, true, false, false, false, false, false, false, false] ?_
             refine pq (i := 4) (N := some 86) #[false, false, true, false, true, false, false, false, false, false] ?_
             refine pq (i := 5) (N := some 87) #[false, false, true, false, true, true, false, false, false, false] ?_
             refine pq (i := 6) (N := some 88) #[false, false, true, false, true, true, true, false, false, false] ?_
             refine take_ (i := 0) (N := some 82) (v := ?_) (a' := ?_) #[true, false, true, false, true, true, true, false, false, false] rfl rfl (take_ofW HT_.out HW_.out (by kernel_rfl)) (fun _ _ _ h => h) (Or.inl ⟨by rfl, ?_⟩) hHeld ?_ ?_
             rotate_left
             ·rintro w' ⟨s0, s1, s2, s3, s4⟩
              go_simp
              with_reducible rfl
             rotate_left
             ·exact sa
             refine take_ (i := 3) (N := some 85) (v := ?_) (a' := ?_) #[true, false, true, true, true, true, true, false, false, false] rfl rfl (take_ofW HT_.out HW_.out (by kernel_rfl)) (fun _ _ _ h => h) (Or.inl ⟨by rfl, ?_⟩) hHeld ?_ ?_
             rotate_left
             ·rintro w' ⟨s0, s1, s2, s3, s4⟩
              go_simp
              with_reducible rfl
             rotate_left
             ·exact sa
             refine join_ (σ := Value × Value) 2 #[true, true, true, true, true, true, true, true, false, false] (fun s_ => [(83, s_.1), (89, s_.2)]) (fun s_ w' => (w'.cell? ⟨gb394, 0, none⟩ = some (.int .i64 a2) ∧ w'.cell? ⟨gb394, 1, none⟩ = some (.int .i64 11) ∧ w'.cell? ⟨gb394, 2, none⟩ = some (.int .i64 t435) ∧ w'.cell? ⟨gb394, 3, none⟩ = some (.int .i64 t437) ∧ w'.cell? ⟨gb389, 0, none⟩ = some (.slice A1_0 l1_0.length c1_0)) ∧ (Kd.R k59 59 w' w.heap.size (fun k_ => some k_ ≠ (s_.2 : Value).ownBlock ∧ k_ ≠ gb394) s_.1 y439) ∧ (Kd.R k59 59 w' w.heap.size (fun k_ => some k_ ≠ (s_.1 : Value).ownBlock ∧ k_ ≠ gb394) s_.2 t442) ∧ (w'.heap[gb389]? = some (.cells #[.slice A1_0 l1_0.length c1_0] 32 (0, 0))) ∧ (w'.heap[gb394]? = some (.cells #[.int .i64 a2, .int .i64 11, .int .i64 t435, .int .i64 t437] 59 (0, 0))) ∧ (IsS106 w0 w' g s0_0 t445) ∧ (KeepBut w w' g none) ∧ (Below w0.heap.size w0 w')) ?_ ?_
             rotate_left
             ·intro hCont
              refine two_ (i := 1) (j := 7) (Ni := some 83) (Nj := some 89) #[true, true, true, true, true, true, true, false, false, false] #[true, false, true, true, true, true, true, true, false, false] rfl rfl rfl rfl (two_of HT_.out (by kernel_rfl)) (by decide) (by decide) (fun K hK => ?_) (fun K hK => ?_)
              ·skip
               refine Kd.R_lit_step k59 _ 59 ?hg (N := 83) ?hd (xs := ([(⟨a2, 11, t435, t437⟩ : S59)] : List (S59))) (inner := [.int .i64 a2, .int .i64 11, .int .i64 t435, .int .i64 t437]) (ok := fun _ => True) (okp := fun _ => True) ?hr ?hp (fun _ hk => hk) trivial (Below.refl _ _) (Nat.le_refl _) (by simp) ?_; (case hd => rfl); (case hg => rfl); (case hr => exact Y5); (case hp => exact (Reps.c4 (show Kd.M k59 _ _ _ (⟨a2, 11, t435, t437⟩ : S59) [.int .i64 a2, .int .i64 11, .int .i64 t435, .int .i64 t437] from (k59_mkM _ _ _ (⟨a2, 11, t435, t437⟩ : S59) )) (Reps.none _ _)))
               intro v440 w99 ho100 hb hg_ hnew_
               clear hg_ hnew_
               (first | rw [← Ny439.out] at ho100 | (simp only [Int.reduceToNat] at ho100; rw [← Ny439.out] at ho100))
               have HO441 := am (Kd.R_lower (Kd.R_newB ho100 (g := gb394) (o := .cells #[.int .i64 a2, .int .i64 11, .int .i64 t435, .int .i64 t437] 59 (0, 0)) (kq BK394.out)) (keep_size (w := w) (g := g) (row := none) (Y1)))
               replace BK389 := am (blk_below (g := gb389) (o := .cells #[.slice A1_0 l1_0.length c1_0] 32 (0, 0)) (kq BK389.out) hb)
               replace BK394 := am (blk_below (g := gb394) (o := .cells #[.int .i64 a2, .int .i64 11, .int .i64 t435, .int .i64 t437] 59 (0, 0)) (kq BK394.out) hb)
               replace HK := am (KeepBut.trans (Y1) (KeepBut.of_below hb g none) (.inl rfl))
               replace HB := am (below_step (Y6) hb)
               replace HI0 := am (IsS106.below (Y3) hb)
               clear hb ho100
               refine hK.out _ _ ⟨(blk_cell BK394.out 0).trans rfl, (blk_cell BK394.out 1).trans rfl, (blk_cell BK394.out 2).trans rfl, (blk_cell BK394.out 3).trans rfl, (blk_cell BK389.out 0).trans rfl⟩ (fun hHeld => ?_)
               clear hK K
               refine norm_ (a' := ?_) ?_ ?_
               rotate_left
               ·show Act.put _ (some 83) _ = _
                simp only [Act.put, List.setIfInBounds_toArray, List.set_cons_zero, List.set_cons_succ, i64_w, i32_w]
                rfl
               refine one_ (i := 7) (N := some 89) #[true, true, true, true, true, true, true, true, false, false] rfl rfl (one_of HT_.out (by kernel_rfl)) (by decide) (fun K hK => ?_)
               refine goes_ Try.func98 (by kernel_rfl) rfl #[.pointer (some ⟨g, 0, none⟩), .agg #[.slice A1_0 l1_0.length c1_0], .int .i64 (wrap64 (a2 + 1)), .bool a3] (by rfl) rfl rfl (aq) ?_
               with_reducible refine (ih98 kj49 (by have := HJ5.out; have := HJ49.out; omega) g s0_0 t438 _ _ l1_0 (wrap64 (a2 + 1)) a3 t442 t445 w0 _ ?side1 ?side2 ?side3 ?side4 A88.out).mono ?_
               (case side1 => exact Y3)
               (case side2 => exact Y6)
               (case side3 => exact Kd.C_foot_step HR1_0.out (Y1))
               (case side4 => exact HC1_0.out)
               rintro e w101 ⟨v443, rfl, ho0, hi, hb, hk⟩
               refine ⟨_, rfl, ?_⟩
               have HO444 := am (Kd.R_lower (Kd.R_newB (Kd.R_new' ho0 (Kd.R_lt (rq HO441.out))) (g := gb394) (o := .cells #[.int .i64 a2, .int .i64 11, .int .i64 t435, .int .i64 t437] 59 (0, 0)) (kq BK394.out)) (keep_size (w := w) (g := g) (row := none) (Y1)))
               replace BK389 := am (KeepBut.blk hk (g' := gb389) (o := .cells #[.slice A1_0 l1_0.length c1_0] 32 (0, 0)) (kq BK389.out) NB389_0.out (by simp))
               replace BK394 := am (KeepBut.blk hk (g' := gb394) (o := .cells #[.int .i64 a2, .int .i64 11, .int .i64 t435, .int .i64 t437] 59 (0, 0)) (kq BK394.out) NB394_0.out (by simp))
               replace HO441 := am (Kd.R_mono (Kd.R_told (Kd.R_oldK (IsS106.apart (show IsS106 w0 _ g s0_0 t438 from Y3) (rq HO441.out) (by decide)) hk) (Kd.R_base ho0)) (fun _ h_ => h_.1))
               replace HK := am (KeepBut.trans (Y1) hk (.inl rfl))
               replace HB := am (hb)
               replace HI0 := am (hi)
               (try clear hb)
               (try clear hb2)
               (try clear hk)
               (try clear hi)
               (try clear ho0)
               refine hK.out _ _ ⟨(blk_cell BK394.out 0).trans rfl, (blk_cell BK394.out 1).trans rfl, (blk_cell BK394.out 2).trans rfl, (blk_cell BK394.out 3).trans rfl, (blk_cell BK389.out 0).trans rfl⟩ (fun hHeld => ?_)
               clear hK K
               refine norm_ (a' := ?_) ?_ ?_
               rotate_left
               ·show Act.put _ (some 89) _ = _
                simp only [Act.put, List.setIfInBounds_toArray, List.set_cons_zero, List.set_cons_succ, i64_w, i32_w]
                rfl
               exact norm_ (by simp only [putAll, Act.put, List.setIfInBounds_toArray, List.set_cons_zero, List.set_cons_succ]) (hCont (v440, v443) _ ⟨hHeld, (by (with_reducible repeat (first | apply Kd.R_alloc | apply Kd.R_drewN | apply Kd.R_drew)); exact Kd.R_mono HO441.out (fun _ hk => ⟨hk.2, hk.1.2⟩)), (by (with_reducible repeat (first | apply Kd.R_alloc | apply Kd.R_drewN | apply Kd.R_drew)); exact Kd.R_mono HO444.out (fun _ hk => ⟨hk.1.2, hk.2⟩)), (kq BK389.out), (kq BK394.out), (Y3), (Y1), (Y6)⟩)
              ·skip
               refine goes_ Try.func98 (by kernel_rfl) rfl #[.pointer (some ⟨g, 0, none⟩), .agg #[.slice A1_0 l1_0.length c1_0], .int .i64 (wrap64 (a2 + 1)), .bool a3] (by rfl) rfl rfl (aq) ?_
               with_reducible refine (ih98 kj49 (by have := HJ5.out; have := HJ49.out; omega) g s0_0 t438 _ _ l1_0 (wrap64 (a2 + 1)) a3 t442 t445 w0 _ ?side1 ?side2 ?side3 ?side4 A88.out).mono ?_
               (case side1 => exact Y3)
               (case side2 => exact Y6)
               (case side3 => exact Kd.C_foot_step HR1_0.out (Y1))
               (case side4 => exact HC1_0.out)
               rintro e w99 ⟨v443, rfl, ho0, hi, hb, hk⟩
               refine ⟨_, rfl, ?_⟩
               have HO444 := am (Kd.R_lower (Kd.R_newB ho0 (g := gb394) (o := .cells #[.int .i64 a2, .int .i64 11, .int .i64 t435, .int .i64 t437] 59 (0, 0)) (kq BK394.out)) (keep_size (w := w) (g := g) (row := none) (Y1)))
               replace BK389 := am (KeepBut.blk hk (g' := gb389) (o := .cells #[.slice A1_0 l1_0.length c1_0] 32 (0, 0)) (kq BK389.out) NB389_0.out (by simp))
               replace BK394 := am (KeepBut.blk hk (g' := gb394) (o := .cells #[.int .i64 a2, .int .i64 11, .int .i64 t435, .int .i64 t437] 59 (0, 0)) (kq BK394.out) NB394_0.out (by simp))
               replace HK := am (KeepBut.trans (Y1) hk (.inl rfl))
               replace HB := am (hb)
               replace HI0 := am (hi)
               (try clear hb)
               (try clear hb2)
               (try clear hk)
               (try clear hi)
               (try clear ho0)
               refine hK.out _ _ ⟨(blk_cell BK394.out 0).trans rfl, (blk_cell BK394.out 1).trans rfl, (blk_cell BK394.out 2).trans rfl, (blk_cell BK394.out 3).trans rfl, (blk_cell BK389.out 0).trans rfl⟩ (fun hHeld => ?_)
               clear hK K
               refine norm_ (a' := ?_) ?_ ?_
               rotate_left
               ·show Act.put _ (some 89) _ = _
                simp only [Act.put, List.setIfInBounds_toArray, List.set_cons_zero, List.set_cons_succ, i64_w, i32_w]
                rfl
               refine one_ (i := 1) (N := some 83) #[true, true, true, true, true, true, true, true, false, false] rfl rfl (one_of HT_.out (by kernel_rfl)) (by decide) (fun K hK => ?_)
               refine Kd.R_lit_step k59 _ 59 ?hg (N := 83) ?hd (xs := ([(⟨a2, 11, t435, t437⟩ : S59)] : List (S59))) (inner := [.int .i64 a2, .int .i64 11, .int .i64 t435, .int .i64 t437]) (ok := fun _ => True) (okp := fun _ => True) ?hr ?hp (fun _ hk => hk) trivial (Below.refl _ _) (Nat.le_refl _) (by simp) ?_; (case hd => rfl); (case hg => rfl); (case hr => exact Y5); (case hp => exact (Reps.c4 (show Kd.M k59 _ _ _ (⟨a2, 11, t435, t437⟩ : S59) [.int .i64 a2, .int .i64 11, .int .i64 t435, .int .i64 t437] from (k59_mkM _ _ _ (⟨a2, 11, t435, t437⟩ : S59) )) (Reps.none _ _)))
               intro v440 w100 ho101 hb hg_ hnew_
               clear hg_ hnew_
               (first | rw [← Ny439.out] at ho101 | (simp only [Int.reduceToNat] at ho101; rw [← Ny439.out] at ho101))
               have HO441 := am (Kd.R_lower (Kd.R_newB (Kd.R_new' ho101 (Kd.R_lt (rq HO444.out))) (g := gb394) (o := .cells #[.int .i64 a2, .int .i64 11, .int .i64 t435, .int .i64 t437] 59 (0, 0)) (kq BK394.out)) (keep_size (w := w) (g := g) (row := none) (Y1)))
               replace HO444 := am (Kd.R_elder' (rq HO444.out) (Kd.R_base ho101) hb)
               replace BK389 := am (blk_below (g := gb389) (o := .cells #[.slice A1_0 l1_0.length c1_0] 32 (0, 0)) (kq BK389.out) hb)
               replace BK394 := am (blk_below (g := gb394) (o := .cells #[.int .i64 a2, .int .i64 11, .int .i64 t435, .int .i64 t437] 59 (0, 0)) (kq BK394.out) hb)
               replace HK := am (KeepBut.trans (Y1) (KeepBut.of_below hb g none) (.inl rfl))
               replace HB := am (below_step (Y6) hb)
               replace HI0 := am (IsS106.below (Y3) hb)
               clear hb ho101
               refine hK.out _ _ ⟨(blk_cell BK394.out 0).trans rfl, (blk_cell BK394.out 1).trans rfl, (blk_cell BK394.out 2).trans rfl, (blk_cell BK394.out 3).trans rfl, (blk_cell BK389.out 0).trans rfl⟩ (fun hHeld => ?_)
               clear hK K
               refine norm_ (a' := ?_) ?_ ?_
               rotate_left
               ·show Act.put _ (some 83) _ = _
                simp only [Act.put, List.setIfInBounds_toArray, List.set_cons_zero, List.set_cons_succ, i64_w, i32_w]
                rfl
               exact norm_ (by simp only [putAll, Act.put, List.setIfInBounds_toArray, List.set_cons_zero, List.set_cons_succ]) (hCont (v440, v443) _ ⟨hHeld, (by (with_reducible repeat (first | apply Kd.R_alloc | apply Kd.R_drewN | apply Kd.R_drew)); exact Kd.R_mono HO441.out (fun _ hk => ⟨hk.1.2, hk.2⟩)), (by (with_reducible repeat (first | apply Kd.R_alloc | apply Kd.R_drewN | apply Kd.R_drew)); exact Kd.R_mono HO444.out (fun _ hk => ⟨hk.2, hk.1.2⟩)), (kq BK389.out), (kq BK394.out), (Y3), (Y1), (Y6)⟩)
             rintro ⟨v440, v443⟩ w102 ⟨hS_, h0_, h1_, h2_, h3_, h4_, h5_, h6_⟩
             have n0_ : Aside0 (Kd.R k59 59 w102 w.heap.size (fun k_ => some k_ ≠ (v443 : Value).ownBlock ∧ k_ ≠ gb394) v440 y439) := ⟨h0_⟩
             have n1_ : Aside0 (Kd.R k59 59 w102 w.heap.size (fun k_ => some k_ ≠ (v440 : Value).ownBlock ∧ k_ ≠ gb394) v443 t442) := ⟨h1_⟩
             have n2_ : Aside0 (w102.heap[gb389]? = some (.cells #[.slice A1_0 l1_0.length c1_0] 32 (0, 0))) := ⟨h2_⟩
             have n3_ : Aside0 (w102.heap[gb394]? = some (.cells #[.int .i64 a2, .int .i64 11, .int .i64 t435, .int .i64 t437] 59 (0, 0))) := ⟨h3_⟩
             have n4_ : Aside0 (IsS106 w0 w102 g s0_0 t445) := ⟨h4_⟩
             have n5_ : Aside0 (KeepBut w w102 g none) := ⟨h5_⟩
             have n6_ : Aside0 (Below w0.heap.size w0 w102) := ⟨h6_⟩
             clear BK389
             clear BK394
             clear HI0
             clear HK
             clear HB
             clear h0_ h1_ h2_ h3_ h4_ h5_ h6_
             have HO441 := n0_
             have HO444 := n1_
             have BK389 := n2_
             have BK394 := n3_
             have HI0 := n4_
             have HK := n5_
             have HB := n6_
             clear n0_ n1_ n2_ n3_ n4_ n5_ n6_
             have hHeld : w102.cell? ⟨gb394, 0, none⟩ = some (.int .i64 a2) ∧ w102.cell? ⟨gb394, 1, none⟩ = some (.int .i64 11) ∧ w102.cell? ⟨gb394, 2, none⟩ = some (.int .i64 t435) ∧ w102.cell? ⟨gb394, 3, none⟩ = some (.int .i64 t437) ∧ w102.cell? ⟨gb389, 0, none⟩ = some (.slice A1_0 l1_0.length c1_0) := hS_
             obtain ⟨Ao104, co104, eo104⟩ := Kd.R_slice HO444.out
             (first | subst eo104 | (injection eo104 with f1_ f2_ f3_; have f4_ := f1_.symm; have f5_ := f3_.symm; clear f1_ f2_ f3_; subst f4_; subst f5_))
             refine norm_ (a' := ?_) ?_ ?_
             rotate_left
             ·simp only [putAll, Act.put, List.setIfInBounds_toArray, List.set_cons_zero, List.set_cons_succ]
              rfl
             refine one_ (i := 8) (N := some 90) #[true, true, true, true, true, true, true, true, true, false] rfl rfl (one_of HT_.out (by kernel_rfl)) (by decide) (fun K hK => ?_)
             refine Kd.R_append_rows_step k59 w.heap.size (by rfl) (.tmp 83) (.tmp 89) 34 59 (.agg #[(.int .i64 0), (.int .i64 0), (.int .i64 0), (.int .i64 0)]) 32 rfl Try.underlying34 info59 rfl (by decide) (by omega) v440 y439 t442 _ _ _ (fun k_ => some k_ ≠ (.slice Ao104 t442.length co104 : Value).ownBlock ∧ k_ ≠ gb394) (fun _ => False) rfl rfl ?aO ?aR (fun _ _ h => h) (fun _ h => h.elim) ?aF (Below.refl _ _) ?aS ?aL ?_
             (case aR => repeat (first | exact (Kd.R_reads' HO444.out).2.2 | (with_reducible refine Kd.C_alloc ?_ _) | (with_reducible refine Kd.C_drewN ?_ _) | (with_reducible refine Kd.C_drew ?_)))
             (case aF => exact (fun k_ hk => ⟨Kd.fresh' (Kd.R_lt (rq HO444.out)) k_ hk, Kd.freshB (g := gb394) (o := .cells #[.int .i64 a2, .int .i64 11, .int .i64 t435, .int .i64 t437] 59 (0, 0)) (kq BK394.out) k_ hk⟩))
             (case aO => exact (rq HO441.out))
             (case aS => exact (keep_size (w := w) (g := g) (row := none) (Y1)))
             (case aL => have := LMc89.out; omega)
             intro v447 w103 ho hb hg hat
             rw [← Ny446.out] at ho
             have n0_ := am (blk_grown (g := gb389) (o := .cells #[.slice A1_0 l1_0.length c1_0] 32 (0, 0)) (kq BK389.out) hg (Kd.R_ne HO441.out BK389.out (by decide)))
             have n1_ := am (blk_grown (g := gb394) (o := .cells #[.int .i64 a2, .int .i64 11, .int .i64 t435, .int .i64 t437] 59 (0, 0)) (kq BK394.out) hg (Kd.R_away HO441.out (fun _ hk => hk.2)))
             have n2_ := am (IsS106.grown (Y3) hg (IsS106.own_ne HI0.out HO441.out (by decide)))
             have n3_ := am (Kd.R_after (ok := (fun k_ => k_ ≠ gb394)) (by (with_reducible repeat (first | apply Kd.R_alloc | apply Kd.R_drewN | apply Kd.R_drew)); exact Kd.R_mono HO444.out (fun _ hk => ⟨hk.2, hk.1⟩)) hg hat)
             have n4_ := am (below_weaken (Y6) HL.out hb)
             have n5_ := am (KeepBut.trans (Y1) (KeepBut.of_grown hg g) (Kd.R_base2 HO441.out))
             have n6_ := am (ho)
             clear BK389
             clear BK394
             clear HI0
             clear HO444
             clear HB
             clear HK
             clear HO441
             have BK389 := n0_
             have BK394 := n1_
             have HI0 := n2_
             have HO444 := n3_
             have HB := n4_
             have HK := n5_
             have HO448 := n6_
             clear n0_ n1_ n2_ n3_ n4_ n5_ n6_
             clear ho hb hg hat
             refine hK.out _ _ ⟨(blk_cell BK394.out 0).trans rfl, (blk_cell BK394.out 1).trans rfl, (blk_cell BK394.out 2).trans rfl, (blk_cell BK394.out 3).trans rfl, (blk_cell BK389.out 0).trans rfl⟩ (fun hHeld => ?_)
             clear hK K
             refine norm_ (a' := ?_) ?_ ?_
             rotate_left
             ·show Act.put _ (some 90) _ = _
              simp only [Act.put, List.setIfInBounds_toArray, List.set_cons_zero, List.set_cons_succ, i64_w, i32_w]
              rfl
             refine pq (i := 9) (N := some 8) #[true, true, true, true, true, true, true, true, true, true] ?_
             refine done_ (done_of HT_.out (by kernel_rfl)) ?_
             try go_wp2
             go_ret
             exact ⟨_, Y0, by (with_reducible repeat (first | apply Kd.R_alloc | apply Kd.R_drewN | apply Kd.R_drew)); exact Kd.R_mono HO448.out (fun _ hk => trivial), Y3, Y6, Y1⟩
            ·rw [if_neg c89] at H
             exact absurd H (by simp)
           ·rw [if_neg c85] at H
            have c85b0 : decide (x9_5 < 11) = false := decide_eq_false c85
            clear c85
            by_cases c105 : x9_5 = 11
            ·rw [if_pos c105] at H
             have c105b0 : (x9_5 == 11) = true := beq_iff_eq.mpr c105
             have c105b1 : (x9_5 != 11) = false := bne_eq_false_iff_eq.mpr c105
             clear c105
             obtain ⟨y449, hy449⟩ : ∃ y_ : List Int, y_ = (([2, 1, 3, 0] : List Int)) := ⟨_, rfl⟩
             replace H : ((spec_reader_one.f kj49 s0_0 x1001_5 y449).bind fun bt452 => ((some (([(⟨a2, 12, bt452.1, 0⟩ : S59)] : List (S59)) : List (S59))).bind fun y454 => ((spec_aBlock.f kj49 s0_0 bt452.2 l1_0 (wrap64 (a2 + 1)) true).bind fun bt457 => (if y454.length + bt457.1.length < 4398046511104 then (some ((y454 ++ bt457.1), bt457.2)) else (none))))) = some (r1, r2) := by first | (rw [hy449]; with_reducible exact H) | (have H2_ := (Option.bind_some _ _).symm.trans H; rw [hy449]; with_reducible exact H2_) | (have H2_ := (Option.bind_some _ _).symm.trans H; with_reducible exact H2_) | with_reducible exact H | (rw [hy449]; exact H) | exact H
             have Ny449 := am hy449
             clear hy449
             replace H := Option.bind_eq_some_iff.mp H
             obtain ⟨⟨t452, t453⟩, A1060, H⟩ := H
             replace H : ((some (([(⟨a2, 12, t452, 0⟩ : S59)] : List (S59)) : List (S59))).bind fun y454 => ((spec_aBlock.f kj49 s0_0 t453 l1_0 (wrap64 (a2 + 1)) true).bind fun bt457 => (if y454.length + bt457.1.length < 4398046511104 then (some ((y454 ++ bt457.1), bt457.2)) else (none)))) = some (r1, r2) := H
             have A106 := am A1060
             clear A1060
             obtain ⟨y454, hy454⟩ : ∃ y_ : List (S59), y_ = (([(⟨a2, 12, t452, 0⟩ : S59)] : List (S59))) := ⟨_, rfl⟩
             replace H : ((spec_aBlock.f kj49 s0_0 t453 l1_0 (wrap64 (a2 + 1)) true).bind fun bt457 => (if y454.length + bt457.1.length < 4398046511104 then (some ((y454 ++ bt457.1), bt457.2)) else (none))) = some (r1, r2) := by first | (rw [hy454]; with_reducible exact H) | (have H2_ := (Option.bind_some _ _).symm.trans H; rw [hy454]; with_reducible exact H2_) | (have H2_ := (Option.bind_some _ _).symm.trans H; with_reducible exact H2_) | with_reducible exact H | (rw [hy454]; exact H) | exact H
             have Ny454 := am hy454
             clear hy454
             replace H := Option.bind_eq_some_iff.mp H
             obtain ⟨⟨t457, t460⟩, A1070, H⟩ := H
             replace H : (if y454.length + t457.length < 4398046511104 then (some ((y454 ++ t457), t460)) else (none)) = some (r1, r2) := H
             have A107 := am A1070
             clear A1070
             by_cases c108 : y454.length + t457.length < 4398046511104
             ·rw [if_pos c108] at H
              have LMc108 := am c108
              clear c108
              obtain ⟨y461, hy461⟩ : ∃ y_ : List (S59), y_ = (y454 ++ t457) := ⟨_, rfl⟩
              replace H : (some (y461, t460)) = some (r1, r2) := by first | (rw [hy461]; with_reducible exact H) | (have H2_ := (Option.bind_some _ _).symm.trans H; rw [hy461]; with_reducible exact H2_) | (have H2_ := (Option.bind_some _ _).symm.trans H; with_reducible exact H2_) | with_reducible exact H | (rw [hy461]; exact H) | exact H
              have Ny461 := am hy461
              clear hy461
              simp only [Option.some.injEq, Prod.mk.injEq] at H
              obtain ⟨rfl, rfl⟩ := H
              have hnb109 := NB394_389.out
              have hnc109 := NB389_394.out
              have hnb110 := NB394_0.out
              have hnc110 := NB0_394.out
              have hcz111_0 := bc0 BK394.out
              have hcz111_1 := bc1 BK394.out
              have hcz111_2 := bc2 BK394.out
              have hcz111_3 := bc3 BK394.out
              have hfz111_0 := blk_frozen BK394.out 0
              have hfz111_1 := blk_frozen BK394.out 1
              have hfz111_2 := blk_frozen BK394.out 2
              have hfz111_3 := blk_frozen BK394.out 3
              try go_wp2_with (first | ((with_reducible refine gate_dst (N := 96) rfl ?_); refine Kd.R_lit (Kd.int .i64) _ 3 ?hg (N := 96) ?hd (xs := ([2, 1, 3, 0] : List Int)) (inner := [.int .i64 2, .int .i64 1, .int .i64 3, .int .i64 0]) (ok := fun _ => True) (okp := fun _ => True) ?hr ?hp (fun _ hk => hk) trivial (Below.refl _ _) (Nat.le_refl _) (by simp) ?_; (case hd => rfl); (case hg => rfl); (case hr => exact Y5); (case hp => exact (Reps.one (show Kd.M (Kd.int .i64) _ _ _ 2 [.int .i64 2] from rfl) (Reps.one (show Kd.M (Kd.int .i64) _ _ _ 1 [.int .i64 1] from rfl) (Reps.one (show Kd.M (Kd.int .i64) _ _ _ 3 [.int .i64 3] from rfl) (Reps.one (show Kd.M (Kd.int .i64) _ _ _ 0 [.int .i64 0] from rfl) (Reps.none _ _)))))); intro v450 w112 ho113 hb hg_ hnew_; clear hg_ hnew_; (first | rw [← Ny449.out] at ho113 | (simp only [Int.reduceToNat] at ho113; rw [← Ny449.out] at ho113)); have HO451 := am (Kd.R_lower ho113 (keep_size (w := w) (g := g) (row := none) (Y1))); replace BK389 := am (blk_below (g := gb389) (o := .cells #[.slice A1_0 l1_0.length c1_0] 32 (0, 0)) (Y44) hb); replace BK394 := am (blk_below (g := gb394) (o := .cells #[.int .i64 a2, .int .i64 12, .int .i64 0, .int .i64 0] 59 (0, 0)) (Y62) hb); replace HK := am (KeepBut.trans (Y1) (KeepBut.of_below hb g none) (.inl rfl)); replace HB := am (below_step (Y6) hb); replace HI0 := am (IsS106.below (show IsS106 w0 (wc.setCell ⟨gb394, 1, none⟩ (.int .i64 12)) g s0_0 x1001_5 from Y3) hb); clear hb ho113; obtain ⟨Ao114, co114, eo114⟩ := Kd.R_slice HO451.out; subst eo114) | ((with_reducible refine gate_callee (f := 56) rfl ?_); refine gL (some 97) Try.func56 #[.pointer (some ⟨g, 0, none⟩), .slice Ao114 y449.length co114] ?_; (with_reducible refine (spec_reader_one.calls kj49 g s0_0 x1001_5 _ _ y449 t452 t453 w0 _ ?side1 ?side2 ?side3 ?side4 ?side5 A106.out).mono ?_); (case side1 => exact Y3); (case side2 => exact Y6); (case side3 => exact cq (Kd.R_reads' HO451.out).2.2); (case side4 => exact (Kd.R_reads' HO451.out).2.1); (case side5 => exact far_slice (IsS106.own_ne HI0.out HO451.out (by decide))); rintro e w115 ⟨rfl, hi, hb, hk⟩; refine ⟨_, rfl, ?_⟩; replace BK389 := am (KeepBut.blk hk (g' := gb389) (o := .cells #[.slice A1_0 l1_0.length c1_0] 32 (0, 0)) (kq BK389.out) NB389_0.out (by simp)); replace BK394 := am (KeepBut.blk hk (g' := gb394) (o := .cells #[.int .i64 a2, .int .i64 12, .int .i64 0, .int .i64 0] 59 (0, 0)) (kq BK394.out) NB394_0.out (by simp)); replace HO451 := am (Kd.R_mono (Kd.R_keep (IsS106.apart (show IsS106 w0 _ g s0_0 x1001_5 from Y3) (rq HO451.out) (by decide)) hk (fun _ h => h.2)) (fun _ h => h.1)); replace HK := am (KeepBut.trans (Y1) hk (.inl rfl)); replace HB := am (hb); replace HI0 := am (hi); (try clear hb); (try clear hb2); (try clear hk); (try clear hi); have hcz116_0 := bc0 BK394.out; have hcz116_1 := bc1 BK394.out; have hcz116_2 := bc2 BK394.out; have hcz116_3 := bc3 BK394.out; have hfz116_0 := blk_frozen BK394.out 0; have hfz116_1 := blk_frozen BK394.out 1; have hfz116_2 := blk_frozen BK394.out 2; have hfz116_3 := blk_frozen BK394.out 3))
              have n0_ : Aside0 (Kd.R (Kd.int .i64) 3 (w115.setCell ⟨gb394, 2, none⟩ (.int .i64 t452)) w.heap.size (fun _ => True) (.slice Ao114 y449.length co114) y449) := ⟨by (with_reducible repeat (first | apply Kd.R_alloc | apply Kd.R_drewN | apply Kd.R_drew)); exact Kd.R_mono (Kd.R_far (p := ⟨gb394, 2, none⟩) (Kd.R_types HO451.out BK394.out (by decide)) (fun _ hk => hk.2) (.int .i64 t452)) (fun _ hk => trivial)⟩
              have n1_ : Aside0 ((w115.setCell ⟨gb394, 2, none⟩ (.int .i64 t452)).heap[gb389]? = some (.cells #[.slice A1_0 l1_0.length c1_0] 32 (0, 0))) := ⟨by (with_reducible repeat (first | refine blk_drewN ?_ _ | refine blk_drew ?_ | refine blk_alloc ?_ _)); refine blk_far ?_ NB389_394.out _; (with_reducible repeat (first | refine blk_drewN ?_ _ | refine blk_drew ?_ | refine blk_alloc ?_ _)); exact BK389.out⟩
              have n2_ : Aside0 ((w115.setCell ⟨gb394, 2, none⟩ (.int .i64 t452)).heap[gb394]? = some (.cells #[.int .i64 a2, .int .i64 12, .int .i64 t452, .int .i64 0] 59 (0, 0))) := ⟨by (with_reducible repeat (first | refine blk_drewN ?_ _ | refine blk_drew ?_ | refine blk_alloc ?_ _)); refine blk_put (cs := #[.int .i64 a2, .int .i64 12, .int .i64 0, .int .i64 0]) ?_ 2 _ rfl; (with_reducible repeat (first | refine blk_drewN ?_ _ | refine blk_drew ?_ | refine blk_alloc ?_ _)); exact BK394.out⟩
              have n3_ : Aside0 (IsS106 w0 (w115.setCell ⟨gb394, 2, none⟩ (.int .i64 t452)) g s0_0 t453) := ⟨Y3⟩
              have n4_ : Aside0 (KeepBut w (w115.setCell ⟨gb394, 2, none⟩ (.int .i64 t452)) g none) := ⟨Y1⟩
              have n5_ : Aside0 (Below w0.heap.size w0 (w115.setCell ⟨gb394, 2, none⟩ (.int .i64 t452))) := ⟨Y6⟩
              (try clear HO451)
              (try clear BK389)
              (try clear BK394)
              (try clear HI0)
              (try clear HK)
              (try clear HB)
              generalize (w115.setCell ⟨gb394, 2, none⟩ (.int .i64 t452)) = w117 at n0_ n1_ n2_ n3_ n4_ n5_ ⊢
              have HO451 := n0_
              have BK389 := n1_
              have BK394 := n2_
              have HI0 := n3_
              have HK := n4_
              have HB := n5_
              clear n0_ n1_ n2_ n3_ n4_ n5_
              replace HO451 := am (Kd.R_drew HO451.out)
              replace BK389 := am (blk_drew BK389.out)
              replace BK394 := am (blk_drew BK394.out)
              replace HI0 := am (IsS106.drew HI0.out)
              replace HK := am (keep_drew HK.out)
              replace HB := am (below_drew1 HB.out)
              refine start_ (n := 9) (S := fun w' => w'.cell? ⟨gb394, 0, none⟩ = some (.int .i64 a2) ∧ w'.cell? ⟨gb394, 1, none⟩ = some (.int .i64 12) ∧ w'.cell? ⟨gb394, 2, none⟩ = some (.int .i64 t452) ∧ w'.cell? ⟨gb394, 3, none⟩ = some (.int .i64 0) ∧ w'.cell? ⟨gb389, 0, none⟩ = some (.slice A1_0 l1_0.length c1_0)) (ds := []) #[false, false, false, false, false, false, false, false, false] (by kernel_rfl) rfl rfl ⟨(blk_cell BK394.out 0).trans rfl, (blk_cell BK394.out 1).trans rfl, (blk_cell BK394.out 2).trans rfl, (blk_cell BK394.out 3).trans rfl, (blk_cell BK389.out 0).trans rfl⟩ (fun hHeld => ?_); refine with_tabW spec_aStatement.tab30 spec_aStatement.bits30 (fun HT_ HW_ => ?_)
              generalize w117.drew = w118 at HO451 BK389 BK394 HI0 HK HB hHeld ⊢
              refine pq (i := 2) (N := some 101) #[false, false, true, false, false, false, false, false, false] ?_
              refine pq (i := 4) (N := some 103) #[false, false, true, false, true, false, false, false, false] ?_
              refine pq (i := 5) (N := some 104) #[false, false, true, false, true, true, false, false, false] ?_
              refine take_ (i := 0) (N := some 99) (v := ?_) (a' := ?_) #[true, false, true, false, true, true, false, false, false] rfl rfl (take_ofW HT_.out HW_.out (by kernel_rfl)) (fun _ _ _ h => h) (Or.inl ⟨by rfl, ?_⟩) hHeld ?_ ?_
              rotate_left
              ·rintro w' ⟨s0, s1, s2, s3, s4⟩
               go_simp
               with_reducible rfl
              rotate_left
              ·exact sa
              refine take_ (i := 3) (N := some 102) (v := ?_) (a' := ?_) #[true, false, true, true, true, true, false, false, false] rfl rfl (take_ofW HT_.out HW_.out (by kernel_rfl)) (fun _ _ _ h => h) (Or.inl ⟨by rfl, ?_⟩) hHeld ?_ ?_
              rotate_left
              ·rintro w' ⟨s0, s1, s2, s3, s4⟩
               go_simp
               with_reducible rfl
              rotate_left
              ·exact sa
              refine join_ (σ := Value × Value) 2 #[true, true, true, true, true, true, true, false, false] (fun s_ => [(100, s_.1), (105, s_.2)]) (fun s_ w' => (w'.cell? ⟨gb394, 0, none⟩ = some (.int .i64 a2) ∧ w'.cell? ⟨gb394, 1, none⟩ = some (.int .i64 12) ∧ w'.cell? ⟨gb394, 2, none⟩ = some (.int .i64 t452) ∧ w'.cell? ⟨gb394, 3, none⟩ = some (.int .i64 0) ∧ w'.cell? ⟨gb389, 0, none⟩ = some (.slice A1_0 l1_0.length c1_0)) ∧ (Kd.R (Kd.int .i64) 3 w' w.heap.size (fun _ => True) (.slice Ao114 y449.length co114) y449) ∧ (Kd.R k59 59 w' w.heap.size (fun k_ => some k_ ≠ (s_.2 : Value).ownBlock ∧ k_ ≠ gb394) s_.1 y454) ∧ (Kd.R k59 59 w' w.heap.size (fun k_ => some k_ ≠ (s_.1 : Value).ownBlock ∧ k_ ≠ gb394) s_.2 t457) ∧ (w'.heap[gb389]? = some (.cells #[.slice A1_0 l1_0.length c1_0] 32 (0, 0))) ∧ (w'.heap[gb394]? = some (.cells #[.int .i64 a2, .int .i64 12, .int .i64 t452, .int .i64 0] 59 (0, 0))) ∧ (IsS106 w0 w' g s0_0 t460) ∧ (KeepBut w w' g none) ∧ (Below w0.heap.size w0 w')) ?_ ?_
              rotate_left
              ·intro hCont
               refine two_ (i := 1) (j := 6) (Ni := some 100) (Nj := some 105) #[true, true, true, true, true, true, false, false, false] #[true, false, true, true, true, true, true, false, false] rfl rfl rfl rfl (two_of HT_.out (by kernel_rfl)) (by decide) (by decide) (fun K hK => ?_) (fun K hK => ?_)
               ·skip
                refine Kd.R_lit_step k59 _ 59 ?hg (N := 100) ?hd (xs := ([(⟨a2, 12, t452, 0⟩ : S59)] : List (S59))) (inner := [.int .i64 a2, .int .i64 12, .int .i64 t452, .int .i64 0]) (ok := fun _ => True) (okp := fun _ => True) ?hr ?hp (fun _ hk => hk) trivial (Below.refl _ _) (Nat.le_refl _) (by simp) ?_; (case hd => rfl); (case hg => rfl); (case hr => exact Y5); (case hp => exact (Reps.c4 (show Kd.M k59 _ _ _ (⟨a2, 12, t452, 0⟩ : S59) [.int .i64 a2, .int .i64 12, .int .i64 t452, .int .i64 0] from (k59_mkM _ _ _ (⟨a2, 12, t452, 0⟩ : S59) )) (Reps.none _ _)))
                intro v455 w119 ho120 hb hg_ hnew_
                clear hg_ hnew_
                (first | rw [← Ny454.out] at ho120 | (simp only [Int.reduceToNat] at ho120; rw [← Ny454.out] at ho120))
                have HO456 := am (Kd.R_lower (Kd.R_newB ho120 (g := gb394) (o := .cells #[.int .i64 a2, .int .i64 12, .int .i64 t452, .int .i64 0] 59 (0, 0)) (kq BK394.out)) (keep_size (w := w) (g := g) (row := none) (Y1)))
                replace HO451 := am (Kd.R_below (rq HO451.out) hb)
                replace BK389 := am (blk_below (g := gb389) (o := .cells #[.slice A1_0 l1_0.length c1_0] 32 (0, 0)) (kq BK389.out) hb)
                replace BK394 := am (blk_below (g := gb394) (o := .cells #[.int .i64 a2, .int .i64 12, .int .i64 t452, .int .i64 0] 59 (0, 0)) (kq BK394.out) hb)
                replace HK := am (KeepBut.trans (Y1) (KeepBut.of_below hb g none) (.inl rfl))
                replace HB := am (below_step (Y6) hb)
                replace HI0 := am (IsS106.below (Y3) hb)
                clear hb ho120
                refine hK.out _ _ ⟨(blk_cell BK394.out 0).trans rfl, (blk_cell BK394.out 1).trans rfl, (blk_cell BK394.out 2).trans rfl, (blk_cell BK394.out 3).trans rfl, (blk_cell BK389.out 0).trans rfl⟩ (fun hHeld => ?_)
                clear hK K
                refine norm_ (a' := ?_) ?_ ?_
                rotate_left
                ·show Act.put _ (some 100) _ = _
                 simp only [Act.put, List.setIfInBounds_toArray, List.set_cons_zero, List.set_cons_succ, i64_w, i32_w]
                 rfl
                refine one_ (i := 6) (N := some 105) #[true, true, true, true, true, true, true, false, false] rfl rfl (one_of HT_.out (by kernel_rfl)) (by decide) (fun K hK => ?_)
                refine goes_ Try.func98 (by kernel_rfl) rfl #[.pointer (some ⟨g, 0, none⟩), .agg #[.slice A1_0 l1_0.length c1_0], .int .i64 (wrap64 (a2 + 1)), .bool true] (by rfl) rfl rfl (aq) ?_
                with_reducible refine (ih98 kj49 (by have := HJ5.out; have := HJ49.out; omega) g s0_0 t453 _ _ l1_0 (wrap64 (a2 + 1)) true t457 t460 w0 _ ?side1 ?side2 ?side3 ?side4 A107.out).mono ?_
                (case side1 => exact Y3)
                (case side2 => exact Y6)
                (case side3 => exact Kd.C_foot_step HR1_0.out (Y1))
                (case side4 => exact HC1_0.out)
                rintro e w121 ⟨v458, rfl, ho0, hi, hb, hk⟩
                refine ⟨_, rfl, ?_⟩
                have HO459 := am (Kd.R_lower (Kd.R_newB (Kd.R_new' ho0 (Kd.R_lt (rq HO456.out))) (g := gb394) (o := .cells #[.int .i64 a2, .int .i64 12, .int .i64 t452, .int .i64 0] 59 (0, 0)) (kq BK394.out)) (keep_size (w := w) (g := g) (row := none) (Y1)))
                replace BK389 := am (KeepBut.blk hk (g' := gb389) (o := .cells #[.slice A1_0 l1_0.length c1_0] 32 (0, 0)) (kq BK389.out) NB389_0.out (by simp))
                replace BK394 := am (KeepBut.blk hk (g' := gb394) (o := .cells #[.int .i64 a2, .int .i64 12, .int .i64 t452, .int .i64 0] 59 (0, 0)) (kq BK394.out) NB394_0.out (by simp))
                replace HO451 := am (Kd.R_mono (Kd.R_keep (IsS106.apart (show IsS106 w0 _ g s0_0 t453 from Y3) (rq HO451.out) (by decide)) hk (fun _ h => h.2)) (fun _ h => h.1))
                replace HO456 := am (Kd.R_mono (Kd.R_told (Kd.R_oldK (IsS106.apart (show IsS106 w0 _ g s0_0 t453 from Y3) (rq HO456.out) (by decide)) hk) (Kd.R_base ho0)) (fun _ h_ => h_.1))
                replace HK := am (KeepBut.trans (Y1) hk (.inl rfl))
                replace HB := am (hb)
                replace HI0 := am (hi)
                (try clear hb)
                (try clear hb2)
                (try clear hk)
                (try clear hi)
                (try clear ho0)
                refine hK.out _ _ ⟨(blk_cell BK394.out 0).trans rfl, (blk_cell BK394.out 1).trans rfl, (blk_cell BK394.out 2).trans rfl, (blk_cell BK394.out 3).trans rfl, (blk_cell BK389.out 0).trans rfl⟩ (fun hHeld => ?_)
                clear hK K
                refine norm_ (a' := ?_) ?_ ?_
                rotate_left
                ·show Act.put _ (some 105) _ = _
                 simp only [Act.put, List.setIfInBounds_toArray, List.set_cons_zero, List.set_cons_succ, i64_w, i32_w]
                 rfl
                exact norm_ (by simp only [putAll, Act.put, List.setIfInBounds_toArray, List.set_cons_zero, List.set_cons_succ]) (hCont (v455, v458) _ ⟨hHeld, (rq HO451.out), (by (with_reducible repeat (first | apply Kd.R_alloc | apply Kd.R_drewN | apply Kd.R_drew)); exact Kd.R_mono HO456.out (fun _ hk => ⟨hk.2, hk.1.2⟩)), (by (with_reducible repeat (first | apply Kd.R_alloc | apply Kd.R_drewN | apply Kd.R_drew)); exact Kd.R_mono HO459.out (fun _ hk => ⟨hk.1.2, hk.2⟩)), (kq BK389.out), (kq BK394.out), (Y3), (Y1), (Y6)⟩)
               ·skip
                refine goes_ Try.func98 (by kernel_rfl) rfl #[.pointer (some ⟨g, 0, none⟩), .agg #[.slice A1_0 l1_0.length c1_0], .int .i64 (wrap64 (a2 + 1)), .bool true] (by rfl) rfl rfl (aq) ?_
                with_reducible refine (ih98 kj49 (by have := HJ5.out; have := HJ49.out; omega) g s0_0 t453 _ _ l1_0 (wrap64 (a2 + 1)) true t457 t460 w0 _ ?side1 ?side2 ?side3 ?side4 A107.out).mono ?_
                (case side1 => exact Y3)
                (case side2 => exact Y6)
                (case side3 => exact Kd.C_foot_step HR1_0.out (Y1))
                (case side4 => exact HC1_0.out)
                rintro e w119 ⟨v458, rfl, ho0, hi, hb, hk⟩
                refine ⟨_, rfl, ?_⟩
                have HO459 := am (Kd.R_lower (Kd.R_newB ho0 (g := gb394) (o := .cells #[.int .i64 a2, .int .i64 12, .int .i64 t452, .int .i64 0] 59 (0, 0)) (kq BK394.out)) (keep_size (w := w) (g := g) (row := none) (Y1)))
                replace BK389 := am (KeepBut.blk hk (g' := gb389) (o := .cells #[.slice A1_0 l1_0.length c1_0] 32 (0, 0)) (kq BK389.out) NB389_0.out (by simp))
                replace BK394 := am (KeepBut.blk hk (g' := gb394) (o := .cells #[.int .i64 a2, .int .i64 12, .int .i64 t452, .int .i64 0] 59 (0, 0)) (kq BK394.out) NB394_0.out (by simp))
                replace HO451 := am (Kd.R_mono (Kd.R_keep (IsS106.apart (show IsS106 w0 _ g s0_0 t453 from Y3) (rq HO451.out) (by decide)) hk (fun _ h => h.2)) (fun _ h => h.1))
                replace HK := am (KeepBut.trans (Y1) hk (.inl rfl))
                replace HB := am (hb)
                replace HI0 := am (hi)
                (try clear hb)
                (try clear hb2)
                (try clear hk)
                (try clear hi)
                (try clear ho0)
                refine hK.out _ _ ⟨(blk_cell BK394.out 0).trans rfl, (blk_cell BK394.out 1).trans rfl, (blk_cell BK394.out 2).trans rfl, (blk_cell BK394.out 3).trans rfl, (blk_cell BK389.out 0).trans rfl⟩ (fun hHeld => ?_)
                clear hK K
                refine norm_ (a' := ?_) ?_ ?_
                rotate_left
                ·show Act.put _ (some 105) _ = _
                 simp only [Act.put, List.setIfInBounds_toArray, List.set_cons_zero, List.set_cons_succ, i64_w, i32_w]
                 rfl
                refine one_ (i := 1) (N := some 100) #[true, true, true, true, true, true, true, false, false] rfl rfl (one_of HT_.out (by kernel_rfl)) (by decide) (fun K hK => ?_)
                refine Kd.R_lit_step k59 _ 59 ?hg (N := 100) ?hd (xs := ([(⟨a2, 12, t452, 0⟩ : S59)] : List (S59))) (inner := [.int .i64 a2, .int .i64 12, .int .i64 t452, .int .i64 0]) (ok := fun _ => True) (okp := fun _ => True) ?hr ?hp (fun _ hk => hk) trivial (Below.refl _ _) (Nat.le_refl _) (by simp) ?_; (case hd => rfl); (case hg => rfl); (case hr => exact Y5); (case hp => exact (Reps.c4 (show Kd.M k59 _ _ _ (⟨a2, 12, t452, 0⟩ : S59) [.int .i64 a2, .int .i64 12, .int .i64 t452, .int .i64 0] from (k59_mkM _ _ _ (⟨a2, 12, t452, 0⟩ : S59) )) (Reps.none _ _)))
                intro v455 w120 ho121 hb hg_ hnew_
                clear hg_ hnew_
                (first | rw [← Ny454.out] at ho121 | (simp only [Int.reduceToNat] at ho121; rw [← Ny454.out] at ho121))
                have HO456 := am (Kd.R_lower (Kd.R_newB (Kd.R_new' ho121 (Kd.R_lt (rq HO459.out))) (g := gb394) (o := .cells #[.int .i64 a2, .int .i64 12, .int .i64 t452, .int .i64 0] 59 (0, 0)) (kq BK394.out)) (keep_size (w := w) (g := g) (row := none) (Y1)))
                replace HO451 := am (Kd.R_below (rq HO451.out) hb)
                replace HO459 := am (Kd.R_elder' (rq HO459.out) (Kd.R_base ho121) hb)
                replace BK389 := am (blk_below (g := gb389) (o := .cells #[.slice A1_0 l1_0.length c1_0] 32 (0, 0)) (kq BK389.out) hb)
                replace BK394 := am (blk_below (g := gb394) (o := .cells #[.int .i64 a2, .int .i64 12, .int .i64 t452, .int .i64 0] 59 (0, 0)) (kq BK394.out) hb)
                replace HK := am (KeepBut.trans (Y1) (KeepBut.of_below hb g none) (.inl rfl))
                replace HB := am (below_step (Y6) hb)
                replace HI0 := am (IsS106.below (Y3) hb)
                clear hb ho121
                refine hK.out _ _ ⟨(blk_cell BK394.out 0).trans rfl, (blk_cell BK394.out 1).trans rfl, (blk_cell BK394.out 2).trans rfl, (blk_cell BK394.out 3).trans rfl, (blk_cell BK389.out 0).trans rfl⟩ (fun hHeld => ?_)
                clear hK K
                refine norm_ (a' := ?_) ?_ ?_
                rotate_left
                ·show Act.put _ (some 100) _ = _
                 simp only [Act.put, List.setIfInBounds_toArray, List.set_cons_zero, List.set_cons_succ, i64_w, i32_w]
                 rfl
                exact norm_ (by simp only [putAll, Act.put, List.setIfInBounds_toArray, List.set_cons_zero, List.set_cons_succ]) (hCont (v455, v458) _ ⟨hHeld, (rq HO451.out), (by (with_reducible repeat (first | apply Kd.R_alloc | apply Kd.R_drewN | apply Kd.R_drew)); exact Kd.R_mono HO456.out (fun _ hk => ⟨hk.1.2, hk.2⟩)), (by (with_reducible repeat (first | apply Kd.R_alloc | apply Kd.R_drewN | apply Kd.R_drew)); exact Kd.R_mono HO459.out (fun _ hk => ⟨hk.2, hk.1.2⟩)), (kq BK389.out), (kq BK394.out), (Y3), (Y1), (Y6)⟩)
              rintro ⟨v455, v458⟩ w122 ⟨hS_, h0_, h1_, h2_, h3_, h4_, h5_, h6_, h7_⟩
              have n0_ : Aside0 (Kd.R (Kd.int .i64) 3 w122 w.heap.size (fun _ => True) (.slice Ao114 y449.length co114) y449) := ⟨h0_⟩
              have n1_ : Aside0 (Kd.R k59 59 w122 w.heap.size (fun k_ => some k_ ≠ (v458 : Value).ownBlock ∧ k_ ≠ gb394) v455 y454) := ⟨h1_⟩
              have n2_ : Aside0 (Kd.R k59 59 w122 w.heap.size (fun k_ => some k_ ≠ (v455 : Value).ownBlock ∧ k_ ≠ gb394) v458 t457) := ⟨h2_⟩
              have n3_ : Aside0 (w122.heap[gb389]? = some (.cells #[.slice A1_0 l1_0.length c1_0] 32 (0, 0))) := ⟨h3_⟩
              have n4_ : Aside0 (w122.heap[gb394]? = some (.cells #[.int .i64 a2, .int .i64 12, .int .i64 t452, .int .i64 0] 59 (0, 0))) := ⟨h4_⟩
              have n5_ : Aside0 (IsS106 w0 w122 g s0_0 t460) := ⟨h5_⟩
              have n6_ : Aside0 (KeepBut w w122 g none) := ⟨h6_⟩
              have n7_ : Aside0 (Below w0.heap.size w0 w122) := ⟨h7_⟩
              clear HO451
              clear BK389
              clear BK394
              clear HI0
              clear HK
              clear HB
              clear h0_ h1_ h2_ h3_ h4_ h5_ h6_ h7_
              have HO451 := n0_
              have HO456 := n1_
              have HO459 := n2_
              have BK389 := n3_
              have BK394 := n4_
              have HI0 := n5_
              have HK := n6_
              have HB := n7_
              clear n0_ n1_ n2_ n3_ n4_ n5_ n6_ n7_
              have hHeld : w122.cell? ⟨gb394, 0, none⟩ = some (.int .i64 a2) ∧ w122.cell? ⟨gb394, 1, none⟩ = some (.int .i64 12) ∧ w122.cell? ⟨gb394, 2, none⟩ = some (.int .i64 t452) ∧ w122.cell? ⟨gb394, 3, none⟩ = some (.int .i64 0) ∧ w122.cell? ⟨gb389, 0, none⟩ = some (.slice A1_0 l1_0.length c1_0) := hS_
              obtain ⟨Ao124, co124, eo124⟩ := Kd.R_slice HO459.out
              (first | subst eo124 | (injection eo124 with f1_ f2_ f3_; have f4_ := f1_.symm; have f5_ := f3_.symm; clear f1_ f2_ f3_; subst f4_; subst f5_))
              refine norm_ (a' := ?_) ?_ ?_
              rotate_left
              ·simp only [putAll, Act.put, List.setIfInBounds_toArray, List.set_cons_zero, List.set_cons_succ]
               rfl
              refine one_ (i := 7) (N := some 106) #[true, true, true, true, true, true, true, true, false] rfl rfl (one_of HT_.out (by kernel_rfl)) (by decide) (fun K hK => ?_)
              refine Kd.R_append_rows_step k59 w.heap.size (by rfl) (.tmp 100) (.tmp 105) 34 59 (.agg #[(.int .i64 0), (.int .i64 0), (.int .i64 0), (.int .i64 0)]) 32 rfl Try.underlying34 info59 rfl (by decide) (by omega) v455 y454 t457 _ _ _ (fun k_ => some k_ ≠ (.slice Ao124 t457.length co124 : Value).ownBlock ∧ k_ ≠ gb394) (fun _ => False) rfl rfl ?aO ?aR (fun _ _ h => h) (fun _ h => h.elim) ?aF (Below.refl _ _) ?aS ?aL ?_
              (case aR => repeat (first | exact (Kd.R_reads' HO459.out).2.2 | (with_reducible refine Kd.C_alloc ?_ _) | (with_reducible refine Kd.C_drewN ?_ _) | (with_reducible refine Kd.C_drew ?_)))
              (case aF => exact (fun k_ hk => ⟨Kd.fresh' (Kd.R_lt (rq HO459.out)) k_ hk, Kd.freshB (g := gb394) (o := .cells #[.int .i64 a2, .int .i64 12, .int .i64 t452, .int .i64 0] 59 (0, 0)) (kq BK394.out) k_ hk⟩))
              (case aO => exact (rq HO456.out))
              (case aS => exact (keep_size (w := w) (g := g) (row := none) (Y1)))
              (case aL => have := LMc108.out; omega)
              intro v462 w123 ho hb hg hat
              rw [← Ny461.out] at ho
              have n0_ := am (blk_grown (g := gb389) (o := .cells #[.slice A1_0 l1_0.length c1_0] 32 (0, 0)) (kq BK389.out) hg (Kd.R_ne HO456.out BK389.out (by decide)))
              have n1_ := am (blk_grown (g := gb394) (o := .cells #[.int .i64 a2, .int .i64 12, .int .i64 t452, .int .i64 0] 59 (0, 0)) (kq BK394.out) hg (Kd.R_away HO456.out (fun _ hk => hk.2)))
              have n2_ := am (IsS106.grown (Y3) hg (IsS106.own_ne HI0.out HO456.out (by decide)))
              have n3_ := am (Kd.R_over' (rq HO451.out) (Kd.R_typed (rq HO456.out)) (by decide) hg)
              have n4_ := am (Kd.R_after (ok := (fun k_ => k_ ≠ gb394)) (by (with_reducible repeat (first | apply Kd.R_alloc | apply Kd.R_drewN | apply Kd.R_drew)); exact Kd.R_mono HO459.out (fun _ hk => ⟨hk.2, hk.1⟩)) hg hat)
              have n5_ := am (below_weaken (Y6) HL.out hb)
              have n6_ := am (KeepBut.trans (Y1) (KeepBut.of_grown hg g) (Kd.R_base2 HO456.out))
              have n7_ := am (ho)
              clear BK389
              clear BK394
              clear HI0
              clear HO451
              clear HO459
              clear HB
              clear HK
              clear HO456
              have BK389 := n0_
              have BK394 := n1_
              have HI0 := n2_
              have HO451 := n3_
              have HO459 := n4_
              have HB := n5_
              have HK := n6_
              have HO463 := n7_
              clear n0_ n1_ n2_ n3_ n4_ n5_ n6_ n7_
              clear ho hb hg hat
              refine hK.out _ _ ⟨(blk_cell BK394.out 0).trans rfl, (blk_cell BK394.out 1).trans rfl, (blk_cell BK394.out 2).trans rfl, (blk_cell BK394.out 3).trans rfl, (blk_cell BK389.out 0).trans rfl⟩ (fun hHeld => ?_)
              clear hK K
              refine norm_ (a' := ?_) ?_ ?_
              rotate_left
              ·show Act.put _ (some 106) _ = _
               simp only [Act.put, List.setIfInBounds_toArray, List.set_cons_zero, List.set_cons_succ, i64_w, i32_w]
               rfl
              refine pq (i := 8) (N := some 8) #[true, true, true, true, true, true, true, true, true] ?_
              refine done_ (done_of HT_.out (by kernel_rfl)) ?_
              try go_wp2
              go_ret
              exact ⟨_, Y0, by (with_reducible repeat (first | apply Kd.R_alloc | apply Kd.R_drewN | apply Kd.R_drew)); exact Kd.R_mono HO463.out (fun _ hk => trivial), Y3, Y6, Y1⟩
             ·rw [if_neg c108] at H
              exact absurd H (by simp)
            ·rw [if_neg c105] at H
             have c105b0 : (x9_5 == 11) = false := beq_eq_false_iff_ne.mpr c105
             have c105b1 : (x9_5 != 11) = true := bne_iff_ne.mpr c105
             replace H := Option.bind_eq_some_iff.mp H
             obtain ⟨⟨t464, t467⟩, A1250, H⟩ := H
             replace H : (some (t464, t467)) = some (r1, r2) := H
             have A125 := am A1250
             clear A1250
             simp only [Option.some.injEq, Prod.mk.injEq] at H
             obtain ⟨rfl, rfl⟩ := H
             have hnb126 := NB389_394.out
             have hnc126 := NB394_389.out
             have hnb127 := NB389_0.out
             have hnc127 := NB0_389.out
             have hcz128_0 := bc0 BK389.out
             have hfz128_0 := blk_frozen BK389.out 0
             go_wp2_with (first | ((with_reducible refine gate_callee (f := 97) rfl ?_); refine gL (some 23) Try.func97 #[.pointer (some ⟨g, 0, none⟩), .agg #[.slice A1_0 l1_0.length c1_0], .int .i64 a2, .bool a3] ?_; (with_reducible refine (ih97 kj49 (by have := HJ5.out; have := HJ49.out; omega) g s0_0 x1001_5 _ _ l1_0 a2 a3 t464 t467 w0 _ ?side1 ?side2 ?side3 ?side4 A125.out).mono ?_); (case side1 => exact Y3); (case side2 => exact Y6); (case side3 => exact Kd.C_foot_step HR1_0.out (Y1)); (case side4 => exact HC1_0.out); rintro e w129 ⟨v465, rfl, ho0, hi, hb, hk⟩; refine ⟨_, rfl, ?_⟩; have HO466 := am (Kd.R_lower (Kd.R_newB ho0 (g := gb394) (o := .cells #[.int .i64 a2, .int .i64 0, .int .i64 0, .int .i64 0] 59 (0, 0)) (kq BK394.out)) (keep_size (w := w) (g := g) (row := none) (Y1))); replace BK389 := am (KeepBut.blk hk (g' := gb389) (o := .cells #[.slice A1_0 l1_0.length c1_0] 32 (0, 0)) (kq BK389.out) NB389_0.out (by simp)); replace BK394 := am (KeepBut.blk hk (g' := gb394) (o := .cells #[.int .i64 a2, .int .i64 0, .int .i64 0, .int .i64 0] 59 (0, 0)) (kq BK394.out) NB394_0.out (by simp)); replace HK := am (KeepBut.trans (Y1) hk (.inl rfl)); replace HB := am (hb); replace HI0 := am (hi); (try clear hb); (try clear hb2); (try clear hk); (try clear hi); (try clear ho0)))
             go_ret
             exact ⟨_, Y0, by (with_reducible repeat (first | apply Kd.R_alloc | apply Kd.R_drewN | apply Kd.R_drew)); exact Kd.R_mono HO466.out (fun _ hk => trivial), Y3, Y6, Y1⟩
set_option maxHeartbeats 8000000 in
set_option maxRecDepth 100000 in
theorem spec_aBlock.calls_of (k : Nat) (ih104 : ∀ k_, k_ < k → ∀ (g : Nat) (s0_0 : List Int) (s0_1 : Int) (A1_0 : Option Addr) (c1_0 : Nat) (l1_0 : List (S98)) (a2 : Int) (a3 : Bool) (r1 : List (S59)) (r2 : Int) (w0 w : World) (hI : IsS106 w0 w g s0_0 s0_1) (hB : Below w0.heap.size w0 w) (hr1_0 : ∀ W_, KeepBut w W_ g none → Kd.C k98 W_ A1_0 l1_0.length l1_0) (hc1_0 : l1_0.length ≤ c1_0) (h : spec_aStatement.f k_ s0_0 s0_1 l1_0 a2 a3 = some (r1, r2)), Calls Try.prog 104 #[.pointer (some ⟨g, 0, none⟩), .agg #[.slice A1_0 l1_0.length c1_0], .int .i64 a2, .bool a3] w fun e w' => ∃ v0_ : Value, e = .returned (v0_) ∧ Kd.R k59 59 w' w.heap.size (fun _ => True) v0_ r1 ∧ IsS106 w0 w' g s0_0 r2 ∧ Below w0.heap.size w0 w' ∧ KeepBut w w' g none) (ih98 : ∀ k_, k_ < k → ∀ (g : Nat) (s0_0 : List Int) (s0_1 : Int) (A1_0 : Option Addr) (c1_0 : Nat) (l1_0 : List (S98)) (a2 : Int) (a3 : Bool) (r1 : List (S59)) (r2 : Int) (w0 w : World) (hI : IsS106 w0 w g s0_0 s0_1) (hB : Below w0.heap.size w0 w) (hr1_0 : ∀ W_, KeepBut w W_ g none → Kd.C k98 W_ A1_0 l1_0.length l1_0) (hc1_0 : l1_0.length ≤ c1_0) (h : spec_aBlock.f k_ s0_0 s0_1 l1_0 a2 a3 = some (r1, r2)), Calls Try.prog 98 #[.pointer (some ⟨g, 0, none⟩), .agg #[.slice A1_0 l1_0.length c1_0], .int .i64 a2, .bool a3] w fun e w' => ∃ v0_ : Value, e = .returned (v0_) ∧ Kd.R k59 59 w' w.heap.size (fun _ => True) v0_ r1 ∧ IsS106 w0 w' g s0_0 r2 ∧ Below w0.heap.size w0 w' ∧ KeepBut w w' g none) (ih97 : ∀ k_, k_ < k → ∀ (g : Nat) (s0_0 : List Int) (s0_1 : Int) (A1_0 : Option Addr) (c1_0 : Nat) (l1_0 : List (S98)) (a2 : Int) (a3 : Bool) (r1 : List (S59)) (r2 : Int) (w0 w : World) (hI : IsS106 w0 w g s0_0 s0_1) (hB : Below w0.heap.size w0 w) (hr1_0 : ∀ W_, KeepBut w W_ g none → Kd.C k98 W_ A1_0 l1_0.length l1_0) (hc1_0 : l1_0.length ≤ c1_0) (h : spec_aTry.f k_ s0_0 s0_1 l1_0 a2 a3 = some (r1, r2)), Calls Try.prog 97 #[.pointer (some ⟨g, 0, none⟩), .agg #[.slice A1_0 l1_0.length c1_0], .int .i64 a2, .bool a3] w fun e w' => ∃ v0_ : Value, e = .returned (v0_) ∧ Kd.R k59 59 w' w.heap.size (fun _ => True) v0_ r1 ∧ IsS106 w0 w' g s0_0 r2 ∧ Below w0.heap.size w0 w' ∧ KeepBut w w' g none) : ∀ (g : Nat) (s0_0 : List Int) (s0_1 : Int) (A1_0 : Option Addr) (c1_0 : Nat) (l1_0 : List (S98)) (a2 : Int) (a3 : Bool) (r1 : List (S59)) (r2 : Int) (w0 w : World) (hI : IsS106 w0 w g s0_0 s0_1) (hB : Below w0.heap.size w0 w) (hr1_0 : ∀ W_, KeepBut w W_ g none → Kd.C k98 W_ A1_0 l1_0.length l1_0) (hc1_0 : l1_0.length ≤ c1_0) (h : spec_aBlock.f k s0_0 s0_1 l1_0 a2 a3 = some (r1, r2)),
  Calls Try.prog 98 #[.pointer (some ⟨g, 0, none⟩), .agg #[.slice A1_0 l1_0.length c1_0], .int .i64 a2, .bool a3] w fun e w' => ∃ v0_ : Value, e = .returned (v0_) ∧ Kd.R k59 59 w' w.heap.size (fun _ => True) v0_ r1 ∧ IsS106 w0 w' g s0_0 r2 ∧ Below w0.heap.size w0 w' ∧ KeepBut w w' g none := by
 intro g s0_0 s0_1 A1_0 c1_0 l1_0 a2 a3 r1 r2 w0 w hI hB hr1_0 hc1_0 h
 cases k with
 | zero => exact absurd h (by simp [spec_aBlock.f])
 | succ k =>
 simp only [spec_aBlock.f] at h
 have hu32 := Try.underlying32
 have HR1_0 := am hr1_0
 have HC1_0 := am hc1_0
 clear hr1_0 hc1_0
 have HI0 := am hI
 have HK := am (KeepBut.refl w g none)
 have HL := am hB.size
 clear hI
 have HW0 := am hB.size
 have HB := am hB
 clear hB
 have H : ((spec_reader_one.f k s0_0 s0_1 (([1, 2, 1, 2, 3] : List Int))).bind fun bt475 => (spec_aBlock.l0 k a2 a3 (([] : List (S59))) bt475.1 s0_0 bt475.2 l1_0)) = some (r1, r2) := h
 clear h
 obtain ⟨y469, hy469⟩ : ∃ y_ : List (S59), y_ = (([] : List (S59))) := ⟨_, rfl⟩
 replace H : ((spec_reader_one.f k s0_0 s0_1 (([1, 2, 1, 2, 3] : List Int))).bind fun bt475 => (spec_aBlock.l0 k a2 a3 y469 bt475.1 s0_0 bt475.2 l1_0)) = some (r1, r2) := by first | (rw [hy469]; with_reducible exact H) | (have H2_ := (Option.bind_some _ _).symm.trans H; rw [hy469]; with_reducible exact H2_) | (have H2_ := (Option.bind_some _ _).symm.trans H; with_reducible exact H2_) | with_reducible exact H | (rw [hy469]; exact H) | exact H
 have Ny469 := am hy469
 clear hy469
 obtain ⟨y472, hy472⟩ : ∃ y_ : List Int, y_ = (([1, 2, 1, 2, 3] : List Int)) := ⟨_, rfl⟩
 replace H : ((spec_reader_one.f k s0_0 s0_1 y472).bind fun bt475 => (spec_aBlock.l0 k a2 a3 y469 bt475.1 s0_0 bt475.2 l1_0)) = some (r1, r2) := by first | (rw [hy472]; with_reducible exact H) | (have H2_ := (Option.bind_some _ _).symm.trans H; rw [hy472]; with_reducible exact H2_) | (have H2_ := (Option.bind_some _ _).symm.trans H; with_reducible exact H2_) | with_reducible exact H | (rw [hy472]; exact H) | exact H
 have Ny472 := am hy472
 clear hy472
 replace H := Option.bind_eq_some_iff.mp H
 obtain ⟨⟨t475, t476⟩, A50, H⟩ := H
 replace H : (spec_aBlock.l0 k a2 a3 y469 t475 s0_0 t476 l1_0) = some (r1, r2) := H
 have A5 := am A50
 clear A50
 have H' := am H
 clear H
 go_enter Try.func98, Try.ntmps98
 go_wp2_with (first | ((with_reducible refine gate_dst (N := 5) rfl ?_); refine bE (N := 5) (cs := #[.slice A1_0 l1_0.length c1_0]) (t := 32) ?_; intro gb468 hg w6 hbox hb; have BK468 := am (hbox); have GW468 := am ((Y10 : w.heap.size ≤ gb468)); have GE468 := am ((Nat.le_trans HW0.out (Y10 : w.heap.size ≤ gb468) : w0.heap.size ≤ gb468)); have NB0_468 := am ((Y22 : g ≠ gb468)); have NB468_0 := am ((Y23 : gb468 ≠ g)); replace HK := am (KeepBut.trans (Y14) (KeepBut.of_below hb g none) (.inl rfl)); replace HB := am (below_step (Y15) hb); replace HI0 := am (IsS106.below (Y13) hb); clear hb hbox hg) | ((with_reducible refine gate_dst (N := 11) rfl ?_); refine Kd.R_lit k59 _ 59 ?hg (N := 11) ?hd (xs := ([] : List (S59))) (inner := []) (ok := fun _ => True) (okp := fun _ => True) ?hr ?hp (fun _ hk => hk) trivial (Below.refl _ _) (Nat.le_refl _) (by simp) ?_; (case hd => rfl); (case hg => rfl); (case hr => exact Y5); (case hp => exact (Reps.none _ _)); intro v470 w7 ho8 hb hg_ hnew_; clear hg_ hnew_; (first | rw [← Ny469.out] at ho8 | (simp only [Int.reduceToNat] at ho8; rw [← Ny469.out] at ho8)); have HO471 := am (Kd.R_lower ho8 (keep_size (w := w) (g := g) (row := none) (Y33))); replace BK468 := am (blk_below (g := gb468) (o := .cells #[.slice A1_0 l1_0.length c1_0] 32 (0, 0)) (kq BK468.out) hb); replace HK := am (KeepBut.trans (Y33) (KeepBut.of_below hb g none) (.inl rfl)); replace HB := am (below_step (Y55) hb); replace HI0 := am (IsS106.below (Y43) hb); clear hb ho8) | ((with_reducible refine gate_dst (N := 13) rfl ?_); refine Kd.R_lit (Kd.int .i64) _ 3 ?hg (N := 13) ?hd (xs := ([1, 2, 1, 2, 3] : List Int)) (inner := [.int .i64 1, .int .i64 2, .int .i64 1, .int .i64 2, .int .i64 3]) (ok := fun _ => True) (okp := fun _ => True) ?hr ?hp (fun _ hk => hk) trivial (Below.refl _ _) (Nat.le_refl _) (by simp) ?_; (case hd => rfl); (case hg => rfl); (case hr => exact Y5); (case hp => exact (Reps.one (show Kd.M (Kd.int .i64) _ _ _ 1 [.int .i64 1] from rfl) (Reps.one (show Kd.M (Kd.int .i64) _ _ _ 2 [.int .i64 2] from rfl) (Reps.one (show Kd.M (Kd.int .i64) _ _ _ 1 [.int .i64 1] from rfl) (Reps.one (show Kd.M (Kd.int .i64) _ _ _ 2 [.int .i64 2] from rfl) (Reps.one (show Kd.M (Kd.int .i64) _ _ _ 3 [.int .i64 3] from rfl) (Reps.none _ _))))))); intro v473 w9 ho10 hb hg_ hnew_; clear hg_ hnew_; (first | rw [← Ny472.out] at ho10 | (simp only [Int.reduceToNat] at ho10; rw [← Ny472.out] at ho10)); have HO474 := am (Kd.R_lower ho10 (keep_size (w := w) (g := g) (row := none) (Y33))); replace HO471 := am (Kd.R_below (rq HO471.out) hb); replace BK468 := am (blk_below (g := gb468) (o := .cells #[.slice A1_0 l1_0.length c1_0] 32 (0, 0)) (kq BK468.out) hb); replace HK := am (KeepBut.trans (Y33) (KeepBut.of_below hb g none) (.inl rfl)); replace HB := am (below_step (Y55) hb); replace HI0 := am (IsS106.below (Y43) hb); clear hb ho10; obtain ⟨Ao11, co11, eo11⟩ := Kd.R_slice HO474.out; subst eo11) | ((with_reducible refine gate_callee (f := 56) rfl ?_); refine gL (some 14) Try.func56 #[.pointer (some ⟨g, 0, none⟩), .slice Ao11 y472.length co11] ?_; (with_reducible refine (spec_reader_one.calls k g s0_0 s0_1 _ _ y472 t475 t476 w0 _ ?side1 ?side2 ?side3 ?side4 ?side5 A5.out).mono ?_); (case side1 => exact Y43); (case side2 => exact Y55); (case side3 => exact cq (Kd.R_reads' HO474.out).2.2); (case side4 => exact (Kd.R_reads' HO474.out).2.1); (case side5 => exact far_slice (IsS106.own_ne HI0.out HO474.out (by decide))); rintro e w12 ⟨rfl, hi, hb, hk⟩; refine ⟨_, rfl, ?_⟩; replace BK468 := am (KeepBut.blk hk (g' := gb468) (o := .cells #[.slice A1_0 l1_0.length c1_0] 32 (0, 0)) (kq BK468.out) NB468_0.out (by simp)); replace HO471 := am (Kd.R_mono (Kd.R_keep (IsS106.apart (show IsS106 w0 _ g s0_0 s0_1 from Y43) (rq HO471.out) (by decide)) hk (fun _ h => h.2)) (fun _ h => h.1)); replace HO474 := am (Kd.R_mono (Kd.R_keep (IsS106.apart (show IsS106 w0 _ g s0_0 s0_1 from Y43) (rq HO474.out) (by decide)) hk (fun _ h => h.2)) (fun _ h => h.1)); replace HK := am (KeepBut.trans (Y33) hk (.inl rfl)); replace HB := am (hb); replace HI0 := am (hi); (try clear hb); (try clear hb2); (try clear hk); (try clear hi)))
 go_loopg [9, 10] k (fun kq v9 v10 w' => ∃ (x9_1 : List (S59)) (x10_1 : Int) (x1001_1 : Int), v10 = .int .i64 x10_1 ∧ Aside0 (spec_aBlock.l0 kq a2 a3 x9_1 x10_1 s0_0 x1001_1 l1_0 = some (r1, r2)) ∧ Aside0 (kq ≤ k) ∧ Aside0 (Kd.R k59 59 w' w.heap.size (fun _ => True) v9 x9_1) ∧ Aside0 (w'.heap[gb468]? = some (.cells #[(.slice A1_0 l1_0.length c1_0)] 32 (0, 0))) ∧ Aside0 (IsS106 w0 w' g s0_0 x1001_1) ∧ Aside0 (KeepBut w w' g none) ∧ Aside0 (Below w0.heap.size w0 w'))
 case atStart => exact ⟨(y469), (t475), (t476), (sq), H', ⟨Nat.le_refl _⟩, ⟨rq HO471.out⟩, ⟨kq BK468.out⟩, ⟨Y43⟩, ⟨Y33⟩, ⟨Y55⟩⟩
 case round =>
  clear H'
  try clear c1
  try clear p2
  try clear c5
  try clear c9
  obtain ⟨x9_1, x10_1, x1001_1, rfl, HA, HK1, HO_9, BK468, HI0, HK, HB⟩ := hrel
  cases gk with
  | zero => exact absurd HA.out (by simp [spec_aBlock.l0])
  | succ k1 =>
   have H := HA.out
   clear HA
   simp only [spec_aBlock.l0] at H
   by_cases c13 : x10_1 > 0
   ·rw [if_pos c13] at H
    have c13b0 : decide (0 < x10_1) = true := decide_eq_true c13
    clear c13
    replace H := Option.bind_eq_some_iff.mp H
    obtain ⟨⟨t477, t480⟩, A140, H⟩ := H
    replace H : (if x9_1.length + t477.length < 4398046511104 then (spec_aBlock.l0 k1 a2 a3 (x9_1 ++ t477) (wrap64 (x10_1 - 1)) s0_0 t480 l1_0) else (none)) = some (r1, r2) := H
    have A14 := am A140
    clear A140
    by_cases c15 : x9_1.length + t477.length < 4398046511104
    ·rw [if_pos c15] at H
     have LMc15 := am c15
     clear c15
     obtain ⟨y481, hy481⟩ : ∃ y_ : List (S59), y_ = (x9_1 ++ t477) := ⟨_, rfl⟩
     replace H : (spec_aBlock.l0 k1 a2 a3 y481 (wrap64 (x10_1 - 1)) s0_0 t480 l1_0) = some (r1, r2) := by first | (rw [hy481]; with_reducible exact H) | (have H2_ := (Option.bind_some _ _).symm.trans H; rw [hy481]; with_reducible exact H2_) | (have H2_ := (Option.bind_some _ _).symm.trans H; with_reducible exact H2_) | with_reducible exact H | (rw [hy481]; exact H) | exact H
     have Ny481 := am hy481
     clear hy481
     have H' := am H
     clear H
     have hnb16 := NB468_0.out
     have hnc16 := NB0_468.out
     have hcz17_0 := bc0 BK468.out
     have hfz17_0 := blk_frozen BK468.out 0
     go_wp2_with (first | ((with_reducible refine gate_callee (f := 104) rfl ?_); refine gL (some 24) Try.func104 #[.pointer (some ⟨g, 0, none⟩), .agg #[.slice A1_0 l1_0.length c1_0], .int .i64 a2, .bool a3] ?_; (with_reducible refine (ih104 k1 (by have := HK1.out; omega) g s0_0 x1001_1 _ _ l1_0 a2 a3 t477 t480 w0 _ ?side1 ?side2 ?side3 ?side4 A14.out).mono ?_); (case side1 => exact Y43); (case side2 => exact Y55); (case side3 => exact Kd.C_foot_step HR1_0.out (Y33)); (case side4 => exact HC1_0.out); rintro e w18 ⟨v478, rfl, ho0, hi, hb, hk⟩; refine ⟨_, rfl, ?_⟩; have HO479 := am (Kd.R_lower (Kd.R_new' ho0 (Kd.R_lt (rq HO_9.out))) (keep_size (w := w) (g := g) (row := none) (Y33))); replace HO_9 := am (Kd.R_mono (Kd.R_told (Kd.R_oldK (IsS106.apart (show IsS106 w0 _ g s0_0 x1001_1 from Y43) (rq HO_9.out) (by decide)) hk) (Kd.R_base ho0)) (fun _ h_ => h_.1)); replace BK468 := am (KeepBut.blk hk (g' := gb468) (o := .cells #[.slice A1_0 l1_0.length c1_0] 32 (0, 0)) (kq BK468.out) NB468_0.out (by simp)); replace HK := am (KeepBut.trans (Y33) hk (.inl rfl)); replace HB := am (hb); replace HI0 := am (hi); (try clear hb); (try clear hb2); (try clear hk); (try clear hi); (try clear ho0); obtain ⟨Ao20, co20, eo20⟩ := Kd.R_slice HO479.out; subst eo20) | ((with_reducible refine gate_builtin (b := .append) (xs := #[.tmp 19, .tmp 24]) rfl ?_); at_builtin; refine Kd.R_append_rows k59 w.heap.size rfl (.tmp 19) (.tmp 24) 34 59 (.agg #[(.int .i64 0), (.int .i64 0), (.int .i64 0), (.int .i64 0)]) 32 rfl Try.underlying34 info59 rfl (by decide) (by omega) u9 x9_1 t477 _ _ _ (fun k_ => some k_ ≠ (.slice Ao20 t477.length co20 : Value).ownBlock) (fun _ => False) rfl rfl ?aO ?aR (fun _ _ h => h) (fun _ h => h.elim) ?aF (Below.refl _ _) ?aS ?aL ?_; (case aR => repeat (first | exact (Kd.R_reads' HO479.out).2.2 | (with_reducible refine Kd.C_alloc ?_ _) | (with_reducible refine Kd.C_drewN ?_ _) | (with_reducible refine Kd.C_drew ?_))); (case aF => exact (fun k_ hk => Kd.fresh' (Kd.R_lt (rq HO479.out)) k_ hk)); (case aO => exact (by (with_reducible repeat (first | apply Kd.R_alloc | apply Kd.R_drewN | apply Kd.R_drew)); exact Kd.R_mono HO_9.out (fun _ hk => hk.2))); (case aS => exact (keep_size (w := w) (g := g) (row := none) (Y33))); (case aL => have := LMc15.out; omega); intro v482 w19 ho hb hg hat; rw [← Ny481.out] at ho; have n0_ := am (blk_grown (g := gb468) (o := .cells #[.slice A1_0 l1_0.length c1_0] 32 (0, 0)) (kq BK468.out) hg (Kd.R_ne HO_9.out BK468.out (by decide))); have n1_ := am (IsS106.grown (Y43) hg (IsS106.own_ne HI0.out HO_9.out (by decide))); have n2_ := am (Kd.R_after (ok := (fun _ => True)) (rq HO479.out) hg hat); have n3_ := am (below_weaken (Y55) HL.out hb); have n4_ := am (KeepBut.trans (Y33) (KeepBut.of_grown hg g) (Kd.R_base2 HO_9.out)); have n5_ := am (ho); clear BK468 HI0 HO479 HB HK HO_9; have BK468 := n0_; have HI0 := n1_; have HO479 := n2_; have HB := n3_; have HK := n4_; have HO483 := n5_; clear n0_ n1_ n2_ n3_ n4_ n5_ ho hb hg hat))
     go_roundg k1
     case measure => have := HK1.out; omega
     case rel => exact ⟨(y481), (wrap64 (x10_1 - 1)), (t480), (sq), H', ⟨by have := HK1.out; omega⟩, ⟨by (with_reducible repeat (first | apply Kd.R_alloc | apply Kd.R_drewN | apply Kd.R_drew)); exact Kd.R_mono HO483.out (fun _ hk => trivial)⟩, ⟨kq BK468.out⟩, ⟨Y43⟩, ⟨Y33⟩, ⟨Y55⟩⟩
    ·rw [if_neg c15] at H
     exact absurd H (by simp)
   ·rw [if_neg c13] at H
    have c13b0 : decide (0 < x10_1) = false := decide_eq_false c13
    clear c13
    simp only [Option.some.injEq, Prod.mk.injEq] at H
    obtain ⟨rfl, rfl⟩ := H
    go_wp2
    go_ret
    exact ⟨_, Y0, rq HO_9.out, Y43, Y55, Y33⟩
end Go.Proofs.Ytbcjbcjpoddkoaa.P
end
