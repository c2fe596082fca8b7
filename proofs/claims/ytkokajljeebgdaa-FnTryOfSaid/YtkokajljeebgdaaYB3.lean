/- One part of the proofs on this program: functions of the program as plain functions, that the code comes to them, and facts on them. -/
import Derived.Test.YtkokajljeebgdaaYAll1
import Derived.Test.YtkokajljeebgdaaYB1
import Derived.Test.YtkokajljeebgdaaYB2
import Derived.Test.YtkokajljeebgdaaYWAuto
section
namespace Go.Proofs.Ytkokajljeebgdaa.P
open Go.RowKit Go.Proofs.YtkokajljeebgdaaW.PrintWords Go.Proofs.YtkokajljeebgdaaW.PrintLast Go.Proofs.YtkokajljeebgdaaW.PrintMore
attribute [local go_sem] max2_int min2_int max_two min_two max_three min_three max_four min_four isSome_cell_setCell
set_option linter.unusedVariables false
set_option linter.unusedSimpArgs false
set_option maxHeartbeats 8000000 in
set_option maxRecDepth 100000 in
theorem spec_aTry.calls_of (k : Nat) (ih119 : ∀ k_, k_ < k → ∀ (g : Nat) (s0_0 : List Int) (s0_1 : Int) (A1_0 : Option Addr) (c1_0 : Nat) (l1_0 : List (S87)) (a2 : Int) (a3 : Bool) (r1 : List (S52)) (r2 : Int) (w0 w : World) (hI : IsS97 w0 w g s0_0 s0_1) (hB : Below w0.heap.size w0 w) (hr1_0 : ∀ W_, KeepBut w W_ g none → Kd.C k87 W_ A1_0 l1_0.length l1_0) (hc1_0 : l1_0.length ≤ c1_0) (h : spec_aStatement.f k_ s0_0 s0_1 l1_0 a2 a3 = some (r1, r2)), Calls Try.prog 119 #[.pointer (some ⟨g, 0, none⟩), .agg #[.slice A1_0 l1_0.length c1_0], .int .i64 a2, .bool a3] w fun e w' => ∃ v0_ : Value, e = .returned (v0_) ∧ Kd.R k52 52 w' w.heap.size (fun _ => True) v0_ r1 ∧ IsS97 w0 w' g s0_0 r2 ∧ Below w0.heap.size w0 w' ∧ KeepBut w w' g none) (ih118 : ∀ k_, k_ < k → ∀ (g : Nat) (s0_0 : List Int) (s0_1 : Int) (A1_0 : Option Addr) (c1_0 : Nat) (l1_0 : List (S87)) (a2 : Int) (a3 : Bool) (r1 : List (S52)) (r2 : Int) (w0 w : World) (hI : IsS97 w0 w g s0_0 s0_1) (hB : Below w0.heap.size w0 w) (hr1_0 : ∀ W_, KeepBut w W_ g none → Kd.C k87 W_ A1_0 l1_0.length l1_0) (hc1_0 : l1_0.length ≤ c1_0) (h : spec_aBlock.f k_ s0_0 s0_1 l1_0 a2 a3 = some (r1, r2)), Calls Try.prog 118 #[.pointer (some ⟨g, 0, none⟩), .agg #[.slice A1_0 l1_0.length c1_0], .int .i64 a2, .bool a3] w fun e w' => ∃ v0_ : Value, e = .returned (v0_) ∧ Kd.R k52 52 w' w.heap.size (fun _ => True) v0_ r1 ∧ IsS97 w0 w' g s0_0 r2 ∧ Below w0.heap.size w0 w' ∧ KeepBut w w' g none) (ih117 : ∀ k_, k_ < k → ∀ (g : Nat) (s0_0 : List Int) (s0_1 : Int) (A1_0 : Option Addr) (c1_0 : Nat) (l1_0 : List (S87)) (a2 : Int) (a3 : Bool) (r1 : List (S52)) (r2 : Int) (w0 w : World) (hI : IsS97 w0 w g s0_0 s0_1) (hB : Below w0.heap.size w0 w) (hr1_0 : ∀ W_, KeepBut w W_ g none → Kd.C k87 W_ A1_0 l1_0.length l1_0) (hc1_0 : l1_0.length ≤ c1_0) (h : spec_aTry.f k_ s0_0 s0_1 l1_0 a2 a3 = some (r1, r2)), Calls Try.prog 117 #[.pointer (some ⟨g, 0, none⟩), .agg #[.slice A1_0 l1_0.length c1_0], .int .i64 a2, .bool a3] w fun e w' => ∃ v0_ : Value, e = .returned (v0_) ∧ Kd.R k52 52 w' w.heap.size (fun _ => True) v0_ r1 ∧ IsS97 w0 w' g s0_0 r2 ∧ Below w0.heap.size w0 w' ∧ KeepBut w w' g none) : ∀ (g : Nat) (s0_0 : List Int) (s0_1 : Int) (A1_0 : Option Addr) (c1_0 : Nat) (l1_0 : List (S87)) (a2 : Int) (a3 : Bool) (r1 : List (S52)) (r2 : Int) (w0 w : World) (hI : IsS97 w0 w g s0_0 s0_1) (hB : Below w0.heap.size w0 w) (hr1_0 : ∀ W_, KeepBut w W_ g none → Kd.C k87 W_ A1_0 l1_0.length l1_0) (hc1_0 : l1_0.length ≤ c1_0) (h : spec_aTry.f k s0_0 s0_1 l1_0 a2 a3 = some (r1, r2)),
  Calls Try.prog 117 #[.pointer (some ⟨g, 0, none⟩), .agg #[.slice A1_0 l1_0.length c1_0], .int .i64 a2, .bool a3] w fun e w' => ∃ v0_ : Value, e = .returned (v0_) ∧ Kd.R k52 52 w' w.heap.size (fun _ => True) v0_ r1 ∧ IsS97 w0 w' g s0_0 r2 ∧ Below w0.heap.size w0 w' ∧ KeepBut w w' g none := by
 intro g s0_0 s0_1 A1_0 c1_0 l1_0 a2 a3 r1 r2 w0 w hI hB hr1_0 hc1_0 h
 cases k with
 | zero => exact absurd h (by simp [spec_aTry.f])
 | succ k =>
 simp only [spec_aTry.f] at h
 have hu32 := Try.underlying32
 have hu52 := Try.underlying52
 have HR1_0 := am hr1_0
 have HC1_0 := am hc1_0
 clear hr1_0 hc1_0
 have HI0 := am hI
 have HK := am (KeepBut.refl w g none)
 have HL := am hB.size
 clear hI
 have HW0 := am hB.size
 have HB := am hB
 clear hB
 have H : ((some (([(⟨a2, 7, 0, 0⟩ : S52)] : List (S52)) : List (S52))).bind fun y806 => ((spec_aBlock.f k s0_0 s0_1 l1_0 (wrap64 (a2 + 1)) a3).bind fun bt809 => (if y806.length + bt809.1.length < 4398046511104 then ((spec_reader_one.f k s0_0 bt809.2 (([1, 2, 0, 1] : List Int))).bind fun bt819 => (spec_aTry.l0 k a2 a3 (y806 ++ bt809.1) bt819.1 bt819.1 s0_0 bt819.2 l1_0)) else (none)))) = some (r1, r2) := h
 clear h
 obtain ⟨y806, hy806⟩ : ∃ y_ : List (S52), y_ = (([(⟨a2, 7, 0, 0⟩ : S52)] : List (S52))) := ⟨_, rfl⟩
 replace H : ((spec_aBlock.f k s0_0 s0_1 l1_0 (wrap64 (a2 + 1)) a3).bind fun bt809 => (if y806.length + bt809.1.length < 4398046511104 then ((spec_reader_one.f k s0_0 bt809.2 (([1, 2, 0, 1] : List Int))).bind fun bt819 => (spec_aTry.l0 k a2 a3 (y806 ++ bt809.1) bt819.1 bt819.1 s0_0 bt819.2 l1_0)) else (none))) = some (r1, r2) := by first | (rw [hy806]; with_reducible exact H) | (have H2_ := (Option.bind_some _ _).symm.trans H; rw [hy806]; with_reducible exact H2_) | (have H2_ := (Option.bind_some _ _).symm.trans H; with_reducible exact H2_) | with_reducible exact H | (rw [hy806]; exact H) | exact H
 have Ny806 := am hy806
 clear hy806
 replace H := Option.bind_eq_some_iff.mp H
 obtain ⟨⟨t809, t812⟩, A50, H⟩ := H
 replace H : (if y806.length + t809.length < 4398046511104 then ((spec_reader_one.f k s0_0 t812 (([1, 2, 0, 1] : List Int))).bind fun bt819 => (spec_aTry.l0 k a2 a3 (y806 ++ t809) bt819.1 bt819.1 s0_0 bt819.2 l1_0)) else (none)) = some (r1, r2) := H
 have A5 := am A50
 clear A50
 by_cases c6 : y806.length + t809.length < 4398046511104
 ·rw [if_pos c6] at H
  have LMc6 := am c6
  clear c6
  obtain ⟨y813, hy813⟩ : ∃ y_ : List (S52), y_ = (y806 ++ t809) := ⟨_, rfl⟩
  replace H : ((spec_reader_one.f k s0_0 t812 (([1, 2, 0, 1] : List Int))).bind fun bt819 => (spec_aTry.l0 k a2 a3 y813 bt819.1 bt819.1 s0_0 bt819.2 l1_0)) = some (r1, r2) := by first | (rw [hy813]; with_reducible exact H) | (have H2_ := (Option.bind_some _ _).symm.trans H; rw [hy813]; with_reducible exact H2_) | (have H2_ := (Option.bind_some _ _).symm.trans H; with_reducible exact H2_) | with_reducible exact H | (rw [hy813]; exact H) | exact H
  have Ny813 := am hy813
  clear hy813
  obtain ⟨y816, hy816⟩ : ∃ y_ : List Int, y_ = (([1, 2, 0, 1] : List Int)) := ⟨_, rfl⟩
  replace H : ((spec_reader_one.f k s0_0 t812 y816).bind fun bt819 => (spec_aTry.l0 k a2 a3 y813 bt819.1 bt819.1 s0_0 bt819.2 l1_0)) = some (r1, r2) := by first | (rw [hy816]; with_reducible exact H) | (have H2_ := (Option.bind_some _ _).symm.trans H; rw [hy816]; with_reducible exact H2_) | (have H2_ := (Option.bind_some _ _).symm.trans H; with_reducible exact H2_) | with_reducible exact H | (rw [hy816]; exact H) | exact H
  have Ny816 := am hy816
  clear hy816
  replace H := Option.bind_eq_some_iff.mp H
  obtain ⟨⟨t819, t820⟩, A70, H⟩ := H
  replace H : (spec_aTry.l0 k a2 a3 y813 t819 t819 s0_0 t820 l1_0) = some (r1, r2) := H
  have A7 := am A70
  clear A70
  have H' := am H
  clear H
  go_enter Try.func117, Try.ntmps117
  go_wp2_with (first | ((with_reducible refine gate_dst (N := 5) rfl ?_); refine bE (N := 5) (cs := #[.slice A1_0 l1_0.length c1_0]) (t := 32) ?_; intro gb805 hg w8 hbox hb; have BK805 := am (hbox); have GW805 := am ((Y13 : w.heap.size ≤ gb805)); have GE805 := am ((Nat.le_trans HW0.out (Y13 : w.heap.size ≤ gb805) : w0.heap.size ≤ gb805)); have NB0_805 := am ((Y29 : g ≠ gb805)); have NB805_0 := am ((Y30 : gb805 ≠ g)); replace HK := am (KeepBut.trans (Y18) (KeepBut.of_below hb g none) (.inl rfl)); replace HB := am (below_step (Y19) hb); replace HI0 := am (IsS97.below (Y17) hb); clear hb hbox hg) | ((with_reducible refine gate_dst (N := 14) rfl ?_); refine Kd.R_lit k52 _ 52 ?hg (N := 14) ?hd (xs := ([(⟨a2, 7, 0, 0⟩ : S52)] : List (S52))) (inner := [.int .i64 a2, .int .i64 7, .int .i64 0, .int .i64 0]) (ok := fun _ => True) (okp := fun _ => True) ?hr ?hp (fun _ hk => hk) trivial (Below.refl _ _) (Nat.le_refl _) (by simp) ?_; (case hd => rfl); (case hg => rfl); (case hr => exact Y5); (case hp => exact (Reps.c4 (show Kd.M k52 _ _ _ (⟨a2, 7, 0, 0⟩ : S52) [.int .i64 a2, .int .i64 7, .int .i64 0, .int .i64 0] from (k52_mkM _ _ _ (⟨a2, 7, 0, 0⟩ : S52) )) (Reps.none _ _))); intro v807 w9 ho10 hb hg_ hnew_; clear hg_ hnew_; (first | rw [← Ny806.out] at ho10 | (simp only [Int.reduceToNat] at ho10; rw [← Ny806.out] at ho10)); have HO808 := am (Kd.R_lower ho10 (keep_size (w := w) (g := g) (row := none) (Y7))); replace BK805 := am (blk_below (g := gb805) (o := .cells #[.slice A1_0 l1_0.length c1_0] 32 (0, 0)) (kq BK805.out) hb); replace HK := am (KeepBut.trans (Y7) (KeepBut.of_below hb g none) (.inl rfl)); replace HB := am (below_step (Y14) hb); replace HI0 := am (IsS97.below (Y9) hb); clear hb ho10; have hnb11 := NB805_0.out; have hnc11 := NB0_805.out; have hcz12_0 := bc0 BK805.out; have hfz12_0 := blk_frozen BK805.out 0) | ((with_reducible refine gate_callee (f := 118) rfl ?_); refine gL (some 20) Try.func118 #[.pointer (some ⟨g, 0, none⟩), .agg #[.slice A1_0 l1_0.length c1_0], .int .i64 (wrap64 (a2 + 1)), .bool a3] ?_; (with_reducible refine (ih118 k (by omega) g s0_0 s0_1 _ _ l1_0 (wrap64 (a2 + 1)) a3 t809 t812 w0 _ ?side1 ?side2 ?side3 ?side4 A5.out).mono ?_); (case side1 => exact Y9); (case side2 => exact Y14); (case side3 => exact Kd.C_foot_step HR1_0.out (Y7)); (case side4 => exact HC1_0.out); rintro e w13 ⟨v810, rfl, ho0, hi, hb, hk⟩; refine ⟨_, rfl, ?_⟩; have HO811 := am (Kd.R_lower (Kd.R_new' ho0 (Kd.R_lt (rq HO808.out))) (keep_size (w := w) (g := g) (row := none) (Y7))); replace BK805 := am (KeepBut.blk hk (g' := gb805) (o := .cells #[.slice A1_0 l1_0.length c1_0] 32 (0, 0)) (kq BK805.out) NB805_0.out (by simp)); replace HO808 := am (Kd.R_mono (Kd.R_told (Kd.R_oldK (IsS97.apart (show IsS97 w0 _ g s0_0 s0_1 from Y9) (rq HO808.out) (by decide)) hk) (Kd.R_base ho0)) (fun _ h_ => h_.1)); replace HK := am (KeepBut.trans (Y7) hk (.inl rfl)); replace HB := am (hb); replace HI0 := am (hi); (try clear hb); (try clear hb2); (try clear hk); (try clear hi); (try clear ho0); obtain ⟨Ao15, co15, eo15⟩ := Kd.R_slice HO811.out; subst eo15) | ((with_reducible refine gate_builtin (b := .append) (xs := #[.tmp 14, .tmp 20]) rfl ?_); at_builtin; refine Kd.R_append_rows k52 w.heap.size rfl (.tmp 14) (.tmp 20) 34 52 (.agg #[(.int .i64 0), (.int .i64 0), (.int .i64 0), (.int .i64 0)]) 32 rfl Try.underlying34 info52 rfl (by decide) (by omega) v807 y806 t809 _ _ _ (fun k_ => some k_ ≠ (.slice Ao15 t809.length co15 : Value).ownBlock) (fun _ => False) rfl rfl ?aO ?aR (fun _ _ h => h) (fun _ h => h.elim) ?aF (Below.refl _ _) ?aS ?aL ?_; (case aR => repeat (first | exact (Kd.R_reads' HO811.out).2.2 | (with_reducible refine Kd.C_alloc ?_ _) | (with_reducible refine Kd.C_drewN ?_ _) | (with_reducible refine Kd.C_drew ?_))); (case aF => exact (fun k_ hk => Kd.fresh' (Kd.R_lt (rq HO811.out)) k_ hk)); (case aO => exact (by (with_reducible repeat (first | apply Kd.R_alloc | apply Kd.R_drewN | apply Kd.R_drew)); exact Kd.R_mono HO808.out (fun _ hk => hk.2))); (case aS => exact (keep_size (w := w) (g := g) (row := none) (Y7))); (case aL => have := LMc6.out; omega); intro v814 w14 ho hb hg hat; rw [← Ny813.out] at ho; have n0_ := am (IsS97.grown (Y9) hg (IsS97.own_ne HI0.out HO808.out (by decide))); have n1_ := am (blk_grown (g := gb805) (o := .cells #[.slice A1_0 l1_0.length c1_0] 32 (0, 0)) (kq BK805.out) hg (Kd.R_ne HO808.out BK805.out (by decide))); have n2_ := am (Kd.R_after (ok := (fun _ => True)) (rq HO811.out) hg hat); have n3_ := am (below_weaken (Y14) HL.out hb); have n4_ := am (KeepBut.trans (Y7) (KeepBut.of_grown hg g) (Kd.R_base2 HO808.out)); have n5_ := am (ho); clear HI0 BK805 HO811 HB HK HO808; have HI0 := n0_; have BK805 := n1_; have HO811 := n2_; have HB := n3_; have HK := n4_; have HO815 := n5_; clear n0_ n1_ n2_ n3_ n4_ n5_ ho hb hg hat) | ((with_reducible refine gate_dst (N := 23) rfl ?_); refine Kd.R_lit (Kd.int .i64) _ 3 ?hg (N := 23) ?hd (xs := ([1, 2, 0, 1] : List Int)) (inner := [.int .i64 1, .int .i64 2, .int .i64 0, .int .i64 1]) (ok := fun _ => True) (okp := fun _ => True) ?hr ?hp (fun _ hk => hk) trivial (Below.refl _ _) (Nat.le_refl _) (by simp) ?_; (case hd => rfl); (case hg => rfl); (case hr => exact Y5); (case hp => exact (Reps.one (show Kd.M (Kd.int .i64) _ _ _ 1 [.int .i64 1] from rfl) (Reps.one (show Kd.M (Kd.int .i64) _ _ _ 2 [.int .i64 2] from rfl) (Reps.one (show Kd.M (Kd.int .i64) _ _ _ 0 [.int .i64 0] from rfl) (Reps.one (show Kd.M (Kd.int .i64) _ _ _ 1 [.int .i64 1] from rfl) (Reps.none _ _)))))); intro v817 w16 ho17 hb hg_ hnew_; clear hg_ hnew_; (first | rw [← Ny816.out] at ho17 | (simp only [Int.reduceToNat] at ho17; rw [← Ny816.out] at ho17)); have HO818 := am (Kd.R_lower ho17 (keep_size (w := w) (g := g) (row := none) (Y7))); replace HO811 := am (Kd.R_below (rq HO811.out) hb); replace HO815 := am (Kd.R_below (rq HO815.out) hb); replace BK805 := am (blk_below (g := gb805) (o := .cells #[.slice A1_0 l1_0.length c1_0] 32 (0, 0)) (kq BK805.out) hb); replace HK := am (KeepBut.trans (Y7) (KeepBut.of_below hb g none) (.inl rfl)); replace HB := am (below_step (Y14) hb); replace HI0 := am (IsS97.below (Y9) hb); clear hb ho17; obtain ⟨Ao18, co18, eo18⟩ := Kd.R_slice HO818.out; subst eo18) | ((with_reducible refine gate_callee (f := 91) rfl ?_); refine gL (some 24) Try.func91 #[.pointer (some ⟨g, 0, none⟩), .slice Ao18 y816.length co18] ?_; (with_reducible refine (spec_reader_one.calls k g s0_0 t812 _ _ y816 t819 t820 w0 _ ?side1 ?side2 ?side3 ?side4 ?side5 A7.out).mono ?_); (case side1 => exact Y9); (case side2 => exact Y14); (case side3 => exact cq (Kd.R_reads' HO818.out).2.2); (case side4 => exact (Kd.R_reads' HO818.out).2.1); (case side5 => exact far_slice (IsS97.own_ne HI0.out HO818.out (by decide))); rintro e w19 ⟨rfl, hi, hb, hk⟩; refine ⟨_, rfl, ?_⟩; replace BK805 := am (KeepBut.blk hk (g' := gb805) (o := .cells #[.slice A1_0 l1_0.length c1_0] 32 (0, 0)) (kq BK805.out) NB805_0.out (by simp)); replace HO811 := am (Kd.R_mono (Kd.R_keep (IsS97.apart (show IsS97 w0 _ g s0_0 t812 from Y9) (rq HO811.out) (by decide)) hk (fun _ h => h.2)) (fun _ h => h.1)); replace HO815 := am (Kd.R_mono (Kd.R_keep (IsS97.apart (show IsS97 w0 _ g s0_0 t812 from Y9) (rq HO815.out) (by decide)) hk (fun _ h => h.2)) (fun _ h => h.1)); replace HO818 := am (Kd.R_mono (Kd.R_keep (IsS97.apart (show IsS97 w0 _ g s0_0 t812 from Y9) (rq HO818.out) (by decide)) hk (fun _ h => h.2)) (fun _ h => h.1)); replace HK := am (KeepBut.trans (Y7) hk (.inl rfl)); replace HB := am (hb); replace HI0 := am (hi); (try clear hb); (try clear hb2); (try clear hk); (try clear hi)))
  go_loopg [9, 11] k (fun kq v9 v11 w' => ∃ (x9_1 : List (S52)) (x11_1 : Int) (x1001_1 : Int), v11 = .int .i64 x11_1 ∧ Aside0 (spec_aTry.l0 kq a2 a3 x9_1 t819 x11_1 s0_0 x1001_1 l1_0 = some (r1, r2)) ∧ Aside0 (kq ≤ k) ∧ Aside0 (Kd.R k52 52 w' w.heap.size (fun _ => True) v9 x9_1) ∧ Aside0 (w'.heap[gb805]? = some (.cells #[(.slice A1_0 l1_0.length c1_0)] 32 (0, 0))) ∧ Aside0 (IsS97 w0 w' g s0_0 x1001_1) ∧ Aside0 (KeepBut w w' g none) ∧ Aside0 (Below w0.heap.size w0 w'))
  case atStart => exact ⟨(y813), (t819), (t820), (sq), H', ⟨Nat.le_refl _⟩, ⟨by (with_reducible repeat (first | apply Kd.R_alloc | apply Kd.R_drewN | apply Kd.R_drew)); exact Kd.R_mono HO815.out (fun _ hk => trivial)⟩, ⟨kq BK805.out⟩, ⟨Y9⟩, ⟨Y7⟩, ⟨Y14⟩⟩
  case round =>
   clear H'
   try clear c1
   try clear p2
   try clear c4
   try clear c6
   try clear p6
   try clear c9
   try clear c11
   try clear hcz12_0
   try clear hfz12_0
   obtain ⟨x9_1, x11_1, x1001_1, rfl, HA, HK1, HO_9, BK805, HI0, HK, HB⟩ := hrel
   cases gk with
   | zero => exact absurd HA.out (by simp [spec_aTry.l0])
   | succ k1 =>
    have H := HA.out
    clear HA
    simp only [spec_aTry.l0] at H
    by_cases c20 : x11_1 > 0
    ·rw [if_pos c20] at H
     have c20b0 : decide (0 < x11_1) = true := decide_eq_true c20
     clear c20
     replace H := Option.bind_eq_some_iff.mp H
     obtain ⟨⟨t821, t822⟩, A210, H⟩ := H
     replace H : ((spec_reader_one.f k1 s0_0 t822 (([t821, 0] : List Int))).bind fun bt826 => (if x9_1.length < 4398046511104 then ((some (x9_1 ++ [(⟨a2, 8, bt826.1, 0⟩ : S52)] : List (S52))).bind fun y828 => ((spec_aBlock.f k1 s0_0 bt826.2 l1_0 (wrap64 (a2 + 1)) a3).bind fun bt831 => (if y828.length + bt831.1.length < 4398046511104 then (spec_aTry.l0 k1 a2 a3 (y828 ++ bt831.1) t819 (wrap64 (x11_1 - 1)) s0_0 bt831.2 l1_0) else (none)))) else (none))) = some (r1, r2) := H
     have A21 := am A210
     clear A210
     obtain ⟨y823, hy823⟩ : ∃ y_ : List Int, y_ = (([t821, 0] : List Int)) := ⟨_, rfl⟩
     replace H : ((spec_reader_one.f k1 s0_0 t822 y823).bind fun bt826 => (if x9_1.length < 4398046511104 then ((some (x9_1 ++ [(⟨a2, 8, bt826.1, 0⟩ : S52)] : List (S52))).bind fun y828 => ((spec_aBlock.f k1 s0_0 bt826.2 l1_0 (wrap64 (a2 + 1)) a3).bind fun bt831 => (if y828.length + bt831.1.length < 4398046511104 then (spec_aTry.l0 k1 a2 a3 (y828 ++ bt831.1) t819 (wrap64 (x11_1 - 1)) s0_0 bt831.2 l1_0) else (none)))) else (none))) = some (r1, r2) := by first | (rw [hy823]; with_reducible exact H) | (have H2_ := (Option.bind_some _ _).symm.trans H; rw [hy823]; with_reducible exact H2_) | (have H2_ := (Option.bind_some _ _).symm.trans H; with_reducible exact H2_) | with_reducible exact H | (rw [hy823]; exact H) | exact H
     have Ny823 := am hy823
     clear hy823
     replace H := Option.bind_eq_some_iff.mp H
     obtain ⟨⟨t826, t827⟩, A220, H⟩ := H
     replace H : (if x9_1.length < 4398046511104 then ((some (x9_1 ++ [(⟨a2, 8, t826, 0⟩ : S52)] : List (S52))).bind fun y828 => ((spec_aBlock.f k1 s0_0 t827 l1_0 (wrap64 (a2 + 1)) a3).bind fun bt831 => (if y828.length + bt831.1.length < 4398046511104 then (spec_aTry.l0 k1 a2 a3 (y828 ++ bt831.1) t819 (wrap64 (x11_1 - 1)) s0_0 bt831.2 l1_0) else (none)))) else (none)) = some (r1, r2) := H
     have A22 := am A220
     clear A220
     by_cases c23 : x9_1.length < 4398046511104
     ·rw [if_pos c23] at H
      have LMc23 := am c23
      clear c23
      obtain ⟨y828, hy828⟩ : ∃ y_ : List (S52), y_ = (x9_1 ++ [(⟨a2, 8, t826, 0⟩ : S52)]) := ⟨_, rfl⟩
      replace H : ((spec_aBlock.f k1 s0_0 t827 l1_0 (wrap64 (a2 + 1)) a3).bind fun bt831 => (if y828.length + bt831.1.length < 4398046511104 then (spec_aTry.l0 k1 a2 a3 (y828 ++ bt831.1) t819 (wrap64 (x11_1 - 1)) s0_0 bt831.2 l1_0) else (none))) = some (r1, r2) := by first | (rw [hy828]; with_reducible exact H) | (have H2_ := (Option.bind_some _ _).symm.trans H; rw [hy828]; with_reducible exact H2_) | (have H2_ := (Option.bind_some _ _).symm.trans H; with_reducible exact H2_) | with_reducible exact H | (rw [hy828]; exact H) | exact H
      have Ny828 := am hy828
      clear hy828
      replace H := Option.bind_eq_some_iff.mp H
      obtain ⟨⟨t831, t834⟩, A240, H⟩ := H
      replace H : (if y828.length + t831.length < 4398046511104 then (spec_aTry.l0 k1 a2 a3 (y828 ++ t831) t819 (wrap64 (x11_1 - 1)) s0_0 t834 l1_0) else (none)) = some (r1, r2) := H
      have A24 := am A240
      clear A240
      by_cases c25 : y828.length + t831.length < 4398046511104
      ·rw [if_pos c25] at H
       have LMc25 := am c25
       clear c25
       obtain ⟨y835, hy835⟩ : ∃ y_ : List (S52), y_ = (y828 ++ t831) := ⟨_, rfl⟩
       replace H : (spec_aTry.l0 k1 a2 a3 y835 t819 (wrap64 (x11_1 - 1)) s0_0 t834 l1_0) = some (r1, r2) := by first | (rw [hy835]; with_reducible exact H) | (have H2_ := (Option.bind_some _ _).symm.trans H; rw [hy835]; with_reducible exact H2_) | (have H2_ := (Option.bind_some _ _).symm.trans H; with_reducible exact H2_) | with_reducible exact H | (rw [hy835]; exact H) | exact H
       have Ny835 := am hy835
       clear hy835
       have H' := am H
       clear H
       have hnb26 := NB805_0.out
       have hnc26 := NB0_805.out
       have hcz27_0 := bc0 BK805.out
       have hfz27_0 := blk_frozen BK805.out 0
       go_wp2_with (first | ((with_reducible refine gate_callee (f := 71) rfl ?_); refine gL (some 37) Try.func71 #[.pointer (some ⟨g, 0, none⟩), .int .i64 (l1_0.length : Int)] ?_; (with_reducible refine (spec_reader_pick.calls k1 g s0_0 x1001_1 (l1_0.length : Int) t821 t822 w0 _ ?side1 ?side2 A21.out).mono ?_); (case side1 => exact Y9); (case side2 => exact Y14); rintro e w28 ⟨rfl, hi, hb, hk⟩; refine ⟨_, rfl, ?_⟩; replace HO_9 := am (Kd.R_mono (Kd.R_keep (IsS97.apart (show IsS97 w0 _ g s0_0 x1001_1 from Y9) (rq HO_9.out) (by decide)) hk (fun _ h => h.2)) (fun _ h => h.1)); replace BK805 := am (KeepBut.blk hk (g' := gb805) (o := .cells #[.slice A1_0 l1_0.length c1_0] 32 (0, 0)) (kq BK805.out) NB805_0.out (by simp)); replace HK := am (KeepBut.trans (Y7) hk (.inl rfl)); replace HB := am (hb); replace HI0 := am (hi); (try clear hb); (try clear hb2); (try clear hk); (try clear hi)) | ((with_reducible refine gate_dst (N := 38) rfl ?_); refine Kd.R_lit (Kd.int .i64) _ 3 ?hg (N := 38) ?hd (xs := ([t821, 0] : List Int)) (inner := [.int .i64 t821, .int .i64 0]) (ok := fun _ => True) (okp := fun _ => True) ?hr ?hp (fun _ hk => hk) trivial (Below.refl _ _) (Nat.le_refl _) (by simp) ?_; (case hd => rfl); (case hg => rfl); (case hr => exact Y5); (case hp => exact (Reps.one (show Kd.M (Kd.int .i64) _ _ _ t821 [.int .i64 t821] from rfl) (Reps.one (show Kd.M (Kd.int .i64) _ _ _ 0 [.int .i64 0] from rfl) (Reps.none _ _)))); intro v824 w29 ho30 hb hg_ hnew_; clear hg_ hnew_; (first | rw [← Ny823.out] at ho30 | (simp only [Int.reduceToNat] at ho30; rw [← Ny823.out] at ho30)); have HO825 := am (Kd.R_lower ho30 (keep_size (w := w) (g := g) (row := none) (Y7))); replace HO_9 := am (Kd.R_below (rq HO_9.out) hb); replace BK805 := am (blk_below (g := gb805) (o := .cells #[.slice A1_0 l1_0.length c1_0] 32 (0, 0)) (kq BK805.out) hb); replace HK := am (KeepBut.trans (Y7) (KeepBut.of_below hb g none) (.inl rfl)); replace HB := am (below_step (Y14) hb); replace HI0 := am (IsS97.below (Y9) hb); clear hb ho30; obtain ⟨Ao31, co31, eo31⟩ := Kd.R_slice HO825.out; subst eo31) | ((with_reducible refine gate_callee (f := 91) rfl ?_); refine gL (some 39) Try.func91 #[.pointer (some ⟨g, 0, none⟩), .slice Ao31 y823.length co31] ?_; (with_reducible refine (spec_reader_one.calls k1 g s0_0 t822 _ _ y823 t826 t827 w0 _ ?side1 ?side2 ?side3 ?side4 ?side5 A22.out).mono ?_); (case side1 => exact Y9); (case side2 => exact Y14); (case side3 => exact cq (Kd.R_reads' HO825.out).2.2); (case side4 => exact (Kd.R_reads' HO825.out).2.1); (case side5 => exact far_slice (IsS97.own_ne HI0.out HO825.out (by decide))); rintro e w32 ⟨rfl, hi, hb, hk⟩; refine ⟨_, rfl, ?_⟩; replace HO_9 := am (Kd.R_mono (Kd.R_keep (IsS97.apart (show IsS97 w0 _ g s0_0 t822 from Y9) (rq HO_9.out) (by decide)) hk (fun _ h => h.2)) (fun _ h => h.1)); replace BK805 := am (KeepBut.blk hk (g' := gb805) (o := .cells #[.slice A1_0 l1_0.length c1_0] 32 (0, 0)) (kq BK805.out) NB805_0.out (by simp)); replace HO825 := am (Kd.R_mono (Kd.R_keep (IsS97.apart (show IsS97 w0 _ g s0_0 t822 from Y9) (rq HO825.out) (by decide)) hk (fun _ h => h.2)) (fun _ h => h.1)); replace HK := am (KeepBut.trans (Y7) hk (.inl rfl)); replace HB := am (hb); replace HI0 := am (hi); (try clear hb); (try clear hb2); (try clear hk); (try clear hi)) | ((with_reducible refine gate_builtin (b := .append) (xs := #[.tmp 30, .tmp 41]) rfl ?_); at_builtin; refine Kd.R_append k52 w.heap.size rfl (.tmp 30) (.tmp 41) 34 52 (.agg #[(.int .i64 0), (.int .i64 0), (.int .i64 0), (.int .i64 0)]) 32 rfl Try.underlying34 info52 rfl (by decide) (by omega) u9 x9_1 (⟨a2, 8, t826, 0⟩ : S52) [.int .i64 a2, .int .i64 8, .int .i64 t826, .int .i64 0] (fun _ => True) (fun _ => False) rfl rfl ?aP (fun _ hk => hk.elim) ?aF ?aO (Below.refl _ _) ?aS ?aL ?_; (case aP => exact k52_mkM _ _ _ (⟨a2, 8, t826, 0⟩ : S52)); (case aF => exact (fun _ _ => trivial)); (case aO => exact (rq HO_9.out)); (case aS => exact (keep_size (w := w) (g := g) (row := none) (Y7))); (case aL => have := LMc23.out; omega); intro v829 w33 ho hb hg hat; rw [← Ny828.out] at ho; have n0_ := am (blk_grown (g := gb805) (o := .cells #[.slice A1_0 l1_0.length c1_0] 32 (0, 0)) (kq BK805.out) hg (Kd.R_ne HO_9.out BK805.out (by decide))); have n1_ := am (IsS97.grown (Y9) hg (IsS97.own_ne HI0.out HO_9.out (by decide))); have n2_ := am (Kd.R_over' (rq HO825.out) (Kd.R_typed (rq HO_9.out)) (by decide) hg); have n3_ := am (below_weaken (Y14) HL.out hb); have n4_ := am (KeepBut.trans (Y7) (KeepBut.of_grown hg g) (Kd.R_base2 HO_9.out)); have n5_ := am (ho); clear BK805 HI0 HO825 HB HK HO_9; have BK805 := n0_; have HI0 := n1_; have HO825 := n2_; have HB := n3_; have HK := n4_; have HO830 := n5_; clear n0_ n1_ n2_ n3_ n4_ n5_ ho hb hg hat; have hcz34_0 := bc0 BK805.out; have hfz34_0 := blk_frozen BK805.out 0) | ((with_reducible refine gate_callee (f := 118) rfl ?_); refine gL (some 49) Try.func118 #[.pointer (some ⟨g, 0, none⟩), .agg #[.slice A1_0 l1_0.length c1_0], .int .i64 (wrap64 (a2 + 1)), .bool a3] ?_; (with_reducible refine (ih118 k1 (by have := HK1.out; omega) g s0_0 t827 _ _ l1_0 (wrap64 (a2 + 1)) a3 t831 t834 w0 _ ?side1 ?side2 ?side3 ?side4 A24.out).mono ?_); (case side1 => exact Y9); (case side2 => exact Y14); (case side3 => exact Kd.C_foot_step HR1_0.out (Y7)); (case side4 => exact HC1_0.out); rintro e w35 ⟨v832, rfl, ho0, hi, hb, hk⟩; refine ⟨_, rfl, ?_⟩; have HO833 := am (Kd.R_lower (Kd.R_new' ho0 (Kd.R_lt (rq HO830.out))) (keep_size (w := w) (g := g) (row := none) (Y7))); replace BK805 := am (KeepBut.blk hk (g' := gb805) (o := .cells #[.slice A1_0 l1_0.length c1_0] 32 (0, 0)) (kq BK805.out) NB805_0.out (by simp)); replace HO825 := am (Kd.R_mono (Kd.R_keep (IsS97.apart (show IsS97 w0 _ g s0_0 t827 from Y9) (rq HO825.out) (by decide)) hk (fun _ h => h.2)) (fun _ h => h.1)); replace HO830 := am (Kd.R_mono (Kd.R_told (Kd.R_oldK (IsS97.apart (show IsS97 w0 _ g s0_0 t827 from Y9) (rq HO830.out) (by decide)) hk) (Kd.R_base ho0)) (fun _ h_ => h_.1)); replace HK := am (KeepBut.trans (Y7) hk (.inl rfl)); replace HB := am (hb); replace HI0 := am (hi); (try clear hb); (try clear hb2); (try clear hk); (try clear hi); (try clear ho0); obtain ⟨Ao37, co37, eo37⟩ := Kd.R_slice HO833.out; subst eo37) | ((with_reducible refine gate_builtin (b := .append) (xs := #[.tmp 43, .tmp 49]) rfl ?_); at_builtin; refine Kd.R_append_rows k52 w.heap.size rfl (.tmp 43) (.tmp 49) 34 52 (.agg #[(.int .i64 0), (.int .i64 0), (.int .i64 0), (.int .i64 0)]) 32 rfl Try.underlying34 info52 rfl (by decide) (by omega) v829 y828 t831 _ _ _ (fun k_ => some k_ ≠ (.slice Ao37 t831.length co37 : Value).ownBlock) (fun _ => False) rfl rfl ?aO ?aR (fun _ _ h => h) (fun _ h => h.elim) ?aF (Below.refl _ _) ?aS ?aL ?_; (case aR => repeat (first | exact (Kd.R_reads' HO833.out).2.2 | (with_reducible refine Kd.C_alloc ?_ _) | (with_reducible refine Kd.C_drewN ?_ _) | (with_reducible refine Kd.C_drew ?_))); (case aF => exact (fun k_ hk => Kd.fresh' (Kd.R_lt (rq HO833.out)) k_ hk)); (case aO => exact (by (with_reducible repeat (first | apply Kd.R_alloc | apply Kd.R_drewN | apply Kd.R_drew)); exact Kd.R_mono HO830.out (fun _ hk => hk.2))); (case aS => exact (keep_size (w := w) (g := g) (row := none) (Y7))); (case aL => have := LMc25.out; omega); intro v836 w36 ho hb hg hat; rw [← Ny835.out] at ho; have n0_ := am (blk_grown (g := gb805) (o := .cells #[.slice A1_0 l1_0.length c1_0] 32 (0, 0)) (kq BK805.out) hg (Kd.R_ne HO830.out BK805.out (by decide))); have n1_ := am (IsS97.grown (Y9) hg (IsS97.own_ne HI0.out HO830.out (by decide))); have n2_ := am (Kd.R_over' (rq HO825.out) (Kd.R_typed (rq HO830.out)) (by decide) hg); have n3_ := am (Kd.R_after (ok := (fun _ => True)) (rq HO833.out) hg hat); have n4_ := am (below_weaken (Y14) HL.out hb); have n5_ := am (KeepBut.trans (Y7) (KeepBut.of_grown hg g) (Kd.R_base2 HO830.out)); have n6_ := am (ho); clear BK805 HI0 HO825 HO833 HB HK HO830; have BK805 := n0_; have HI0 := n1_; have HO825 := n2_; have HO833 := n3_; have HB := n4_; have HK := n5_; have HO837 := n6_; clear n0_ n1_ n2_ n3_ n4_ n5_ n6_ ho hb hg hat))
       go_roundg k1
       case measure => have := HK1.out; omega
       case rel => exact ⟨(y835), (wrap64 (x11_1 - 1)), (t834), (sq), H', ⟨by have := HK1.out; omega⟩, ⟨by (with_reducible repeat (first | apply Kd.R_alloc | apply Kd.R_drewN | apply Kd.R_drew)); exact Kd.R_mono HO837.out (fun _ hk => trivial)⟩, ⟨kq BK805.out⟩, ⟨Y9⟩, ⟨Y7⟩, ⟨Y14⟩⟩
      ·rw [if_neg c25] at H
       exact absurd H (by simp)
     ·rw [if_neg c23] at H
      exact absurd H (by simp)
    ·rw [if_neg c20] at H
     have c20b0 : decide (0 < x11_1) = false := decide_eq_false c20
     clear c20
     have HC38 := am H
     clear H
     go_upto_region 8 with (fail)
     go_cut [57] (fun v57 wc => ∃ (kq : Nat) (x57_37 : Bool) (x1001_37 : Int), v57 = .bool x57_37 ∧ Aside0 (spec_aTry.j1 kq a2 a3 x9_1 t819 x57_37 s0_0 x1001_37 l1_0 = some (r1, r2)) ∧ Aside0 (kq ≤ k1) ∧ Aside0 (Kd.R k52 52 wc w.heap.size (fun _ => True) u9 x9_1) ∧ Aside0 (wc.heap[gb805]? = some (.cells #[(.slice A1_0 l1_0.length c1_0)] 32 (0, 0))) ∧ Aside0 (IsS97 w0 wc g s0_0 x1001_37) ∧ Aside0 (KeepBut w wc g none) ∧ Aside0 (Below w0.heap.size w0 wc))
     case first =>
      have H := HC38.out
      clear HC38
      by_cases c39 : t819 > 0
      ·rw [if_pos c39] at H
       have c39b0 : decide (0 < t819) = true := decide_eq_true c39
       clear c39
       (first | rw [c39b0] | (simp only [i64_w, i32_w]; rw [c39b0]) | skip)
       replace H := Option.bind_eq_some_iff.mp H
       obtain ⟨⟨t838, t839⟩, A400, H⟩ := H
       replace H : (spec_aTry.j1 k1 a2 a3 x9_1 t819 (t838 == 0) s0_0 t839 l1_0) = some (r1, r2) := H
       have A40 := am A400
       clear A400
       have H' := am H
       clear H
       go_wp2_with (first | (go_at_call 71; (with_reducible refine (spec_reader_pick.calls k1 g s0_0 x1001_1 3 t838 t839 w0 _ ?side1 ?side2 A40.out).mono ?_); (case side1 => exact Y9); (case side2 => exact Y14); rintro e w41 ⟨rfl, hi, hb, hk⟩; replace HO_9 := am (Kd.R_mono (Kd.R_keep (IsS97.apart (show IsS97 w0 _ g s0_0 x1001_1 from Y9) (rq HO_9.out) (by decide)) hk (fun _ h => h.2)) (fun _ h => h.1)); replace BK805 := am (KeepBut.blk hk (g' := gb805) (o := .cells #[.slice A1_0 l1_0.length c1_0] 32 (0, 0)) (kq BK805.out) NB805_0.out (by simp)); replace HK := am (KeepBut.trans (Y7) hk (.inl rfl)); replace HB := am (hb); replace HI0 := am (hi); (try clear hb); (try clear hb2); (try clear hk); (try clear hi)))
       go_meet
       case rel => exact ⟨_, ((t838 == 0)), (t839), (sq), H', ⟨by have := HK1.out; first | omega | exact Nat.le_refl _⟩, ⟨rq HO_9.out⟩, ⟨kq BK805.out⟩, ⟨Y9⟩, ⟨Y7⟩, ⟨Y14⟩⟩
      ·rw [if_neg c39] at H
       have c39b0 : decide (0 < t819) = false := decide_eq_false c39
       clear c39
       (first | rw [c39b0] | (simp only [i64_w, i32_w]; rw [c39b0]) | skip)
       have H' := am H
       clear H
       go_wp2
       go_meet
       case rel => exact ⟨_, (false), (x1001_1), (sq), H', ⟨by have := HK1.out; first | omega | exact Nat.le_refl _⟩, ⟨rq HO_9.out⟩, ⟨kq BK805.out⟩, ⟨Y9⟩, ⟨Y7⟩, ⟨Y14⟩⟩
     case rest =>
      clear HC38
      try clear c1
      try clear c2
      try clear p2
      try clear c3
      try clear c4
      try clear c6
      try clear p6
      try clear c7
      try clear c9
      try clear c11
      try clear c20
      try clear c20b0
      try clear c23
      try clear c25
      try clear c26
      try clear c39
      try clear c39b0
      try clear hcz12_0
      try clear hcz27_0
      try clear hcz34_0
      try clear hfz12_0
      try clear hfz27_0
      try clear hfz34_0
      try clear p2
      try clear p6
      obtain ⟨kq, x57_37, x1001_37, rfl, HA, HJ37, HO_9, BK805, HI0, HK, HB⟩ := hcut
      cases kq with
      | zero => exact absurd HA.out (by simp [spec_aTry.j1])
      | succ kj37 =>
       have H := HA.out
       clear HA
       simp only [spec_aTry.j1] at H
       have HC42 := am H
       clear H
       go_upto_if 57 with (fail)
       go_cut [9] (fun v9 wc => ∃ (kq : Nat) (x9_41 : List (S52)) (x1001_41 : Int), Aside0 (spec_aTry.j2 kq a2 a3 x9_41 t819 s0_0 x1001_41 l1_0 = some (r1, r2)) ∧ Aside0 (kq ≤ kj37) ∧ Aside0 (Kd.R k52 52 wc w.heap.size (fun _ => True) v9 x9_41) ∧ Aside0 (wc.heap[gb805]? = some (.cells #[(.slice A1_0 l1_0.length c1_0)] 32 (0, 0))) ∧ Aside0 (IsS97 w0 wc g s0_0 x1001_41) ∧ Aside0 (KeepBut w wc g none) ∧ Aside0 (Below w0.heap.size w0 wc))
       case first =>
        have H := HC42.out
        clear HC42
        by_cases c43 : x57_37 = true
        ·subst c43
         have H1 : (if x9_1.length < 4398046511104 then ((some (x9_1 ++ [(⟨a2, 9, 0, 0⟩ : S52)] : List (S52))).bind fun y840 => ((spec_aBlock.f kj37 s0_0 x1001_37 l1_0 (wrap64 (a2 + 1)) a3).bind fun bt843 => (if y840.length + bt843.1.length < 4398046511104 then (spec_aTry.j2 kj37 a2 a3 (y840 ++ bt843.1) t819 s0_0 bt843.2 l1_0) else (none)))) else (none)) = some (r1, r2) := by rw [if_pos rfl] at H; exact H
         clear H
         have H := H1
         clear H1
         by_cases c44 : x9_1.length < 4398046511104
         ·rw [if_pos c44] at H
          have LMc44 := am c44
          clear c44
          obtain ⟨y840, hy840⟩ : ∃ y_ : List (S52), y_ = (x9_1 ++ [(⟨a2, 9, 0, 0⟩ : S52)]) := ⟨_, rfl⟩
          replace H : ((spec_aBlock.f kj37 s0_0 x1001_37 l1_0 (wrap64 (a2 + 1)) a3).bind fun bt843 => (if y840.length + bt843.1.length < 4398046511104 then (spec_aTry.j2 kj37 a2 a3 (y840 ++ bt843.1) t819 s0_0 bt843.2 l1_0) else (none))) = some (r1, r2) := by first | (rw [hy840]; with_reducible exact H) | (have H2_ := (Option.bind_some _ _).symm.trans H; rw [hy840]; with_reducible exact H2_) | (have H2_ := (Option.bind_some _ _).symm.trans H; with_reducible exact H2_) | with_reducible exact H | (rw [hy840]; exact H) | exact H
          have Ny840 := am hy840
          clear hy840
          replace H := Option.bind_eq_some_iff.mp H
          obtain ⟨⟨t843, t846⟩, A450, H⟩ := H
          replace H : (if y840.length + t843.length < 4398046511104 then (spec_aTry.j2 kj37 a2 a3 (y840 ++ t843) t819 s0_0 t846 l1_0) else (none)) = some (r1, r2) := H
          have A45 := am A450
          clear A450
          by_cases c46 : y840.length + t843.length < 4398046511104
          ·rw [if_pos c46] at H
           have LMc46 := am c46
           clear c46
           obtain ⟨y847, hy847⟩ : ∃ y_ : List (S52), y_ = (y840 ++ t843) := ⟨_, rfl⟩
           replace H : (spec_aTry.j2 kj37 a2 a3 y847 t819 s0_0 t846 l1_0) = some (r1, r2) := by first | (rw [hy847]; with_reducible exact H) | (have H2_ := (Option.bind_some _ _).symm.trans H; rw [hy847]; with_reducible exact H2_) | (have H2_ := (Option.bind_some _ _).symm.trans H; with_reducible exact H2_) | with_reducible exact H | (rw [hy847]; exact H) | exact H
           have Ny847 := am hy847
           clear hy847
           have H' := am H
           clear H
           go_wp2_with (first | ((with_reducible refine gate_builtin (b := .append) (xs := #[.tmp 58, .tmp 61]) rfl ?_); at_builtin; refine Kd.R_append k52 w.heap.size rfl (.tmp 58) (.tmp 61) 34 52 (.agg #[(.int .i64 0), (.int .i64 0), (.int .i64 0), (.int .i64 0)]) 32 rfl Try.underlying34 info52 rfl (by decide) (by omega) u9 x9_1 (⟨a2, 9, 0, 0⟩ : S52) [.int .i64 a2, .int .i64 9, .int .i64 0, .int .i64 0] (fun _ => True) (fun _ => False) rfl rfl ?aP (fun _ hk => hk.elim) ?aF ?aO (Below.refl _ _) ?aS ?aL ?_; (case aP => exact k52_mkM _ _ _ (⟨a2, 9, 0, 0⟩ : S52)); (case aF => exact (fun _ _ => trivial)); (case aO => exact (rq HO_9.out)); (case aS => exact (keep_size (w := w) (g := g) (row := none) (Y7))); (case aL => have := LMc44.out; omega); intro v841 w47 ho hb hg hat; rw [← Ny840.out] at ho; have n0_ := am (blk_grown (g := gb805) (o := .cells #[.slice A1_0 l1_0.length c1_0] 32 (0, 0)) (kq BK805.out) hg (Kd.R_ne HO_9.out BK805.out (by decide))); have n1_ := am (IsS97.grown (Y9) hg (IsS97.own_ne HI0.out HO_9.out (by decide))); have n2_ := am (below_weaken (Y14) HL.out hb); have n3_ := am (KeepBut.trans (Y7) (KeepBut.of_grown hg g) (Kd.R_base2 HO_9.out)); have n4_ := am (ho); clear BK805 HI0 HB HK HO_9; have BK805 := n0_; have HI0 := n1_; have HB := n2_; have HK := n3_; have HO842 := n4_; clear n0_ n1_ n2_ n3_ n4_ ho hb hg hat; have hnb48 := NB805_0.out; have hnc48 := NB0_805.out; have hcz49_0 := bc0 BK805.out; have hfz49_0 := blk_frozen BK805.out 0) | ((with_reducible refine gate_callee (f := 118) rfl ?_); refine gL (some 69) Try.func118 #[.pointer (some ⟨g, 0, none⟩), .agg #[.slice A1_0 l1_0.length c1_0], .int .i64 (wrap64 (a2 + 1)), .bool a3] ?_; (with_reducible refine (ih118 kj37 (by have := HK1.out; have := HJ37.out; omega) g s0_0 x1001_37 _ _ l1_0 (wrap64 (a2 + 1)) a3 t843 t846 w0 _ ?side1 ?side2 ?side3 ?side4 A45.out).mono ?_); (case side1 => exact Y9); (case side2 => exact Y14); (case side3 => exact Kd.C_foot_step HR1_0.out (Y7)); (case side4 => exact HC1_0.out); rintro e w50 ⟨v844, rfl, ho0, hi, hb, hk⟩; refine ⟨_, rfl, ?_⟩; have HO845 := am (Kd.R_lower (Kd.R_new' ho0 (Kd.R_lt (rq HO842.out))) (keep_size (w := w) (g := g) (row := none) (Y7))); replace BK805 := am (KeepBut.blk hk (g' := gb805) (o := .cells #[.slice A1_0 l1_0.length c1_0] 32 (0, 0)) (kq BK805.out) NB805_0.out (by simp)); replace HO842 := am (Kd.R_mono (Kd.R_told (Kd.R_oldK (IsS97.apart (show IsS97 w0 _ g s0_0 x1001_37 from Y9) (rq HO842.out) (by decide)) hk) (Kd.R_base ho0)) (fun _ h_ => h_.1)); replace HK := am (KeepBut.trans (Y7) hk (.inl rfl)); replace HB := am (hb); replace HI0 := am (hi); (try clear hb); (try clear hb2); (try clear hk); (try clear hi); (try clear ho0); obtain ⟨Ao52, co52, eo52⟩ := Kd.R_slice HO845.out; subst eo52) | ((with_reducible refine gate_builtin (b := .append) (xs := #[.tmp 63, .tmp 69]) rfl ?_); at_builtin; refine Kd.R_append_rows k52 w.heap.size rfl (.tmp 63) (.tmp 69) 34 52 (.agg #[(.int .i64 0), (.int .i64 0), (.int .i64 0), (.int .i64 0)]) 32 rfl Try.underlying34 info52 rfl (by decide) (by omega) v841 y840 t843 _ _ _ (fun k_ => some k_ ≠ (.slice Ao52 t843.length co52 : Value).ownBlock) (fun _ => False) rfl rfl ?aO ?aR (fun _ _ h => h) (fun _ h => h.elim) ?aF (Below.refl _ _) ?aS ?aL ?_; (case aR => repeat (first | exact (Kd.R_reads' HO845.out).2.2 | (with_reducible refine Kd.C_alloc ?_ _) | (with_reducible refine Kd.C_drewN ?_ _) | (with_reducible refine Kd.C_drew ?_))); (case aF => exact (fun k_ hk => Kd.fresh' (Kd.R_lt (rq HO845.out)) k_ hk)); (case aO => exact (by (with_reducible repeat (first | apply Kd.R_alloc | apply Kd.R_drewN | apply Kd.R_drew)); exact Kd.R_mono HO842.out (fun _ hk => hk.2))); (case aS => exact (keep_size (w := w) (g := g) (row := none) (Y7))); (case aL => have := LMc46.out; omega); intro v848 w51 ho hb hg hat; rw [← Ny847.out] at ho; have n0_ := am (blk_grown (g := gb805) (o := .cells #[.slice A1_0 l1_0.length c1_0] 32 (0, 0)) (kq BK805.out) hg (Kd.R_ne HO842.out BK805.out (by decide))); have n1_ := am (IsS97.grown (Y9) hg (IsS97.own_ne HI0.out HO842.out (by decide))); have n2_ := am (Kd.R_after (ok := (fun _ => True)) (rq HO845.out) hg hat); have n3_ := am (below_weaken (Y14) HL.out hb); have n4_ := am (KeepBut.trans (Y7) (KeepBut.of_grown hg g) (Kd.R_base2 HO842.out)); have n5_ := am (ho); clear BK805 HI0 HO845 HB HK HO842; have BK805 := n0_; have HI0 := n1_; have HO845 := n2_; have HB := n3_; have HK := n4_; have HO849 := n5_; clear n0_ n1_ n2_ n3_ n4_ n5_ ho hb hg hat))
           go_meet
           case rel => exact ⟨_, (y847), (t846), H', ⟨by have := HK1.out; have := HJ37.out; first | omega | exact Nat.le_refl _⟩, ⟨by (with_reducible repeat (first | apply Kd.R_alloc | apply Kd.R_drewN | apply Kd.R_drew)); exact Kd.R_mono HO849.out (fun _ hk => trivial)⟩, ⟨kq BK805.out⟩, ⟨Y9⟩, ⟨Y7⟩, ⟨Y14⟩⟩
          ·rw [if_neg c46] at H
           exact absurd H (by simp)
         ·rw [if_neg c44] at H
          exact absurd H (by simp)
        ·replace c43 := Bool.eq_false_iff.mpr c43
         subst c43
         have H1 : (spec_aTry.j2 kj37 a2 a3 x9_1 t819 s0_0 x1001_37 l1_0) = some (r1, r2) := by rw [if_neg (show ¬ (false = true) by decide)] at H; exact H
         clear H
         have H := H1
         clear H1
         have H' := am H
         clear H
         go_wp2
         go_meet
         case rel => exact ⟨_, (x9_1), (x1001_37), H', ⟨by have := HK1.out; have := HJ37.out; first | omega | exact Nat.le_refl _⟩, ⟨rq HO_9.out⟩, ⟨kq BK805.out⟩, ⟨Y9⟩, ⟨Y7⟩, ⟨Y14⟩⟩
       case rest =>
        clear HC42
        try clear c1
        try clear c2
        try clear p2
        try clear c3
        try clear c4
        try clear c6
        try clear p6
        try clear c7
        try clear c9
        try clear c11
        try clear c20
        try clear c20b0
        try clear c23
        try clear c25
        try clear c26
        try clear c39
        try clear c39b0
        try clear c43
        try clear c44
        try clear c46
        try clear c48
        try clear hcz12_0
        try clear hcz27_0
        try clear hcz34_0
        try clear hcz49_0
        try clear hfz12_0
        try clear hfz27_0
        try clear hfz34_0
        try clear hfz49_0
        try clear p2
        try clear p6
        obtain ⟨kq, x9_41, x1001_41, HA, HJ41, HO_9, BK805, HI0, HK, HB⟩ := hcut
        cases kq with
        | zero => exact absurd HA.out (by simp [spec_aTry.j2])
        | succ kj41 =>
         have H := HA.out
         clear HA
         simp only [spec_aTry.j2] at H
         by_cases c53 : t819 = 0
         ·rw [if_pos c53] at H
          have c53b0 : (t819 == 0) = true := beq_iff_eq.mpr c53
          have c53b1 : (t819 != 0) = false := bne_eq_false_iff_eq.mpr c53
          clear c53
          by_cases c54 : x9_41.length < 4398046511104
          ·rw [if_pos c54] at H
           have LMc54 := am c54
           clear c54
           obtain ⟨y852, hy852⟩ : ∃ y_ : List (S52), y_ = (x9_41 ++ [(⟨a2, 10, 0, 0⟩ : S52)]) := ⟨_, rfl⟩
           replace H : ((spec_aBlock.f kj41 s0_0 x1001_41 l1_0 (wrap64 (a2 + 1)) a3).bind fun bt855 => (if y852.length + bt855.1.length < 4398046511104 then (some ((y852 ++ bt855.1), bt855.2)) else (none))) = some (r1, r2) := by first | (rw [hy852]; with_reducible exact H) | (have H2_ := (Option.bind_some _ _).symm.trans H; rw [hy852]; with_reducible exact H2_) | (have H2_ := (Option.bind_some _ _).symm.trans H; with_reducible exact H2_) | with_reducible exact H | (rw [hy852]; exact H) | exact H
           have Ny852 := am hy852
           clear hy852
           replace H := Option.bind_eq_some_iff.mp H
           obtain ⟨⟨t855, t858⟩, A550, H⟩ := H
           replace H : (if y852.length + t855.length < 4398046511104 then (some ((y852 ++ t855), t858)) else (none)) = some (r1, r2) := H
           have A55 := am A550
           clear A550
           by_cases c56 : y852.length + t855.length < 4398046511104
           ·rw [if_pos c56] at H
            have LMc56 := am c56
            clear c56
            obtain ⟨y859, hy859⟩ : ∃ y_ : List (S52), y_ = (y852 ++ t855) := ⟨_, rfl⟩
            replace H : (some (y859, t858)) = some (r1, r2) := by first | (rw [hy859]; with_reducible exact H) | (have H2_ := (Option.bind_some _ _).symm.trans H; rw [hy859]; with_reducible exact H2_) | (have H2_ := (Option.bind_some _ _).symm.trans H; with_reducible exact H2_) | with_reducible exact H | (rw [hy859]; exact H) | exact H
            have Ny859 := am hy859
            clear hy859
            simp only [Option.some.injEq, Prod.mk.injEq] at H
            obtain ⟨rfl, rfl⟩ := H
            go_wp2_with (first | ((with_reducible refine gate_builtin (b := .append) (xs := #[.tmp 78, .tmp 81]) rfl ?_); at_builtin; refine Kd.R_append k52 w.heap.size rfl (.tmp 78) (.tmp 81) 34 52 (.agg #[(.int .i64 0), (.int .i64 0), (.int .i64 0), (.int .i64 0)]) 32 rfl Try.underlying34 info52 rfl (by decide) (by omega) u9 x9_41 (⟨a2, 10, 0, 0⟩ : S52) [.int .i64 a2, .int .i64 10, .int .i64 0, .int .i64 0] (fun _ => True) (fun _ => False) rfl rfl ?aP (fun _ hk => hk.elim) ?aF ?aO (Below.refl _ _) ?aS ?aL ?_; (case aP => exact k52_mkM _ _ _ (⟨a2, 10, 0, 0⟩ : S52)); (case aF => exact (fun _ _ => trivial)); (case aO => exact (rq HO_9.out)); (case aS => exact (keep_size (w := w) (g := g) (row := none) (Y7))); (case aL => have := LMc54.out; omega); intro v853 w57 ho hb hg hat; rw [← Ny852.out] at ho; have n0_ := am (blk_grown (g := gb805) (o := .cells #[.slice A1_0 l1_0.length c1_0] 32 (0, 0)) (kq BK805.out) hg (Kd.R_ne HO_9.out BK805.out (by decide))); have n1_ := am (IsS97.grown (Y9) hg (IsS97.own_ne HI0.out HO_9.out (by decide))); have n2_ := am (below_weaken (Y14) HL.out hb); have n3_ := am (KeepBut.trans (Y7) (KeepBut.of_grown hg g) (Kd.R_base2 HO_9.out)); have n4_ := am (ho); clear BK805 HI0 HB HK HO_9; have BK805 := n0_; have HI0 := n1_; have HB := n2_; have HK := n3_; have HO854 := n4_; clear n0_ n1_ n2_ n3_ n4_ ho hb hg hat; have hnb58 := NB805_0.out; have hnc58 := NB0_805.out; have hcz59_0 := bc0 BK805.out; have hfz59_0 := blk_frozen BK805.out 0) | ((with_reducible refine gate_callee (f := 118) rfl ?_); refine gL (some 89) Try.func118 #[.pointer (some ⟨g, 0, none⟩), .agg #[.slice A1_0 l1_0.length c1_0], .int .i64 (wrap64 (a2 + 1)), .bool a3] ?_; (with_reducible refine (ih118 kj41 (by have := HK1.out; have := HJ37.out; have := HJ41.out; omega) g s0_0 x1001_41 _ _ l1_0 (wrap64 (a2 + 1)) a3 t855 t858 w0 _ ?side1 ?side2 ?side3 ?side4 A55.out).mono ?_); (case side1 => exact Y9); (case side2 => exact Y14); (case side3 => exact Kd.C_foot_step HR1_0.out (Y7)); (case side4 => exact HC1_0.out); rintro e w60 ⟨v856, rfl, ho0, hi, hb, hk⟩; refine ⟨_, rfl, ?_⟩; have HO857 := am (Kd.R_lower (Kd.R_new' ho0 (Kd.R_lt (rq HO854.out))) (keep_size (w := w) (g := g) (row := none) (Y7))); replace BK805 := am (KeepBut.blk hk (g' := gb805) (o := .cells #[.slice A1_0 l1_0.length c1_0] 32 (0, 0)) (kq BK805.out) NB805_0.out (by simp)); replace HO854 := am (Kd.R_mono (Kd.R_told (Kd.R_oldK (IsS97.apart (show IsS97 w0 _ g s0_0 x1001_41 from Y9) (rq HO854.out) (by decide)) hk) (Kd.R_base ho0)) (fun _ h_ => h_.1)); replace HK := am (KeepBut.trans (Y7) hk (.inl rfl)); replace HB := am (hb); replace HI0 := am (hi); (try clear hb); (try clear hb2); (try clear hk); (try clear hi); (try clear ho0); obtain ⟨Ao62, co62, eo62⟩ := Kd.R_slice HO857.out; subst eo62) | ((with_reducible refine gate_builtin (b := .append) (xs := #[.tmp 83, .tmp 89]) rfl ?_); at_builtin; refine Kd.R_append_rows k52 w.heap.size rfl (.tmp 83) (.tmp 89) 34 52 (.agg #[(.int .i64 0), (.int .i64 0), (.int .i64 0), (.int .i64 0)]) 32 rfl Try.underlying34 info52 rfl (by decide) (by omega) v853 y852 t855 _ _ _ (fun k_ => some k_ ≠ (.slice Ao62 t855.length co62 : Value).ownBlock) (fun _ => False) rfl rfl ?aO ?aR (fun _ _ h => h) (fun _ h => h.elim) ?aF (Below.refl _ _) ?aS ?aL ?_; (case aR => repeat (first | exact (Kd.R_reads' HO857.out).2.2 | (with_reducible refine Kd.C_alloc ?_ _) | (with_reducible refine Kd.C_drewN ?_ _) | (with_reducible refine Kd.C_drew ?_))); (case aF => exact (fun k_ hk => Kd.fresh' (Kd.R_lt (rq HO857.out)) k_ hk)); (case aO => exact (by (with_reducible repeat (first | apply Kd.R_alloc | apply Kd.R_drewN | apply Kd.R_drew)); exact Kd.R_mono HO854.out (fun _ hk => hk.2))); (case aS => exact (keep_size (w := w) (g := g) (row := none) (Y7))); (case aL => have := LMc56.out; omega); intro v860 w61 ho hb hg hat; rw [← Ny859.out] at ho; have n0_ := am (blk_grown (g := gb805) (o := .cells #[.slice A1_0 l1_0.length c1_0] 32 (0, 0)) (kq BK805.out) hg (Kd.R_ne HO854.out BK805.out (by decide))); have n1_ := am (IsS97.grown (Y9) hg (IsS97.own_ne HI0.out HO854.out (by decide))); have n2_ := am (Kd.R_after (ok := (fun _ => True)) (rq HO857.out) hg hat); have n3_ := am (below_weaken (Y14) HL.out hb); have n4_ := am (KeepBut.trans (Y7) (KeepBut.of_grown hg g) (Kd.R_base2 HO854.out)); have n5_ := am (ho); clear BK805 HI0 HO857 HB HK HO854; have BK805 := n0_; have HI0 := n1_; have HO857 := n2_; have HB := n3_; have HK := n4_; have HO861 := n5_; clear n0_ n1_ n2_ n3_ n4_ n5_ ho hb hg hat))
            go_ret
            exact ⟨_, Y0, by (with_reducible repeat (first | apply Kd.R_alloc | apply Kd.R_drewN | apply Kd.R_drew)); exact Kd.R_mono HO861.out (fun _ hk => trivial), Y9, Y14, Y7⟩
           ·rw [if_neg c56] at H
            exact absurd H (by simp)
          ·rw [if_neg c54] at H
           exact absurd H (by simp)
         ·rw [if_neg c53] at H
          have c53b0 : (t819 == 0) = false := beq_eq_false_iff_ne.mpr c53
          have c53b1 : (t819 != 0) = true := bne_iff_ne.mpr c53
          replace H := Option.bind_eq_some_iff.mp H
          obtain ⟨⟨t850, t851⟩, A630, H⟩ := H
          replace H : (if t850 = 0 then (if x9_41.length < 4398046511104 then ((some (x9_41 ++ [(⟨a2, 10, 0, 0⟩ : S52)] : List (S52))).bind fun y862 => ((spec_aBlock.f kj41 s0_0 t851 l1_0 (wrap64 (a2 + 1)) a3).bind fun bt865 => (if y862.length + bt865.1.length < 4398046511104 then (some ((y862 ++ bt865.1), bt865.2)) else (none)))) else (none)) else (some (x9_41, t851))) = some (r1, r2) := H
          have A63 := am A630
          clear A630
          by_cases c64 : t850 = 0
          ·rw [if_pos c64] at H
           have c64b0 : (t850 == 0) = true := beq_iff_eq.mpr c64
           have c64b1 : (t850 != 0) = false := bne_eq_false_iff_eq.mpr c64
           clear c64
           by_cases c65 : x9_41.length < 4398046511104
           ·rw [if_pos c65] at H
            have LMc65 := am c65
            clear c65
            obtain ⟨y862, hy862⟩ : ∃ y_ : List (S52), y_ = (x9_41 ++ [(⟨a2, 10, 0, 0⟩ : S52)]) := ⟨_, rfl⟩
            replace H : ((spec_aBlock.f kj41 s0_0 t851 l1_0 (wrap64 (a2 + 1)) a3).bind fun bt865 => (if y862.length + bt865.1.length < 4398046511104 then (some ((y862 ++ bt865.1), bt865.2)) else (none))) = some (r1, r2) := by first | (rw [hy862]; with_reducible exact H) | (have H2_ := (Option.bind_some _ _).symm.trans H; rw [hy862]; with_reducible exact H2_) | (have H2_ := (Option.bind_some _ _).symm.trans H; with_reducible exact H2_) | with_reducible exact H | (rw [hy862]; exact H) | exact H
            have Ny862 := am hy862
            clear hy862
            replace H := Option.bind_eq_some_iff.mp H
            obtain ⟨⟨t865, t868⟩, A660, H⟩ := H
            replace H : (if y862.length + t865.length < 4398046511104 then (some ((y862 ++ t865), t868)) else (none)) = some (r1, r2) := H
            have A66 := am A660
            clear A660
            by_cases c67 : y862.length + t865.length < 4398046511104
            ·rw [if_pos c67] at H
             have LMc67 := am c67
             clear c67
             obtain ⟨y869, hy869⟩ : ∃ y_ : List (S52), y_ = (y862 ++ t865) := ⟨_, rfl⟩
             replace H : (some (y869, t868)) = some (r1, r2) := by first | (rw [hy869]; with_reducible exact H) | (have H2_ := (Option.bind_some _ _).symm.trans H; rw [hy869]; with_reducible exact H2_) | (have H2_ := (Option.bind_some _ _).symm.trans H; with_reducible exact H2_) | with_reducible exact H | (rw [hy869]; exact H) | exact H
             have Ny869 := am hy869
             clear hy869
             simp only [Option.some.injEq, Prod.mk.injEq] at H
             obtain ⟨rfl, rfl⟩ := H
             go_wp2_with (first | (go_at_call 71; (with_reducible refine (spec_reader_pick.calls kj41 g s0_0 x1001_41 2 t850 t851 w0 _ ?side1 ?side2 A63.out).mono ?_); (case side1 => exact Y9); (case side2 => exact Y14); rintro e w68 ⟨rfl, hi, hb, hk⟩; replace HO_9 := am (Kd.R_mono (Kd.R_keep (IsS97.apart (show IsS97 w0 _ g s0_0 x1001_41 from Y9) (rq HO_9.out) (by decide)) hk (fun _ h => h.2)) (fun _ h => h.1)); replace BK805 := am (KeepBut.blk hk (g' := gb805) (o := .cells #[.slice A1_0 l1_0.length c1_0] 32 (0, 0)) (kq BK805.out) NB805_0.out (by simp)); replace HK := am (KeepBut.trans (Y7) hk (.inl rfl)); replace HB := am (hb); replace HI0 := am (hi); (try clear hb); (try clear hb2); (try clear hk); (try clear hi)) | ((with_reducible refine gate_builtin (b := .append) (xs := #[.tmp 78, .tmp 81]) rfl ?_); at_builtin; refine Kd.R_append k52 w.heap.size rfl (.tmp 78) (.tmp 81) 34 52 (.agg #[(.int .i64 0), (.int .i64 0), (.int .i64 0), (.int .i64 0)]) 32 rfl Try.underlying34 info52 rfl (by decide) (by omega) u9 x9_41 (⟨a2, 10, 0, 0⟩ : S52) [.int .i64 a2, .int .i64 10, .int .i64 0, .int .i64 0] (fun _ => True) (fun _ => False) rfl rfl ?aP (fun _ hk => hk.elim) ?aF ?aO (Below.refl _ _) ?aS ?aL ?_; (case aP => exact k52_mkM _ _ _ (⟨a2, 10, 0, 0⟩ : S52)); (case aF => exact (fun _ _ => trivial)); (case aO => exact (rq HO_9.out)); (case aS => exact (keep_size (w := w) (g := g) (row := none) (Y7))); (case aL => have := LMc65.out; omega); intro v863 w69 ho hb hg hat; rw [← Ny862.out] at ho; have n0_ := am (blk_grown (g := gb805) (o := .cells #[.slice A1_0 l1_0.length c1_0] 32 (0, 0)) (kq BK805.out) hg (Kd.R_ne HO_9.out BK805.out (by decide))); have n1_ := am (IsS97.grown (Y9) hg (IsS97.own_ne HI0.out HO_9.out (by decide))); have n2_ := am (below_weaken (Y14) HL.out hb); have n3_ := am (KeepBut.trans (Y7) (KeepBut.of_grown hg g) (Kd.R_base2 HO_9.out)); have n4_ := am (ho); clear BK805 HI0 HB HK HO_9; have BK805 := n0_; have HI0 := n1_; have HB := n2_; have HK := n3_; have HO864 := n4_; clear n0_ n1_ n2_ n3_ n4_ ho hb hg hat; have hnb70 := NB805_0.out; have hnc70 := NB0_805.out; have hcz71_0 := bc0 BK805.out; have hfz71_0 := blk_frozen BK805.out 0) | ((with_reducible refine gate_callee (f := 118) rfl ?_); refine gL (some 89) Try.func118 #[.pointer (some ⟨g, 0, none⟩), .agg #[.slice A1_0 l1_0.length c1_0], .int .i64 (wrap64 (a2 + 1)), .bool a3] ?_; (with_reducible refine (ih118 kj41 (by have := HK1.out; have := HJ37.out; have := HJ41.out; omega) g s0_0 t851 _ _ l1_0 (wrap64 (a2 + 1)) a3 t865 t868 w0 _ ?side1 ?side2 ?side3 ?side4 A66.out).mono ?_); (case side1 => exact Y9); (case side2 => exact Y14); (case side3 => exact Kd.C_foot_step HR1_0.out (Y7)); (case side4 => exact HC1_0.out); rintro e w72 ⟨v866, rfl, ho0, hi, hb, hk⟩; refine ⟨_, rfl, ?_⟩; have HO867 := am (Kd.R_lower (Kd.R_new' ho0 (Kd.R_lt (rq HO864.out))) (keep_size (w := w) (g := g) (row := none) (Y7))); replace BK805 := am (KeepBut.blk hk (g' := gb805) (o := .cells #[.slice A1_0 l1_0.length c1_0] 32 (0, 0)) (kq BK805.out) NB805_0.out (by simp)); replace HO864 := am (Kd.R_mono (Kd.R_told (Kd.R_oldK (IsS97.apart (show IsS97 w0 _ g s0_0 t851 from Y9) (rq HO864.out) (by decide)) hk) (Kd.R_base ho0)) (fun _ h_ => h_.1)); replace HK := am (KeepBut.trans (Y7) hk (.inl rfl)); replace HB := am (hb); replace HI0 := am (hi); (try clear hb); (try clear hb2); (try clear hk); (try clear hi); (try clear ho0); obtain ⟨Ao74, co74, eo74⟩ := Kd.R_slice HO867.out; subst eo74) | ((with_reducible refine gate_builtin (b := .append) (xs := #[.tmp 83, .tmp 89]) rfl ?_); at_builtin; refine Kd.R_append_rows k52 w.heap.size rfl (.tmp 83) (.tmp 89) 34 52 (.agg #[(.int .i64 0), (.int .i64 0), (.int .i64 0), (.int .i64 0)]) 32 rfl Try.underlying34 info52 rfl (by decide) (by omega) v863 y862 t865 _ _ _ (fun k_ => some k_ ≠ (.slice Ao74 t865.length co74 : Value).ownBlock) (fun _ => False) rfl rfl ?aO ?aR (fun _ _ h => h) (fun _ h => h.elim) ?aF (Below.refl _ _) ?aS ?aL ?_; (case aR => repeat (first | exact (Kd.R_reads' HO867.out).2.2 | (with_reducible refine Kd.C_alloc ?_ _) | (with_reducible refine Kd.C_drewN ?_ _) | (with_reducible refine Kd.C_drew ?_))); (case aF => exact (fun k_ hk => Kd.fresh' (Kd.R_lt (rq HO867.out)) k_ hk)); (case aO => exact (by (with_reducible repeat (first | apply Kd.R_alloc | apply Kd.R_drewN | apply Kd.R_drew)); exact Kd.R_mono HO864.out (fun _ hk => hk.2))); (case aS => exact (keep_size (w := w) (g := g) (row := none) (Y7))); (case aL => have := LMc67.out; omega); intro v870 w73 ho hb hg hat; rw [← Ny869.out] at ho; have n0_ := am (blk_grown (g := gb805) (o := .cells #[.slice A1_0 l1_0.length c1_0] 32 (0, 0)) (kq BK805.out) hg (Kd.R_ne HO864.out BK805.out (by decide))); have n1_ := am (IsS97.grown (Y9) hg (IsS97.own_ne HI0.out HO864.out (by decide))); have n2_ := am (Kd.R_after (ok := (fun _ => True)) (rq HO867.out) hg hat); have n3_ := am (below_weaken (Y14) HL.out hb); have n4_ := am (KeepBut.trans (Y7) (KeepBut.of_grown hg g) (Kd.R_base2 HO864.out)); have n5_ := am (ho); clear BK805 HI0 HO867 HB HK HO864; have BK805 := n0_; have HI0 := n1_; have HO867 := n2_; have HB := n3_; have HK := n4_; have HO871 := n5_; clear n0_ n1_ n2_ n3_ n4_ n5_ ho hb hg hat))
             go_ret
             exact ⟨_, Y0, by (with_reducible repeat (first | apply Kd.R_alloc | apply Kd.R_drewN | apply Kd.R_drew)); exact Kd.R_mono HO871.out (fun _ hk => trivial), Y9, Y14, Y7⟩
            ·rw [if_neg c67] at H
             exact absurd H (by simp)
           ·rw [if_neg c65] at H
            exact absurd H (by simp)
          ·rw [if_neg c64] at H
           have c64b0 : (t850 == 0) = false := beq_eq_false_iff_ne.mpr c64
           have c64b1 : (t850 != 0) = true := bne_iff_ne.mpr c64
           simp only [Option.some.injEq, Prod.mk.injEq] at H
           obtain ⟨rfl, rfl⟩ := H
           go_wp2_with (first | (go_at_call 71; (with_reducible refine (spec_reader_pick.calls kj41 g s0_0 x1001_41 2 t850 t851 w0 _ ?side1 ?side2 A63.out).mono ?_); (case side1 => exact Y9); (case side2 => exact Y14); rintro e w75 ⟨rfl, hi, hb, hk⟩; replace HO_9 := am (Kd.R_mono (Kd.R_keep (IsS97.apart (show IsS97 w0 _ g s0_0 x1001_41 from Y9) (rq HO_9.out) (by decide)) hk (fun _ h => h.2)) (fun _ h => h.1)); replace BK805 := am (KeepBut.blk hk (g' := gb805) (o := .cells #[.slice A1_0 l1_0.length c1_0] 32 (0, 0)) (kq BK805.out) NB805_0.out (by simp)); replace HK := am (KeepBut.trans (Y7) hk (.inl rfl)); replace HB := am (hb); replace HI0 := am (hi); (try clear hb); (try clear hb2); (try clear hk); (try clear hi)))
           go_ret
           exact ⟨_, Y0, rq HO_9.out, Y9, Y14, Y7⟩
 ·rw [if_neg c6] at H
  exact absurd H (by simp)
set_option maxHeartbeats 8000000 in
set_option maxRecDepth 100000 in
theorem spec_aStatement.calls_all : ∀ k, (∀ (g : Nat) (s0_0 : List Int) (s0_1 : Int) (A1_0 : Option Addr) (c1_0 : Nat) (l1_0 : List (S87)) (a2 : Int) (a3 : Bool) (r1 : List (S52)) (r2 : Int) (w0 w : World) (hI : IsS97 w0 w g s0_0 s0_1) (hB : Below w0.heap.size w0 w) (hr1_0 : ∀ W_, KeepBut w W_ g none → Kd.C k87 W_ A1_0 l1_0.length l1_0) (hc1_0 : l1_0.length ≤ c1_0) (h : spec_aStatement.f k s0_0 s0_1 l1_0 a2 a3 = some (r1, r2)), Calls Try.prog 119 #[.pointer (some ⟨g, 0, none⟩), .agg #[.slice A1_0 l1_0.length c1_0], .int .i64 a2, .bool a3] w fun e w' => ∃ v0_ : Value, e = .returned (v0_) ∧ Kd.R k52 52 w' w.heap.size (fun _ => True) v0_ r1 ∧ IsS97 w0 w' g s0_0 r2 ∧ Below w0.heap.size w0 w' ∧ KeepBut w w' g none) ∧ (∀ (g : Nat) (s0_0 : List Int) (s0_1 : Int) (A1_0 : Option Addr) (c1_0 : Nat) (l1_0 : List (S87)) (a2 : Int) (a3 : Bool) (r1 : List (S52)) (r2 : Int) (w0 w : World) (hI : IsS97 w0 w g s0_0 s0_1) (hB : Below w0.heap.size w0 w) (hr1_0 : ∀ W_, KeepBut w W_ g none → Kd.C k87 W_ A1_0 l1_0.length l1_0) (hc1_0 : l1_0.length ≤ c1_0) (h : spec_aBlock.f k s0_0 s0_1 l1_0 a2 a3 = some (r1, r2)), Calls Try.prog 118 #[.pointer (some ⟨g, 0, none⟩), .agg #[.slice A1_0 l1_0.length c1_0], .int .i64 a2, .bool a3] w fun e w' => ∃ v0_ : Value, e = .returned (v0_) ∧ Kd.R k52 52 w' w.heap.size (fun _ => True) v0_ r1 ∧ IsS97 w0 w' g s0_0 r2 ∧ Below w0.heap.size w0 w' ∧ KeepBut w w' g none) ∧ (∀ (g : Nat) (s0_0 : List Int) (s0_1 : Int) (A1_0 : Option Addr) (c1_0 : Nat) (l1_0 : List (S87)) (a2 : Int) (a3 : Bool) (r1 : List (S52)) (r2 : Int) (w0 w : World) (hI : IsS97 w0 w g s0_0 s0_1) (hB : Below w0.heap.size w0 w) (hr1_0 : ∀ W_, KeepBut w W_ g none → Kd.C k87 W_ A1_0 l1_0.length l1_0) (hc1_0 : l1_0.length ≤ c1_0) (h : spec_aTry.f k s0_0 s0_1 l1_0 a2 a3 = some (r1, r2)), Calls Try.prog 117 #[.pointer (some ⟨g, 0, none⟩), .agg #[.slice A1_0 l1_0.length c1_0], .int .i64 a2, .bool a3] w fun e w' => ∃ v0_ : Value, e = .returned (v0_) ∧ Kd.R k52 52 w' w.heap.size (fun _ => True) v0_ r1 ∧ IsS97 w0 w' g s0_0 r2 ∧ Below w0.heap.size w0 w' ∧ KeepBut w w' g none) := by
 intro k
 induction k using Nat.strongRecOn with
 | _ k ih =>
 exact ⟨spec_aStatement.calls_of k (fun k_ hk_ => (ih k_ hk_).1) (fun k_ hk_ => (ih k_ hk_).2.1) (fun k_ hk_ => (ih k_ hk_).2.2), spec_aBlock.calls_of k (fun k_ hk_ => (ih k_ hk_).1) (fun k_ hk_ => (ih k_ hk_).2.1) (fun k_ hk_ => (ih k_ hk_).2.2), spec_aTry.calls_of k (fun k_ hk_ => (ih k_ hk_).1) (fun k_ hk_ => (ih k_ hk_).2.1) (fun k_ hk_ => (ih k_ hk_).2.2)⟩
theorem spec_aBlock.calls (k : Nat) : ∀ (g : Nat) (s0_0 : List Int) (s0_1 : Int) (A1_0 : Option Addr) (c1_0 : Nat) (l1_0 : List (S87)) (a2 : Int) (a3 : Bool) (r1 : List (S52)) (r2 : Int) (w0 w : World) (hI : IsS97 w0 w g s0_0 s0_1) (hB : Below w0.heap.size w0 w) (hr1_0 : ∀ W_, KeepBut w W_ g none → Kd.C k87 W_ A1_0 l1_0.length l1_0) (hc1_0 : l1_0.length ≤ c1_0) (h : spec_aBlock.f k s0_0 s0_1 l1_0 a2 a3 = some (r1, r2)), Calls Try.prog 118 #[.pointer (some ⟨g, 0, none⟩), .agg #[.slice A1_0 l1_0.length c1_0], .int .i64 a2, .bool a3] w fun e w' => ∃ v0_ : Value, e = .returned (v0_) ∧ Kd.R k52 52 w' w.heap.size (fun _ => True) v0_ r1 ∧ IsS97 w0 w' g s0_0 r2 ∧ Below w0.heap.size w0 w' ∧ KeepBut w w' g none := (spec_aStatement.calls_all k).2.1
theorem spec_aTry.calls (k : Nat) : ∀ (g : Nat) (s0_0 : List Int) (s0_1 : Int) (A1_0 : Option Addr) (c1_0 : Nat) (l1_0 : List (S87)) (a2 : Int) (a3 : Bool) (r1 : List (S52)) (r2 : Int) (w0 w : World) (hI : IsS97 w0 w g s0_0 s0_1) (hB : Below w0.heap.size w0 w) (hr1_0 : ∀ W_, KeepBut w W_ g none → Kd.C k87 W_ A1_0 l1_0.length l1_0) (hc1_0 : l1_0.length ≤ c1_0) (h : spec_aTry.f k s0_0 s0_1 l1_0 a2 a3 = some (r1, r2)), Calls Try.prog 117 #[.pointer (some ⟨g, 0, none⟩), .agg #[.slice A1_0 l1_0.length c1_0], .int .i64 a2, .bool a3] w fun e w' => ∃ v0_ : Value, e = .returned (v0_) ∧ Kd.R k52 52 w' w.heap.size (fun _ => True) v0_ r1 ∧ IsS97 w0 w' g s0_0 r2 ∧ Below w0.heap.size w0 w' ∧ KeepBut w w' g none := (spec_aStatement.calls_all k).2.2
mutual
def spec_goodProgram.l0 : Nat → Int → List Int → Int → List (S87) → Option ((List (S52)) × Int)
 | 0, _, _, _, _ => none
 | k + 1, x5, x1000, x1001, x873000 => if x5 < 4 then ((spec_aTry.f k x1000 x1001 x873000 0 false).bind fun bt876 => ((spec_reader_pick.f k x1000 bt876.2 3).bind fun bt880 => (if bt880.1 = 0 then ((spec_aBlock.f k x1000 bt880.2 x873000 0 false).bind fun bt882 => (if bt876.1.length + bt882.1.length < 4398046511104 then (spec_goodProgram.j1 k x5 (bt876.1 ++ bt882.1) x1000 bt882.2 x873000) else (none))) else (spec_goodProgram.j1 k x5 bt876.1 x1000 bt880.2 x873000)))) else (some ((([(⟨0, 7, 0, 0⟩ : S52), (⟨1, 2, 0, 1⟩ : S52), (⟨0, 10, 0, 0⟩ : S52), (⟨1, 1, 1, 0⟩ : S52)] : List (S52))), x1001))
def spec_goodProgram.j1 : Nat → Int → List (S52) → List Int → Int → List (S87) → Option ((List (S52)) × Int)
 | 0, _, _, _, _, _ => none
 | k + 1, x5, x6, x1000, x1001, x873000 => (spec_reader_pick.f k x1000 x1001 4).bind fun bt889 => (if bt889.1 = 0 then ((spec_aBlock.f k x1000 bt889.2 x873000 0 false).bind fun bt891 => (spec_goodProgram.j2 k x5 bt891.1 x1000 bt891.2 x873000)) else (spec_goodProgram.j2 k x5 x6 x1000 bt889.2 x873000))
def spec_goodProgram.j2 : Nat → Int → List (S52) → List Int → Int → List (S87) → Option ((List (S52)) × Int)
 | 0, _, _, _, _, _ => none
 | k + 1, x5, x6, x1000, x1001, x873000 => if (x6.length : Int) ≤ 24 then (some (x6, x1001)) else (spec_goodProgram.l0 k (wrap64 (x5 + 1)) x1000 x1001 x873000)
end
def spec_goodProgram.f (k : Nat) (s0_0 : List Int) (s0_1 : Int) (l1_0 : List (S87)) : Option ((List (S52)) × Int) := spec_goodProgram.l0 k 0 s0_0 s0_1 l1_0
set_option maxHeartbeats 8000000 in
set_option maxRecDepth 100000 in
theorem spec_goodProgram.calls (k : Nat) (g : Nat) (s0_0 : List Int) (s0_1 : Int) (A1_0 : Option Addr) (c1_0 : Nat) (l1_0 : List (S87)) (r1 : List (S52)) (r2 : Int) (w0 w : World) (hI : IsS97 w0 w g s0_0 s0_1) (hB : Below w0.heap.size w0 w) (hr1_0 : ∀ W_, KeepBut w W_ g none → Kd.C k87 W_ A1_0 l1_0.length l1_0) (hc1_0 : l1_0.length ≤ c1_0) (h : spec_goodProgram.f k s0_0 s0_1 l1_0 = some (r1, r2)) :
  Calls Try.prog 111 #[.pointer (some ⟨g, 0, none⟩), .agg #[.slice A1_0 l1_0.length c1_0]] w fun e w' => ∃ v0_ : Value, e = .returned (v0_) ∧ Kd.R k52 52 w' w.heap.size (fun _ => True) v0_ r1 ∧ IsS97 w0 w' g s0_0 r2 ∧ Below w0.heap.size w0 w' ∧ KeepBut w w' g none := by
 have hu32 := Try.underlying32
 have hu52 := Try.underlying52
 have HR1_0 := am hr1_0
 have HC1_0 := am hc1_0
 clear hr1_0 hc1_0
 have HI0 := am hI
 have HK := am (KeepBut.refl w g none)
 have HL := am hB.size
 clear hI
 have HW0 := am hB.size
 have HB := am hB
 clear hB
 have H : (spec_goodProgram.l0 k 0 s0_0 s0_1 l1_0) = some (r1, r2) := h
 clear h
 have H' := am H
 clear H
 go_enter Try.func111, Try.ntmps111
 go_wp2_with (first | ((with_reducible refine gate_dst (N := 3) rfl ?_); refine bE (N := 3) (cs := #[.slice A1_0 l1_0.length c1_0]) (t := 32) ?_; intro gb872 hg w3 hbox hb; have BK872 := am (hbox); have GW872 := am ((Y13 : w.heap.size ≤ gb872)); have GE872 := am ((Nat.le_trans HW0.out (Y13 : w.heap.size ≤ gb872) : w0.heap.size ≤ gb872)); have NB0_872 := am ((Y29 : g ≠ gb872)); have NB872_0 := am ((Y30 : gb872 ≠ g)); replace HK := am (KeepBut.trans (Y18) (KeepBut.of_below hb g none) (.inl rfl)); replace HB := am (below_step (Y19) hb); replace HI0 := am (IsS97.below (Y17) hb); clear hb hbox hg))
 go_loopg [5] k (fun kq v5 w' => ∃ (x5_1 : Int) (x1001_1 : Int), v5 = .int .i64 x5_1 ∧ Aside0 (spec_goodProgram.l0 kq x5_1 s0_0 x1001_1 l1_0 = some (r1, r2)) ∧ Aside0 (kq ≤ k) ∧ Aside0 (w'.heap[gb872]? = some (.cells #[(.slice A1_0 l1_0.length c1_0)] 32 (0, 0))) ∧ Aside0 (IsS97 w0 w' g s0_0 x1001_1) ∧ Aside0 (KeepBut w w' g none) ∧ Aside0 (Below w0.heap.size w0 w'))
 case atStart => exact ⟨(0), (s0_1), (sq), H', ⟨Nat.le_refl _⟩, ⟨kq BK872.out⟩, ⟨Y25⟩, ⟨Y20⟩, ⟨Y37⟩⟩
 case round =>
  clear H'
  try clear c1
  try clear p2
  obtain ⟨x5_1, x1001_1, rfl, HA, HK1, BK872, HI0, HK, HB⟩ := hrel
  cases gk with
  | zero => exact absurd HA.out (by simp [spec_goodProgram.l0])
  | succ k1 =>
   have H := HA.out
   clear HA
   simp only [spec_goodProgram.l0] at H
   by_cases c4 : x5_1 < 4
   ·rw [if_pos c4] at H
    have c4b0 : decide (x5_1 < 4) = true := decide_eq_true c4
    clear c4
    replace H := Option.bind_eq_some_iff.mp H
    obtain ⟨⟨t876, t879⟩, A50, H⟩ := H
    replace H : ((spec_reader_pick.f k1 s0_0 t879 3).bind fun bt880 => (if bt880.1 = 0 then ((spec_aBlock.f k1 s0_0 bt880.2 l1_0 0 false).bind fun bt882 => (if t876.length + bt882.1.length < 4398046511104 then (spec_goodProgram.j1 k1 x5_1 (t876 ++ bt882.1) s0_0 bt882.2 l1_0) else (none))) else (spec_goodProgram.j1 k1 x5_1 t876 s0_0 bt880.2 l1_0))) = some (r1, r2) := H
    have A5 := am A50
    clear A50
    replace H := Option.bind_eq_some_iff.mp H
    obtain ⟨⟨t880, t881⟩, A60, H⟩ := H
    replace H : (if t880 = 0 then ((spec_aBlock.f k1 s0_0 t881 l1_0 0 false).bind fun bt882 => (if t876.length + bt882.1.length < 4398046511104 then (spec_goodProgram.j1 k1 x5_1 (t876 ++ bt882.1) s0_0 bt882.2 l1_0) else (none))) else (spec_goodProgram.j1 k1 x5_1 t876 s0_0 t881 l1_0)) = some (r1, r2) := H
    have A6 := am A60
    clear A60
    have HC7 := am H
    clear H
    have hnb8 := NB872_0.out
    have hnc8 := NB0_872.out
    have hcz9_0 := bc0 BK872.out
    have hfz9_0 := blk_frozen BK872.out 0
    go_upto_if 16 with (first | ((with_reducible refine gate_callee (f := 117) rfl ?_); refine gL (some 13) Try.func117 #[.pointer (some ⟨g, 0, none⟩), .agg #[.slice A1_0 l1_0.length c1_0], .int .i64 0, .bool false] ?_; (with_reducible refine (spec_aTry.calls k1 g s0_0 x1001_1 _ _ l1_0 0 false t876 t879 w0 _ ?side1 ?side2 ?side3 ?side4 A5.out).mono ?_); (case side1 => exact Y25); (case side2 => exact Y37); (case side3 => exact Kd.C_foot_step HR1_0.out (Y20)); (case side4 => exact HC1_0.out); rintro e w10 ⟨v877, rfl, ho0, hi, hb, hk⟩; refine ⟨_, rfl, ?_⟩; have HO878 := am (Kd.R_lower ho0 (keep_size (w := w) (g := g) (row := none) (Y20))); replace BK872 := am (KeepBut.blk hk (g' := gb872) (o := .cells #[.slice A1_0 l1_0.length c1_0] 32 (0, 0)) (kq BK872.out) NB872_0.out (by simp)); replace HK := am (KeepBut.trans (Y20) hk (.inl rfl)); replace HB := am (hb); replace HI0 := am (hi); (try clear hb); (try clear hb2); (try clear hk); (try clear hi); (try clear ho0)) | ((with_reducible refine gate_callee (f := 71) rfl ?_); refine gL (some 15) Try.func71 #[.pointer (some ⟨g, 0, none⟩), .int .i64 3] ?_; (with_reducible refine (spec_reader_pick.calls k1 g s0_0 t879 3 t880 t881 w0 _ ?side1 ?side2 A6.out).mono ?_); (case side1 => exact Y25); (case side2 => exact Y37); rintro e w11 ⟨rfl, hi, hb, hk⟩; refine ⟨_, rfl, ?_⟩; replace BK872 := am (KeepBut.blk hk (g' := gb872) (o := .cells #[.slice A1_0 l1_0.length c1_0] 32 (0, 0)) (kq BK872.out) NB872_0.out (by simp)); replace HO878 := am (Kd.R_mono (Kd.R_keep (IsS97.apart (show IsS97 w0 _ g s0_0 t879 from Y25) (rq HO878.out) (by decide)) hk (fun _ h => h.2)) (fun _ h => h.1)); replace HK := am (KeepBut.trans (Y20) hk (.inl rfl)); replace HB := am (hb); replace HI0 := am (hi); (try clear hb); (try clear hb2); (try clear hk); (try clear hi)))
    (try simp only [Act.put, List.setIfInBounds_toArray, List.set_cons_zero, List.set_cons_succ])
    go_cut [6] (fun v6 wc => ∃ (kq : Nat) (x6_6 : List (S52)) (x1001_6 : Int), Aside0 (spec_goodProgram.j1 kq x5_1 x6_6 s0_0 x1001_6 l1_0 = some (r1, r2)) ∧ Aside0 (kq ≤ k1) ∧ Aside0 (Kd.R k52 52 wc w.heap.size (fun _ => True) v6 x6_6) ∧ Aside0 (wc.heap[gb872]? = some (.cells #[(.slice A1_0 l1_0.length c1_0)] 32 (0, 0))) ∧ Aside0 (IsS97 w0 wc g s0_0 x1001_6) ∧ Aside0 (KeepBut w wc g none) ∧ Aside0 (Below w0.heap.size w0 wc))
    case first =>
     have H := HC7.out
     clear HC7
     by_cases c12 : t880 = 0
     ·rw [if_pos c12] at H
      have c12b0 : (t880 == 0) = true := beq_iff_eq.mpr c12
      have c12b1 : (t880 != 0) = false := bne_eq_false_iff_eq.mpr c12
      clear c12
      (first | rw [c12b0] | (simp only [i64_w, i32_w]; rw [c12b0]) | skip)
      replace H := Option.bind_eq_some_iff.mp H
      obtain ⟨⟨t882, t885⟩, A130, H⟩ := H
      replace H : (if t876.length + t882.length < 4398046511104 then (spec_goodProgram.j1 k1 x5_1 (t876 ++ t882) s0_0 t885 l1_0) else (none)) = some (r1, r2) := H
      have A13 := am A130
      clear A130
      by_cases c14 : t876.length + t882.length < 4398046511104
      ·rw [if_pos c14] at H
       have LMc14 := am c14
       clear c14
       obtain ⟨y886, hy886⟩ : ∃ y_ : List (S52), y_ = (t876 ++ t882) := ⟨_, rfl⟩
       replace H : (spec_goodProgram.j1 k1 x5_1 y886 s0_0 t885 l1_0) = some (r1, r2) := by first | (rw [hy886]; with_reducible exact H) | (have H2_ := (Option.bind_some _ _).symm.trans H; rw [hy886]; with_reducible exact H2_) | (have H2_ := (Option.bind_some _ _).symm.trans H; with_reducible exact H2_) | with_reducible exact H | (rw [hy886]; exact H) | exact H
       have Ny886 := am hy886
       clear hy886
       have H' := am H
       clear H
       have hnb15 := NB872_0.out
       have hnc15 := NB0_872.out
       have hcz16_0 := bc0 BK872.out
       have hfz16_0 := blk_frozen BK872.out 0
       go_wp2_with (first | ((with_reducible refine gate_callee (f := 118) rfl ?_); refine gL (some 20) Try.func118 #[.pointer (some ⟨g, 0, none⟩), .agg #[.slice A1_0 l1_0.length c1_0], .int .i64 0, .bool false] ?_; (with_reducible refine (spec_aBlock.calls k1 g s0_0 t881 _ _ l1_0 0 false t882 t885 w0 _ ?side1 ?side2 ?side3 ?side4 A13.out).mono ?_); (case side1 => exact Y25); (case side2 => exact Y37); (case side3 => exact Kd.C_foot_step HR1_0.out (Y20)); (case side4 => exact HC1_0.out); rintro e w17 ⟨v883, rfl, ho0, hi, hb, hk⟩; refine ⟨_, rfl, ?_⟩; have HO884 := am (Kd.R_lower (Kd.R_new' ho0 (Kd.R_lt (rq HO878.out))) (keep_size (w := w) (g := g) (row := none) (Y20))); replace BK872 := am (KeepBut.blk hk (g' := gb872) (o := .cells #[.slice A1_0 l1_0.length c1_0] 32 (0, 0)) (kq BK872.out) NB872_0.out (by simp)); replace HO878 := am (Kd.R_mono (Kd.R_told (Kd.R_oldK (IsS97.apart (show IsS97 w0 _ g s0_0 t881 from Y25) (rq HO878.out) (by decide)) hk) (Kd.R_base ho0)) (fun _ h_ => h_.1)); replace HK := am (KeepBut.trans (Y20) hk (.inl rfl)); replace HB := am (hb); replace HI0 := am (hi); (try clear hb); (try clear hb2); (try clear hk); (try clear hi); (try clear ho0); obtain ⟨Ao19, co19, eo19⟩ := Kd.R_slice HO884.out; subst eo19) | ((with_reducible refine gate_builtin (b := .append) (xs := #[.tmp 17, .tmp 20]) rfl ?_); at_builtin; refine Kd.R_append_rows k52 w.heap.size rfl (.tmp 17) (.tmp 20) 34 52 (.agg #[(.int .i64 0), (.int .i64 0), (.int .i64 0), (.int .i64 0)]) 32 rfl Try.underlying34 info52 rfl (by decide) (by omega) v877 t876 t882 _ _ _ (fun k_ => some k_ ≠ (.slice Ao19 t882.length co19 : Value).ownBlock) (fun _ => False) rfl rfl ?aO ?aR (fun _ _ h => h) (fun _ h => h.elim) ?aF (Below.refl _ _) ?aS ?aL ?_; (case aR => repeat (first | exact (Kd.R_reads' HO884.out).2.2 | (with_reducible refine Kd.C_alloc ?_ _) | (with_reducible refine Kd.C_drewN ?_ _) | (with_reducible refine Kd.C_drew ?_))); (case aF => exact (fun k_ hk => Kd.fresh' (Kd.R_lt (rq HO884.out)) k_ hk)); (case aO => exact (by (with_reducible repeat (first | apply Kd.R_alloc | apply Kd.R_drewN | apply Kd.R_drew)); exact Kd.R_mono HO878.out (fun _ hk => hk.2))); (case aS => exact (keep_size (w := w) (g := g) (row := none) (Y20))); (case aL => have := LMc14.out; omega); intro v887 w18 ho hb hg hat; rw [← Ny886.out] at ho; have n0_ := am (blk_grown (g := gb872) (o := .cells #[.slice A1_0 l1_0.length c1_0] 32 (0, 0)) (kq BK872.out) hg (Kd.R_ne HO878.out BK872.out (by decide))); have n1_ := am (IsS97.grown (Y25) hg (IsS97.own_ne HI0.out HO878.out (by decide))); have n2_ := am (Kd.R_after (ok := (fun _ => True)) (rq HO884.out) hg hat); have n3_ := am (below_weaken (Y37) HL.out hb); have n4_ := am (KeepBut.trans (Y20) (KeepBut.of_grown hg g) (Kd.R_base2 HO878.out)); have n5_ := am (ho); clear BK872 HI0 HO884 HB HK HO878; have BK872 := n0_; have HI0 := n1_; have HO884 := n2_; have HB := n3_; have HK := n4_; have HO888 := n5_; clear n0_ n1_ n2_ n3_ n4_ n5_ ho hb hg hat))
       go_meet
       case rel => exact ⟨_, (y886), (t885), H', ⟨by have := HK1.out; first | omega | exact Nat.le_refl _⟩, ⟨by (with_reducible repeat (first | apply Kd.R_alloc | apply Kd.R_drewN | apply Kd.R_drew)); exact Kd.R_mono HO888.out (fun _ hk => trivial)⟩, ⟨kq BK872.out⟩, ⟨Y25⟩, ⟨Y20⟩, ⟨Y37⟩⟩
      ·rw [if_neg c14] at H
       exact absurd H (by simp)
     ·rw [if_neg c12] at H
      have c12b0 : (t880 == 0) = false := beq_eq_false_iff_ne.mpr c12
      have c12b1 : (t880 != 0) = true := bne_iff_ne.mpr c12
      (first | rw [c12b0] | (simp only [i64_w, i32_w]; rw [c12b0]) | skip)
      have H' := am H
      clear H
      go_wp2
      go_meet
      case rel => exact ⟨_, (t876), (t881), H', ⟨by have := HK1.out; first | omega | exact Nat.le_refl _⟩, ⟨rq HO878.out⟩, ⟨kq BK872.out⟩, ⟨Y25⟩, ⟨Y20⟩, ⟨Y37⟩⟩
    case rest =>
     clear HC7
     try clear c1
     try clear p2
     try clear c4
     try clear c4b0
     try clear c7
     try clear c8
     try clear c11
     try clear c12
     try clear c12b0
     try clear c12b1
     try clear c14
     try clear c15
     try clear hcz16_0
     try clear hcz9_0
     try clear hfz16_0
     try clear hfz9_0
     try clear p2
     obtain ⟨kq, x6_6, x1001_6, HA, HJ6, HO_6, BK872, HI0, HK, HB⟩ := hcut
     cases kq with
     | zero => exact absurd HA.out (by simp [spec_goodProgram.j1])
     | succ kj6 =>
      have H := HA.out
      clear HA
      simp only [spec_goodProgram.j1] at H
      replace H := Option.bind_eq_some_iff.mp H
      obtain ⟨⟨t889, t890⟩, A200, H⟩ := H
      replace H : (if t889 = 0 then ((spec_aBlock.f kj6 s0_0 t890 l1_0 0 false).bind fun bt891 => (spec_goodProgram.j2 kj6 x5_1 bt891.1 s0_0 bt891.2 l1_0)) else (spec_goodProgram.j2 kj6 x5_1 x6_6 s0_0 t890 l1_0)) = some (r1, r2) := H
      have A20 := am A200
      clear A200
      have HC21 := am H
      clear H
      go_upto_if 24 with (first | ((with_reducible refine gate_callee (f := 71) rfl ?_); refine gL (some 23) Try.func71 #[.pointer (some ⟨g, 0, none⟩), .int .i64 4] ?_; (with_reducible refine (spec_reader_pick.calls kj6 g s0_0 x1001_6 4 t889 t890 w0 _ ?side1 ?side2 A20.out).mono ?_); (case side1 => exact Y25); (case side2 => exact Y37); rintro e w22 ⟨rfl, hi, hb, hk⟩; refine ⟨_, rfl, ?_⟩; replace HO_6 := am (Kd.R_mono (Kd.R_keep (IsS97.apart (show IsS97 w0 _ g s0_0 x1001_6 from Y25) (rq HO_6.out) (by decide)) hk (fun _ h => h.2)) (fun _ h => h.1)); replace BK872 := am (KeepBut.blk hk (g' := gb872) (o := .cells #[.slice A1_0 l1_0.length c1_0] 32 (0, 0)) (kq BK872.out) NB872_0.out (by simp)); replace HK := am (KeepBut.trans (Y20) hk (.inl rfl)); replace HB := am (hb); replace HI0 := am (hi); (try clear hb); (try clear hb2); (try clear hk); (try clear hi)))
      (try simp only [Act.put, List.setIfInBounds_toArray, List.set_cons_zero, List.set_cons_succ])
      go_cut [6] (fun v6 wc => ∃ (kq : Nat) (x6_20 : List (S52)) (x1001_20 : Int), Aside0 (spec_goodProgram.j2 kq x5_1 x6_20 s0_0 x1001_20 l1_0 = some (r1, r2)) ∧ Aside0 (kq ≤ kj6) ∧ Aside0 (Kd.R k52 52 wc w.heap.size (fun _ => True) v6 x6_20) ∧ Aside0 (wc.heap[gb872]? = some (.cells #[(.slice A1_0 l1_0.length c1_0)] 32 (0, 0))) ∧ Aside0 (IsS97 w0 wc g s0_0 x1001_20) ∧ Aside0 (KeepBut w wc g none) ∧ Aside0 (Below w0.heap.size w0 wc))
      case first =>
       have H := HC21.out
       clear HC21
       by_cases c23 : t889 = 0
       ·rw [if_pos c23] at H
        have c23b0 : (t889 == 0) = true := beq_iff_eq.mpr c23
        have c23b1 : (t889 != 0) = false := bne_eq_false_iff_eq.mpr c23
        clear c23
        (first | rw [c23b0] | (simp only [i64_w, i32_w]; rw [c23b0]) | skip)
        replace H := Option.bind_eq_some_iff.mp H
        obtain ⟨⟨t891, t894⟩, A240, H⟩ := H
        replace H : (spec_goodProgram.j2 kj6 x5_1 t891 s0_0 t894 l1_0) = some (r1, r2) := H
        have A24 := am A240
        clear A240
        have H' := am H
        clear H
        have hnb25 := NB872_0.out
        have hnc25 := NB0_872.out
        have hcz26_0 := bc0 BK872.out
        have hfz26_0 := blk_frozen BK872.out 0
        go_wp2_with (first | ((with_reducible refine gate_callee (f := 118) rfl ?_); refine gL (some 27) Try.func118 #[.pointer (some ⟨g, 0, none⟩), .agg #[.slice A1_0 l1_0.length c1_0], .int .i64 0, .bool false] ?_; (with_reducible refine (spec_aBlock.calls kj6 g s0_0 t890 _ _ l1_0 0 false t891 t894 w0 _ ?side1 ?side2 ?side3 ?side4 A24.out).mono ?_); (case side1 => exact Y25); (case side2 => exact Y37); (case side3 => exact Kd.C_foot_step HR1_0.out (Y20)); (case side4 => exact HC1_0.out); rintro e w27 ⟨v892, rfl, ho0, hi, hb, hk⟩; refine ⟨_, rfl, ?_⟩; have HO893 := am (Kd.R_lower (Kd.R_new' ho0 (Kd.R_lt (rq HO_6.out))) (keep_size (w := w) (g := g) (row := none) (Y20))); replace HO_6 := am (Kd.R_mono (Kd.R_told (Kd.R_oldK (IsS97.apart (show IsS97 w0 _ g s0_0 t890 from Y25) (rq HO_6.out) (by decide)) hk) (Kd.R_base ho0)) (fun _ h_ => h_.1)); replace BK872 := am (KeepBut.blk hk (g' := gb872) (o := .cells #[.slice A1_0 l1_0.length c1_0] 32 (0, 0)) (kq BK872.out) NB872_0.out (by simp)); replace HK := am (KeepBut.trans (Y20) hk (.inl rfl)); replace HB := am (hb); replace HI0 := am (hi); (try clear hb); (try clear hb2); (try clear hk); (try clear hi); (try clear ho0)))
        go_meet
        case rel => exact ⟨_, (t891), (t894), H', ⟨by have := HK1.out; have := HJ6.out; first | omega | exact Nat.le_refl _⟩, ⟨by (with_reducible repeat (first | apply Kd.R_alloc | apply Kd.R_drewN | apply Kd.R_drew)); exact Kd.R_mono HO893.out (fun _ hk => trivial)⟩, ⟨kq BK872.out⟩, ⟨Y25⟩, ⟨Y20⟩, ⟨Y37⟩⟩
       ·rw [if_neg c23] at H
        have c23b0 : (t889 == 0) = false := beq_eq_false_iff_ne.mpr c23
        have c23b1 : (t889 != 0) = true := bne_iff_ne.mpr c23
        (first | rw [c23b0] | (simp only [i64_w, i32_w]; rw [c23b0]) | skip)
        have H' := am H
        clear H
        go_wp2
        go_meet
        case rel => exact ⟨_, (x6_6), (t890), H', ⟨by have := HK1.out; have := HJ6.out; first | omega | exact Nat.le_refl _⟩, ⟨rq HO_6.out⟩, ⟨kq BK872.out⟩, ⟨Y25⟩, ⟨Y20⟩, ⟨Y37⟩⟩
      case rest =>
       clear HC21
       try clear c1
       try clear c2
       try clear p2
       try clear c4
       try clear c4b0
       try clear c7
       try clear c8
       try clear c11
       try clear c12
       try clear c12b0
       try clear c12b1
       try clear c14
       try clear c15
       try clear c23
       try clear c23b0
       try clear c23b1
       try clear c25
       try clear hcz16_0
       try clear hcz26_0
       try clear hcz9_0
       try clear hfz16_0
       try clear hfz26_0
       try clear hfz9_0
       try clear p2
       obtain ⟨kq, x6_20, x1001_20, HA, HJ20, HO_6, BK872, HI0, HK, HB⟩ := hcut
       cases kq with
       | zero => exact absurd HA.out (by simp [spec_goodProgram.j2])
       | succ kj20 =>
        have H := HA.out
        clear HA
        simp only [spec_goodProgram.j2] at H
        by_cases c28 : (x6_20.length : Int) ≤ 24
        ·rw [if_pos c28] at H
         have c28b0 : decide ((x6_20.length : Int) ≤ 24) = true := decide_eq_true c28
         have c28b1 : decide (x6_20.length ≤ 24) = true := decide_eq_true (by omega)
         clear c28
         simp only [Option.some.injEq, Prod.mk.injEq] at H
         obtain ⟨rfl, rfl⟩ := H
         obtain ⟨Ao29, co29, eo29⟩ := Kd.R_slice HO_6.out
         subst eo29
         go_wp2
         go_ret
         exact ⟨_, Y0, rq HO_6.out, Y25, Y37, Y20⟩
        ·rw [if_neg c28] at H
         have c28b0 : decide ((x6_20.length : Int) ≤ 24) = false := decide_eq_false c28
         have c28b1 : decide (x6_20.length ≤ 24) = false := decide_eq_false (by omega)
         clear c28
         have H' := am H
         clear H
         obtain ⟨Ao30, co30, eo30⟩ := Kd.R_slice HO_6.out
         subst eo30
         go_wp2
         go_roundg kj20
         case measure => have := HK1.out; have := HJ6.out; have := HJ20.out; omega
         case rel => exact ⟨(wrap64 (x5_1 + 1)), (x1001_20), (sq), H', ⟨by have := HK1.out; have := HJ6.out; have := HJ20.out; omega⟩, ⟨kq BK872.out⟩, ⟨Y25⟩, ⟨Y20⟩, ⟨Y37⟩⟩
   ·rw [if_neg c4] at H
    have c4b0 : decide (x5_1 < 4) = false := decide_eq_false c4
    clear c4
    obtain ⟨y873, hy873⟩ : ∃ y_ : List (S52), y_ = (([(⟨0, 7, 0, 0⟩ : S52), (⟨1, 2, 0, 1⟩ : S52), (⟨0, 10, 0, 0⟩ : S52), (⟨1, 1, 1, 0⟩ : S52)] : List (S52))) := ⟨_, rfl⟩
    replace H : (some (y873, x1001_1)) = some (r1, r2) := by first | (rw [hy873]; with_reducible exact H) | (have H2_ := (Option.bind_some _ _).symm.trans H; rw [hy873]; with_reducible exact H2_) | (have H2_ := (Option.bind_some _ _).symm.trans H; with_reducible exact H2_) | with_reducible exact H | (rw [hy873]; exact H) | exact H
    have Ny873 := am hy873
    clear hy873
    simp only [Option.some.injEq, Prod.mk.injEq] at H
    obtain ⟨rfl, rfl⟩ := H
    go_wp2_with (first | ((with_reducible refine gate_dst (N := 36) rfl ?_); refine Kd.R_lit k52 _ 52 ?hg (N := 36) ?hd (xs := ([(⟨0, 7, 0, 0⟩ : S52), (⟨1, 2, 0, 1⟩ : S52), (⟨0, 10, 0, 0⟩ : S52), (⟨1, 1, 1, 0⟩ : S52)] : List (S52))) (inner := [.int .i64 0, .int .i64 7, .int .i64 0, .int .i64 0, .int .i64 1, .int .i64 2, .int .i64 0, .int .i64 1, .int .i64 0, .int .i64 10, .int .i64 0, .int .i64 0, .int .i64 1, .int .i64 1, .int .i64 1, .int .i64 0]) (ok := fun _ => True) (okp := fun _ => True) ?hr ?hp (fun _ hk => hk) trivial (Below.refl _ _) (Nat.le_refl _) (by simp) ?_; (case hd => rfl); (case hg => rfl); (case hr => exact Y5); (case hp => exact (Reps.c4 (show Kd.M k52 _ _ _ (⟨0, 7, 0, 0⟩ : S52) [.int .i64 0, .int .i64 7, .int .i64 0, .int .i64 0] from (k52_mkM _ _ _ (⟨0, 7, 0, 0⟩ : S52) )) (Reps.c4 (show Kd.M k52 _ _ _ (⟨1, 2, 0, 1⟩ : S52) [.int .i64 1, .int .i64 2, .int .i64 0, .int .i64 1] from (k52_mkM _ _ _ (⟨1, 2, 0, 1⟩ : S52) )) (Reps.c4 (show Kd.M k52 _ _ _ (⟨0, 10, 0, 0⟩ : S52) [.int .i64 0, .int .i64 10, .int .i64 0, .int .i64 0] from (k52_mkM _ _ _ (⟨0, 10, 0, 0⟩ : S52) )) (Reps.c4 (show Kd.M k52 _ _ _ (⟨1, 1, 1, 0⟩ : S52) [.int .i64 1, .int .i64 1, .int .i64 1, .int .i64 0] from (k52_mkM _ _ _ (⟨1, 1, 1, 0⟩ : S52) )) (Reps.none _ _)))))); intro v874 w31 ho32 hb hg_ hnew_; clear hg_ hnew_; (first | rw [← Ny873.out] at ho32 | (simp only [Int.reduceToNat] at ho32; rw [← Ny873.out] at ho32)); have HO875 := am (Kd.R_lower ho32 (keep_size (w := w) (g := g) (row := none) (Y20))); replace BK872 := am (blk_below (g := gb872) (o := .cells #[.slice A1_0 l1_0.length c1_0] 32 (0, 0)) (kq BK872.out) hb); replace HK := am (KeepBut.trans (Y20) (KeepBut.of_below hb g none) (.inl rfl)); replace HB := am (below_step (Y37) hb); replace HI0 := am (IsS97.below (Y25) hb); clear hb ho32))
    go_ret
    exact ⟨_, Y0, rq HO875.out, Y25, Y37, Y20⟩
end Go.Proofs.Ytkokajljeebgdaa.P
end
